/- What a node makes of records: a table beside the row that grows. -/
import Derived.Test.YtopeleenlcnkkaaGreatDoorX14
set_option linter.unusedVariables false
set_option linter.unusedSimpArgs false
set_option maxHeartbeats 2000000
set_option maxRecDepth 100000
namespace Go.Proofs.YtopeleenlcnkkaaGreatDoor
section
open Go Go.RowKit
def Sep (Gs:Nat->Prop)(w:World)(Bo base tb tm:Nat)(X:Nat->Prop)(out:List Rec)(T:Tab):Prop:=
 ∃A M:Nat->Prop,iI w Bo base (fun k=>base<=k/\A k) out/\TabAt w M tb tm T/\(∀k,A k->M k->False)/\ ¬M Bo/\(∀k,X k-> ¬A k/\ ¬M k/\k≠Bo)/\ ∀k,M k->Gs k\/Bo<k
section
variable {Gs:Nat->Prop} {w w':World} {Bo base tb tm:Nat} {X:Nat->Prop} {out:List Rec} {T:Tab}
theorem Sep.pure (h:Sep Gs w Bo base tb tm X out T)(hk:Kept none' w w'):Sep Gs w' Bo base tb tm X out T:=by
 obtain⟨A,M,h1,h2,h3,h4,h5,h6⟩:=h
 exact⟨A,M,h1.pure hk,h2.pure hk,h3,h4,h5,h6⟩
theorem Sep.ok (h:Sep Gs w Bo base tb tm X out T):dR T:=by obtain⟨A,M,h1,h2,h3,h4,h5,h6⟩:=h;exact h2.ok
theorem Sep.row (h:Sep Gs w Bo base tb tm X out T):iI w Bo base (fun k=>base<=k) out:=by obtain⟨A,M,h1,h2,h3,h4,h5,h6⟩:=h;exact h1.mono (fun k h _=>h.1)
theorem iI.lt {A:Nat->Prop}(h:iI w Bo base A out):Bo<w.heap.size:=by obtain⟨v,a,_⟩:=h;exact(Array.getElem?_eq_some_iff.1 a).1
theorem Sep.enter (h:Sep Gs w Bo base tb tm X out T)(hk:Kept none' w w'){Y:Nat->Prop}(hY: ∀k,Y k->w.heap.size<=k):Sep Gs w' Bo base tb tm Y out T:=by
 obtain⟨A,M,h1,h2,h3,h4,h5,h6⟩:=h
 have hlt:=h1.lt
 exact⟨fun k=>A k/\k<w.heap.size,fun k=>M k/\k<w.heap.size,(h1.mono (fun k h hl=>⟨h.1,h.2,hl⟩)).pure hk,(h2.mono (fun k h hl=>⟨h,hl⟩)).pure hk,fun k a b=>h3 k a.1 b.1,fun h=>h4 h.1,
  fun k hk=>⟨fun h=>by have:=hY k hk;omega,fun h=>by have:=hY k hk;omega,by have:=hY k hk;omega⟩,fun k h=>h6 k h.1⟩
theorem Sep.leave (h:Sep Gs w Bo base tb tm X out T):Sep Gs w Bo base tb tm none' out T:=by
 obtain⟨A,M,h1,h2,h3,h4,h5,h6⟩:=h
 exact⟨A,M,h1,h2,h3,h4,fun _ h=>h.elim,h6⟩
theorem Sep.foreign (h:Sep Gs w Bo base tb tm X out T){S:Nat->Prop}(hk:Kept S w w')(hS: ∀k,S k->X k):Sep Gs w' Bo base tb tm X out T:=by
 obtain⟨A,M,h1,h2,h3,h4,h5,h6⟩:=h
 exact⟨A,M,h1.kept hk (fun h=>(h5 _ (hS _ h)).2.2 rfl) (fun k h hs=>(h5 _ (hS _ hs)).1 h.2),h2.kept hk (fun k hs hM=>((h5 _ (hS _ hs)).2.1 hM).elim) (fun hs=>(h5 _ (hS _ hs)).2.1 h2.hm),h3,h4,h5,h6⟩
def adk (Gs:Nat->Prop)(w:World)(Bo base tb tm:Nat)(X:Nat->Prop)(out:List Rec)(T:Tab)(v:Value)(e:Ending)(w':World):Prop:=e= .returned v/\Sep Gs w' Bo base tb tm X out T/\Kept (one tm) w w'
theorem Sep.get (h:Sep Gs w Bo base tb tm X out T)(k:Int):Calls Tryz.prog 74 #[.pointer (some ⟨tb,0,none⟩), .int .i64 k] w (FM w T k):=by
 obtain⟨A,M,h1,h2,h3,h4⟩:=h
 exact get_any M tb tm T k w h2
theorem Sep.put (h:Sep Gs w Bo base tb tm X out T)(hX: ∀k,X k->k<w.heap.size)(k:Int)(c:Cell)(v:Value)(hk:aI k)(hc1:aI c.1)(hc2: ∀x∈c.2,aI x)(hlen:c.2.length<=17592186044416)(hr:Reads w 1 v (ints c.2)):
 Calls Tryz.prog 86 #[.pointer (some ⟨tb,0,none⟩), .int .i64 k, .agg #[.int .i64 c.1,v]] w (adk Gs w Bo base tb tm X out (iM T k c) (.int .i64 (iw T k c.2.length))):=by
 obtain⟨A,M,h1,h2,h3,h4,h5,h6⟩:=h
 have hm:=h2.hm
 have hlt:=h1.lt
 refine(put_any (fun j=>M j\/w.heap.size<=j) tb tm T k c v w (h2.mono (fun j h _=> .inl h)) (fun j h=> .inr h) hk hc1 hc2 hlen hr).mono ?_
 rintro e w' ⟨rfl,t,k1⟩
 refine⟨rfl,⟨fun j=>A j/\j<w.heap.size,_,?_,t,?_,?_,?_,?_⟩,k1⟩
 ·refine(h1.mono (A':=fun k=>base<=k/\A k/\k<w.heap.size) (fun k h hl=>⟨h.1,h.2,hl⟩)).kept k1 (fun e=>h4 (by unfold one at e;rw[e];exact hm)) (fun k h e=>h3 k h.2.1 (by unfold one at e;rw[e];exact hm))
 ·rintro j ⟨a,b⟩ (c|c)
  ·exact h3 j a c
  ·omega
 ·rintro(c|c)
  ·exact h4 c
  ·omega
 ·intro j hj
  refine⟨fun a=>(h5 j hj).1 a.1,?_,(h5 j hj).2.2⟩
  rintro(a|a)
  ·exact(h5 j hj).2.1 a
  ·have:=hX j hj;omega
 ·rintro j (c|c)
  ·exact h6 j c
  ·right;omega
theorem Sep.drop (h:Sep Gs w Bo base tb tm X out T)(k:Int):Calls Tryz.prog 88 #[.pointer (some ⟨tb,0,none⟩), .int .i64 k] w (adk Gs w Bo base tb tm X out (lF k T) (.bool (fO T k).isSome)):=by
 obtain⟨A,M,h1,h2,h3,h4,h5,h6⟩:=h
 have hm:=h2.hm
 refine(YZ M tb tm T k w h2).mono ?_
 rintro e w' ⟨rfl,t,k1⟩
 exact⟨rfl,⟨A,M,h1.kept k1 (fun e=>h4 (by unfold one at e;rw[e];exact hm)) (fun k h e=>h3 k h.2 (by unfold one at e;rw[e];exact hm)),t,h3,h4,h5,h6⟩,k1⟩
def Zf (Gs:Nat->Prop)(w:World)(Bo base tb tm:Nat)(out:List Rec)(T:Tab)(e:Ending)(w':World):Prop:=
 e= .returned (.tuple #[])/\Sep Gs w' Bo base tb tm none' out T/\Kept (fun k=>k=Bo\/base<=k) w w'
theorem Sep.goes (h:Sep Gs w Bo base tb tm X out T)(r:Rec)(hb:base<=w.heap.size)(hlen:out.length<=1073741824):
 Calls Tryz.prog 78 #[qo r, .pointer (some ⟨Bo,0,none⟩)] w (Zf Gs w Bo base tb tm (out++[r]) T):=by
 obtain⟨A,M,h1,h2,h3,h4,_,h6⟩:=h
 have hlt:=h1.lt
 refine(uS r out Bo base (fun k=>base<=k/\(A k\/w.heap.size<=k)) w (h1.mono (fun k h _=>⟨h.1, .inl h.2⟩)) hb (fun k hk=>⟨Nat.le_trans hb hk, .inr hk⟩) hlen).mono ?_
 rintro e w' ⟨rfl,o,k1⟩
 have t:TabAt w (fun j=>M j/\j<w.heap.size) tb tm T:=h2.mono (fun j h hl=>⟨h,hl⟩)
 have dis: ∀k,(k=Bo\/base<=k/\(A k\/w.heap.size<=k))->M k/\k<w.heap.size->False:=by
  rintro k (rfl|⟨_,a|a⟩) ⟨b,c⟩
  ·exact h4 b
  ·exact h3 k a b
  ·omega
 refine⟨rfl,⟨_,_,o,t.kept k1 (fun k hS hM _ _ _ _=>(dis k hS hM).elim) (fun hS=>dis _ hS t.hm),?_,fun h=>h4 h.1,fun _ h=>h.elim,fun k h=>h6 k h.1⟩,k1.mono (fun k _ h=>by rcases h with h|h;exact .inl h;exact .inr h.1)⟩
 rintro k (a|a) ⟨b,c⟩
 ·exact h3 k a b
 ·omega
theorem Sep.jK (h:Sep Gs w Bo base tb tm X out T): ∀c E f,w.heap[tm]?≠some (.cells c E f):=by
 obtain⟨A,M,h1,h2,h3,h4⟩:=h
 obtain⟨l,hl,_⟩:=h2.map
 obtain⟨L,cl,hL,_⟩:=hl
 intro c E f e
 rw[hL.heap]at e;cases e
end
structure rE (Gs:Nat->Prop)(w0 w:World)(Bn Bi Bo Bg Bp base tb tm:Nat)(na:Array Value)(nd:dA)(v:Value)(L out:List Rec)(T:Tab):Prop where
 st:gU (one tm) w0 w Bn Bi Bo Bg base na nd v L out
 ptr:w.heap[Bp]?=some (.cells #[.pointer (some ⟨tb,0,none⟩)] 61 (0,0))
 lop:w0.heap.size<=Bp/\Bp<base/\Bp≠Bo/\tm<w0.heap.size
 sep:Sep Gs w Bo base tb tm none' out T
def Bv (Gs:Nat->Prop)(w0:World)(Bn Bi Bo Bg Bp base tb tm:Nat)(na:Array Value)(nd:dA)(v:Value)(L out:List Rec)(T:Tab)(e:Ending)(w':World):Prop:=
 e= .returned (.tuple #[])/\rE Gs w0 w' Bn Bi Bo Bg Bp base tb tm na nd v L out T
theorem rE.next {Gs:Nat->Prop}{w0 w w':World}{Bn Bi Bo Bg Bp base tb tm:Nat}{na:Array Value}{nd:dA}{v:Value}{L out out':List Rec}{T T':Tab}(h:rE Gs w0 w Bn Bi Bo Bg Bp base tb tm na nd v L out T)
 {S':Nat->Prop} (hk:Kept S' w w') (hS: ∀k,S' k->k=Bo\/base<=k\/k=tm) (hs:Sep Gs w' Bo base tb tm none' out' T'):rE Gs w0 w' Bn Bi Bo Bg Bp base tb tm na nd v L out' T':=by
 obtain⟨l1,l2,l3,l4⟩:=h.lop
 refine⟨h.st.next hk (fun k hk=>by rcases hS k hk with e|e|e;exact .inl e;exact .inr (.inl e);exact .inr (.inr e)) hs.row,hk.heap h.ptr (fun hk=>?_),h.lop,hs⟩
 rcases hS _ hk with e|e|e<;>omega
theorem rE.alloc {Gs:Nat->Prop}{w0 w:World}{Bn Bi Bo Bg Bp base tb tm:Nat}{na:Array Value}{nd:dA}{v:Value}{L out:List Rec}{T:Tab}(h:rE Gs w0 w Bn Bi Bo Bg Bp base tb tm na nd v L out T)(o:Obj):
 rE Gs w0 (w.alloc o) Bn Bi Bo Bg Bp base tb tm na nd v L out T:=
 h.next ((Kept.refl none' w).alloc o) (fun _ h=>h.elim) (h.sep.pure ((Kept.refl none' w).alloc o))
theorem GX {T:Tab}(h:dR T)(k:Int):ER (cellOf T k):=by
 unfold cellOf
 cases hg:fO T k with
 |none=>exact⟨dY,by simp,by simp⟩
 |some c=>exact h.cell _ ((nO h.rises).1 hg)
end
section
open Go Go.RowKit
attribute [local irreducible] bU
def CW (T:Tab)(r:Rec)(x:Int):List Rec:=if iw T r.key 0=0 then[{r with val:=x}]else[]
theorem Ph {Gs:Nat->Prop}{w0 w:World}{Bn Bi Bo Bg Bp base tb tm:Nat}{na:Array Value}{nd:dA}{v:Value}{L out:List Rec}{T:Tab}(h:rE Gs w0 w Bn Bi Bo Bg Bp base tb tm na nd v L out T)(r:Rec)(hr:aU r)(hlen:out.length<=1000000000):
 Calls Tryz.prog 85 #[qo r,iC (aB r), .pointer (some ⟨Bp,0,none⟩), .pointer (some ⟨Bn,0,none⟩), .pointer (some ⟨Bg,0,none⟩)] w
  (Bv Gs w0 Bn Bi Bo Bg Bp base tb tm na nd v L (out++CW T r (dK nd.x {aB r with acc:=(cellOf T r.key).1})) (iM T r.key (dK nd.x {aB r with acc:=(cellOf T r.key).1},[]))):=by
 obtain⟨uid,inv,p,cap,hna,hx,hk0,hk1,hn⟩:=h.st.yO
 have aX:=h.st.node
 rw[hna]at aX
 clear hna
 have x0:w.cell? ⟨Bn,3,none⟩=some (.int .u8 nd.x.op):=cells_at aX rfl
 have x1:w.cell? ⟨Bn,4,none⟩=some (.int .i64 nd.x.n):=cells_at aX rfl
 have x2:w.cell? ⟨Bn,5,none⟩=some (.slice p nd.x.args.length cap):=cells_at aX rfl
 have x3:w.cell? ⟨Bn,6,none⟩=some (.int .i64 nd.n):=cells_at aX rfl
 have g0:w.cell? ⟨Bg,0,none⟩=some (.func (.func 78) #[] #[.pointer (some ⟨Bo,0,none⟩)]):=cells_at h.st.goes rfl
 have p0:w.cell? ⟨Bp,0,none⟩=some (.pointer (some ⟨tb,0,none⟩)):=cells_at h.ptr rfl
 obtain⟨l1,l2,l3,l4⟩:=h.st.lo
 obtain⟨i1,i2,i3,i4,i5⟩:=h.st.hi
 obtain⟨lp1,lp2,lp3,lp4⟩:=h.lop
 have hlb:Bn<w.heap.size:=by omega
 have VI:Bg<w.heap.size:=by omega
 have hlp:Bp<w.heap.size:=by omega
 have H:=Lib.hid h
 have HX:=Lib.hid hx
 have HR:=Lib.hid hr
 clear h hx hr aX
 go_enter Tryz.func85,Tryz.ntmps85
 go_wp2_with fail
 obtain⟨W0,hW0⟩: ∃W0,(w.alloc (.cells #[.int .i64 r.pos, .int .i64 r.key, .int .i64 r.val] 44)).alloc (.cells #[.int .i64 (aB r).key, .int .i64 (aB r).val, .int .i64 (aB r).acc] 154)=W0:=⟨_,rfl⟩
 have k0:Kept none' w W0:=by rw[<-hW0];exact((Kept.refl _ _).alloc _).alloc _
 have hsz2:w.heap.size+2<=W0.heap.size:=by rw[<-hW0];simp
 have hB:W0.heap[w.heap.size]?=some (.cells #[.int .i64 r.pos, .int .i64 r.key, .int .i64 r.val] 44 (0,0)):=by
  rw[<-hW0]
  exact((Kept.refl none' (w.alloc (.cells #[.int .i64 r.pos, .int .i64 r.key, .int .i64 r.val] 44))).alloc _).heap (heap_alloc_new w (.cells #[.int .i64 r.pos, .int .i64 r.key, .int .i64 r.val] 44)) (fun h=>h)
 have hE:W0.heap[w.heap.size+1]?=some (.cells #[.int .i64 (aB r).key, .int .i64 (aB r).val, .int .i64 (aB r).acc] 154 (0,0)):=by
  rw[<-hW0]
  have:=heap_alloc_new (w.alloc (.cells #[.int .i64 r.pos, .int .i64 r.key, .int .i64 r.val] 44)) (.cells #[.int .i64 (aB r).key, .int .i64 (aB r).val, .int .i64 (aB r).acc] 154)
  simpa[World.size_alloc]using this
 rw[hW0]
 have c:=(H.out.sep.pure k0).get r.key
 (with_reducible refine c.mono ?_)
 clear c
 rintro e W1 ⟨lv,n',rfl,g1,g2,k1⟩
 obtain⟨la,lc,rfl⟩:=ay g1
 have k2:Kept none' w W1:=k0.trans k1
 have hB1:=k1.heap hB (fun h=>h)
 have hE1:=k1.heap hE (fun h=>h)
 have hsz3:w.heap.size+2<=W1.heap.size:=Nat.le_trans hsz2 k1.size
 have y0:=k2.cell (p:=⟨Bn,3,none⟩) (fun h=>h) x0
 have y1:=k2.cell (p:=⟨Bn,4,none⟩) (fun h=>h) x1
 have y2:=k2.cell (p:=⟨Bn,5,none⟩) (fun h=>h) x2
 have y3:=k2.cell (p:=⟨Bn,6,none⟩) (fun h=>h) x3
 have gg:=k2.cell (p:=⟨Bg,0,none⟩) (fun h=>h) g0
 have pp:=k2.cell (p:=⟨Bp,0,none⟩) (fun h=>h) p0
 have b0:W1.cell? ⟨w.heap.size,0,none⟩=some (.int .i64 r.pos):=cells_at hB1 rfl
 have b1:W1.cell? ⟨w.heap.size,1,none⟩=some (.int .i64 r.key):=cells_at hB1 rfl
 have b2:W1.cell? ⟨w.heap.size,2,none⟩=some (.int .i64 r.val):=cells_at hB1 rfl
 have e0:W1.cell? ⟨w.heap.size+1,0,none⟩=some (.int .i64 (aB r).key):=cells_at hE1 rfl
 have e1:W1.cell? ⟨w.heap.size+1,1,none⟩=some (.int .i64 (aB r).val):=cells_at hE1 rfl
 have e2:W1.cell? ⟨w.heap.size+1,2,none⟩=some (.int .i64 (aB r).acc):=cells_at hE1 rfl
 have hco:=GX H.out.sep.ok r.key
 have hcd:(fO T r.key).getD (0,[])=cellOf T r.key:=rfl
 rw[hcd]at g1 g2⊢
 clear x0 x1 x2 x3 g0 p0 k0 hW0 hB hE
 obtain⟨acc,hacc⟩: ∃acc,(cellOf T r.key).1=acc:=⟨_,rfl⟩
 have Ep:aI acc:=hacc▸hco.1
 rw[hacc]
 obtain⟨env',RU⟩: ∃env':Env,({aB r with acc:=acc}:Env)=env':=⟨_,rfl⟩
 have eo:mO env':=RU▸⟨HR.out.key,HR.out.val,Ep⟩
 have f2:=free_at hE1 2
 have f3:=free_at hB1 2
 have hn1:Bn≠w.heap.size+1:=by omega
 have hn2:Bn≠W1.heap.size:=by omega
 have hn3:w.heap.size+1≠W1.heap.size:=by omega
 have hl1:w.heap.size+1<W1.heap.size:=by omega
 have hl2:w.heap.size<W1.heap.size:=by omega
 have hl3:Bn<W1.heap.size:=by omega
 have K2:=Lib.hid (And.intro k2 (And.intro hB1 hE1))
 have Qy:=Lib.hid (And.intro RU eo)
 have adx:=Lib.hid hacc
 clear g1 g2 k1 k2 hB1 hE1 hacc hco RU eo hcd
 go_wp2_with fail
 obtain⟨Wi,hWi⟩: ∃Wi,(W1.setCell ⟨w.heap.size+1,2,none⟩ (.int .i64 acc)).alloc (.cells #[.int .i64 acc, .slice la n' lc] 124)=Wi:=⟨_,rfl⟩
 rw[hWi]
 have ki:Kept (one (w.heap.size+1)) W1 Wi:=by rw[<-hWi];exact((Kept.refl (one (w.heap.size+1)) W1).setCell (p:=⟨w.heap.size+1,2,none⟩) (.inl rfl) _).alloc _
 have kwi:Kept none' w Wi:=K2.out.1.new ki (fun i hi e=>by unfold one at e;omega)
 have c:=Bc nd.x _ env' Wi (aC.pure kwi HX.out) Qy.out.2
 rw[<-Qy.out.1]at c
 refine c.mono ?_
 clear c
 rintro e W2 ⟨rfl,k3⟩
 rw[Qy.out.1]
 have X64:=AA HX.out Qy.out.2
 obtain⟨X,hX⟩: ∃X,dK nd.x env'=X:=⟨_,rfl⟩
 rw[hX]at X64⊢
 have hB2:=k3.heap (ki.heap K2.out.2.1 (fun e=>by unfold one at e;omega)) (fun h=>h)
 have qK:Kept none' w W2:=kwi.trans k3
 have q0:W2.cell? ⟨w.heap.size,0,none⟩=some (.int .i64 r.pos):=cells_at hB2 rfl
 have q1:W2.cell? ⟨w.heap.size,1,none⟩=some (.int .i64 r.key):=cells_at hB2 rfl
 have q2:W2.cell? ⟨w.heap.size,2,none⟩=some (.int .i64 r.val):=cells_at hB2 rfl
 have q3:=free_at hB2 2
 have q4:W2.cell? ⟨Bp,0,none⟩=some (.pointer (some ⟨tb,0,none⟩)):=cells_at (qK.heap H.out.ptr (fun h=>h)) rfl
 have hp1:Bp≠w.heap.size:=by omega
 have K4:=Lib.hid (And.intro qK (And.intro hB2 X64))
 have HXX:=Lib.hid hX
 clear k3 ki kwi hB2 qK hWi X64 hX y0 y1 y2 y3 b0 b1 b2 e0 e1 e2 f2 f3 gg pp
 go_wp2_with fail
 have kp:Kept none' w (W2.setCell ⟨w.heap.size,2,none⟩ (.int .i64 X)):=K4.out.1.setCell (p:=⟨w.heap.size,2,none⟩) (.inr (Nat.le_refl _)) _
 have c:=(H.out.sep.pure kp).put (fun _ h=>h.elim) r.key (X,[]) (.slice none 0 0) HR.out.key K4.out.2.2 (by simp) (by simp) (Reads.nil _ _)
 refine c.mono ?_
 clear c
 rintro e W3 ⟨rfl,s3,k4⟩
 have hB3:=k4.heap (aK K4.out.2.1 2 (.int .i64 X)) (fun e=>by unfold one at e;omega)
 have t0:W3.cell? ⟨w.heap.size,0,none⟩=some (.int .i64 r.pos):=cells_at hB3 rfl
 have t1:W3.cell? ⟨w.heap.size,1,none⟩=some (.int .i64 r.key):=cells_at hB3 rfl
 have t2:W3.cell? ⟨w.heap.size,2,none⟩=some (.int .i64 X):=cells_at hB3 rfl
 have t3:W3.cell? ⟨Bg,0,none⟩=some (.func (.func 78) #[] #[.pointer (some ⟨Bo,0,none⟩)]):=cells_at (k4.heap (kp.heap H.out.st.goes (fun h=>h)) (fun e=>by unfold one at e;omega)) rfl
 have kk:Kept (one tm) w W3:=kp.pure.trans k4
 have S3:=Lib.hid (And.intro s3 kk)
 clear s3 kk k4 kp hB3
 by_cases hp:iw T r.key 0=0
 ·have HP:=Lib.hid hp
  rw[show iw T r.key ((X,([]:List Int)):Int×List Int).2.length=0 from hp]
  clear hp
  go_wp2_with fail
  have c:=S3.out.1.goes {r with val:=X} (Nat.le_trans i5 S3.out.2.size) (by omega)
  refine c.mono ?_
  clear c
  rintro e W4 ⟨rfl,s4,k5⟩
  have F:Bv Gs w0 Bn Bi Bo Bg Bp base tb tm na nd v L (out++CW T r X) (iM T r.key (X,[])) (.returned (.tuple #[])) W4:=by
   refine⟨rfl,H.out.next (S':=fun k=>(k=Bo\/base<=k)\/k=tm) ((S3.out.2.mono (fun k _ e=> .inr e)).trans (k5.mono (fun k _ h=> .inl h))) (fun k h=>by rcases h with(h|h)|h;exact .inl h;exact .inr (.inl h);exact .inr (.inr h)) ?_⟩
   unfold CW
   rw[if_pos HP.out]
   exact s4
  have F':=Lib.hid F
  clear F s4 k5
  go_wp2_with fail
  go_end0
  rw[adx.out,Qy.out.1,HXX.out]
  exact F'.out
 ·have F:Bv Gs w0 Bn Bi Bo Bg Bp base tb tm na nd v L (out++CW T r X) (iM T r.key (X,[])) (.returned (.tuple #[])) W3:=by
   refine⟨rfl,H.out.next (S':=one tm) S3.out.2 (fun k h=> .inr (.inr h)) ?_⟩
   unfold CW
   rw[if_neg hp,List.append_nil]
   exact S3.out.1
  have F':=Lib.hid F
  obtain⟨E,hE⟩: ∃E,iw T r.key ((X,([]:List Int)):Int×List Int).2.length=E:=⟨_,rfl⟩
  have hE0:(E==0)=false:=by
   rw[<-hE]
   have:iw T r.key ((X,([]:List Int)):Int×List Int).2.length=iw T r.key 0:=rfl
   rw[this];simp[hp]
  rw[hE]
  clear F hp hE
  go_wp2_with fail
  go_end0
  rw[adx.out,Qy.out.1,HXX.out]
  exact F'.out
def CQ (T:Tab)(key n:Int)(len:Nat):Prop:=iw T key len≠0\/((len:Nat):Int)<n
instance (T:Tab) (key n:Int) (len:Nat):Decidable (CQ T key n len):=by unfold CQ;exact inferInstance
def CP (T:Tab)(r:Rec)(n:Int)(l:List Int):List Rec:=if CQ T r.key n l.length then[]else[{r with val:=sumW l}]
def CO (T:Tab)(r:Rec)(n acc:Int)(l:List Int):Tab:=if CQ T r.key n l.length then iM T r.key (acc,l)else lF r.key (iM T r.key (acc,l))
theorem sumW_snoc {l:List Int}{k:Nat}{x:Int}(h:l[k]?=some x):sumW (l.take (k+1))=wrap64 (sumW (l.take k)+x):=by
 unfold sumW;rw[List.take_add_one,h,List.foldl_append];rfl
theorem XC (l:List Int):aI (sumW l):=by
 unfold sumW
 rcases List.eq_nil_or_concat l with rfl|⟨m,x,rfl⟩
 ·exact dY
 ·rw[List.concat_eq_append,List.foldl_append];exact kZ _
theorem own_ne {w:World}{base e size n t E:Nat}{v:Value}{xs:List Value}{f:Nat×Nat}{cs:Array Value}(h:w.ownsRow base e size v n xs)(ht:w.heap[t]?=some (.cells cs E f))(hne:E≠e): ∀k,Value.blk v=some k->k≠t:=by
 intro k hk ek
 rcases h.2 with⟨e',_⟩|⟨g,cap',cur,e',_,hg,_⟩
 ·rw[e']at hk;simp[Value.blk]at hk
 ·rw[e']at hk
  by_cases hn:n=0
  ·simp[Value.blk,hn]at hk
  ·simp[Value.blk,hn]at hk
   subst ek
   rw[<-hk,hg]at ht
   injection ht with ht
   injection ht with _ ht _
   exact hne ht.symm
theorem OW (l m:List Int):ints (l++m)=ints l++ints m:=by unfold ints;rw[List.map_append]
theorem Pg {Gs:Nat->Prop}{w0 w:World}{Bn Bi Bo Bg Bp base tb tm:Nat}{na:Array Value}{nd:dA}{v:Value}{L out:List Rec}{T:Tab}(h:rE Gs w0 w Bn Bi Bo Bg Bp base tb tm na nd v L out T)(r:Rec)(hr:aU r)(hlen:out.length<=1000000000):
 Calls Tryz.prog 87 #[qo r,iC (aB r), .pointer (some ⟨Bp,0,none⟩), .pointer (some ⟨Bn,0,none⟩), .pointer (some ⟨Bg,0,none⟩)] w
  (Bv Gs w0 Bn Bi Bo Bg Bp base tb tm na nd v L (out++CP T r nd.n ((cellOf T r.key).2++[r.val])) (CO T r nd.n (cellOf T r.key).1 ((cellOf T r.key).2++[r.val]))):=by
 obtain⟨uid,inv,p,cap,hna,hx,hk0,hk1,hn⟩:=h.st.yO
 have aX:=h.st.node
 rw[hna]at aX
 clear hna
 have x0:w.cell? ⟨Bn,3,none⟩=some (.int .u8 nd.x.op):=cells_at aX rfl
 have x1:w.cell? ⟨Bn,4,none⟩=some (.int .i64 nd.x.n):=cells_at aX rfl
 have x2:w.cell? ⟨Bn,5,none⟩=some (.slice p nd.x.args.length cap):=cells_at aX rfl
 have x3:w.cell? ⟨Bn,6,none⟩=some (.int .i64 nd.n):=cells_at aX rfl
 have g0:w.cell? ⟨Bg,0,none⟩=some (.func (.func 78) #[] #[.pointer (some ⟨Bo,0,none⟩)]):=cells_at h.st.goes rfl
 have p0:w.cell? ⟨Bp,0,none⟩=some (.pointer (some ⟨tb,0,none⟩)):=cells_at h.ptr rfl
 obtain⟨l1,l2,l3,l4⟩:=h.st.lo
 obtain⟨i1,i2,i3,i4,i5⟩:=h.st.hi
 obtain⟨lp1,lp2,lp3,lp4⟩:=h.lop
 have hlb:Bn<w.heap.size:=by omega
 have VI:Bg<w.heap.size:=by omega
 have hlp:Bp<w.heap.size:=by omega
 have H:=Lib.hid h
 have HX:=Lib.hid hx
 have HR:=Lib.hid hr
 clear h hx hr aX
 go_enter Tryz.func87,Tryz.ntmps87
 go_wp2_with fail
 obtain⟨W0,hW0⟩: ∃W0,(w.alloc (.cells #[.int .i64 r.pos, .int .i64 r.key, .int .i64 r.val] 44)).alloc (.cells #[.int .i64 (aB r).key, .int .i64 (aB r).val, .int .i64 (aB r).acc] 154)=W0:=⟨_,rfl⟩
 have k0:Kept none' w W0:=by rw[<-hW0];exact((Kept.refl _ _).alloc _).alloc _
 have hsz2:w.heap.size+2<=W0.heap.size:=by rw[<-hW0];simp
 have hB:W0.heap[w.heap.size]?=some (.cells #[.int .i64 r.pos, .int .i64 r.key, .int .i64 r.val] 44 (0,0)):=by
  rw[<-hW0]
  exact((Kept.refl none' (w.alloc (.cells #[.int .i64 r.pos, .int .i64 r.key, .int .i64 r.val] 44))).alloc _).heap (heap_alloc_new w (.cells #[.int .i64 r.pos, .int .i64 r.key, .int .i64 r.val] 44)) (fun h=>h)
 have hE:W0.heap[w.heap.size+1]?=some (.cells #[.int .i64 (aB r).key, .int .i64 (aB r).val, .int .i64 (aB r).acc] 154 (0,0)):=by
  rw[<-hW0]
  have:=heap_alloc_new (w.alloc (.cells #[.int .i64 r.pos, .int .i64 r.key, .int .i64 r.val] 44)) (.cells #[.int .i64 (aB r).key, .int .i64 (aB r).val, .int .i64 (aB r).acc] 154)
  simpa[World.size_alloc]using this
 rw[hW0]
 have c:=(H.out.sep.pure k0).get r.key
 (with_reducible refine c.mono ?_)
 clear c
 rintro e W1 ⟨lv,n',rfl,g1,g2,k1⟩
 obtain⟨la,lc,rfl⟩:=ay g1
 have k2:Kept none' w W1:=k0.trans k1
 have hB1:=k1.heap hB (fun h=>h)
 have hE1:=k1.heap hE (fun h=>h)
 have hsz3:w.heap.size+2<=W1.heap.size:=Nat.le_trans hsz2 k1.size
 have y0:=k2.cell (p:=⟨Bn,3,none⟩) (fun h=>h) x0
 have y1:=k2.cell (p:=⟨Bn,4,none⟩) (fun h=>h) x1
 have y2:=k2.cell (p:=⟨Bn,5,none⟩) (fun h=>h) x2
 have y3:=k2.cell (p:=⟨Bn,6,none⟩) (fun h=>h) x3
 have gg:=k2.cell (p:=⟨Bg,0,none⟩) (fun h=>h) g0
 have pp:=k2.cell (p:=⟨Bp,0,none⟩) (fun h=>h) p0
 have b0:W1.cell? ⟨w.heap.size,0,none⟩=some (.int .i64 r.pos):=cells_at hB1 rfl
 have b1:W1.cell? ⟨w.heap.size,1,none⟩=some (.int .i64 r.key):=cells_at hB1 rfl
 have b2:W1.cell? ⟨w.heap.size,2,none⟩=some (.int .i64 r.val):=cells_at hB1 rfl
 have e0:W1.cell? ⟨w.heap.size+1,0,none⟩=some (.int .i64 (aB r).key):=cells_at hE1 rfl
 have e1:W1.cell? ⟨w.heap.size+1,1,none⟩=some (.int .i64 (aB r).val):=cells_at hE1 rfl
 have e2:W1.cell? ⟨w.heap.size+1,2,none⟩=some (.int .i64 (aB r).acc):=cells_at hE1 rfl
 have hco:=GX H.out.sep.ok r.key
 have Eo:=g1.lt
 have hcd:(fO T r.key).getD (0,[])=cellOf T r.key:=rfl
 rw[hcd]at g1 g2⊢
 clear x0 x1 x2 x3 g0 p0 k0 hW0 hB hE
 obtain⟨acc,hacc⟩: ∃acc,(cellOf T r.key).1=acc:=⟨_,rfl⟩
 obtain⟨old,hold⟩: ∃old,(cellOf T r.key).2=old:=⟨_,rfl⟩
 have Ep:aI acc:=hacc▸hco.1
 have VF: ∀x∈old,aI x:=hold▸hco.2.1
 have acg:old.length<=16:=hold▸hco.2.2
 rw[hold]at g1
 rw[hacc]
 obtain⟨l,hl⟩: ∃l,old++[r.val]=l:=⟨_,rfl⟩
 have acu:l.length<=17:=by rw[<-hl];simp;omega
 have acs: ∀x∈l,aI x:=by
  intro x hx
  rw[<-hl]at hx
  rcases List.mem_append.1 hx with hx|hx
  ·exact VF x hx
  ·simp at hx;subst hx;exact HR.out.val
 obtain⟨i,z,hi,hz,hs,hby,hzs⟩: ∃i z,Tryz.prog.info? 2=some i/\i.zero=some z/\i.size=1/\i.bytes=8/\z.cells.size=1:=by
  obtain⟨i,h1,h2,h3,h4⟩:=info_parts Tryz.info2
  exact⟨i,_,h1,h2,h3,h4,rfl⟩
 obtain⟨Wa,hWa⟩: ∃Wa,(W1.alloc (.cells #[.int .i64 acc, .slice la n' lc] 124)).alloc (.cells #[.int .i64 r.val] 2)=Wa:=⟨_,rfl⟩
 have ka:Kept none' W1 Wa:=by rw[<-hWa];exact((Kept.refl _ _).alloc _).alloc _
 have hC:Wa.heap[W1.heap.size]?=some (.cells #[.int .i64 acc, .slice la n' lc] 124 (0,0)):=by
  rw[<-hWa]
  exact((Kept.refl none' (W1.alloc (.cells #[.int .i64 acc, .slice la n' lc] 124))).alloc _).heap (heap_alloc_new W1 (.cells #[.int .i64 acc, .slice la n' lc] 124)) (fun h=>h)
 have hrd:Reads Wa 1 (.slice (some ⟨W1.heap.size+1,0,none⟩) 1 1) (ints [r.val]):=by
  have:=Reads.lit (W1.alloc (.cells #[.int .i64 acc, .slice la n' lc] 124)) (ints [r.val]) 2 1 1 rfl (by unfold maxLen;omega)
  rw[World.size_alloc]at this
  rw[<-hWa];exact this
 have g1a:=ka.owns g1 (fun _ _ h=>h)
 have afG:n'<=16:=by have:=g1.1;simp at this;omega
 obtain⟨v',n2,w',a1,a2,a3,a4,a5⟩:=aW (P:=Tryz.prog) _ 65 65 2 i z 1 8 Tryz.underlying65 hi hz hs hby hzs (by omega) g1a hrd (qX [r.val]) (by simp;omega) (by unfold maxLen;simp;omega) (Nat.le_trans k1.size ka.size)
 rw[<-OW,hl]at a2
 obtain⟨va,vc,rfl⟩:=ay a2
 have hn2:n2=l.length:=by have:=a2.1;simp at this;omega
 subst hn2
 have hown: ∀k,(Value.slice la n' lc).ownBlock=some k->W0.heap.size<=k/\k<W1.heap.size:=fun k hk=>Eo k hk
 have kw':Kept none' w w':=k2.new (ka.pure.trans (Kept.grown (S:=fun k=>W0.heap.size<=k/\k<W1.heap.size) a4 (fun k hk _=>hown k hk))) (fun i hi h=>by omega)
 have hB2:w'.heap[w.heap.size]?=_:=(a4.block w.heap.size (by have:=ka.size;omega) (fun e=>by have:=hown _ e.symm;omega)).trans (ka.heap hB1 (fun h=>h))
 have hC2:w'.heap[W1.heap.size]?=_:=(a4.block W1.heap.size (by have:=(Array.getElem?_eq_some_iff.1 hC).1;omega) (fun e=>by have:=hown _ e.symm;omega)).trans hC
 have hrow:=Reads.aZ a2
 have YA:=own_ne a2 hC2 (by omega)
 have ZF:=own_ne a2 hB2 (by omega)
 have A1:=Lib.hid a1
 rw[<-hWa]at A1
 have hc1:w'.cell? ⟨W1.heap.size,1,none⟩=some (.slice la n' lc):=cells_at hC2 rfl
 have hc0:w'.cell? ⟨W1.heap.size,0,none⟩=some (.int .i64 acc):=cells_at hC2 rfl
 have fc1:=free_at hC2 1
 have hq0:w'.cell? ⟨w.heap.size,0,none⟩=some (.int .i64 r.pos):=cells_at hB2 rfl
 have hq1:w'.cell? ⟨w.heap.size,1,none⟩=some (.int .i64 r.key):=cells_at hB2 rfl
 have hq2:w'.cell? ⟨w.heap.size,2,none⟩=some (.int .i64 r.val):=cells_at hB2 rfl
 have hp0:w'.cell? ⟨Bp,0,none⟩=some (.pointer (some ⟨tb,0,none⟩)):=cells_at (kw'.heap H.out.ptr (fun h=>h)) rfl
 have hpne:Bp≠W1.heap.size:=by omega
 have hsne:w.heap.size≠W1.heap.size:=by omega
 have Ae:Kept (one W1.heap.size) w' (w'.setCell ⟨W1.heap.size,1,none⟩ (.slice va l.length vc)):=(Kept.refl (one W1.heap.size) w').setCell (p:=⟨W1.heap.size,1,none⟩) (.inl rfl) _
 have hC3:=aK hC2 1 (.slice va l.length vc)
 have hB3:=Ae.heap hB2 (fun e=>by unfold one at e;omega)
 have hrow3:=hrow.kept Ae (fun b hb e=>YA b hb e)
 have tY:Kept none' w (w'.setCell ⟨W1.heap.size,1,none⟩ (.slice va l.length vc)):=kw'.new Ae (fun i hi e=>by unfold one at e;omega)
 have K3:=Lib.hid (And.intro tY (And.intro hB3 (And.intro hC3 (And.intro hrow3 (And.intro YA ZF)))))
 have HL:=Lib.hid (And.intro acs (And.intro Ep acu))
 have EO:=Lib.hid (And.intro hacc (And.intro hold hl))
 clear a1 a2 a3 a4 a5 hC hrd g1a afG hown kw' hB2 hC2 hrow YA ZF Ae hC3 hB3 hrow3 tY acs Ep acu hacc hold hl VF acg hco hcd g1 g2 Eo hWa ka hi hz hs hby hzs k1 k2 hB1 hE1 e0 e1 e2 gg y0 y1 y2 b0 b1 y3
 have hlt1:w.heap.size<W1.heap.size:=by omega
 go_wp2_with (at_builtin;refine wpList_append_run rfl (.tmp 19) (.tmp 22) 65 rfl _ _ _ rfl rfl A1.out ?_)
 obtain⟨Wp,hWp⟩: ∃Wp,w'.setCell ⟨W1.heap.size,1,none⟩ (.slice va l.length vc)=Wp:=⟨_,rfl⟩
 rw[hWp]at K3⊢
 have c:=(H.out.sep.enter K3.out.1 (Y:=one w.heap.size) (fun k e=>by unfold one at e;omega)).put (fun k e=>by unfold one at e;have:=(Array.getElem?_eq_some_iff.1 K3.out.2.1).1;omega) r.key (acc,l) (.slice va l.length vc) HR.out.key HL.out.2.1 HL.out.1 (by have:=HL.out.2.2;simp;omega) K3.out.2.2.2.1
 (with_reducible refine c.mono ?_)
 clear c
 rintro e W3 ⟨rfl,s3,k4⟩
 have Zu:Kept (one tm) w W3:=K3.out.1.pure.trans k4
 have hB4:=k4.heap K3.out.2.1 (fun e=>by unfold one at e;omega)
 have hC4:=k4.heap K3.out.2.2.1 (fun e=>by unfold one at e;omega)
 have t0:W3.cell? ⟨w.heap.size,0,none⟩=some (.int .i64 r.pos):=cells_at hB4 rfl
 have t1:W3.cell? ⟨w.heap.size,1,none⟩=some (.int .i64 r.key):=cells_at hB4 rfl
 have t2:W3.cell? ⟨w.heap.size,2,none⟩=some (.int .i64 r.val):=cells_at hB4 rfl
 have t3:W3.cell? ⟨W1.heap.size,1,none⟩=some (.slice va l.length vc):=cells_at hC4 rfl
 obtain⟨uid,inv,p',cap',hna,_,_,_,_⟩:=H.out.st.yO
 have aX:=H.out.st.node
 rw[hna]at aX
 have t4:W3.cell? ⟨Bn,6,none⟩=some (.int .i64 nd.n):=cells_at (Zu.heap aX (fun e=>by unfold one at e;omega)) rfl
 have t5:W3.cell? ⟨Bp,0,none⟩=some (.pointer (some ⟨tb,0,none⟩)):=cells_at (Zu.heap H.out.ptr (fun e=>by unfold one at e;omega)) rfl
 have S3:=Lib.hid (And.intro s3 (And.intro Zu (And.intro hB4 (And.intro hC4 k4))))
 have HWp:=Lib.hid hWp
 clear s3 Zu hB4 hC4 k4 hna aX hc0 hc1 fc1 hq0 hq1 hq2 hp0 hWp b2
 have fin0:CQ T r.key nd.n l.length->Bv Gs w0 Bn Bi Bo Bg Bp base tb tm na nd v L (out++CP T r nd.n l) (CO T r nd.n acc l) (.returned (.tuple #[])) W3:=by
  intro hw
  refine⟨rfl,H.out.next (S':=one tm) S3.out.2.1 (fun k h=> .inr (.inr h)) ?_⟩
  unfold CP CO
  rw[if_pos hw,if_pos hw,List.append_nil]
  exact S3.out.1.leave
 have F0:=Lib.hid fin0
 clear fin0
 by_cases hp:iw T r.key l.length=0
 ·rw[show iw T r.key ((acc,l):Int×List Int).2.length=0 from hp]
  by_cases hn0:((l.length:Nat):Int)<nd.n
  ·have hn1:decide (((l.length:Nat):Int)<nd.n)=true:=decide_eq_true hn0
   have F:=Lib.hid (F0.out (.inr hn0))
   clear F0 hp
   go_wp2_with fail
   go_end0
   rw[EO.out.1,EO.out.2.1,EO.out.2.2]
   exact F.out
  ·have hn1:decide (((l.length:Nat):Int)<nd.n)=false:=decide_eq_false hn0
   have hnb: ¬CQ T r.key nd.n l.length:=by rintro(h|h);exact h hp;exact hn0 h
   have HNB:=Lib.hid hnb
   clear hnb F0 hp
   go_wp2_with fail
   have c:=S3.out.1.drop r.key
   (with_reducible refine c.mono ?_)
   clear c
   rintro e W4 ⟨rfl,s4,k5⟩
   have MN:Kept (one tm) w W4:=S3.out.2.1.trans k5
   have Et:=k5.heap S3.out.2.2.1 (fun e=>by unfold one at e;omega)
   have hC5:=k5.heap S3.out.2.2.2.1 (fun e=>by unfold one at e;omega)
   have RQ:Reads W4 1 (.slice va l.length vc) (ints l):=K3.out.2.2.2.1.kept (S3.out.2.2.2.2.trans k5) (fun b hb e=>by
    unfold one at e
    obtain⟨c,E,f,hc⟩:=K3.out.2.2.2.1.isCells (by omega) hb
    rw[e]at hc
    exact(H.out.sep.pure K3.out.1).jK _ _ _ hc)
   obtain⟨ra,rc,re,rc1,rc2,yK⟩:=RQ.at
   have hfz:=free_at Et 2
   have hs2:W4.cell? ⟨w.heap.size,2,none⟩=some (.int .i64 r.val):=cells_at Et rfl
   have hs5:W4.cell? ⟨W1.heap.size,1,none⟩=some (.slice va l.length vc):=cells_at hC5 rfl
   have kz:Kept (one w.heap.size) W4 (W4.setCell ⟨w.heap.size,2,none⟩ (.int .i64 0)):=(Kept.refl (one w.heap.size) W4).setCell (p:=⟨w.heap.size,2,none⟩) (.inl rfl) _
   have hz5:=aK Et 2 (.int .i64 0)
   have G:=Lib.hid (And.intro s4 (And.intro MN (And.intro RQ (And.intro kz hz5))))
   have HRC:=Lib.hid (And.intro re yK)
   clear s4 MN Et hC5 RQ k5 kz hz5 re yK t0 t1 t2 t3 t4 t5
   go_wp2_with fail
   obtain⟨W5,nZ⟩: ∃W5,W4.setCell ⟨w.heap.size,2,none⟩ (.int .i64 0)=W5:=⟨_,rfl⟩
   rw[nZ]at G⊢
   clear nZ hfz hs2 hs5
   go_loopg [47] l.length (fun g vi wr=> ∃k:Nat,k<=l.length/\vi= .int .i64 (k:Int)/\l.length-k<=g/\wr.heap[w.heap.size]?=some (.cells #[.int .i64 r.pos, .int .i64 r.key, .int .i64 (sumW (l.take k))] 44 (0,0))/\Kept (one w.heap.size) W4 wr)
   case atStart=>exact⟨0,by omega,rfl,by omega,by simpa[sumW]using G.out.2.2.2.2,G.out.2.2.2.1⟩
   case round=>
    obtain⟨k,hkl,rfl,hg,hrow,hkp⟩:=hrel
    have u0:wr.cell? ⟨w.heap.size,0,none⟩=some (.int .i64 r.pos):=cells_at hrow rfl
    have u1:wr.cell? ⟨w.heap.size,1,none⟩=some (.int .i64 r.key):=cells_at hrow rfl
    have u2:wr.cell? ⟨w.heap.size,2,none⟩=some (.int .i64 (sumW (l.take k))):=cells_at hrow rfl
    have u3:=free_at hrow 2
    have hrd:Reads wr 1 (.slice va l.length vc) (ints l):=G.out.2.2.1.kept hkp (fun b hb e=>K3.out.2.2.2.2.2 b hb e)
    by_cases hlt:k<l.length
    ·obtain⟨x,hx⟩: ∃x,l[k]?=some x:=⟨_,List.getElem?_eq_getElem hlt⟩
     obtain⟨ra',rc',re',_,_,UW⟩:=hrd.at
     cases re'
     obtain⟨b,off,rfl,hcl⟩:=UW.resolve_left (fun h=>by rw[h]at hx;cases hx)
     have hxc:=hcl k x hx
     have hst:=aK hrow 2 (.int .i64 (sumW (l.take (k+1))))
     rw[sumW_snoc hx]at hst
     have ks2:Kept (one w.heap.size) W4 (wr.setCell ⟨w.heap.size,2,none⟩ (.int .i64 (wrap64 (sumW (l.take k)+x)))):=hkp.setCell (p:=⟨w.heap.size,2,none⟩) (.inl rfl) _
     have Z:=Lib.hid (And.intro hg (And.intro hst (And.intro ks2 (sumW_snoc hx))))
     have s64:=XC (l.take k)
     obtain⟨sm1,sm2⟩:=s64
     obtain⟨sk,hsk⟩: ∃sk,sumW (l.take k)=sk:=⟨_,rfl⟩
     rw[hsk]at u2 sm1 sm2 Z
     have hk17:k<17:=by have:=HL.out.2.2;omega
     have x64:=HL.out.1 x (List.mem_of_getElem? hx)
     clear hsk hst ks2 hcl UW hrd hrow hkp hg hx u0 u1
     go_wp2_with fail
     go_roundg (l.length-(k+1))
     case rel=>exact⟨k+1,by omega,by go_num,Nat.le_refl _,by rw[Z.out.2.2.2];exact Z.out.2.1,Z.out.2.2.1⟩
     case measure=>have:=Z.out.1;omega
    ·have hkk:k=l.length:=by omega
     subst hkk
     rw[List.take_of_length_le (Nat.le_refl _)]at u2
     have u4:wr.cell? ⟨Bg,0,none⟩=some (.func (.func 78) #[] #[.pointer (some ⟨Bo,0,none⟩)]):=cells_at (hkp.heap (G.out.2.1.heap H.out.st.goes (fun e=>by unfold one at e;omega)) (fun e=>by unfold one at e;omega)) rfl
     have ML:Kept (one tm) w wr:=G.out.2.1.new hkp (fun i hi e=>by unfold one at e;omega)
     have abk:Sep Gs wr Bo base tb tm none' out (lF r.key (iM T r.key (acc,l))):=(G.out.1.foreign hkp (fun k e=>e)).leave
     have Z:=Lib.hid (And.intro ML abk)
     clear ML abk hrd hrow hkp hg
     go_wp2_with fail
     have c:=Z.out.2.goes {r with val:=sumW l} (Nat.le_trans i5 Z.out.1.size) (by omega)
     refine c.mono ?_
     clear c
     rintro e W6 ⟨rfl,s6,k6⟩
     have F:Bv Gs w0 Bn Bi Bo Bg Bp base tb tm na nd v L (out++CP T r nd.n l) (CO T r nd.n acc l) (.returned (.tuple #[])) W6:=by
      refine⟨rfl,H.out.next (S':=fun k=>(k=Bo\/base<=k)\/k=tm) ((Z.out.1.mono (fun k _ e=> .inr e)).trans (k6.mono (fun k _ h=> .inl h))) (fun k h=>by rcases h with(h|h)|h;exact .inl h;exact .inr (.inl h);exact .inr (.inr h)) ?_⟩
      unfold CP CO
      rw[if_neg HNB.out,if_neg HNB.out]
      exact s6
     have F':=Lib.hid F
     clear F s6 k6
     go_wp2_with fail
     go_end0
     rw[EO.out.1,EO.out.2.1,EO.out.2.2]
     exact F'.out
 ·have F:=Lib.hid (F0.out (.inl hp))
  obtain⟨E,hE⟩: ∃E,iw T r.key ((acc,l):Int×List Int).2.length=E:=⟨_,rfl⟩
  have hE0:(E !=0)=true:=by
   rw[<-hE]
   have:iw T r.key ((acc,l):Int×List Int).2.length=iw T r.key l.length:=rfl
   rw[this];simp[hp]
  rw[hE]
  clear F0 hp hE
  go_wp2_with fail
  go_end0
  rw[EO.out.1,EO.out.2.1,EO.out.2.2]
  exact F.out
end
end Go.Proofs.YtopeleenlcnkkaaGreatDoor
