/- slices.Equal, slices.Index, slices.Contains over records. -/
import Derived.Test.YtopeleenlcnkkaaGreatDoorX15
import Derived.Laws.EntriesVeiled
set_option linter.unusedVariables false
set_option linter.unusedSimpArgs false
set_option maxHeartbeats 1000000
set_option maxRecDepth 100000
namespace Go.Proofs.YtopeleenlcnkkaaGreatDoor
section
open Go Go.RowKit
attribute [local irreducible] bU cZ
end
section
open Go Go.RowKit Go.Shelf
attribute [local irreducible] bU
theorem GU (v:Value)(cs:List Value)(w:World)(hr:Reads w 3 v cs)(h1: ∀x∈cs,x.oneCell'=true)(hlen:cs.length<=1099511627776):
 Calls Tryz.prog 76 #[v] w (Qw w 44 3 cs):=by
 obtain⟨i0,z0,hi,hz0,hz1,hz2,hz3⟩:=Tryz.info44
 obtain⟨a,n,cap,rfl,hn,hc,hl,hp,hcell⟩:=hr.slice
 have hnil:=fun(w:World) a n c=>Lib.run_eql_slice_nil (P:=Tryz.prog) w 42 44 a n c 0 0 Tryz.underlying42
 cases a with
 |none=>
  have hcs:cs=[]:=by
   rcases hp with rfl|h|⟨b,off,h⟩
   ·exact List.eq_nil_of_length_eq_zero (by simpa using hl)
   ·cases h
   ·cases h
  subst hcs
  clear hcell hp h1 hr
  go_enter Tryz.func76,Tryz.ntmps76
  go_wp2
  go_ret
  exact⟨_,0,rfl,World.ownsRow_nil _ _ _ _,rfl,Kept.refl _ _⟩
 |some ad=>
  have H:=Lib.hid hr
  have HH:=Lib.hid hl
  have HC:=Lib.hid hlen
  clear hcell hp hr hl hlen
  go_enter Tryz.func76,Tryz.ntmps76
  have hnew:(w.alloc (.cells #[] 44)).ownsRow w.heap.size 44 3 (.slice (some ⟨w.heap.size,0,none⟩) 0 0) 0 []:=World.ownsRow_made w #[] 0 (Nat.le_refl _) (Nat.zero_le _) rfl
  have hrd:=H.out.pure ((Kept.refl none' w).alloc (.cells #[] 44))
  have N1:=Lib.hid hnew
  have N2:=Lib.hid hrd
  clear hnew hrd
  have B1:=Lib.hid (show(0*3+cs.length)*24<=140737488355328 by have:=HC.out;omega)
  have B2:=Lib.hid (show 0*3+cs.length<=maxLen by have:=HC.out;unfold maxLen;omega)
  go_wp2_with (at_builtin;(refine iJ rfl (.tmp 5) (.tmp 6) 42 rfl w.heap.size 44 i0 z0 3 24 Tryz.underlying42 hi hz0 hz1 hz2 hz3 (by decide) _ 0 [] rfl N1.out _ cs rfl N2.out h1 B1.out B2.out (by simp) ?_);intro v' n' w' g1 g2 g3 g4)
  go_ret
  refine⟨v',n',rfl,g1,by simpa using g2,?_⟩
  exact((Kept.refl none' w).alloc _).new (Kept.grown (S:=one w.heap.size) g3 (fun k hk _=>by cases hk;rfl)) (fun k hk e=>by unfold one at e;omega)
def jB (k:Int):Prop:=k≠6/\k≠7
def iE (nd:dA)(L:List Rec):List Rec:=(aN nd [] L).1
theorem step_plain {nd:dA}(h:jB nd.kind)(T:Tab)(r:Rec):aJ nd T r=((aJ nd [] r).1,T):=by
 obtain⟨h1,h2⟩:=h
 unfold aJ
 split
 ·rfl
 ·split
  ·rfl
  ·split
   ·rfl
   ·split
    ·rfl
    ·first|rfl|(rw[if_neg h1,if_neg h2])
theorem zk {nd:dA}(h:jB nd.kind): ∀(L:List Rec)(T:Tab),aN nd T L=(iE nd L,T)
 |[],T=>rfl
 |r::L,T=>by
  unfold iE
  simp only[aN]
  rw[step_plain h T r,step_plain h [] r]
  simp only[]
  rw[zk h L T,zk h L []]
theorem vV {nd:dA}(h:jB nd.kind){L:List Rec}{k:Nat}{r:Rec}(hr:L[k]?=some r):iE nd (L.take (k+1))=iE nd (L.take k)++(aJ nd [] r).1:=by
 rw[List.take_add_one,hr]
 show(aN nd [] (L.take k++[r])).1=_
 rw[xu,zk h]
theorem XG (nd:dA)(T:Tab)(r:Rec):(aJ nd T r).1.length<=4:=by
 have hf: ∀x,(kU r (jS x)).length<=4:=fun x=>by rw[Aw];unfold jS;omega
 unfold aJ
 repeat' split
 all_goals first|exact hf _|simp
theorem WH (nd:dA): ∀(L:List Rec)(T:Tab),(aN nd T L).1.length<=4*L.length
 |[],T=>Nat.zero_le _
 |r::L,T=>by
  simp only[aN,List.length_append,List.length_cons]
  have:=XG nd T r
  have:=WH nd L (aJ nd T r).2
  omega
theorem ny (nd:dA)(L:List Rec)(T:Tab)(k:Nat):(aN nd T (L.take k)).1.length<=4*L.length:=by
 have h1:=WH nd (L.take k) T
 have h2:=List.length_take_le k L
 have h3:=List.length_take_le' k L
 omega
theorem gU.init {S:Nat->Prop}{w:World}{na:Array Value}{nd:dA}{v tv:Value}{L:List Rec}(hfree: ∀k,S k->k<w.heap.size/\ ∀c E f,w.heap[k]?≠some (.cells c E f))(hn:eP w na nd)(hr:Reads w 3 v (recs L))(hok: ∀r∈L,aU r){W:World}
 (hW:((((w.alloc (.cells na 97)).alloc (.cells #[tv] 61)).alloc (.cells #[v] 42)).alloc (.cells #[.slice none 0 0] 42)).alloc (.cells #[.func (.func 78) #[] #[.pointer (some ⟨w.heap.size+1+1+1,0,none⟩)]] 156)=W):
 gU S w W w.heap.size (w.heap.size+1+1) (w.heap.size+1+1+1) (w.heap.size+1+1+1+1) (w.heap.size+5) na nd v L []/\W.heap[w.heap.size+1]?=some (.cells #[tv] 61 (0,0))/\Kept none' w W/\W.heap.size=w.heap.size+5:=by
 subst hW
 have e1:=heap_alloc_new w (.cells na 97)
 have e2:=heap_alloc_new (w.alloc (.cells na 97)) (.cells #[tv] 61)
 have e3:=heap_alloc_new ((w.alloc (.cells na 97)).alloc (.cells #[tv] 61)) (.cells #[v] 42)
 have e4:=heap_alloc_new (((w.alloc (.cells na 97)).alloc (.cells #[tv] 61)).alloc (.cells #[v] 42)) (.cells #[.slice none 0 0] 42)
 have e5:=heap_alloc_new ((((w.alloc (.cells na 97)).alloc (.cells #[tv] 61)).alloc (.cells #[v] 42)).alloc (.cells #[.slice none 0 0] 42)) (.cells #[.func (.func 78) #[] #[.pointer (some ⟨w.heap.size+1+1+1,0,none⟩)]] 156)
 simp only[World.size_alloc]at e1 e2 e3 e4 e5
 have kk: ∀(w:World)(o:Obj),Kept none' w (w.alloc o):=fun w o=>(Kept.refl _ _).alloc _
 have no: ∀k,¬none' k:=fun _ h=>h
 have f1:=(kk _ (.cells #[.func (.func 78) #[] #[.pointer (some ⟨w.heap.size+1+1+1,0,none⟩)]] 156)).heap ((kk _ (.cells #[.slice none 0 0] 42)).heap ((kk _ (.cells #[v] 42)).heap ((kk _ (.cells #[tv] 61)).heap e1 (no _)) (no _)) (no _)) (no _)
 have f2:=(kk _ (.cells #[.func (.func 78) #[] #[.pointer (some ⟨w.heap.size+1+1+1,0,none⟩)]] 156)).heap ((kk _ (.cells #[.slice none 0 0] 42)).heap ((kk _ (.cells #[v] 42)).heap e2 (no _)) (no _)) (no _)
 have f3:=(kk _ (.cells #[.func (.func 78) #[] #[.pointer (some ⟨w.heap.size+1+1+1,0,none⟩)]] 156)).heap ((kk _ (.cells #[.slice none 0 0] 42)).heap e3 (no _)) (no _)
 have f4:=(kk _ (.cells #[.func (.func 78) #[] #[.pointer (some ⟨w.heap.size+1+1+1,0,none⟩)]] 156)).heap e4 (no _)
 have ML:=(((kk w (.cells na 97)).trans (kk _ (.cells #[tv] 61))).trans (kk _ (.cells #[v] 42))).trans ((kk _ (.cells #[.slice none 0 0] 42)).trans (kk _ (.cells #[.func (.func 78) #[] #[.pointer (some ⟨w.heap.size+1+1+1,0,none⟩)]] 156)))
 exact⟨⟨hfree,ML.pure,hn,hr,hok,f1,f3,e5,⟨_,f4,World.ownsRow_nil _ _ _ _,fun k hk=>by cases hk⟩,⟨by omega,by omega,by omega,by omega⟩,⟨by omega,by omega,by omega,by omega,by simp⟩,⟨by omega,by omega,by omega⟩⟩,f2,ML,by simp⟩
def vI (w:World)(out:List Rec)(e:Ending)(w':World):Prop:= ∃v,e= .returned v/\Reads w' 3 v (recs out)/\(∀b,Value.blk v=some b->w.heap.size<=b)/\Kept none' w w'
theorem gU.fin {w W:World}{Bn Bi Bo Bg base:Nat}{na:Array Value}{nd:dA}{v:Value}{L out:List Rec}{S:Nat->Prop}(h:gU S w W Bn Bi Bo Bg base na nd v L out):
 ∃a cap,W.cell? ⟨Bo,0,none⟩=some (.slice a out.length cap)/\Reads W 3 (.slice a out.length cap) (recs out)/\ ∀b,Value.blk (.slice a out.length cap)=some b->w.heap.size<=b:=by
 obtain⟨u,h1,h2,h3⟩:=h.out
 obtain⟨a,cap,rfl⟩:=ay h2
 exact⟨a,cap,cells_at h1 rfl,Reads.aZ h2,fun b hb=>by have:=(qV h2 hb).1;have:=h.lo;have:=h.hi;omega⟩
theorem step_map {nd:dA}(h:nd.kind=2)(r:Rec):(aJ nd [] r).1=[{r with val:=dK nd.x (aB r)}]:=by
 unfold aJ
 rw[if_pos h]
theorem adb (na:Array Value)(nd:dA)(tv v:Value)(L:List Rec)(w:World)(hn:eP w na nd)(hk:nd.kind=2)(hr:Reads w 3 v (recs L))(hok: ∀r∈L,aU r)(hlen:L.length<=100000000)(ht: ∃p,tv= .pointer p):
 Calls Tryz.prog 47 #[.agg na,tv,v] w (vI w (iE nd L)):=by
 obtain⟨tp,rfl⟩:=ht
 obtain⟨va,ig,rfl,hv1,hv2⟩:=hr.len
 obtain⟨uid,inv,p,cap,rfl,hx,hk0,hk1,nY⟩:=hn
 have hp:jB nd.kind:=by unfold jB;rw[hk];omega
 have N:=Lib.hid (show eP w _ nd from⟨uid,inv,p,cap,rfl,hx,hk0,hk1,nY⟩)
 have HR:=Lib.hid hr
 have jg:=Lib.hid hok
 have HP:=Lib.hid hp
 have HK:=Lib.hid hk
 obtain⟨kk,hkk⟩: ∃kk,nd.kind=kk:=⟨_,rfl⟩
 rw[hkk]at hk N⊢
 subst hk
 have HKK:=Lib.hid hkk
 clear hx hr hok hp hkk hk0 hk1
 go_enter Tryz.func47,Tryz.ntmps47
 go_wp2_with fail
 obtain⟨W0,hW0⟩: ∃W0,((((w.alloc (.cells #[.string uid, .int .u8 2,inv, .int .u8 nd.x.op, .int .i64 nd.x.n, .slice p nd.x.args.length cap, .int .i64 nd.n] 97)).alloc (.cells #[.pointer tp] 61)).alloc (.cells #[.slice va L.length ig] 42)).alloc (.cells #[.slice none 0 0] 42)).alloc (.cells #[.func (.func 78) #[] #[.pointer (some ⟨w.heap.size+1+1+1,0,none⟩)]] 156)=W0:=⟨_,rfl⟩
 rw[hW0]
 obtain⟨i1,i2,i3,i4⟩:=gU.init (S:=none') (fun _ h=>h.elim) N.out HR.out jg.out hW0
 have c:=rC 79 #[.pointer (some ⟨w.heap.size,0,none⟩), .pointer (some ⟨w.heap.size+1+1+1+1,0,none⟩)] L (.slice va L.length ig) (w.heap.size+1+1) (fun k w'=>gU none' w w' w.heap.size (w.heap.size+1+1) (w.heap.size+1+1+1) (w.heap.size+1+1+1+1) (w.heap.size+5) _ nd (.slice va L.length ig) L (iE nd (L.take k))) W0
  (enters_of Tryz.func79 (by kernel_rfl) rfl) (fun k w' h=>⟨cells_at h.ins rfl,h.reads⟩) (fun k w' o h=>h.alloc o) i1 (fun k r w' hr h=>by
    have hs:=vV HP.out hr
    rw[step_map HK.out r]at hs
    have hl:=ny nd L [] k
    show Calls Tryz.prog 79 #[qo r,iC (aB r), .pointer (some ⟨w.heap.size,0,none⟩), .pointer (some ⟨w.heap.size+1+1+1+1,0,none⟩)] w' _
    refine(Y4 h r (jg.out r (List.mem_of_getElem? hr)) (by unfold iE;omega)).mono ?_
    rintro e w2 ⟨rfl,h2⟩
    rw[<-hs]at h2
    exact⟨rfl,h2⟩)
 (with_reducible refine c.mono ?_)
 clear c
 rintro e W1 ⟨rfl,d1⟩
 rw[List.take_of_length_le (Nat.le_refl _)]at d1
 obtain⟨a,nC,r1,r2,r3⟩:=d1.fin
 have F:=Lib.hid (show vI w (iE nd L) (.returned (.slice a (iE nd L).length nC)) W1 from⟨_,rfl,r2,r3,d1.kept⟩)
 clear d1 r2 r3 i1 i2 i3 i4 hW0
 go_wp2_with fail
 go_ret
 exact F.out
theorem XH {nd:dA}(h:nd.kind=5)(r:Rec):(aJ nd [] r).1=[{r with key:=dK nd.x (aB r)}]:=by
 unfold aJ
 rw[if_neg (by omega),if_pos h]
theorem ade (na:Array Value)(nd:dA)(tv v:Value)(L:List Rec)(w:World)(hn:eP w na nd)(hk:nd.kind=5)(hr:Reads w 3 v (recs L))(hok: ∀r∈L,aU r)(hlen:L.length<=100000000)(ht: ∃p,tv= .pointer p):
 Calls Tryz.prog 47 #[.agg na,tv,v] w (vI w (iE nd L)):=by
 obtain⟨tp,rfl⟩:=ht
 obtain⟨va,ig,rfl,hv1,hv2⟩:=hr.len
 obtain⟨uid,inv,p,cap,rfl,hx,hk0,hk1,nY⟩:=hn
 have hp:jB nd.kind:=by unfold jB;rw[hk];omega
 have N:=Lib.hid (show eP w _ nd from⟨uid,inv,p,cap,rfl,hx,hk0,hk1,nY⟩)
 have HR:=Lib.hid hr
 have jg:=Lib.hid hok
 have HP:=Lib.hid hp
 have HK:=Lib.hid hk
 obtain⟨kk,hkk⟩: ∃kk,nd.kind=kk:=⟨_,rfl⟩
 rw[hkk]at hk N⊢
 subst hk
 have HKK:=Lib.hid hkk
 clear hx hr hok hp hkk hk0 hk1
 go_enter Tryz.func47,Tryz.ntmps47
 go_wp2_with fail
 obtain⟨W0,hW0⟩: ∃W0,((((w.alloc (.cells #[.string uid, .int .u8 5,inv, .int .u8 nd.x.op, .int .i64 nd.x.n, .slice p nd.x.args.length cap, .int .i64 nd.n] 97)).alloc (.cells #[.pointer tp] 61)).alloc (.cells #[.slice va L.length ig] 42)).alloc (.cells #[.slice none 0 0] 42)).alloc (.cells #[.func (.func 78) #[] #[.pointer (some ⟨w.heap.size+1+1+1,0,none⟩)]] 156)=W0:=⟨_,rfl⟩
 rw[hW0]
 obtain⟨i1,i2,i3,i4⟩:=gU.init (S:=none') (fun _ h=>h.elim) N.out HR.out jg.out hW0
 have c:=rC 81 #[.pointer (some ⟨w.heap.size,0,none⟩), .pointer (some ⟨w.heap.size+1+1+1+1,0,none⟩)] L (.slice va L.length ig) (w.heap.size+1+1) (fun k w'=>gU none' w w' w.heap.size (w.heap.size+1+1) (w.heap.size+1+1+1) (w.heap.size+1+1+1+1) (w.heap.size+5) _ nd (.slice va L.length ig) L (iE nd (L.take k))) W0
  (enters_of Tryz.func81 (by kernel_rfl) rfl) (fun k w' h=>⟨cells_at h.ins rfl,h.reads⟩) (fun k w' o h=>h.alloc o) i1 (fun k r w' hr h=>by
    have hs:=vV HP.out hr
    rw[XH HK.out r]at hs
    have hl:=ny nd L [] k
    show Calls Tryz.prog 81 #[qo r,iC (aB r), .pointer (some ⟨w.heap.size,0,none⟩), .pointer (some ⟨w.heap.size+1+1+1+1,0,none⟩)] w' _
    refine(Y5 h r (jg.out r (List.mem_of_getElem? hr)) (by unfold iE;omega)).mono ?_
    rintro e w2 ⟨rfl,h2⟩
    rw[<-hs]at h2
    exact⟨rfl,h2⟩)
 (with_reducible refine c.mono ?_)
 clear c
 rintro e W1 ⟨rfl,d1⟩
 rw[List.take_of_length_le (Nat.le_refl _)]at d1
 obtain⟨a,nC,r1,r2,r3⟩:=d1.fin
 have F:=Lib.hid (show vI w (iE nd L) (.returned (.slice a (iE nd L).length nC)) W1 from⟨_,rfl,r2,r3,d1.kept⟩)
 clear d1 r2 r3 i1 i2 i3 i4 hW0
 go_wp2_with fail
 go_ret
 exact F.out
theorem step_filter {nd:dA}(h:nd.kind=3)(r:Rec):(aJ nd [] r).1=Si (sS nd.x (aB r)) r:=by
 unfold aJ
 rw[if_neg (by omega),if_neg (by omega),if_pos h];rfl
theorem WI (na:Array Value)(nd:dA)(tv v:Value)(L:List Rec)(w:World)(hn:eP w na nd)(hk:nd.kind=3)(hr:Reads w 3 v (recs L))(hok: ∀r∈L,aU r)(hlen:L.length<=100000000)(ht: ∃p,tv= .pointer p):
 Calls Tryz.prog 47 #[.agg na,tv,v] w (vI w (iE nd L)):=by
 obtain⟨tp,rfl⟩:=ht
 obtain⟨va,ig,rfl,hv1,hv2⟩:=hr.len
 obtain⟨uid,inv,p,cap,rfl,hx,hk0,hk1,nY⟩:=hn
 have hp:jB nd.kind:=by unfold jB;rw[hk];omega
 have N:=Lib.hid (show eP w _ nd from⟨uid,inv,p,cap,rfl,hx,hk0,hk1,nY⟩)
 have HR:=Lib.hid hr
 have jg:=Lib.hid hok
 have HP:=Lib.hid hp
 have HK:=Lib.hid hk
 obtain⟨kk,hkk⟩: ∃kk,nd.kind=kk:=⟨_,rfl⟩
 rw[hkk]at hk N⊢
 subst hk
 have HKK:=Lib.hid hkk
 clear hx hr hok hp hkk hk0 hk1
 go_enter Tryz.func47,Tryz.ntmps47
 go_wp2_with fail
 obtain⟨W0,hW0⟩: ∃W0,((((w.alloc (.cells #[.string uid, .int .u8 3,inv, .int .u8 nd.x.op, .int .i64 nd.x.n, .slice p nd.x.args.length cap, .int .i64 nd.n] 97)).alloc (.cells #[.pointer tp] 61)).alloc (.cells #[.slice va L.length ig] 42)).alloc (.cells #[.slice none 0 0] 42)).alloc (.cells #[.func (.func 78) #[] #[.pointer (some ⟨w.heap.size+1+1+1,0,none⟩)]] 156)=W0:=⟨_,rfl⟩
 rw[hW0]
 obtain⟨i1,i2,i3,i4⟩:=gU.init (S:=none') (fun _ h=>h.elim) N.out HR.out jg.out hW0
 have c:=rC 82 #[.pointer (some ⟨w.heap.size,0,none⟩), .pointer (some ⟨w.heap.size+1+1+1+1,0,none⟩)] L (.slice va L.length ig) (w.heap.size+1+1) (fun k w'=>gU none' w w' w.heap.size (w.heap.size+1+1) (w.heap.size+1+1+1) (w.heap.size+1+1+1+1) (w.heap.size+5) _ nd (.slice va L.length ig) L (iE nd (L.take k))) W0
  (enters_of Tryz.func82 (by kernel_rfl) rfl) (fun k w' h=>⟨cells_at h.ins rfl,h.reads⟩) (fun k w' o h=>h.alloc o) i1 (fun k r w' hr h=>by
    have hs:=vV HP.out hr
    rw[step_filter HK.out r]at hs
    have hl:=ny nd L [] k
    show Calls Tryz.prog 82 #[qo r,iC (aB r), .pointer (some ⟨w.heap.size,0,none⟩), .pointer (some ⟨w.heap.size+1+1+1+1,0,none⟩)] w' _
    refine(Pj h r (jg.out r (List.mem_of_getElem? hr)) (by unfold iE;omega)).mono ?_
    rintro e w2 ⟨rfl,h2⟩
    rw[<-hs]at h2
    exact⟨rfl,h2⟩)
 (with_reducible refine c.mono ?_)
 clear c
 rintro e W1 ⟨rfl,d1⟩
 rw[List.take_of_length_le (Nat.le_refl _)]at d1
 obtain⟨a,nC,r1,r2,r3⟩:=d1.fin
 have F:=Lib.hid (show vI w (iE nd L) (.returned (.slice a (iE nd L).length nC)) W1 from⟨_,rfl,r2,r3,d1.kept⟩)
 clear d1 r2 r3 i1 i2 i3 i4 hW0
 go_wp2_with fail
 go_ret
 exact F.out
theorem UG {nd:dA}(h:nd.kind=4)(r:Rec):(aJ nd [] r).1=kU r (jS (dK nd.x (aB r))):=by
 unfold aJ
 rw[if_neg (by omega),if_neg (by omega),if_neg (by omega),if_pos h]
theorem aaS (na:Array Value)(nd:dA)(tv v:Value)(L:List Rec)(w:World)(hn:eP w na nd)(hk:nd.kind=4)(hr:Reads w 3 v (recs L))(hok: ∀r∈L,aU r)(hlen:L.length<=100000000)(ht: ∃p,tv= .pointer p):
 Calls Tryz.prog 47 #[.agg na,tv,v] w (vI w (iE nd L)):=by
 obtain⟨tp,rfl⟩:=ht
 obtain⟨va,ig,rfl,hv1,hv2⟩:=hr.len
 obtain⟨uid,inv,p,cap,rfl,hx,hk0,hk1,nY⟩:=hn
 have hp:jB nd.kind:=by unfold jB;rw[hk];omega
 have N:=Lib.hid (show eP w _ nd from⟨uid,inv,p,cap,rfl,hx,hk0,hk1,nY⟩)
 have HR:=Lib.hid hr
 have jg:=Lib.hid hok
 have HP:=Lib.hid hp
 have HK:=Lib.hid hk
 obtain⟨kk,hkk⟩: ∃kk,nd.kind=kk:=⟨_,rfl⟩
 rw[hkk]at hk N⊢
 subst hk
 have HKK:=Lib.hid hkk
 clear hx hr hok hp hkk hk0 hk1
 go_enter Tryz.func47,Tryz.ntmps47
 go_wp2_with fail
 obtain⟨W0,hW0⟩: ∃W0,((((w.alloc (.cells #[.string uid, .int .u8 4,inv, .int .u8 nd.x.op, .int .i64 nd.x.n, .slice p nd.x.args.length cap, .int .i64 nd.n] 97)).alloc (.cells #[.pointer tp] 61)).alloc (.cells #[.slice va L.length ig] 42)).alloc (.cells #[.slice none 0 0] 42)).alloc (.cells #[.func (.func 78) #[] #[.pointer (some ⟨w.heap.size+1+1+1,0,none⟩)]] 156)=W0:=⟨_,rfl⟩
 rw[hW0]
 obtain⟨i1,i2,i3,i4⟩:=gU.init (S:=none') (fun _ h=>h.elim) N.out HR.out jg.out hW0
 have c:=rC 84 #[.pointer (some ⟨w.heap.size,0,none⟩), .pointer (some ⟨w.heap.size+1+1+1+1,0,none⟩)] L (.slice va L.length ig) (w.heap.size+1+1) (fun k w'=>gU none' w w' w.heap.size (w.heap.size+1+1) (w.heap.size+1+1+1) (w.heap.size+1+1+1+1) (w.heap.size+5) _ nd (.slice va L.length ig) L (iE nd (L.take k))) W0
  (enters_of Tryz.func84 (by kernel_rfl) rfl) (fun k w' h=>⟨cells_at h.ins rfl,h.reads⟩) (fun k w' o h=>h.alloc o) i1 (fun k r w' hr h=>by
    have hs:=vV HP.out hr
    rw[UG HK.out r]at hs
    have hl:=ny nd L [] k
    show Calls Tryz.prog 84 #[qo r,iC (aB r), .pointer (some ⟨w.heap.size,0,none⟩), .pointer (some ⟨w.heap.size+1+1+1+1,0,none⟩)] w' _
    refine(WL h r (jg.out r (List.mem_of_getElem? hr)) (by unfold iE;omega)).mono ?_
    rintro e w2 ⟨rfl,h2⟩
    rw[<-hs]at h2
    exact⟨rfl,h2⟩)
 (with_reducible refine c.mono ?_)
 clear c
 rintro e W1 ⟨rfl,d1⟩
 rw[List.take_of_length_le (Nat.le_refl _)]at d1
 obtain⟨a,nC,r1,r2,r3⟩:=d1.fin
 have F:=Lib.hid (show vI w (iE nd L) (.returned (.slice a (iE nd L).length nC)) W1 from⟨_,rfl,r2,r3,d1.kept⟩)
 clear d1 r2 r3 i1 i2 i3 i4 hW0
 go_wp2_with fail
 go_ret
 exact F.out
theorem step_other {nd:dA}(h:jB nd.kind)(h':nd.kind≠2/\nd.kind≠3/\nd.kind≠4/\nd.kind≠5)(r:Rec):(aJ nd [] r).1=[r]:=by
 obtain⟨h1,h2⟩:=h
 obtain⟨a,b,c,d⟩:=h'
 unfold aJ
 rw[if_neg a,if_neg d,if_neg b,if_neg c,if_neg h1,if_neg h2]
theorem DV {nd:dA}(h:jB nd.kind)(h':nd.kind≠2/\nd.kind≠3/\nd.kind≠4/\nd.kind≠5): ∀L:List Rec,iE nd L=L
 |[]=>rfl
 |r::L=>by
  have:=DV h h' L
  unfold iE at this⊢
  simp only[aN]
  rw[step_other h h',step_plain h [] r,this];rfl
theorem Y0 (na:Array Value)(nd:dA)(tv v:Value)(L:List Rec)(w:World)(hn:eP w na nd)(hp:jB nd.kind)(hk:nd.kind≠2/\nd.kind≠3/\nd.kind≠4/\nd.kind≠5)(hr:Reads w 3 v (recs L))(hok: ∀r∈L,aU r)(hlen:L.length<=100000000)(ht: ∃p,tv= .pointer p):
 Calls Tryz.prog 47 #[.agg na,tv,v] w (vI w (iE nd L)):=by
 rw[DV hp hk]
 obtain⟨tp,rfl⟩:=ht
 obtain⟨va,ig,rfl,hv1,hv2⟩:=hr.len
 obtain⟨uid,inv,p,cap,rfl,hx,hk0,hk1,nY⟩:=hn
 have N:=Lib.hid (show eP w _ nd from⟨uid,inv,p,cap,rfl,hx,hk0,hk1,nY⟩)
 have HR:=Lib.hid hr
 have jg:=Lib.hid hok
 obtain⟨p6,p7⟩:=hp
 obtain⟨p2,p3,p4,p5⟩:=hk
 have q2:(nd.kind==2)=false:=by simp[p2]
 have q3:(nd.kind==3)=false:=by simp[p3]
 have q4:(nd.kind==4)=false:=by simp[p4]
 have q5:(nd.kind==5)=false:=by simp[p5]
 have q6:(nd.kind==6)=false:=by simp[p6]
 have q7:(nd.kind==7)=false:=by simp[p7]
 clear hx hr hok p2 p3 p4 p5 p6 p7
 go_enter Tryz.func47,Tryz.ntmps47
 go_wp2_with fail
 obtain⟨W0,hW0⟩: ∃W0,((((w.alloc (.cells #[.string uid, .int .u8 nd.kind,inv, .int .u8 nd.x.op, .int .i64 nd.x.n, .slice p nd.x.args.length cap, .int .i64 nd.n] 97)).alloc (.cells #[.pointer tp] 61)).alloc (.cells #[.slice va L.length ig] 42)).alloc (.cells #[.slice none 0 0] 42)).alloc (.cells #[.func (.func 78) #[] #[.pointer (some ⟨w.heap.size+1+1+1,0,none⟩)]] 156)=W0:=⟨_,rfl⟩
 rw[hW0]
 obtain⟨i1,i2,i3,i4⟩:=gU.init (S:=none') (fun _ h=>h.elim) N.out HR.out jg.out hW0
 have c:=GU (.slice va L.length ig) (recs L) W0 (HR.out.pure i3) (uH L) (by rw[dH];omega)
 (with_reducible refine c.mono ?_)
 clear c
 rintro e W1 ⟨v',n',rfl,g1,g2,g3⟩
 obtain⟨oa,oc,rfl⟩:=ay g1
 rw[dH]at g2
 have hn':n'=L.length:=by omega
 subst hn'
 obtain⟨u,h1,h2,h3⟩:=i1.out
 have hB:=g3.heap h1 (fun h=>h)
 have s0:W1.cell? ⟨w.heap.size+1+1+1,0,none⟩=some u:=cells_at hB rfl
 have s1:=free_at hB 0
 have hrow:=Reads.aZ g1
 have Ae:Kept (one (w.heap.size+1+1+1)) W1 (W1.setCell ⟨w.heap.size+1+1+1,0,none⟩ (.slice oa L.length oc)):=(Kept.refl (one (w.heap.size+1+1+1)) W1).setCell (p:=⟨w.heap.size+1+1+1,0,none⟩) (.inl rfl) _
 have F:=Lib.hid (show vI w L (.returned (.slice oa L.length oc)) (W1.setCell ⟨w.heap.size+1+1+1,0,none⟩ (.slice oa L.length oc))from
  ⟨_,rfl,hrow.kept Ae (fun b hb e=>by have:=(qV g1 hb).1;unfold one at e;omega),fun b hb=>by have:=(qV g1 hb).1;omega,(i3.trans g3).new Ae (fun i hi e=>by unfold one at e;omega)⟩)
 clear g1 g2 g3 hB h1 h2 h3 hrow Ae i1 i2 i3 hW0
 go_wp2_with fail
 go_ret
 exact F.out
theorem FD (na:Array Value)(nd:dA)(tv v:Value)(L:List Rec)(w:World)(hn:eP w na nd)(hp:jB nd.kind)(hr:Reads w 3 v (recs L))(hok: ∀r∈L,aU r)(hlen:L.length<=100000000)(ht: ∃p,tv= .pointer p):
 Calls Tryz.prog 47 #[.agg na,tv,v] w (vI w (iE nd L)):=by
 by_cases h2:nd.kind=2
 ·exact adb na nd tv v L w hn h2 hr hok hlen ht
 ·by_cases h5:nd.kind=5
  ·exact ade na nd tv v L w hn h5 hr hok hlen ht
  ·by_cases h3:nd.kind=3
   ·exact WI na nd tv v L w hn h3 hr hok hlen ht
   ·by_cases h4:nd.kind=4
    ·exact aaS na nd tv v L w hn h4 hr hok hlen ht
    ·exact Y0 na nd tv v L w hn hp ⟨h2,h3,h4,h5⟩ hr hok hlen ht
abbrev zy:Nat->Prop:=fun _=>True
theorem TabAt.any {w:World}{M:Nat->Prop}{b m:Nat}{T:Tab}(h:TabAt w M b m T):TabAt w zy b m T:=h.mono (fun _ _ _=>trivial)
theorem TabAt.jK {w:World}{M:Nat->Prop}{b m:Nat}{T:Tab}(h:TabAt w M b m T): ∀c E f,w.heap[m]?≠some (.cells c E f):=by
 obtain⟨l,hl,_⟩:=h.map
 obtain⟨L,cl,hL,_⟩:=hl
 intro c E f e
 rw[hL.heap]at e;cases e
def Oi (M:Nat->Prop)(w:World)(tb tm:Nat)(out:List Rec)(T:Tab)(e:Ending)(w':World):Prop:=
 ∃v,e= .returned v/\Reads w' 3 v (recs out)/\(∀b,Value.blk v=some b->w.heap.size<=b)/\TabAt w' (fun k=>M k\/w.heap.size<=k) tb tm T/\Kept (one tm) w w'
theorem Ox {nd:dA}(h:nd.kind=6)(T:Tab)(r:Rec):aJ nd T r=(CW T r (dK nd.x {aB r with acc:=(cellOf T r.key).1}),iM T r.key (dK nd.x {aB r with acc:=(cellOf T r.key).1},[])):=by
 unfold aJ CW
 rw[if_neg (by omega),if_neg (by omega),if_neg (by omega),if_neg (by omega),if_pos h]
theorem Ov {nd:dA}(h:nd.kind=7)(T:Tab)(r:Rec):aJ nd T r=(CP T r nd.n ((cellOf T r.key).2++[r.val]),CO T r nd.n (cellOf T r.key).1 ((cellOf T r.key).2++[r.val])):=by
 unfold aJ CP CO CQ
 rw[if_neg (by omega),if_neg (by omega),if_neg (by omega),if_neg (by omega),if_neg (by omega),if_pos h,List.length_append]
 simp only[List.length_cons,List.length_nil,Nat.zero_add]
 split<;>rfl
theorem Cc {nd:dA}{T:Tab}{L:List Rec}{k:Nat}{r:Rec}(hr:L[k]?=some r):aN nd T (L.take (k+1))=((aN nd T (L.take k)).1++(aJ nd (aN nd T (L.take k)).2 r).1,(aJ nd (aN nd T (L.take k)).2 r).2):=by
 rw[List.take_add_one,hr];exact xu nd r (L.take k) T
theorem WG (na:Array Value)(nd:dA)(tb tm:Nat)(T:Tab)(M:Nat->Prop)(v:Value)(L:List Rec)(w:World)(hn:eP w na nd)(hk:nd.kind=6)(hr:Reads w 3 v (recs L))(hok: ∀r∈L,aU r)(hlen:L.length<=100000000)(ht:TabAt w M tb tm T):
 Calls Tryz.prog 47 #[.agg na, .pointer (some ⟨tb,0,none⟩),v] w (Oi M w tb tm (aN nd T L).1 (aN nd T L).2):=by
 obtain⟨va,ig,rfl,hv1,hv2⟩:=hr.len
 obtain⟨uid,inv,p,cap,rfl,hx,hk0,hk1,nY⟩:=hn
 have htl:=ht.lt
 have N:=Lib.hid (show eP w _ nd from⟨uid,inv,p,cap,rfl,hx,hk0,hk1,nY⟩)
 have HR:=Lib.hid hr
 have jg:=Lib.hid hok
 have HK:=Lib.hid hk
 have HT:=Lib.hid ht
 obtain⟨kk,hkk⟩: ∃kk,nd.kind=kk:=⟨_,rfl⟩
 rw[hkk]at hk N⊢
 subst hk
 have HKK:=Lib.hid hkk
 clear hx hr hok hkk hk0 hk1 ht
 go_enter Tryz.func47,Tryz.ntmps47
 go_wp2_with fail
 obtain⟨W0,hW0⟩: ∃W0,((((w.alloc (.cells #[.string uid, .int .u8 6,inv, .int .u8 nd.x.op, .int .i64 nd.x.n, .slice p nd.x.args.length cap, .int .i64 nd.n] 97)).alloc (.cells #[.pointer (some ⟨tb,0,none⟩)] 61)).alloc (.cells #[.slice va L.length ig] 42)).alloc (.cells #[.slice none 0 0] 42)).alloc (.cells #[.func (.func 78) #[] #[.pointer (some ⟨w.heap.size+1+1+1,0,none⟩)]] 156)=W0:=⟨_,rfl⟩
 rw[hW0]
 obtain⟨i1,i2,i3,i4⟩:=gU.init (S:=one tm) (fun k h=>by unfold one at h;subst h;exact⟨htl.1,HT.out.jK⟩) N.out HR.out jg.out hW0
 have i5:rE M w W0 w.heap.size (w.heap.size+1+1) (w.heap.size+1+1+1) (w.heap.size+1+1+1+1) (w.heap.size+1) (w.heap.size+5) tb tm #[.string uid, .int .u8 6,inv, .int .u8 nd.x.op, .int .i64 nd.x.n, .slice p nd.x.args.length cap, .int .i64 nd.n] nd (.slice va L.length ig) L [] T:=by
  refine⟨i1,i2,⟨by omega,by omega,by omega,htl.1⟩,⟨fun _=>False,fun k=>M k/\k<w.heap.size,?_,(HT.out.mono (fun k h hl=>⟨h,hl⟩)).pure i3,fun _ h=>h.elim,fun h=>by omega,fun _ h=>h.elim,fun k h=> .inl h.1⟩⟩
  obtain⟨u,h1,h2,h3⟩:=i1.out
  refine⟨u,h1,h2,fun k hk=>?_⟩
  have e1:=(fP h2 hk).1
  have e2:=(fP h2 hk).2
  omega
 have c:=rC 85 #[.pointer (some ⟨w.heap.size+1,0,none⟩), .pointer (some ⟨w.heap.size,0,none⟩), .pointer (some ⟨w.heap.size+1+1+1+1,0,none⟩)] L (.slice va L.length ig) (w.heap.size+1+1) (fun k w'=>rE M w w' w.heap.size (w.heap.size+1+1) (w.heap.size+1+1+1) (w.heap.size+1+1+1+1) (w.heap.size+1) (w.heap.size+5) tb tm _ nd (.slice va L.length ig) L (aN nd T (L.take k)).1 (aN nd T (L.take k)).2) W0
  (enters_of Tryz.func85 (by kernel_rfl) rfl) (fun k w' h=>⟨cells_at h.st.ins rfl,h.st.reads⟩) (fun k w' o h=>h.alloc o) i5 (fun k r w' hr h=>by
    have hs:=Cc (nd:=nd) (T:=T) hr
    rw[Ox HK.out]at hs
    have hl:=ny nd L T k
    show Calls Tryz.prog 85 #[qo r,iC (aB r), .pointer (some ⟨w.heap.size+1,0,none⟩), .pointer (some ⟨w.heap.size,0,none⟩), .pointer (some ⟨w.heap.size+1+1+1+1,0,none⟩)] w' _
    refine(Ph h r (jg.out r (List.mem_of_getElem? hr)) (by omega)).mono ?_
    rintro e w2 ⟨rfl,h2⟩
    refine⟨rfl,?_⟩
    simp only[hs]
    exact h2)
 (with_reducible refine c.mono ?_)
 clear c
 rintro e W1 ⟨rfl,d1⟩
 rw[List.take_of_length_le (Nat.le_refl _)]at d1
 obtain⟨a,nC,r1,r2,r3⟩:=d1.st.fin
 obtain⟨A,M',_,t1,_,_,_,t1m⟩:=d1.sep
 have F:=Lib.hid (show Oi M w tb tm (aN nd T L).1 (aN nd T L).2 (.returned (.slice a (aN nd T L).1.length nC)) W1 from⟨_,rfl,r2,r3,t1.mono (fun k hk _=>(t1m k hk).imp id (fun h=>by omega)),d1.st.kept⟩)
 clear d1 r2 r3 i1 i2 i3 i4 i5 hW0 t1
 go_wp2_with fail
 go_ret
 exact F.out
theorem WC (na:Array Value)(nd:dA)(tb tm:Nat)(T:Tab)(M:Nat->Prop)(v:Value)(L:List Rec)(w:World)(hn:eP w na nd)(hk:nd.kind=7)(hr:Reads w 3 v (recs L))(hok: ∀r∈L,aU r)(hlen:L.length<=100000000)(ht:TabAt w M tb tm T):
 Calls Tryz.prog 47 #[.agg na, .pointer (some ⟨tb,0,none⟩),v] w (Oi M w tb tm (aN nd T L).1 (aN nd T L).2):=by
 obtain⟨va,ig,rfl,hv1,hv2⟩:=hr.len
 obtain⟨uid,inv,p,cap,rfl,hx,hk0,hk1,nY⟩:=hn
 have htl:=ht.lt
 have N:=Lib.hid (show eP w _ nd from⟨uid,inv,p,cap,rfl,hx,hk0,hk1,nY⟩)
 have HR:=Lib.hid hr
 have jg:=Lib.hid hok
 have HK:=Lib.hid hk
 have HT:=Lib.hid ht
 obtain⟨kk,hkk⟩: ∃kk,nd.kind=kk:=⟨_,rfl⟩
 rw[hkk]at hk N⊢
 subst hk
 have HKK:=Lib.hid hkk
 clear hx hr hok hkk hk0 hk1 ht
 go_enter Tryz.func47,Tryz.ntmps47
 go_wp2_with fail
 obtain⟨W0,hW0⟩: ∃W0,((((w.alloc (.cells #[.string uid, .int .u8 7,inv, .int .u8 nd.x.op, .int .i64 nd.x.n, .slice p nd.x.args.length cap, .int .i64 nd.n] 97)).alloc (.cells #[.pointer (some ⟨tb,0,none⟩)] 61)).alloc (.cells #[.slice va L.length ig] 42)).alloc (.cells #[.slice none 0 0] 42)).alloc (.cells #[.func (.func 78) #[] #[.pointer (some ⟨w.heap.size+1+1+1,0,none⟩)]] 156)=W0:=⟨_,rfl⟩
 rw[hW0]
 obtain⟨i1,i2,i3,i4⟩:=gU.init (S:=one tm) (fun k h=>by unfold one at h;subst h;exact⟨htl.1,HT.out.jK⟩) N.out HR.out jg.out hW0
 have i5:rE M w W0 w.heap.size (w.heap.size+1+1) (w.heap.size+1+1+1) (w.heap.size+1+1+1+1) (w.heap.size+1) (w.heap.size+5) tb tm #[.string uid, .int .u8 7,inv, .int .u8 nd.x.op, .int .i64 nd.x.n, .slice p nd.x.args.length cap, .int .i64 nd.n] nd (.slice va L.length ig) L [] T:=by
  refine⟨i1,i2,⟨by omega,by omega,by omega,htl.1⟩,⟨fun _=>False,fun k=>M k/\k<w.heap.size,?_,(HT.out.mono (fun k h hl=>⟨h,hl⟩)).pure i3,fun _ h=>h.elim,fun h=>by omega,fun _ h=>h.elim,fun k h=> .inl h.1⟩⟩
  obtain⟨u,h1,h2,h3⟩:=i1.out
  refine⟨u,h1,h2,fun k hk=>?_⟩
  have e1:=(fP h2 hk).1
  have e2:=(fP h2 hk).2
  omega
 have c:=rC 87 #[.pointer (some ⟨w.heap.size+1,0,none⟩), .pointer (some ⟨w.heap.size,0,none⟩), .pointer (some ⟨w.heap.size+1+1+1+1,0,none⟩)] L (.slice va L.length ig) (w.heap.size+1+1) (fun k w'=>rE M w w' w.heap.size (w.heap.size+1+1) (w.heap.size+1+1+1) (w.heap.size+1+1+1+1) (w.heap.size+1) (w.heap.size+5) tb tm _ nd (.slice va L.length ig) L (aN nd T (L.take k)).1 (aN nd T (L.take k)).2) W0
  (enters_of Tryz.func87 (by kernel_rfl) rfl) (fun k w' h=>⟨cells_at h.st.ins rfl,h.st.reads⟩) (fun k w' o h=>h.alloc o) i5 (fun k r w' hr h=>by
    have hs:=Cc (nd:=nd) (T:=T) hr
    rw[Ov HK.out]at hs
    have hl:=ny nd L T k
    show Calls Tryz.prog 87 #[qo r,iC (aB r), .pointer (some ⟨w.heap.size+1,0,none⟩), .pointer (some ⟨w.heap.size,0,none⟩), .pointer (some ⟨w.heap.size+1+1+1+1,0,none⟩)] w' _
    refine(Pg h r (jg.out r (List.mem_of_getElem? hr)) (by omega)).mono ?_
    rintro e w2 ⟨rfl,h2⟩
    refine⟨rfl,?_⟩
    simp only[hs]
    exact h2)
 (with_reducible refine c.mono ?_)
 clear c
 rintro e W1 ⟨rfl,d1⟩
 rw[List.take_of_length_le (Nat.le_refl _)]at d1
 obtain⟨a,nC,r1,r2,r3⟩:=d1.st.fin
 obtain⟨A,M',_,t1,_,_,_,t1m⟩:=d1.sep
 have F:=Lib.hid (show Oi M w tb tm (aN nd T L).1 (aN nd T L).2 (.returned (.slice a (aN nd T L).1.length nC)) W1 from⟨_,rfl,r2,r3,t1.mono (fun k hk _=>(t1m k hk).imp id (fun h=>by omega)),d1.st.kept⟩)
 clear d1 r2 r3 i1 i2 i3 i4 i5 hW0 t1
 go_wp2_with fail
 go_ret
 exact F.out
theorem Qo (na:Array Value)(nd:dA)(tb tm:Nat)(T:Tab)(M:Nat->Prop)(v:Value)(L:List Rec)(w:World)(hn:eP w na nd)(hr:Reads w 3 v (recs L))(hok: ∀r∈L,aU r)(hlen:L.length<=100000000)(ht:TabAt w M tb tm T):
 Calls Tryz.prog 47 #[.agg na, .pointer (some ⟨tb,0,none⟩),v] w (Oi M w tb tm (aN nd T L).1 (aN nd T L).2):=by
 by_cases h6:nd.kind=6
 ·exact WG na nd tb tm T M v L w hn h6 hr hok hlen ht
 ·by_cases h7:nd.kind=7
  ·exact WC na nd tb tm T M v L w hn h7 hr hok hlen ht
  ·rw[zk ⟨h6,h7⟩]
   refine(FD na nd _ v L w hn ⟨h6,h7⟩ hr hok hlen ⟨_,rfl⟩).mono ?_
   rintro e w' ⟨u,rfl,h1,h2,h3⟩
   exact⟨u,rfl,h1,h2,(ht.pure h3).mono (fun k hk _=> .inl hk),h3.pure⟩
end
section
open Go Go.RowKit
attribute [local irreducible] bU
def ex2 (op a b:Int):Ex:= .mk op 0 [.mk a 0 [], .mk b 0 []]
theorem aC.leaf (w:World)(a:Int)(h0:0<=a)(h1:a<=255):aC w #[.int .u8 a, .int .i64 0, .slice none 0 0] (.mk a 0 []):=
 .mk h0 h1 dY (Reads.nil w 3) rfl (fun i x h=>by cases h)
theorem aC.two {w:World}{op a b:Int}{v:Value}(ho:0<=op/\op<=255)(ha:0<=a/\a<=255)(hb:0<=b/\b<=255)(hr:Reads w 3 v [.int .u8 a, .int .i64 0, .slice none 0 0, .int .u8 b, .int .i64 0, .slice none 0 0]):
 aC w #[.int .u8 op, .int .i64 0,v] (ex2 op a b):=by
 refine .mk ho.1 ho.2 dY hr rfl (fun i x h=>?_)
 match i,h with
 |0,h=>cases h;exact aC.leaf w a ha.1 ha.2
 |1,h=>cases h;exact aC.leaf w b hb.1 hb.2
end
end Go.Proofs.YtopeleenlcnkkaaGreatDoor
