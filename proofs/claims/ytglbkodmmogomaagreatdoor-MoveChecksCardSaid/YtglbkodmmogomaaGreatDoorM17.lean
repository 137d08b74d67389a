/- expr's reader: the levels. -/
import Derived.Test.YtglbkodmmogomaaGreatDoorM16
import Derived.Test.YtglbkodmmogomaaGreatDoorM13
set_option linter.unusedVariables false
set_option linter.unusedSimpArgs false
set_option maxHeartbeats 4000000
set_option maxRecDepth 100000
namespace Go.Proofs.YtglbkodmmogomaaGreatDoor
open Go Go.RowKit
attribute [local irreducible] bH
theorem oQ: ∀{l:List nU}{i:Nat}{s:nU},l[i]?=some s->(wO l)[i*2]?=some (.string s.1)/\(wO l)[i*2+1]?=some (.int .u8 s.2)
 |x::l,0,s,h=>by
  cases h
  exact⟨rfl,rfl⟩
 |x::l,i+1,s,h=>by
  have ih:=oQ (l:=l) (i:=i) (s:=s) (by simpa using h)
  rw[show(i+1)*2=i*2+1+1 by omega]
  unfold wO at ih⊢
  rw[List.flatMap_cons]
  exact ih
abbrev JR:List nU:=[(⟨#[42]⟩,9),(⟨#[47]⟩,10),(⟨#[37]⟩,11)]
def JU (l:List Tok):Option (Ex×List Tok):=rM vH JR 400 l
theorem OH (R:Nat)(e:Int):D8 276 R e JU:=by
 intro w l l' x h hl
 have hlt:=h.lt
 obtain⟨W0,hW0⟩: ∃W0,((w.alloc (.cells #[.int .u8 0, .int .i64 0, .slice none 0 0] 40)).alloc (.cells #[.string ⟨#[42]⟩, .int .u8 9, .string ⟨#[47]⟩, .int .u8 10, .string ⟨#[37]⟩, .int .u8 11] 305))=W0:=⟨_,rfl⟩
 have k0:Kept none' w W0:=by rw[<-hW0];exact((Kept.refl _ _).alloc _).alloc _
 have t0:W0.heap[w.heap.size]?=some (.cells #[.int .u8 0, .int .i64 0, .slice none 0 0] 40 (0,0)):=by
  rw[<-hW0]
  exact((Kept.refl none' _).alloc _).heap (heap_alloc_new w (.cells #[.int .u8 0, .int .i64 0, .slice none 0 0] 40)) (fun h=>h)
 have s0:W0.heap[w.heap.size+1]?=some (.cells (wO JR).toArray 305 (0,0)):=by
  rw[<-hW0]
  have:=heap_alloc_new (w.alloc (.cells #[.int .u8 0, .int .i64 0, .slice none 0 0] 40)) (.cells #[.string ⟨#[42]⟩, .int .u8 9, .string ⟨#[47]⟩, .int .u8 10, .string ⟨#[37]⟩, .int .u8 11] 305)
  rwa[World.size_alloc]at this
 have hsz0:W0.heap.size=w.heap.size+2:=by rw[<-hW0];simp
 have cr:Calls Tryz.prog 229 #[.pointer (some ⟨R,0,none⟩), .func (.func 278) #[.pointer (some ⟨R,0,none⟩)] #[], .int .i64 400, .slice (some ⟨w.heap.size+1,0,none⟩) 3 3] W0 (mQ W0 R e x l'):=
  uG R e 278 vH (enters_of Tryz.func278 (by kernel_rfl) rfl) (J5 R e) JR (w.heap.size+1) 400 W0 l l' x (h.pure k0) hl (by omega) (by decide) (by omega) (by decide)
   (fun i s hs=>by
     obtain⟨q0,q1⟩:=oQ hs
     exact⟨cells_at s0 (by rw[List.getElem?_toArray];exact q0),cells_at s0 (by rw[List.getElem?_toArray];exact q1)⟩) (by omega)
 have H:=Lib.hid (And.intro k0 (And.intro t0 hsz0))
 have HW:=Lib.hid hW0
 clear k0 t0 s0 hsz0 h hW0 hl
 go_enter Tryz.func276,Tryz.ntmps276
 go_wp2_with fail
 rw[HW.out]
 (with_reducible refine cr.mono ?_)
 clear cr
 rintro e' w5 ⟨p,c,D,rfl,hx,hD,r5,k5⟩
 have t5:=k5.heap H.out.2.1 (fun h=>by unfold one at h;omega)
 have f0:=free_at t5 0
 have f1:=free_at t5 1
 have f2:=free_at t5 2
 have z0:=cells_at t5 (j:=0) rfl
 have z1:=cells_at t5 (j:=1) rfl
 have z2:=cells_at t5 (j:=2) rfl
 have F:=mQ.wrap hlt H.out.1.pure (Array.getElem?_eq_some_iff.1 H.out.2.1).1 hx hD r5 k5 t5
 have s5:=(gX t5 (.int .u8 x.op) (.int .i64 x.n) (.slice p x.args.length c)).1
 have hs5:w.heap.size<w5.heap.size:=(Array.getElem?_eq_some_iff.1 t5).1
 clear hx hD r5 k5 t5
 go_wp2_with fail
 obtain⟨WF,ji⟩: ∃WF,(((w5.setCell ⟨w.heap.size,0,none⟩ (.int .u8 x.op)).setCell ⟨w.heap.size,1,none⟩ (.int .i64 x.n)).setCell ⟨w.heap.size,2,none⟩ (.slice p x.args.length c))=WF:=⟨_,rfl⟩
 rw[ji]at s5 F⊢
 have q0:=cells_at s5 (j:=0) rfl
 have q1:=cells_at s5 (j:=1) rfl
 have q2:=cells_at s5 (j:=2) rfl
 refine bodyPost_ret (v:= .agg (gu x p c).toArray) (by simp[results,Tryz.results276,go_sem,q0,q1,q2]) rfl F
abbrev OL:List nU:=[(⟨#[43]⟩,7),(⟨#[45]⟩,8)]
def sumP (l:List Tok):Option (Ex×List Tok):=rM JU OL 400 l
theorem sum_any (R:Nat)(e:Int):D8 272 R e sumP:=by
 intro w l l' x h hl
 have hlt:=h.lt
 obtain⟨W0,hW0⟩: ∃W0,((w.alloc (.cells #[.int .u8 0, .int .i64 0, .slice none 0 0] 40)).alloc (.cells #[.string ⟨#[43]⟩, .int .u8 7, .string ⟨#[45]⟩, .int .u8 8] 305))=W0:=⟨_,rfl⟩
 have k0:Kept none' w W0:=by rw[<-hW0];exact((Kept.refl _ _).alloc _).alloc _
 have t0:W0.heap[w.heap.size]?=some (.cells #[.int .u8 0, .int .i64 0, .slice none 0 0] 40 (0,0)):=by
  rw[<-hW0]
  exact((Kept.refl none' _).alloc _).heap (heap_alloc_new w (.cells #[.int .u8 0, .int .i64 0, .slice none 0 0] 40)) (fun h=>h)
 have s0:W0.heap[w.heap.size+1]?=some (.cells (wO OL).toArray 305 (0,0)):=by
  rw[<-hW0]
  have:=heap_alloc_new (w.alloc (.cells #[.int .u8 0, .int .i64 0, .slice none 0 0] 40)) (.cells #[.string ⟨#[43]⟩, .int .u8 7, .string ⟨#[45]⟩, .int .u8 8] 305)
  rwa[World.size_alloc]at this
 have hsz0:W0.heap.size=w.heap.size+2:=by rw[<-hW0];simp
 have cr:Calls Tryz.prog 229 #[.pointer (some ⟨R,0,none⟩), .func (.func 276) #[.pointer (some ⟨R,0,none⟩)] #[], .int .i64 400, .slice (some ⟨w.heap.size+1,0,none⟩) 2 2] W0 (mQ W0 R e x l'):=
  uG R e 276 JU (enters_of Tryz.func276 (by kernel_rfl) rfl) (OH R e) OL (w.heap.size+1) 400 W0 l l' x (h.pure k0) hl (by omega) (by decide) (by omega) (by decide)
   (fun i s hs=>by
     obtain⟨q0,q1⟩:=oQ hs
     exact⟨cells_at s0 (by rw[List.getElem?_toArray];exact q0),cells_at s0 (by rw[List.getElem?_toArray];exact q1)⟩) (by omega)
 have H:=Lib.hid (And.intro k0 (And.intro t0 hsz0))
 have HW:=Lib.hid hW0
 clear k0 t0 s0 hsz0 h hW0 hl
 go_enter Tryz.func272,Tryz.ntmps272
 go_wp2_with fail
 rw[HW.out]
 (with_reducible refine cr.mono ?_)
 clear cr
 rintro e' w5 ⟨p,c,D,rfl,hx,hD,r5,k5⟩
 have t5:=k5.heap H.out.2.1 (fun h=>by unfold one at h;omega)
 have f0:=free_at t5 0
 have f1:=free_at t5 1
 have f2:=free_at t5 2
 have z0:=cells_at t5 (j:=0) rfl
 have z1:=cells_at t5 (j:=1) rfl
 have z2:=cells_at t5 (j:=2) rfl
 have F:=mQ.wrap hlt H.out.1.pure (Array.getElem?_eq_some_iff.1 H.out.2.1).1 hx hD r5 k5 t5
 have s5:=(gX t5 (.int .u8 x.op) (.int .i64 x.n) (.slice p x.args.length c)).1
 have hs5:w.heap.size<w5.heap.size:=(Array.getElem?_eq_some_iff.1 t5).1
 clear hx hD r5 k5 t5
 go_wp2_with fail
 obtain⟨WF,ji⟩: ∃WF,(((w5.setCell ⟨w.heap.size,0,none⟩ (.int .u8 x.op)).setCell ⟨w.heap.size,1,none⟩ (.int .i64 x.n)).setCell ⟨w.heap.size,2,none⟩ (.slice p x.args.length c))=WF:=⟨_,rfl⟩
 rw[ji]at s5 F⊢
 have q0:=cells_at s5 (j:=0) rfl
 have q1:=cells_at s5 (j:=1) rfl
 have q2:=cells_at s5 (j:=2) rfl
 refine bodyPost_ret (v:= .agg (gu x p c).toArray) (by simp[results,Tryz.results272,go_sem,q0,q1,q2]) rfl F
abbrev Qm:List nU:=[(⟨#[60]⟩,12),(⟨#[60,61]⟩,13),(⟨#[61]⟩,14),(⟨#[33,61]⟩,15)]
def Qn (l:List Tok):Option (Ex×List Tok):=rM sumP Qm 1 l
theorem RX (R:Nat)(e:Int):D8 259 R e Qn:=by
 intro w l l' x h hl
 have hlt:=h.lt
 obtain⟨W0,hW0⟩: ∃W0,((w.alloc (.cells #[.int .u8 0, .int .i64 0, .slice none 0 0] 40)).alloc (.cells #[.string ⟨#[60]⟩, .int .u8 12, .string ⟨#[60,61]⟩, .int .u8 13, .string ⟨#[61]⟩, .int .u8 14, .string ⟨#[33,61]⟩, .int .u8 15] 305))=W0:=⟨_,rfl⟩
 have k0:Kept none' w W0:=by rw[<-hW0];exact((Kept.refl _ _).alloc _).alloc _
 have t0:W0.heap[w.heap.size]?=some (.cells #[.int .u8 0, .int .i64 0, .slice none 0 0] 40 (0,0)):=by
  rw[<-hW0]
  exact((Kept.refl none' _).alloc _).heap (heap_alloc_new w (.cells #[.int .u8 0, .int .i64 0, .slice none 0 0] 40)) (fun h=>h)
 have s0:W0.heap[w.heap.size+1]?=some (.cells (wO Qm).toArray 305 (0,0)):=by
  rw[<-hW0]
  have:=heap_alloc_new (w.alloc (.cells #[.int .u8 0, .int .i64 0, .slice none 0 0] 40)) (.cells #[.string ⟨#[60]⟩, .int .u8 12, .string ⟨#[60,61]⟩, .int .u8 13, .string ⟨#[61]⟩, .int .u8 14, .string ⟨#[33,61]⟩, .int .u8 15] 305)
  rwa[World.size_alloc]at this
 have hsz0:W0.heap.size=w.heap.size+2:=by rw[<-hW0];simp
 have cr:Calls Tryz.prog 229 #[.pointer (some ⟨R,0,none⟩), .func (.func 272) #[.pointer (some ⟨R,0,none⟩)] #[], .int .i64 1, .slice (some ⟨w.heap.size+1,0,none⟩) 4 4] W0 (mQ W0 R e x l'):=
  uG R e 272 sumP (enters_of Tryz.func272 (by kernel_rfl) rfl) (sum_any R e) Qm (w.heap.size+1) 1 W0 l l' x (h.pure k0) hl (by omega) (by decide) (by omega) (by decide)
   (fun i s hs=>by
     obtain⟨q0,q1⟩:=oQ hs
     exact⟨cells_at s0 (by rw[List.getElem?_toArray];exact q0),cells_at s0 (by rw[List.getElem?_toArray];exact q1)⟩) (by omega)
 have H:=Lib.hid (And.intro k0 (And.intro t0 hsz0))
 have HW:=Lib.hid hW0
 clear k0 t0 s0 hsz0 h hW0 hl
 go_enter Tryz.func259,Tryz.ntmps259
 go_wp2_with fail
 rw[HW.out]
 (with_reducible refine cr.mono ?_)
 clear cr
 rintro e' w5 ⟨p,c,D,rfl,hx,hD,r5,k5⟩
 have t5:=k5.heap H.out.2.1 (fun h=>by unfold one at h;omega)
 have f0:=free_at t5 0
 have f1:=free_at t5 1
 have f2:=free_at t5 2
 have z0:=cells_at t5 (j:=0) rfl
 have z1:=cells_at t5 (j:=1) rfl
 have z2:=cells_at t5 (j:=2) rfl
 have F:=mQ.wrap hlt H.out.1.pure (Array.getElem?_eq_some_iff.1 H.out.2.1).1 hx hD r5 k5 t5
 have s5:=(gX t5 (.int .u8 x.op) (.int .i64 x.n) (.slice p x.args.length c)).1
 have hs5:w.heap.size<w5.heap.size:=(Array.getElem?_eq_some_iff.1 t5).1
 clear hx hD r5 k5 t5
 go_wp2_with fail
 obtain⟨WF,ji⟩: ∃WF,(((w5.setCell ⟨w.heap.size,0,none⟩ (.int .u8 x.op)).setCell ⟨w.heap.size,1,none⟩ (.int .i64 x.n)).setCell ⟨w.heap.size,2,none⟩ (.slice p x.args.length c))=WF:=⟨_,rfl⟩
 rw[ji]at s5 F⊢
 have q0:=cells_at s5 (j:=0) rfl
 have q1:=cells_at s5 (j:=1) rfl
 have q2:=cells_at s5 (j:=2) rfl
 refine bodyPost_ret (v:= .agg (gu x p c).toArray) (by simp[results,Tryz.results259,go_sem,q0,q1,q2]) rfl F
abbrev Qp:List nU:=[(⟨#[38]⟩,16)]
def Qq (l:List Tok):Option (Ex×List Tok):=rM Qn Qp 400 l
theorem Si (R:Nat)(e:Int):D8 230 R e Qq:=by
 intro w l l' x h hl
 have hlt:=h.lt
 obtain⟨W0,hW0⟩: ∃W0,((w.alloc (.cells #[.int .u8 0, .int .i64 0, .slice none 0 0] 40)).alloc (.cells #[.string ⟨#[38]⟩, .int .u8 16] 305))=W0:=⟨_,rfl⟩
 have k0:Kept none' w W0:=by rw[<-hW0];exact((Kept.refl _ _).alloc _).alloc _
 have t0:W0.heap[w.heap.size]?=some (.cells #[.int .u8 0, .int .i64 0, .slice none 0 0] 40 (0,0)):=by
  rw[<-hW0]
  exact((Kept.refl none' _).alloc _).heap (heap_alloc_new w (.cells #[.int .u8 0, .int .i64 0, .slice none 0 0] 40)) (fun h=>h)
 have s0:W0.heap[w.heap.size+1]?=some (.cells (wO Qp).toArray 305 (0,0)):=by
  rw[<-hW0]
  have:=heap_alloc_new (w.alloc (.cells #[.int .u8 0, .int .i64 0, .slice none 0 0] 40)) (.cells #[.string ⟨#[38]⟩, .int .u8 16] 305)
  rwa[World.size_alloc]at this
 have hsz0:W0.heap.size=w.heap.size+2:=by rw[<-hW0];simp
 have cr:Calls Tryz.prog 229 #[.pointer (some ⟨R,0,none⟩), .func (.func 259) #[.pointer (some ⟨R,0,none⟩)] #[], .int .i64 400, .slice (some ⟨w.heap.size+1,0,none⟩) 1 1] W0 (mQ W0 R e x l'):=
  uG R e 259 Qn (enters_of Tryz.func259 (by kernel_rfl) rfl) (RX R e) Qp (w.heap.size+1) 400 W0 l l' x (h.pure k0) hl (by omega) (by decide) (by omega) (by decide)
   (fun i s hs=>by
     obtain⟨q0,q1⟩:=oQ hs
     exact⟨cells_at s0 (by rw[List.getElem?_toArray];exact q0),cells_at s0 (by rw[List.getElem?_toArray];exact q1)⟩) (by omega)
 have H:=Lib.hid (And.intro k0 (And.intro t0 hsz0))
 have HW:=Lib.hid hW0
 clear k0 t0 s0 hsz0 h hW0 hl
 go_enter Tryz.func230,Tryz.ntmps230
 go_wp2_with fail
 rw[HW.out]
 (with_reducible refine cr.mono ?_)
 clear cr
 rintro e' w5 ⟨p,c,D,rfl,hx,hD,r5,k5⟩
 have t5:=k5.heap H.out.2.1 (fun h=>by unfold one at h;omega)
 have f0:=free_at t5 0
 have f1:=free_at t5 1
 have f2:=free_at t5 2
 have z0:=cells_at t5 (j:=0) rfl
 have z1:=cells_at t5 (j:=1) rfl
 have z2:=cells_at t5 (j:=2) rfl
 have F:=mQ.wrap hlt H.out.1.pure (Array.getElem?_eq_some_iff.1 H.out.2.1).1 hx hD r5 k5 t5
 have s5:=(gX t5 (.int .u8 x.op) (.int .i64 x.n) (.slice p x.args.length c)).1
 have hs5:w.heap.size<w5.heap.size:=(Array.getElem?_eq_some_iff.1 t5).1
 clear hx hD r5 k5 t5
 go_wp2_with fail
 obtain⟨WF,ji⟩: ∃WF,(((w5.setCell ⟨w.heap.size,0,none⟩ (.int .u8 x.op)).setCell ⟨w.heap.size,1,none⟩ (.int .i64 x.n)).setCell ⟨w.heap.size,2,none⟩ (.slice p x.args.length c))=WF:=⟨_,rfl⟩
 rw[ji]at s5 F⊢
 have q0:=cells_at s5 (j:=0) rfl
 have q1:=cells_at s5 (j:=1) rfl
 have q2:=cells_at s5 (j:=2) rfl
 refine bodyPost_ret (v:= .agg (gu x p c).toArray) (by simp[results,Tryz.results230,go_sem,q0,q1,q2]) rfl F
abbrev Tv:List nU:=[(⟨#[124]⟩,17)]
def Tz (l:List Tok):Option (Ex×List Tok):=rM Qq Tv 400 l
theorem Rx (R:Nat)(e:Int):D8 193 R e Tz:=by
 intro w l l' x h hl
 have hlt:=h.lt
 obtain⟨W0,hW0⟩: ∃W0,((w.alloc (.cells #[.int .u8 0, .int .i64 0, .slice none 0 0] 40)).alloc (.cells #[.string ⟨#[124]⟩, .int .u8 17] 305))=W0:=⟨_,rfl⟩
 have k0:Kept none' w W0:=by rw[<-hW0];exact((Kept.refl _ _).alloc _).alloc _
 have t0:W0.heap[w.heap.size]?=some (.cells #[.int .u8 0, .int .i64 0, .slice none 0 0] 40 (0,0)):=by
  rw[<-hW0]
  exact((Kept.refl none' _).alloc _).heap (heap_alloc_new w (.cells #[.int .u8 0, .int .i64 0, .slice none 0 0] 40)) (fun h=>h)
 have s0:W0.heap[w.heap.size+1]?=some (.cells (wO Tv).toArray 305 (0,0)):=by
  rw[<-hW0]
  have:=heap_alloc_new (w.alloc (.cells #[.int .u8 0, .int .i64 0, .slice none 0 0] 40)) (.cells #[.string ⟨#[124]⟩, .int .u8 17] 305)
  rwa[World.size_alloc]at this
 have hsz0:W0.heap.size=w.heap.size+2:=by rw[<-hW0];simp
 have cr:Calls Tryz.prog 229 #[.pointer (some ⟨R,0,none⟩), .func (.func 230) #[.pointer (some ⟨R,0,none⟩)] #[], .int .i64 400, .slice (some ⟨w.heap.size+1,0,none⟩) 1 1] W0 (mQ W0 R e x l'):=
  uG R e 230 Qq (enters_of Tryz.func230 (by kernel_rfl) rfl) (Si R e) Tv (w.heap.size+1) 400 W0 l l' x (h.pure k0) hl (by omega) (by decide) (by omega) (by decide)
   (fun i s hs=>by
     obtain⟨q0,q1⟩:=oQ hs
     exact⟨cells_at s0 (by rw[List.getElem?_toArray];exact q0),cells_at s0 (by rw[List.getElem?_toArray];exact q1)⟩) (by omega)
 have H:=Lib.hid (And.intro k0 (And.intro t0 hsz0))
 have HW:=Lib.hid hW0
 clear k0 t0 s0 hsz0 h hW0 hl
 go_enter Tryz.func193,Tryz.ntmps193
 go_wp2_with fail
 rw[HW.out]
 (with_reducible refine cr.mono ?_)
 clear cr
 rintro e' w5 ⟨p,c,D,rfl,hx,hD,r5,k5⟩
 have t5:=k5.heap H.out.2.1 (fun h=>by unfold one at h;omega)
 have f0:=free_at t5 0
 have f1:=free_at t5 1
 have f2:=free_at t5 2
 have z0:=cells_at t5 (j:=0) rfl
 have z1:=cells_at t5 (j:=1) rfl
 have z2:=cells_at t5 (j:=2) rfl
 have F:=mQ.wrap hlt H.out.1.pure (Array.getElem?_eq_some_iff.1 H.out.2.1).1 hx hD r5 k5 t5
 have s5:=(gX t5 (.int .u8 x.op) (.int .i64 x.n) (.slice p x.args.length c)).1
 have hs5:w.heap.size<w5.heap.size:=(Array.getElem?_eq_some_iff.1 t5).1
 clear hx hD r5 k5 t5
 go_wp2_with fail
 obtain⟨WF,ji⟩: ∃WF,(((w5.setCell ⟨w.heap.size,0,none⟩ (.int .u8 x.op)).setCell ⟨w.heap.size,1,none⟩ (.int .i64 x.n)).setCell ⟨w.heap.size,2,none⟩ (.slice p x.args.length c))=WF:=⟨_,rfl⟩
 rw[ji]at s5 F⊢
 have q0:=cells_at s5 (j:=0) rfl
 have q1:=cells_at s5 (j:=1) rfl
 have q2:=cells_at s5 (j:=2) rfl
 refine bodyPost_ret (v:= .agg (gu x p c).toArray) (by simp[results,Tryz.results193,go_sem,q0,q1,q2]) rfl F
def iJ (r:Nat):Prop:=r=97\/r=99\/r=118\/r=108\/r=43\/r=45\/r=32
def mF (r:Nat):Int:=if r=43\/r=45 then 3 else if r=32 then 0 else 1
def l7 (r:Nat):ByteArray:=Utf8.encode (r:Int)
def Ei (r:Nat):Bool:=decide (0<=Lib.indexByte [43,45,42,47,37,40,41,38,124,33,61,60] ((r:Int)).toNat.toUInt8)
theorem Np (r:Nat)(hr:r<128)(h48: ¬(48<=r/\r<=57))(hsz:(l7 r).size<=maxLen)(w:World):
 Calls Tryz.prog 228 #[.int .i32 (r:Int)] w (Gives w (.int .u8 (if Ei r=true then 3 else if dV (l7 r)=true then 1 else 0))):=by
 have cc:Calls Tryz.prog 221 #[.string ⟨#[43,45,42,47,37,40,41,38,124,33,61,60]⟩, .int .i32 (r:Int)] w fun e w'=>e= .returned (.bool (Ei r))/\w'=w:=
  Any.strings_ContainsRune_ascii Tryz.crL ⟨#[43,45,42,47,37,40,41,38,124,33,61,60]⟩ (r:Int) w (by omega) (by omega)
 have cn:=name_any (l7 r) hsz w
 obtain⟨bs,hbs⟩: ∃bs,Ei r=bs:=⟨_,rfl⟩
 obtain⟨bn,hbn⟩: ∃bn,dV (l7 r)=bn:=⟨_,rfl⟩
 rw[hbs]at cc⊢
 rw[hbn]at cn⊢
 unfold l7 at cn
 clear hbs hbn
 have CC:=Lib.hid cc
 have CN:=Lib.hid cn
 clear cc cn hsz
 by_cases h1:48<=r
 ·have h2: ¬(r<=57):=by omega
  have h1i:(48:Int)<=(r:Int):=by omega
  have h2i: ¬((r:Int)<=57):=by omega
  clear h48 h1
  go_enter Tryz.func228,Tryz.ntmps228
  go_wp2_with fail
  all_goals
   (with_reducible refine CC.out.mono ?_)
   rintro e w' ⟨rfl,rfl⟩
   cases bs
   ·go_wp2_with fail
    all_goals
     (with_reducible refine CN.out.mono ?_)
     rintro e w2 ⟨rfl,k2⟩
     cases bn
     ·go_wp2_with fail
      all_goals
       go_ret
       exact⟨rfl,k2⟩
     ·go_wp2_with fail
      all_goals
       go_ret
       exact⟨rfl,k2⟩
   ·go_wp2_with fail
    all_goals
     go_ret
     exact⟨rfl,Kept.refl _ _⟩
 ·have h1i: ¬((48:Int)<=(r:Int)):=by omega
  clear h48 h1
  go_enter Tryz.func228,Tryz.ntmps228
  go_wp2_with fail
  all_goals
   (with_reducible refine CC.out.mono ?_)
   rintro e w' ⟨rfl,rfl⟩
   cases bs
   ·go_wp2_with fail
    all_goals
     (with_reducible refine CN.out.mono ?_)
     rintro e w2 ⟨rfl,k2⟩
     cases bn
     ·go_wp2_with fail
      all_goals
       go_ret
       exact⟨rfl,k2⟩
     ·go_wp2_with fail
      all_goals
       go_ret
       exact⟨rfl,k2⟩
   ·go_wp2_with fail
    all_goals
     go_ret
     exact⟨rfl,Kept.refl _ _⟩
theorem xC (r:Nat)(hr:iJ r)(w:World):Calls Tryz.prog 228 #[.int .i32 (r:Int)] w (Gives w (.int .u8 (mF r))):=by
 have h:=Np r (by unfold iJ at hr;omega) (by unfold iJ at hr;omega) (by unfold iJ at hr;rcases hr with rfl|rfl|rfl|rfl|rfl|rfl|rfl<;>decide) w
 have e:(if Ei r=true then(3:Int)else if dV (l7 r)=true then 1 else 0)=mF r:=by
  unfold iJ at hr
  rcases hr with rfl|rfl|rfl|rfl|rfl|rfl|rfl<;>kernel_rfl
 rwa[e]at h
def vJ (t:Tok)(r:Nat):Bool:=if t.kind=3 then false else if t.kind=0 then false else mF r==t.kind
theorem Il (t:Tok)(ht:t.kind=0\/t.kind=1\/t.kind=3)(r:Nat)(hr:iJ r)(w:World):Calls Tryz.prog 227 #[Bq t, .int .i32 (r:Int)] w (Gives w (.bool (vJ t r))):=by
 obtain⟨tk,tt,tn,ta⟩:=t
 unfold vJ
 simp only at ht⊢
 have hrI: ¬((r:Int)=61):=by unfold iJ at hr;omega
 have ka:Kept none' w (w.alloc (.cells #[.int .u8 tk, .string tt, .int .i64 tn, .int .i64 ta] 299)):=(Kept.refl _ _).alloc _
 have ck:=xC r hr (w.alloc (.cells #[.int .u8 tk, .string tt, .int .i64 tn, .int .i64 ta] 299))
 have ckd:=xC r hr (w.alloc (.cells #[.int .u8 tk, .string tt, .int .i64 tn, .int .i64 ta] 299)).drew
 by_cases h3:tk=3
 ·subst h3
  go_enter Tryz.func227,Tryz.ntmps227
  go_wp2_with fail
  go_ret
  exact⟨rfl,ka⟩
 ·rw[if_neg h3]
  have g3:(tk==3)=false:=by simpa using h3
  by_cases h0:tk=0
  ·subst h0
   go_enter Tryz.func227,Tryz.ntmps227
   have nB:(w.alloc (.cells #[.int .u8 0, .string tt, .int .i64 tn, .int .i64 ta] 299)).cell? ⟨w.heap.size,0,none⟩=some (.int .u8 0):=by simp
   go_wp2_with fail
   refine ak [0,1,2,3,4,6,7,5,8,9,10] (fun W=>Kept none' (w.alloc (.cells #[.int .u8 0, .string tt, .int .i64 tn, .int .i64 ta] 299)) W) (by kernel_rfl) (by kernel_rfl) rfl (Kept.refl _ _).drew ?_
   simp only[List.map_cons,List.map_nil,List.getElem?_toArray,List.getElem?_cons_zero,List.getElem?_cons_succ,Option.getD_some]
   iterate 4 (apply aj rfl rfl;(intro W hW;have z0:=hW.cell (p:=⟨w.heap.size,0,none⟩) (fun h=>h) nB;go_simp;rfl);go_frame)
   iterate 5 (apply aV rfl;go_frame)
   apply aj rfl rfl
   ·intro W hW;go_simp;rfl
   go_frame
   apply aj rfl rfl
   ·intro W hW;go_simp;rfl
   go_frame
   refine aG (fun _=>(Kept.refl none' _).drew) ?_
   go_wp2_with fail
   go_ret
   exact⟨rfl,ka.drew⟩
  ·rw[if_neg h0]
   have h1:tk=1:=by omega
   subst h1
   go_enter Tryz.func227,Tryz.ntmps227
   have nB:(w.alloc (.cells #[.int .u8 1, .string tt, .int .i64 tn, .int .i64 ta] 299)).cell? ⟨w.heap.size,0,none⟩=some (.int .u8 1):=by simp
   go_wp2_with fail
   refine ak [0,1,2,3,4,6,7,5,8,9,10] (fun W=>Kept none' (w.alloc (.cells #[.int .u8 1, .string tt, .int .i64 tn, .int .i64 ta] 299)) W) (by kernel_rfl) (by kernel_rfl) rfl (Kept.refl _ _).drew ?_
   simp only[List.map_cons,List.map_nil,List.getElem?_toArray,List.getElem?_cons_zero,List.getElem?_cons_succ,Option.getD_some]
   iterate 7 (apply aj rfl rfl;(intro W hW;have z0:=hW.cell (p:=⟨w.heap.size,0,none⟩) (fun h=>h) nB;go_simp;rfl);go_frame)
   apply aB rfl rfl
   intro K hK
   go_wp2_with fail
   (with_reducible refine ckd.mono ?_)
   rintro e w5 ⟨rfl,k5⟩
   go_wp2_with fail
   refine hK _ _ (fun _=>(Kept.refl none' _).drew.trans k5) ?_
   clear hK
   iterate 3 (apply aj rfl rfl;(intro W hW;have z0:=hW.cell (p:=⟨w.heap.size,0,none⟩) (fun h=>h) nB;go_simp;rfl);go_frame)
   refine aG (fun _=>(Kept.refl none' _).drew.trans k5) ?_
   go_wp2_with fail
   go_ret
   exact⟨rfl,ka.trans ((Kept.refl none' _).drew.trans k5)⟩
end Go.Proofs.YtglbkodmmogomaaGreatDoor
