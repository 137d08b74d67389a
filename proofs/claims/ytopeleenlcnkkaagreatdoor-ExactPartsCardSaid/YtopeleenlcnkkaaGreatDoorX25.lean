/- expr's reader: the levels. -/
import Derived.Test.YtopeleenlcnkkaaGreatDoorX24
import Derived.Test.YtopeleenlcnkkaaGreatDoorX21
set_option linter.unusedVariables false
set_option linter.unusedSimpArgs false
set_option maxHeartbeats 4000000
set_option maxRecDepth 100000
namespace Go.Proofs.YtopeleenlcnkkaaGreatDoor
open Go Go.RowKit
attribute [local irreducible] bU
theorem qQ: ∀{l:List qc}{i:Nat}{s:qc},l[i]?=some s->(zQ l)[i*2]?=some (.string s.1)/\(zQ l)[i*2+1]?=some (.int .u8 s.2)
 |x::l,0,s,h=>by
  cases h
  exact⟨rfl,rfl⟩
 |x::l,i+1,s,h=>by
  have ih:=qQ (l:=l) (i:=i) (s:=s) (by simpa using h)
  rw[show(i+1)*2=i*2+1+1 by omega]
  unfold zQ at ih⊢
  rw[List.flatMap_cons]
  exact ih
abbrev QM:List qc:=[(⟨#[42]⟩,9),(⟨#[47]⟩,10),(⟨#[37]⟩,11)]
def QN (l:List Tok):Option (Ex×List Tok):=uI yS QM 400 l
theorem Xx (R:Nat)(e:Int):GY 230 R e QN:=by
 intro w l l' x h hl
 have hlt:=h.lt
 obtain⟨W0,hW0⟩: ∃W0,((w.alloc (.cells #[.int .u8 0, .int .i64 0, .slice none 0 0] 95)).alloc (.cells #[.string ⟨#[42]⟩, .int .u8 9, .string ⟨#[47]⟩, .int .u8 10, .string ⟨#[37]⟩, .int .u8 11] 285))=W0:=⟨_,rfl⟩
 have k0:Kept none' w W0:=by rw[<-hW0];exact((Kept.refl _ _).alloc _).alloc _
 have t0:W0.heap[w.heap.size]?=some (.cells #[.int .u8 0, .int .i64 0, .slice none 0 0] 95 (0,0)):=by
  rw[<-hW0]
  exact((Kept.refl none' _).alloc _).heap (heap_alloc_new w (.cells #[.int .u8 0, .int .i64 0, .slice none 0 0] 95)) (fun h=>h)
 have s0:W0.heap[w.heap.size+1]?=some (.cells (zQ QM).toArray 285 (0,0)):=by
  rw[<-hW0]
  have:=heap_alloc_new (w.alloc (.cells #[.int .u8 0, .int .i64 0, .slice none 0 0] 95)) (.cells #[.string ⟨#[42]⟩, .int .u8 9, .string ⟨#[47]⟩, .int .u8 10, .string ⟨#[37]⟩, .int .u8 11] 285)
  rwa[World.size_alloc]at this
 have hsz0:W0.heap.size=w.heap.size+2:=by rw[<-hW0];simp
 have cr:Calls Tryz.prog 195 #[.pointer (some ⟨R,0,none⟩), .func (.func 232) #[.pointer (some ⟨R,0,none⟩)] #[], .int .i64 400, .slice (some ⟨w.heap.size+1,0,none⟩) 3 3] W0 (oP W0 R e x l'):=
  xP R e 232 yS (enters_of Tryz.func232 (by kernel_rfl) rfl) (QZ R e) QM (w.heap.size+1) 400 W0 l l' x (h.pure k0) hl (by omega) (by decide) (by omega) (by decide)
   (fun i s hs=>by
     obtain⟨q0,q1⟩:=qQ hs
     exact⟨cells_at s0 (by rw[List.getElem?_toArray];exact q0),cells_at s0 (by rw[List.getElem?_toArray];exact q1)⟩) (by omega)
 have H:=Lib.hid (And.intro k0 (And.intro t0 hsz0))
 have HW:=Lib.hid hW0
 clear k0 t0 s0 hsz0 h hW0 hl
 go_enter Tryz.func230,Tryz.ntmps230
 go_wp2_with fail
 rw[HW.out]
 (with_reducible refine cr.mono ?_)
 clear cr
 rintro e' w5 ⟨p,c,D,rfl,hx,hD,r5,k5⟩
 have t5:=k5.heap H.out.2.1 (fun h=>by unfold one at h;omega)
 have f0:=free_at t5 0
 have f1:=free_at t5 1
 have f2:=free_at t5 2
 have z0:=cells_at t5 (j:=0) rfl
 have z1:=cells_at t5 (j:=1) rfl
 have z2:=cells_at t5 (j:=2) rfl
 have F:=oP.wrap hlt H.out.1.pure (Array.getElem?_eq_some_iff.1 H.out.2.1).1 hx hD r5 k5 t5
 have s5:=(iV t5 (.int .u8 x.op) (.int .i64 x.n) (.slice p x.args.length c)).1
 have hs5:w.heap.size<w5.heap.size:=(Array.getElem?_eq_some_iff.1 t5).1
 clear hx hD r5 k5 t5
 go_wp2_with fail
 obtain⟨WF,jV⟩: ∃WF,(((w5.setCell ⟨w.heap.size,0,none⟩ (.int .u8 x.op)).setCell ⟨w.heap.size,1,none⟩ (.int .i64 x.n)).setCell ⟨w.heap.size,2,none⟩ (.slice p x.args.length c))=WF:=⟨_,rfl⟩
 rw[jV]at s5 F⊢
 have q0:=cells_at s5 (j:=0) rfl
 have q1:=cells_at s5 (j:=1) rfl
 have q2:=cells_at s5 (j:=2) rfl
 refine bodyPost_ret (v:= .agg (iD x p c).toArray) (by simp[results,Tryz.results230,go_sem,q0,q1,q2]) rfl F
abbrev XD:List qc:=[(⟨#[43]⟩,7),(⟨#[45]⟩,8)]
def sumP (l:List Tok):Option (Ex×List Tok):=uI QN XD 400 l
theorem sum_any (R:Nat)(e:Int):GY 226 R e sumP:=by
 intro w l l' x h hl
 have hlt:=h.lt
 obtain⟨W0,hW0⟩: ∃W0,((w.alloc (.cells #[.int .u8 0, .int .i64 0, .slice none 0 0] 95)).alloc (.cells #[.string ⟨#[43]⟩, .int .u8 7, .string ⟨#[45]⟩, .int .u8 8] 285))=W0:=⟨_,rfl⟩
 have k0:Kept none' w W0:=by rw[<-hW0];exact((Kept.refl _ _).alloc _).alloc _
 have t0:W0.heap[w.heap.size]?=some (.cells #[.int .u8 0, .int .i64 0, .slice none 0 0] 95 (0,0)):=by
  rw[<-hW0]
  exact((Kept.refl none' _).alloc _).heap (heap_alloc_new w (.cells #[.int .u8 0, .int .i64 0, .slice none 0 0] 95)) (fun h=>h)
 have s0:W0.heap[w.heap.size+1]?=some (.cells (zQ XD).toArray 285 (0,0)):=by
  rw[<-hW0]
  have:=heap_alloc_new (w.alloc (.cells #[.int .u8 0, .int .i64 0, .slice none 0 0] 95)) (.cells #[.string ⟨#[43]⟩, .int .u8 7, .string ⟨#[45]⟩, .int .u8 8] 285)
  rwa[World.size_alloc]at this
 have hsz0:W0.heap.size=w.heap.size+2:=by rw[<-hW0];simp
 have cr:Calls Tryz.prog 195 #[.pointer (some ⟨R,0,none⟩), .func (.func 230) #[.pointer (some ⟨R,0,none⟩)] #[], .int .i64 400, .slice (some ⟨w.heap.size+1,0,none⟩) 2 2] W0 (oP W0 R e x l'):=
  xP R e 230 QN (enters_of Tryz.func230 (by kernel_rfl) rfl) (Xx R e) XD (w.heap.size+1) 400 W0 l l' x (h.pure k0) hl (by omega) (by decide) (by omega) (by decide)
   (fun i s hs=>by
     obtain⟨q0,q1⟩:=qQ hs
     exact⟨cells_at s0 (by rw[List.getElem?_toArray];exact q0),cells_at s0 (by rw[List.getElem?_toArray];exact q1)⟩) (by omega)
 have H:=Lib.hid (And.intro k0 (And.intro t0 hsz0))
 have HW:=Lib.hid hW0
 clear k0 t0 s0 hsz0 h hW0 hl
 go_enter Tryz.func226,Tryz.ntmps226
 go_wp2_with fail
 rw[HW.out]
 (with_reducible refine cr.mono ?_)
 clear cr
 rintro e' w5 ⟨p,c,D,rfl,hx,hD,r5,k5⟩
 have t5:=k5.heap H.out.2.1 (fun h=>by unfold one at h;omega)
 have f0:=free_at t5 0
 have f1:=free_at t5 1
 have f2:=free_at t5 2
 have z0:=cells_at t5 (j:=0) rfl
 have z1:=cells_at t5 (j:=1) rfl
 have z2:=cells_at t5 (j:=2) rfl
 have F:=oP.wrap hlt H.out.1.pure (Array.getElem?_eq_some_iff.1 H.out.2.1).1 hx hD r5 k5 t5
 have s5:=(iV t5 (.int .u8 x.op) (.int .i64 x.n) (.slice p x.args.length c)).1
 have hs5:w.heap.size<w5.heap.size:=(Array.getElem?_eq_some_iff.1 t5).1
 clear hx hD r5 k5 t5
 go_wp2_with fail
 obtain⟨WF,jV⟩: ∃WF,(((w5.setCell ⟨w.heap.size,0,none⟩ (.int .u8 x.op)).setCell ⟨w.heap.size,1,none⟩ (.int .i64 x.n)).setCell ⟨w.heap.size,2,none⟩ (.slice p x.args.length c))=WF:=⟨_,rfl⟩
 rw[jV]at s5 F⊢
 have q0:=cells_at s5 (j:=0) rfl
 have q1:=cells_at s5 (j:=1) rfl
 have q2:=cells_at s5 (j:=2) rfl
 refine bodyPost_ret (v:= .agg (iD x p c).toArray) (by simp[results,Tryz.results226,go_sem,q0,q1,q2]) rfl F
abbrev Y2:List qc:=[(⟨#[60]⟩,12),(⟨#[60,61]⟩,13),(⟨#[61]⟩,14),(⟨#[33,61]⟩,15)]
def Y3 (l:List Tok):Option (Ex×List Tok):=uI sumP Y2 1 l
theorem aaV (R:Nat)(e:Int):GY 217 R e Y3:=by
 intro w l l' x h hl
 have hlt:=h.lt
 obtain⟨W0,hW0⟩: ∃W0,((w.alloc (.cells #[.int .u8 0, .int .i64 0, .slice none 0 0] 95)).alloc (.cells #[.string ⟨#[60]⟩, .int .u8 12, .string ⟨#[60,61]⟩, .int .u8 13, .string ⟨#[61]⟩, .int .u8 14, .string ⟨#[33,61]⟩, .int .u8 15] 285))=W0:=⟨_,rfl⟩
 have k0:Kept none' w W0:=by rw[<-hW0];exact((Kept.refl _ _).alloc _).alloc _
 have t0:W0.heap[w.heap.size]?=some (.cells #[.int .u8 0, .int .i64 0, .slice none 0 0] 95 (0,0)):=by
  rw[<-hW0]
  exact((Kept.refl none' _).alloc _).heap (heap_alloc_new w (.cells #[.int .u8 0, .int .i64 0, .slice none 0 0] 95)) (fun h=>h)
 have s0:W0.heap[w.heap.size+1]?=some (.cells (zQ Y2).toArray 285 (0,0)):=by
  rw[<-hW0]
  have:=heap_alloc_new (w.alloc (.cells #[.int .u8 0, .int .i64 0, .slice none 0 0] 95)) (.cells #[.string ⟨#[60]⟩, .int .u8 12, .string ⟨#[60,61]⟩, .int .u8 13, .string ⟨#[61]⟩, .int .u8 14, .string ⟨#[33,61]⟩, .int .u8 15] 285)
  rwa[World.size_alloc]at this
 have hsz0:W0.heap.size=w.heap.size+2:=by rw[<-hW0];simp
 have cr:Calls Tryz.prog 195 #[.pointer (some ⟨R,0,none⟩), .func (.func 226) #[.pointer (some ⟨R,0,none⟩)] #[], .int .i64 1, .slice (some ⟨w.heap.size+1,0,none⟩) 4 4] W0 (oP W0 R e x l'):=
  xP R e 226 sumP (enters_of Tryz.func226 (by kernel_rfl) rfl) (sum_any R e) Y2 (w.heap.size+1) 1 W0 l l' x (h.pure k0) hl (by omega) (by decide) (by omega) (by decide)
   (fun i s hs=>by
     obtain⟨q0,q1⟩:=qQ hs
     exact⟨cells_at s0 (by rw[List.getElem?_toArray];exact q0),cells_at s0 (by rw[List.getElem?_toArray];exact q1)⟩) (by omega)
 have H:=Lib.hid (And.intro k0 (And.intro t0 hsz0))
 have HW:=Lib.hid hW0
 clear k0 t0 s0 hsz0 h hW0 hl
 go_enter Tryz.func217,Tryz.ntmps217
 go_wp2_with fail
 rw[HW.out]
 (with_reducible refine cr.mono ?_)
 clear cr
 rintro e' w5 ⟨p,c,D,rfl,hx,hD,r5,k5⟩
 have t5:=k5.heap H.out.2.1 (fun h=>by unfold one at h;omega)
 have f0:=free_at t5 0
 have f1:=free_at t5 1
 have f2:=free_at t5 2
 have z0:=cells_at t5 (j:=0) rfl
 have z1:=cells_at t5 (j:=1) rfl
 have z2:=cells_at t5 (j:=2) rfl
 have F:=oP.wrap hlt H.out.1.pure (Array.getElem?_eq_some_iff.1 H.out.2.1).1 hx hD r5 k5 t5
 have s5:=(iV t5 (.int .u8 x.op) (.int .i64 x.n) (.slice p x.args.length c)).1
 have hs5:w.heap.size<w5.heap.size:=(Array.getElem?_eq_some_iff.1 t5).1
 clear hx hD r5 k5 t5
 go_wp2_with fail
 obtain⟨WF,jV⟩: ∃WF,(((w5.setCell ⟨w.heap.size,0,none⟩ (.int .u8 x.op)).setCell ⟨w.heap.size,1,none⟩ (.int .i64 x.n)).setCell ⟨w.heap.size,2,none⟩ (.slice p x.args.length c))=WF:=⟨_,rfl⟩
 rw[jV]at s5 F⊢
 have q0:=cells_at s5 (j:=0) rfl
 have q1:=cells_at s5 (j:=1) rfl
 have q2:=cells_at s5 (j:=2) rfl
 refine bodyPost_ret (v:= .agg (iD x p c).toArray) (by simp[results,Tryz.results217,go_sem,q0,q1,q2]) rfl F
abbrev Zd:List qc:=[(⟨#[38]⟩,16)]
def Ze (l:List Tok):Option (Ex×List Tok):=uI Y3 Zd 400 l
theorem aaX (R:Nat)(e:Int):GY 196 R e Ze:=by
 intro w l l' x h hl
 have hlt:=h.lt
 obtain⟨W0,hW0⟩: ∃W0,((w.alloc (.cells #[.int .u8 0, .int .i64 0, .slice none 0 0] 95)).alloc (.cells #[.string ⟨#[38]⟩, .int .u8 16] 285))=W0:=⟨_,rfl⟩
 have k0:Kept none' w W0:=by rw[<-hW0];exact((Kept.refl _ _).alloc _).alloc _
 have t0:W0.heap[w.heap.size]?=some (.cells #[.int .u8 0, .int .i64 0, .slice none 0 0] 95 (0,0)):=by
  rw[<-hW0]
  exact((Kept.refl none' _).alloc _).heap (heap_alloc_new w (.cells #[.int .u8 0, .int .i64 0, .slice none 0 0] 95)) (fun h=>h)
 have s0:W0.heap[w.heap.size+1]?=some (.cells (zQ Zd).toArray 285 (0,0)):=by
  rw[<-hW0]
  have:=heap_alloc_new (w.alloc (.cells #[.int .u8 0, .int .i64 0, .slice none 0 0] 95)) (.cells #[.string ⟨#[38]⟩, .int .u8 16] 285)
  rwa[World.size_alloc]at this
 have hsz0:W0.heap.size=w.heap.size+2:=by rw[<-hW0];simp
 have cr:Calls Tryz.prog 195 #[.pointer (some ⟨R,0,none⟩), .func (.func 217) #[.pointer (some ⟨R,0,none⟩)] #[], .int .i64 400, .slice (some ⟨w.heap.size+1,0,none⟩) 1 1] W0 (oP W0 R e x l'):=
  xP R e 217 Y3 (enters_of Tryz.func217 (by kernel_rfl) rfl) (aaV R e) Zd (w.heap.size+1) 400 W0 l l' x (h.pure k0) hl (by omega) (by decide) (by omega) (by decide)
   (fun i s hs=>by
     obtain⟨q0,q1⟩:=qQ hs
     exact⟨cells_at s0 (by rw[List.getElem?_toArray];exact q0),cells_at s0 (by rw[List.getElem?_toArray];exact q1)⟩) (by omega)
 have H:=Lib.hid (And.intro k0 (And.intro t0 hsz0))
 have HW:=Lib.hid hW0
 clear k0 t0 s0 hsz0 h hW0 hl
 go_enter Tryz.func196,Tryz.ntmps196
 go_wp2_with fail
 rw[HW.out]
 (with_reducible refine cr.mono ?_)
 clear cr
 rintro e' w5 ⟨p,c,D,rfl,hx,hD,r5,k5⟩
 have t5:=k5.heap H.out.2.1 (fun h=>by unfold one at h;omega)
 have f0:=free_at t5 0
 have f1:=free_at t5 1
 have f2:=free_at t5 2
 have z0:=cells_at t5 (j:=0) rfl
 have z1:=cells_at t5 (j:=1) rfl
 have z2:=cells_at t5 (j:=2) rfl
 have F:=oP.wrap hlt H.out.1.pure (Array.getElem?_eq_some_iff.1 H.out.2.1).1 hx hD r5 k5 t5
 have s5:=(iV t5 (.int .u8 x.op) (.int .i64 x.n) (.slice p x.args.length c)).1
 have hs5:w.heap.size<w5.heap.size:=(Array.getElem?_eq_some_iff.1 t5).1
 clear hx hD r5 k5 t5
 go_wp2_with fail
 obtain⟨WF,jV⟩: ∃WF,(((w5.setCell ⟨w.heap.size,0,none⟩ (.int .u8 x.op)).setCell ⟨w.heap.size,1,none⟩ (.int .i64 x.n)).setCell ⟨w.heap.size,2,none⟩ (.slice p x.args.length c))=WF:=⟨_,rfl⟩
 rw[jV]at s5 F⊢
 have q0:=cells_at s5 (j:=0) rfl
 have q1:=cells_at s5 (j:=1) rfl
 have q2:=cells_at s5 (j:=2) rfl
 refine bodyPost_ret (v:= .agg (iD x p c).toArray) (by simp[results,Tryz.results196,go_sem,q0,q1,q2]) rfl F
abbrev orS:List qc:=[(⟨#[124]⟩,17)]
def orP (l:List Tok):Option (Ex×List Tok):=uI Ze orS 400 l
theorem aaG (R:Nat)(e:Int):GY 170 R e orP:=by
 intro w l l' x h hl
 have hlt:=h.lt
 obtain⟨W0,hW0⟩: ∃W0,((w.alloc (.cells #[.int .u8 0, .int .i64 0, .slice none 0 0] 95)).alloc (.cells #[.string ⟨#[124]⟩, .int .u8 17] 285))=W0:=⟨_,rfl⟩
 have k0:Kept none' w W0:=by rw[<-hW0];exact((Kept.refl _ _).alloc _).alloc _
 have t0:W0.heap[w.heap.size]?=some (.cells #[.int .u8 0, .int .i64 0, .slice none 0 0] 95 (0,0)):=by
  rw[<-hW0]
  exact((Kept.refl none' _).alloc _).heap (heap_alloc_new w (.cells #[.int .u8 0, .int .i64 0, .slice none 0 0] 95)) (fun h=>h)
 have s0:W0.heap[w.heap.size+1]?=some (.cells (zQ orS).toArray 285 (0,0)):=by
  rw[<-hW0]
  have:=heap_alloc_new (w.alloc (.cells #[.int .u8 0, .int .i64 0, .slice none 0 0] 95)) (.cells #[.string ⟨#[124]⟩, .int .u8 17] 285)
  rwa[World.size_alloc]at this
 have hsz0:W0.heap.size=w.heap.size+2:=by rw[<-hW0];simp
 have cr:Calls Tryz.prog 195 #[.pointer (some ⟨R,0,none⟩), .func (.func 196) #[.pointer (some ⟨R,0,none⟩)] #[], .int .i64 400, .slice (some ⟨w.heap.size+1,0,none⟩) 1 1] W0 (oP W0 R e x l'):=
  xP R e 196 Ze (enters_of Tryz.func196 (by kernel_rfl) rfl) (aaX R e) orS (w.heap.size+1) 400 W0 l l' x (h.pure k0) hl (by omega) (by decide) (by omega) (by decide)
   (fun i s hs=>by
     obtain⟨q0,q1⟩:=qQ hs
     exact⟨cells_at s0 (by rw[List.getElem?_toArray];exact q0),cells_at s0 (by rw[List.getElem?_toArray];exact q1)⟩) (by omega)
 have H:=Lib.hid (And.intro k0 (And.intro t0 hsz0))
 have HW:=Lib.hid hW0
 clear k0 t0 s0 hsz0 h hW0 hl
 go_enter Tryz.func170,Tryz.ntmps170
 go_wp2_with fail
 rw[HW.out]
 (with_reducible refine cr.mono ?_)
 clear cr
 rintro e' w5 ⟨p,c,D,rfl,hx,hD,r5,k5⟩
 have t5:=k5.heap H.out.2.1 (fun h=>by unfold one at h;omega)
 have f0:=free_at t5 0
 have f1:=free_at t5 1
 have f2:=free_at t5 2
 have z0:=cells_at t5 (j:=0) rfl
 have z1:=cells_at t5 (j:=1) rfl
 have z2:=cells_at t5 (j:=2) rfl
 have F:=oP.wrap hlt H.out.1.pure (Array.getElem?_eq_some_iff.1 H.out.2.1).1 hx hD r5 k5 t5
 have s5:=(iV t5 (.int .u8 x.op) (.int .i64 x.n) (.slice p x.args.length c)).1
 have hs5:w.heap.size<w5.heap.size:=(Array.getElem?_eq_some_iff.1 t5).1
 clear hx hD r5 k5 t5
 go_wp2_with fail
 obtain⟨WF,jV⟩: ∃WF,(((w5.setCell ⟨w.heap.size,0,none⟩ (.int .u8 x.op)).setCell ⟨w.heap.size,1,none⟩ (.int .i64 x.n)).setCell ⟨w.heap.size,2,none⟩ (.slice p x.args.length c))=WF:=⟨_,rfl⟩
 rw[jV]at s5 F⊢
 have q0:=cells_at s5 (j:=0) rfl
 have q1:=cells_at s5 (j:=1) rfl
 have q2:=cells_at s5 (j:=2) rfl
 refine bodyPost_ret (v:= .agg (iD x p c).toArray) (by simp[results,Tryz.results170,go_sem,q0,q1,q2]) rfl F
def jD (r:Nat):Prop:=r=97\/r=99\/r=118\/r=108\/r=43\/r=45\/r=32
def oK (r:Nat):Int:=if r=43\/r=45 then 3 else if r=32 then 0 else 1
def oH (r:Nat):ByteArray:=Utf8.encode (r:Int)
def Ho (r:Nat):Bool:=decide (0<=Lib.indexByte [43,45,42,47,37,40,41,38,124,33,61,60] ((r:Int)).toNat.toUInt8)
theorem Vt (r:Nat)(hr:r<128)(h48: ¬(48<=r/\r<=57))(hsz:(oH r).size<=maxLen)(w:World):
 Calls Tryz.prog 194 #[.int .i32 (r:Int)] w (Gives w (.int .u8 (if Ho r=true then 3 else if lN (oH r)=true then 1 else 0))):=by
 have cc:Calls Tryz.prog 187 #[.string ⟨#[43,45,42,47,37,40,41,38,124,33,61,60]⟩, .int .i32 (r:Int)] w fun e w'=>e= .returned (.bool (Ho r))/\w'=w:=
  Any.strings_ContainsRune_ascii Tryz.crL ⟨#[43,45,42,47,37,40,41,38,124,33,61,60]⟩ (r:Int) w (by omega) (by omega)
 have cn:=name_any (oH r) hsz w
 obtain⟨bs,hbs⟩: ∃bs,Ho r=bs:=⟨_,rfl⟩
 obtain⟨bn,hbn⟩: ∃bn,lN (oH r)=bn:=⟨_,rfl⟩
 rw[hbs]at cc⊢
 rw[hbn]at cn⊢
 unfold oH at cn
 clear hbs hbn
 have CC:=Lib.hid cc
 have CN:=Lib.hid cn
 clear cc cn hsz
 by_cases h1:48<=r
 ·have h2: ¬(r<=57):=by omega
  have h1i:(48:Int)<=(r:Int):=by omega
  have h2i: ¬((r:Int)<=57):=by omega
  clear h48 h1
  go_enter Tryz.func194,Tryz.ntmps194
  go_wp2_with fail
  all_goals
   (with_reducible refine CC.out.mono ?_)
   rintro e w' ⟨rfl,rfl⟩
   cases bs
   ·go_wp2_with fail
    all_goals
     (with_reducible refine CN.out.mono ?_)
     rintro e w2 ⟨rfl,k2⟩
     cases bn
     ·go_wp2_with fail
      all_goals
       go_ret
       exact⟨rfl,k2⟩
     ·go_wp2_with fail
      all_goals
       go_ret
       exact⟨rfl,k2⟩
   ·go_wp2_with fail
    all_goals
     go_ret
     exact⟨rfl,Kept.refl _ _⟩
 ·have h1i: ¬((48:Int)<=(r:Int)):=by omega
  clear h48 h1
  go_enter Tryz.func194,Tryz.ntmps194
  go_wp2_with fail
  all_goals
   (with_reducible refine CC.out.mono ?_)
   rintro e w' ⟨rfl,rfl⟩
   cases bs
   ·go_wp2_with fail
    all_goals
     (with_reducible refine CN.out.mono ?_)
     rintro e w2 ⟨rfl,k2⟩
     cases bn
     ·go_wp2_with fail
      all_goals
       go_ret
       exact⟨rfl,k2⟩
     ·go_wp2_with fail
      all_goals
       go_ret
       exact⟨rfl,k2⟩
   ·go_wp2_with fail
    all_goals
     go_ret
     exact⟨rfl,Kept.refl _ _⟩
theorem Af (r:Nat)(hr:jD r)(w:World):Calls Tryz.prog 194 #[.int .i32 (r:Int)] w (Gives w (.int .u8 (oK r))):=by
 have h:=Vt r (by unfold jD at hr;omega) (by unfold jD at hr;omega) (by unfold jD at hr;rcases hr with rfl|rfl|rfl|rfl|rfl|rfl|rfl<;>decide) w
 have e:(if Ho r=true then(3:Int)else if lN (oH r)=true then 1 else 0)=oK r:=by
  unfold jD at hr
  rcases hr with rfl|rfl|rfl|rfl|rfl|rfl|rfl<;>kernel_rfl
 rwa[e]at h
def yZ (t:Tok)(r:Nat):Bool:=if t.kind=3 then false else if t.kind=0 then false else oK r==t.kind
theorem OL (t:Tok)(ht:t.kind=0\/t.kind=1\/t.kind=3)(r:Nat)(hr:jD r)(w:World):Calls Tryz.prog 193 #[EW t, .int .i32 (r:Int)] w (Gives w (.bool (yZ t r))):=by
 obtain⟨tk,tt,tn,ta⟩:=t
 unfold yZ
 simp only at ht⊢
 have hrI: ¬((r:Int)=61):=by unfold jD at hr;omega
 have ka:Kept none' w (w.alloc (.cells #[.int .u8 tk, .string tt, .int .i64 tn, .int .i64 ta] 279)):=(Kept.refl _ _).alloc _
 have ck:=Af r hr (w.alloc (.cells #[.int .u8 tk, .string tt, .int .i64 tn, .int .i64 ta] 279))
 have ckd:=Af r hr (w.alloc (.cells #[.int .u8 tk, .string tt, .int .i64 tn, .int .i64 ta] 279)).drew
 by_cases h3:tk=3
 ·subst h3
  go_enter Tryz.func193,Tryz.ntmps193
  go_wp2_with fail
  go_ret
  exact⟨rfl,ka⟩
 ·rw[if_neg h3]
  have g3:(tk==3)=false:=by simpa using h3
  by_cases h0:tk=0
  ·subst h0
   go_enter Tryz.func193,Tryz.ntmps193
   have nB:(w.alloc (.cells #[.int .u8 0, .string tt, .int .i64 tn, .int .i64 ta] 279)).cell? ⟨w.heap.size,0,none⟩=some (.int .u8 0):=by simp
   go_wp2_with fail
   refine ak [0,1,2,3,4,6,7,5,8,9,10] (fun W=>Kept none' (w.alloc (.cells #[.int .u8 0, .string tt, .int .i64 tn, .int .i64 ta] 279)) W) (by kernel_rfl) (by kernel_rfl) rfl (Kept.refl _ _).drew ?_
   simp only[List.map_cons,List.map_nil,List.getElem?_toArray,List.getElem?_cons_zero,List.getElem?_cons_succ,Option.getD_some]
   iterate 4 (apply aj rfl rfl;(intro W hW;have z0:=hW.cell (p:=⟨w.heap.size,0,none⟩) (fun h=>h) nB;go_simp;rfl);go_frame)
   iterate 5 (apply fM rfl;go_frame)
   apply aj rfl rfl
   ·intro W hW;go_simp;rfl
   go_frame
   apply aj rfl rfl
   ·intro W hW;go_simp;rfl
   go_frame
   refine aG (fun _=>(Kept.refl none' _).drew) ?_
   go_wp2_with fail
   go_ret
   exact⟨rfl,ka.drew⟩
  ·rw[if_neg h0]
   have h1:tk=1:=by omega
   subst h1
   go_enter Tryz.func193,Tryz.ntmps193
   have nB:(w.alloc (.cells #[.int .u8 1, .string tt, .int .i64 tn, .int .i64 ta] 279)).cell? ⟨w.heap.size,0,none⟩=some (.int .u8 1):=by simp
   go_wp2_with fail
   refine ak [0,1,2,3,4,6,7,5,8,9,10] (fun W=>Kept none' (w.alloc (.cells #[.int .u8 1, .string tt, .int .i64 tn, .int .i64 ta] 279)) W) (by kernel_rfl) (by kernel_rfl) rfl (Kept.refl _ _).drew ?_
   simp only[List.map_cons,List.map_nil,List.getElem?_toArray,List.getElem?_cons_zero,List.getElem?_cons_succ,Option.getD_some]
   iterate 7 (apply aj rfl rfl;(intro W hW;have z0:=hW.cell (p:=⟨w.heap.size,0,none⟩) (fun h=>h) nB;go_simp;rfl);go_frame)
   apply aA rfl rfl
   intro K hK
   go_wp2_with fail
   (with_reducible refine ckd.mono ?_)
   rintro e w5 ⟨rfl,k5⟩
   go_wp2_with fail
   refine hK _ _ (fun _=>(Kept.refl none' _).drew.trans k5) ?_
   clear hK
   iterate 3 (apply aj rfl rfl;(intro W hW;have z0:=hW.cell (p:=⟨w.heap.size,0,none⟩) (fun h=>h) nB;go_simp;rfl);go_frame)
   refine aG (fun _=>(Kept.refl none' _).drew.trans k5) ?_
   go_wp2_with fail
   go_ret
   exact⟨rfl,ka.trans ((Kept.refl none' _).drew.trans k5)⟩
end Go.Proofs.YtopeleenlcnkkaaGreatDoor
