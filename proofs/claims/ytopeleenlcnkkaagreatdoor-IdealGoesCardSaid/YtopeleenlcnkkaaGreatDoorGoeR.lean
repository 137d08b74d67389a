/- The law IdealGoes: its row. -/
import Derived.Test.YtopeleenlcnkkaaGreatDoorM23
import Derived.Test.YtopeleenlcnkkaaGreatDoorM24
import Derived.Test.YtopeleenlcnkkaaGreatDoorM54
set_option linter.unusedVariables false
set_option linter.unusedSimpArgs false
namespace Go.Proofs.YtopeleenlcnkkaaGreatDoor
namespace idealGoes
open Go Go.ChangeShapes Go.WideShapes Go.ChangeAt Go.RowKit
set_option maxRecDepth 100000
theorem zV:Tryz.pinned.checked.prog.funcNamed Rows.idealGoesRow.func=some 10:=by kernel_rfl
theorem Xk:(Rows.idealGoesRow.inPlace==Tryz.pinned.checked.prog.inPlace 10)=true:=by kernel_rfl
theorem VU:(Rows.idealGoesRow.unfollowed==Tryz.pinned.checked.prog.unfollowed 10)=true:=by kernel_rfl
theorem Wy:(Rows.idealGoesRow.recurses==Tryz.pinned.checked.prog.recurses 10)=true:=by kernel_rfl
theorem WT:(Rows.idealGoesRow.named==Tryz.pinned.checked.prog.varsNamed 10)=true:=by kernel_rfl
theorem facts:joinedFacts Tryz.pinned.checked.prog 10 Tryz.f10 Rows.idealGoesSpec Rows.idealGoesRow=true:=by
 unfold joinedFacts
 simp only[Bool.and_eq_true]
 and_intros
 all_goals first|with_reducible exact KH|with_reducible exact Dc|with_reducible exact AO|with_reducible exact FC|with_reducible exact TS|with_reducible exact Xk|with_reducible exact VU|with_reducible exact Wy|with_reducible exact WT|kernel_rfl
theorem inst:Tryz.f10.isInstance Tryz.pinned.checked.prog Rows.idealGoesRow.origin Rows.idealGoesRow.targs:=of_decide_eq_true (by kernel_rfl)
theorem wrapper:Tryz.f10.isWrapper Tryz.pinned.checked.prog Rows.idealGoesRow.wrapper Rows.idealGoesRow.mainSum:=(by unfold Func.isWrapper;first|(rw[if_pos (by decide+kernel)];kernel_rfl)|(rw[if_neg (by decide+kernel)];exact⟨rfl,rfl⟩))
theorem witness (os:Os)(H:Type)(enc:TypeId×Value->H): ∃(w:World)(tape:Tape)(i:Input),w.os=os/\(w.forCall tape i).Shaped Tryz.prog/\i.vars=[]/\Input.okWide Tryz.prog (w.forCall tape i) .any w.heap.size 10 i/\
 (OpenSpec.ofChange Rows.idealGoesSpec).preRow enc Tryz.prog Tryz.f10 [] false oQ (w.forCall tape i).memory i.args/\({}:Assume).holds Tryz.prog (lone (Frame.enter Tryz.prog 10 i.args .normal) [] (w.forCall tape i)):=
 ChangeSpec.witness_shaped (enc:=enc) (C:=Tryz.checked) (os:=os) (X:=fun w _=>laidMetH Tryz.prog oQ w) false (laidWorld os) #[.agg #[.int .i64 0, .slice none 0 0], .slice none 0 0, .int .i64 0] 8 rfl (World.shaped_of_RefB (by kernel_rfl) (by kernel_rfl)) (by kernel_rfl) (by kernel_rfl) (by kernel_rfl) (laid_met os _)
theorem lifted (os:Os)(started:os.Started)(H:Type)(enc:TypeId×Value->H):
 ReturnsInHanded {} Tryz.checked os 10 .any ((OpenSpec.ofChange Rows.idealGoesSpec).preRow enc Tryz.prog Tryz.f10 [] false oQ) (Rows.idealGoesSpec.post enc Tryz.prog Tryz.f10 false true false false):=by
 refine AU Tryz.func10 rfl rfl (by kernel_rfl) (by kernel_rfl) (by kernel_rfl) (fun H ds hl=>?_) ?_ os started H enc (witness os H enc)
 ·rw[Tryz.params10]at hl
  match ds,hl with
  |[d,d1,d2],_=>rfl
 ·intro H enc W base args ds p hA hval hfz hsz hsh
  rw[Tryz.params10]at hA hval hsz
  obtain⟨v0,v1,v2,d0,d1,d2,p0,p1,p2,rfl,rfl,rfl,h0,h1,h2⟩:=trodAll_three hA
  obtain⟨cs,rfl,_⟩:=okWide_struct Tryz.underlying24 (hval 0 24 v0 rfl rfl)
  obtain⟨a',n',cap',rfl⟩:=okWide_slice Tryz.underlying42 (hval 1 42 v1 rfl rfl)
  obtain⟨z,rfl⟩:=okWide_int Tryz.underlying3 (hval 2 3 v2 rfl rfl)
  obtain⟨fuel,hf⟩:=h0
  obtain⟨fuel',hf'⟩:=h1
  obtain⟨fuel2,hf2⟩:=h2
  obtain⟨j,hj⟩:=BI hf
  obtain⟨L,_,hr,hR⟩:=FH hf'
  obtain⟨m,hm⟩:=FN W hsh
  obtain⟨z',hz,hw⟩:=TU hf2
  injection hz with _ hz
  subst hz
  exact UN j cs _ L z W m hm hj hr hR
theorem over:Rows.idealGoesRow.holds Tryz.pinned (OpenSpec.ofChange Rows.idealGoesSpec):=
 OpenClaim.holds_of_wide 10 Tryz.f10 rfl rfl rfl rfl rfl rfl rfl ⟨rfl,rfl,rfl,rfl,rfl⟩ rfl rfl rfl rfl rfl zV Tryz.func10 facts inst wrapper
  (fun os started H enc _=>lifted os started H enc)
end idealGoes
end Go.Proofs.YtopeleenlcnkkaaGreatDoor
