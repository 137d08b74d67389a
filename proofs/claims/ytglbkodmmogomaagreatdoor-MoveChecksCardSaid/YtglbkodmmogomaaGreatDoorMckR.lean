/- The law MoveChecks: its row. -/
import Derived.Test.YtglbkodmmogomaaGreatDoorM33
import Derived.Test.YtglbkodmmogomaaGreatDoorM52
set_option linter.unusedVariables false
set_option linter.unusedSimpArgs false
namespace Go.Proofs.YtglbkodmmogomaaGreatDoor
namespace moveChecks
open Go Go.ChangeShapes Go.WideShapes Go.ChangeAt Go.RowKit
set_option maxRecDepth 100000
theorem NU:Tryz.pinned.checked.prog.funcNamed Rows.moveChecksRow.func=some 3:=by kernel_rfl
theorem XG:(Rows.moveChecksRow.inPlace==Tryz.pinned.checked.prog.inPlace 3)=true:=by kernel_rfl
theorem Xw:(Rows.moveChecksRow.unfollowed==Tryz.pinned.checked.prog.unfollowed 3)=true:=by kernel_rfl
theorem Xy:(Rows.moveChecksRow.recurses==Tryz.pinned.checked.prog.recurses 3)=true:=by kernel_rfl
theorem XB:(Rows.moveChecksRow.named==Tryz.pinned.checked.prog.varsNamed 3)=true:=by kernel_rfl
theorem facts:joinedFacts Tryz.pinned.checked.prog 3 Tryz.f3 Rows.moveChecksSpec Rows.moveChecksRow=true:=by
 unfold joinedFacts
 simp only[Bool.and_eq_true]
 and_intros
 all_goals first|with_reducible exact OY|with_reducible exact Kt|with_reducible exact Ig|with_reducible exact ML|with_reducible exact Tj|with_reducible exact XG|with_reducible exact Xw|with_reducible exact Xy|with_reducible exact XB|kernel_rfl
theorem inst:Tryz.f3.isInstance Tryz.pinned.checked.prog Rows.moveChecksRow.origin Rows.moveChecksRow.targs:=of_decide_eq_true (by kernel_rfl)
theorem wrapper:Tryz.f3.isWrapper Tryz.pinned.checked.prog Rows.moveChecksRow.wrapper Rows.moveChecksRow.mainSum:=(by unfold Func.isWrapper;first|(rw[if_pos (by decide+kernel)];kernel_rfl)|(rw[if_neg (by decide+kernel)];exact⟨rfl,rfl⟩))
theorem witness (os:Os)(H:Type)(enc:TypeId×Value->H): ∃(w:World)(tape:Tape)(i:Input),w.os=os/\(w.forCall tape i).Shaped Tryz.prog/\i.vars=[]/\Input.okWide Tryz.prog (w.forCall tape i) .any w.heap.size 3 i/\
 (OpenSpec.ofChange Rows.moveChecksSpec).preRow enc Tryz.prog Tryz.f3 [] false qQ (w.forCall tape i).memory i.args/\({}:Assume).holds Tryz.prog (lone (Frame.enter Tryz.prog 3 i.args .normal) [] (w.forCall tape i)):=
 ChangeSpec.witness_shaped (enc:=enc) (C:=Tryz.checked) (os:=os) (X:=fun w _=>laidMetH Tryz.prog qQ w) false (laidWorld os) #[.agg #[.int .i64 0, .slice none 0 0], .agg #[.int .i64 0, .slice none 0 0], .slice none 0 0] 8 rfl (World.shaped_of_RefB (by kernel_rfl) (by kernel_rfl)) (by kernel_rfl) (by kernel_rfl) (by kernel_rfl) (laid_met os _)
theorem lifted (os:Os)(started:os.Started)(H:Type)(enc:TypeId×Value->H):
 ReturnsInHanded {} Tryz.checked os 3 .any ((OpenSpec.ofChange Rows.moveChecksSpec).preRow enc Tryz.prog Tryz.f3 [] false qQ) (Rows.moveChecksSpec.post enc Tryz.prog Tryz.f3 false true false false):=by
 refine Ik Tryz.func3 rfl rfl (by kernel_rfl) (by kernel_rfl) (by kernel_rfl) (fun H ds hl=>?_) ?_ os started H enc (witness os H enc)
 ·rw[Tryz.params3]at hl
  match ds,hl with
  |[d,d1,d2],_=>rfl
 ·intro H enc W base args ds p hA hval hfz hsz hsh
  rw[Tryz.params3]at hA hval hsz
  obtain⟨v0,v1,v2,d0,d1,d2,p0,p1,p2,rfl,rfl,rfl,h0,h1,h2⟩:=trodAll_three hA
  obtain⟨cs,rfl,_⟩:=okWide_struct Tryz.underlying24 (hval 0 24 v0 rfl rfl)
  obtain⟨cs',rfl,_⟩:=okWide_struct Tryz.underlying24 (hval 1 24 v1 rfl rfl)
  obtain⟨a',n',cap',rfl⟩:=okWide_slice Tryz.underlying25 (hval 2 25 v2 rfl rfl)
  obtain⟨fuel0,hf0⟩:=h0
  obtain⟨fuel1,hf1⟩:=h1
  obtain⟨fuel2,hf2⟩:=h2
  obtain⟨a,ha⟩:=E8 hf0
  obtain⟨b,hb⟩:=E8 hf1
  obtain⟨l,_,hr,hR⟩:=O5 hf2
  obtain⟨m,hm⟩:=MW W hsh
  have ha':=ha
  have hb':=hb
  obtain⟨va,ea,_⟩:=ha'
  obtain⟨vb,eb,_⟩:=hb'
  have ea':cs= #[.int .i64 a.par,va]:=ea
  have eb':cs'= #[.int .i64 b.par,vb]:=eb
  subst ea' eb'
  exact Fg a b va vb _ l W m hm ha hb hr hR
theorem over:Rows.moveChecksRow.holds Tryz.pinned (OpenSpec.ofChange Rows.moveChecksSpec):=
 OpenClaim.holds_of_wide 3 Tryz.f3 rfl rfl rfl rfl rfl rfl rfl ⟨rfl,rfl,rfl,rfl,rfl⟩ rfl rfl rfl rfl rfl NU Tryz.func3 facts inst wrapper
  (fun os started H enc _=>lifted os started H enc)
end moveChecks
end Go.Proofs.YtglbkodmmogomaaGreatDoor
