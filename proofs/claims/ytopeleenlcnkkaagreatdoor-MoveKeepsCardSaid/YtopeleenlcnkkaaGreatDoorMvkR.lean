/- The law MoveKeeps: its row. -/
import Derived.Test.YtopeleenlcnkkaaGreatDoorM23
import Derived.Test.YtopeleenlcnkkaaGreatDoorM24
import Derived.Test.YtopeleenlcnkkaaGreatDoorM50
set_option linter.unusedVariables false
set_option linter.unusedSimpArgs false
namespace Go.Proofs.YtopeleenlcnkkaaGreatDoor
namespace moveKeeps
open Go Go.ChangeShapes Go.WideShapes Go.ChangeAt Go.RowKit
set_option maxRecDepth 100000
theorem zV:Tryz.pinned.checked.prog.funcNamed Rows.moveKeepsRow.func=some 11:=by kernel_rfl
theorem Xk:(Rows.moveKeepsRow.inPlace==Tryz.pinned.checked.prog.inPlace 11)=true:=by kernel_rfl
theorem VU:(Rows.moveKeepsRow.unfollowed==Tryz.pinned.checked.prog.unfollowed 11)=true:=by kernel_rfl
theorem Wy:(Rows.moveKeepsRow.recurses==Tryz.pinned.checked.prog.recurses 11)=true:=by kernel_rfl
theorem WT:(Rows.moveKeepsRow.named==Tryz.pinned.checked.prog.varsNamed 11)=true:=by kernel_rfl
theorem facts:joinedFacts Tryz.pinned.checked.prog 11 Tryz.f11 Rows.moveKeepsSpec Rows.moveKeepsRow=true:=by
 unfold joinedFacts
 simp only[Bool.and_eq_true]
 and_intros
 all_goals first|with_reducible exact KH|with_reducible exact Dc|with_reducible exact AO|with_reducible exact FC|with_reducible exact TS|with_reducible exact Xk|with_reducible exact VU|with_reducible exact Wy|with_reducible exact WT|kernel_rfl
theorem inst:Tryz.f11.isInstance Tryz.pinned.checked.prog Rows.moveKeepsRow.origin Rows.moveKeepsRow.targs:=of_decide_eq_true (by kernel_rfl)
theorem wrapper:Tryz.f11.isWrapper Tryz.pinned.checked.prog Rows.moveKeepsRow.wrapper Rows.moveKeepsRow.mainSum:=(by unfold Func.isWrapper;first|(rw[if_pos (by decide+kernel)];kernel_rfl)|(rw[if_neg (by decide+kernel)];exact⟨rfl,rfl⟩))
theorem witness (os:Os)(H:Type)(enc:TypeId×Value->H): ∃(w:World)(tape:Tape)(i:Input),w.os=os/\(w.forCall tape i).Shaped Tryz.prog/\i.vars=[]/\Input.okWide Tryz.prog (w.forCall tape i) .any w.heap.size 11 i/\
 (OpenSpec.ofChange Rows.moveKeepsSpec).preRow enc Tryz.prog Tryz.f11 [] false oQ (w.forCall tape i).memory i.args/\({}:Assume).holds Tryz.prog (lone (Frame.enter Tryz.prog 11 i.args .normal) [] (w.forCall tape i)):=
 ChangeSpec.witness_shaped (enc:=enc) (C:=Tryz.checked) (os:=os) (X:=fun w _=>laidMetH Tryz.prog oQ w) false (laidWorld os) #[.agg #[.int .i64 0, .slice none 0 0], .agg #[.int .i64 0, .slice none 0 0], .slice none 0 0] 8 rfl (World.shaped_of_RefB (by kernel_rfl) (by kernel_rfl)) (by kernel_rfl) (by kernel_rfl) (by kernel_rfl) (laid_met os _)
theorem lifted (os:Os)(started:os.Started)(H:Type)(enc:TypeId×Value->H):
 ReturnsInHanded {} Tryz.checked os 11 .any ((OpenSpec.ofChange Rows.moveKeepsSpec).preRow enc Tryz.prog Tryz.f11 [] false oQ) (Rows.moveKeepsSpec.post enc Tryz.prog Tryz.f11 false true false false):=by
 refine AU Tryz.func11 rfl rfl (by kernel_rfl) (by kernel_rfl) (by kernel_rfl) (fun H ds hl=>?_) ?_ os started H enc (witness os H enc)
 ·rw[Tryz.params11]at hl
  match ds,hl with
  |[d,d1,d2],_=>rfl
 ·intro H enc W base args ds p hA hval hfz hsz hsh
  rw[Tryz.params11]at hA hval hsz
  obtain⟨v0,v1,v2,d0,d1,d2,p0,p1,p2,rfl,rfl,rfl,h0,h1,h2⟩:=trodAll_three hA
  obtain⟨cs,rfl,_⟩:=okWide_struct Tryz.underlying24 (hval 0 24 v0 rfl rfl)
  obtain⟨cs',rfl,_⟩:=okWide_struct Tryz.underlying24 (hval 1 24 v1 rfl rfl)
  obtain⟨a',n',cap',rfl⟩:=okWide_slice Tryz.underlying42 (hval 2 42 v2 rfl rfl)
  obtain⟨fuel0,hf0⟩:=h0
  obtain⟨fuel1,hf1⟩:=h1
  obtain⟨fuel2,hf2⟩:=h2
  obtain⟨a,ha⟩:=BI hf0
  obtain⟨b,hb⟩:=BI hf1
  obtain⟨L,_,hr,hR⟩:=FH hf2
  obtain⟨m,hm⟩:=FN W hsh
  have ha':=ha
  have hb':=hb
  obtain⟨va,ea,_⟩:=ha'
  obtain⟨vb,eb,_⟩:=hb'
  have ea':cs= #[.int .i64 a.par,va]:=ea
  have eb':cs'= #[.int .i64 b.par,vb]:=eb
  subst ea' eb'
  exact NG a b va vb _ L W m hm ha hb hr hR
theorem over:Rows.moveKeepsRow.holds Tryz.pinned (OpenSpec.ofChange Rows.moveKeepsSpec):=
 OpenClaim.holds_of_wide 11 Tryz.f11 rfl rfl rfl rfl rfl rfl rfl ⟨rfl,rfl,rfl,rfl,rfl⟩ rfl rfl rfl rfl rfl zV Tryz.func11 facts inst wrapper
  (fun os started H enc _=>lifted os started H enc)
end moveKeeps
end Go.Proofs.YtopeleenlcnkkaaGreatDoor
