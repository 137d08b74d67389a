/- The law ShadowIdeals: its row. -/
import Derived.Test.YtglbkodmmogomaaGreatDoorS17
import Derived.Test.YtglbkodmmogomaaGreatDoorS18
import Derived.Test.YtglbkodmmogomaaGreatDoorS27
set_option linter.unusedVariables false
set_option linter.unusedSimpArgs false
namespace Go.Proofs.YtglbkodmmogomaaGreatDoor
namespace shadowIdeals
open Go Go.ChangeShapes Go.WideShapes Go.ChangeAt Go.RowKit
set_option maxRecDepth 100000
theorem ZN:Tryz.pinned.checked.prog.funcNamed Rows.shadowIdealsRow.func=some 5:=by kernel_rfl
theorem ain:(Rows.shadowIdealsRow.inPlace==Tryz.pinned.checked.prog.inPlace 5)=true:=by kernel_rfl
theorem aif:(Rows.shadowIdealsRow.unfollowed==Tryz.pinned.checked.prog.unfollowed 5)=true:=by kernel_rfl
theorem aij:(Rows.shadowIdealsRow.recurses==Tryz.pinned.checked.prog.recurses 5)=true:=by kernel_rfl
theorem ail:(Rows.shadowIdealsRow.named==Tryz.pinned.checked.prog.varsNamed 5)=true:=by kernel_rfl
theorem facts:joinedFacts Tryz.pinned.checked.prog 5 Tryz.f5 Rows.shadowIdealsSpec Rows.shadowIdealsRow=true:=by
 unfold joinedFacts
 simp only[Bool.and_eq_true]
 and_intros
 all_goals first|with_reducible exact aa1|with_reducible exact VG|with_reducible exact Tj|with_reducible exact YL|with_reducible exact aek|with_reducible exact ain|with_reducible exact aif|with_reducible exact aij|with_reducible exact ail|kernel_rfl
theorem inst:Tryz.f5.isInstance Tryz.pinned.checked.prog Rows.shadowIdealsRow.origin Rows.shadowIdealsRow.targs:=of_decide_eq_true (by kernel_rfl)
theorem wrapper:Tryz.f5.isWrapper Tryz.pinned.checked.prog Rows.shadowIdealsRow.wrapper Rows.shadowIdealsRow.mainSum:=(by unfold Func.isWrapper;first|(rw[if_pos (by decide+kernel)];kernel_rfl)|(rw[if_neg (by decide+kernel)];exact⟨rfl,rfl⟩))
theorem witness (os:Os)(H:Type)(enc:TypeId×Value->H): ∃(w:World)(tape:Tape)(i:Input),w.os=os/\(w.forCall tape i).Shaped Tryz.prog/\i.vars=[]/\Input.okWide Tryz.prog (w.forCall tape i) .any w.heap.size 5 i/\
 (OpenSpec.ofChange Rows.shadowIdealsSpec).preRow enc Tryz.prog Tryz.f5 [] false xq (w.forCall tape i).memory i.args/\({}:Assume).holds Tryz.prog (lone (Frame.enter Tryz.prog 5 i.args .normal) [] (w.forCall tape i)):=
 ChangeSpec.witness_shaped (enc:=enc) (C:=Tryz.checked) (os:=os) (X:=fun w _=>laidMetH Tryz.prog xq w) false (laidWorld os) #[.agg #[.int .i64 0, .slice none 0 0, .slice none 0 0], .agg #[.int .i64 0, .slice none 0 0, .slice none 0 0], .slice none 0 0] 8 rfl (World.shaped_of_RefB (by kernel_rfl) (by kernel_rfl)) (by kernel_rfl) (by kernel_rfl) (by kernel_rfl) (laid_met os _)
theorem lifted (os:Os)(started:os.Started)(H:Type)(enc:TypeId×Value->H):
 ReturnsInHanded {} Tryz.checked os 5 .any ((OpenSpec.ofChange Rows.shadowIdealsSpec).preRow enc Tryz.prog Tryz.f5 [] false xq) (Rows.shadowIdealsSpec.post enc Tryz.prog Tryz.f5 false true false false):=by
 refine Tq Tryz.func5 rfl rfl (by kernel_rfl) (by kernel_rfl) (by kernel_rfl) (fun H ds hl=>?_) ?_ os started H enc (witness os H enc)
 ·rw[Tryz.params5]at hl
  match ds,hl with
  |[d,d1,d2],_=>rfl
 ·intro H enc W base args ds p hA hval hfz hsz hsh
  rw[Tryz.params5]at hA hval hsz
  obtain⟨v0,v1,v2,d0,d1,d2,p0,p1,p2,rfl,rfl,rfl,h0,h1,h2⟩:=trodAll_three hA
  obtain⟨cs,rfl,_⟩:=okWide_struct Tryz.underlying53 (hval 0 53 v0 rfl rfl)
  obtain⟨cs',rfl,_⟩:=okWide_struct Tryz.underlying53 (hval 1 53 v1 rfl rfl)
  obtain⟨a',n',cap',rfl⟩:=okWide_slice Tryz.underlying54 (hval 2 54 v2 rfl rfl)
  obtain⟨fuel0,hf0⟩:=h0
  obtain⟨fuel1,hf1⟩:=h1
  obtain⟨fuel2,hf2⟩:=h2
  obtain⟨sa,va,ua,ea,ha⟩:=JJ hf0
  obtain⟨sb,vb,ub,eb,hb⟩:=JJ hf1
  obtain⟨L,_,hr,hR⟩:=aa6 hf2
  obtain⟨m,hm⟩:=YW W hsh
  have ea':cs= #[.int .i64 sa.1.par,va,ua]:=ea
  have eb':cs'= #[.int .i64 sb.1.par,vb,ub]:=eb
  subst ea' eb'
  exact Po sa sb va ua vb ub _ L W m hm ha hb hr hR
theorem over:Rows.shadowIdealsRow.holds Tryz.pinned (OpenSpec.ofChange Rows.shadowIdealsSpec):=
 OpenClaim.holds_of_wide 5 Tryz.f5 rfl rfl rfl rfl rfl rfl rfl ⟨rfl,rfl,rfl,rfl,rfl⟩ rfl rfl rfl rfl rfl ZN Tryz.func5 facts inst wrapper
  (fun os started H enc _=>lifted os started H enc)
end shadowIdeals
