/- The law IdealFeeds: its row. -/
import Derived.Test.YtglbkodmmogomaaGreatDoorI33
import Derived.Test.YtglbkodmmogomaaGreatDoorI34
import Derived.Test.YtglbkodmmogomaaGreatDoorI51
set_option linter.unusedVariables false
set_option linter.unusedSimpArgs false
namespace Go.Proofs.YtglbkodmmogomaaGreatDoor
namespace idealFeeds
open Go Go.ChangeShapes Go.WideShapes Go.ChangeAt Go.RowKit
set_option maxRecDepth 100000
theorem Zb:Tryz.pinned.checked.prog.funcNamed Rows.idealFeedsRow.func=some 6:=by kernel_rfl
theorem ahB:(Rows.idealFeedsRow.inPlace==Tryz.pinned.checked.prog.inPlace 6)=true:=by kernel_rfl
theorem ahv:(Rows.idealFeedsRow.unfollowed==Tryz.pinned.checked.prog.unfollowed 6)=true:=by kernel_rfl
theorem ahy:(Rows.idealFeedsRow.recurses==Tryz.pinned.checked.prog.recurses 6)=true:=by kernel_rfl
theorem ahA:(Rows.idealFeedsRow.named==Tryz.pinned.checked.prog.varsNamed 6)=true:=by kernel_rfl
theorem facts:joinedFacts Tryz.pinned.checked.prog 6 Tryz.f6 Rows.idealFeedsSpec Rows.idealFeedsRow=true:=by
 unfold joinedFacts
 simp only[Bool.and_eq_true]
 and_intros
 all_goals first|with_reducible exact aat|with_reducible exact Vb|with_reducible exact RG|with_reducible exact Yj|with_reducible exact adI|with_reducible exact ahB|with_reducible exact ahv|with_reducible exact ahy|with_reducible exact ahA|kernel_rfl
theorem inst:Tryz.f6.isInstance Tryz.pinned.checked.prog Rows.idealFeedsRow.origin Rows.idealFeedsRow.targs:=of_decide_eq_true (by kernel_rfl)
theorem wrapper:Tryz.f6.isWrapper Tryz.pinned.checked.prog Rows.idealFeedsRow.wrapper Rows.idealFeedsRow.mainSum:=(by unfold Func.isWrapper;first|(rw[if_pos (by decide+kernel)];kernel_rfl)|(rw[if_neg (by decide+kernel)];exact⟨rfl,rfl⟩))
theorem witness (os:Os)(H:Type)(enc:TypeId×Value->H): ∃(w:World)(tape:Tape)(i:Input),w.os=os/\(w.forCall tape i).Shaped Tryz.prog/\i.vars=[]/\Input.okWide Tryz.prog (w.forCall tape i) .any w.heap.size 6 i/\
 (OpenSpec.ofChange Rows.idealFeedsSpec).preRow enc Tryz.prog Tryz.f6 [] false wJ (w.forCall tape i).memory i.args/\({}:Assume).holds Tryz.prog (lone (Frame.enter Tryz.prog 6 i.args .normal) [] (w.forCall tape i)):=
 ChangeSpec.witness_shaped (enc:=enc) (C:=Tryz.checked) (os:=os) (X:=fun w _=>laidMetH Tryz.prog wJ w) false (laidWorld os) #[.agg #[.int .i64 0, .slice none 0 0], .slice none 0 0, .slice none 0 0] 8 rfl (World.shaped_of_RefB (by kernel_rfl) (by kernel_rfl)) (by kernel_rfl) (by kernel_rfl) (by kernel_rfl) (laid_met os _)
theorem lifted (os:Os)(started:os.Started)(H:Type)(enc:TypeId×Value->H):
 ReturnsInHanded {} Tryz.checked os 6 .any ((OpenSpec.ofChange Rows.idealFeedsSpec).preRow enc Tryz.prog Tryz.f6 [] false wJ) (Rows.idealFeedsSpec.post enc Tryz.prog Tryz.f6 false true false false):=by
 refine RN Tryz.func6 rfl rfl (by kernel_rfl) (by kernel_rfl) (by kernel_rfl) (fun H ds hl=>?_) ?_ os started H enc (witness os H enc)
 ·rw[Tryz.params6]at hl
  match ds,hl with
  |[d,d1,d2],_=>rfl
 ·intro H enc W base args ds p hA hval hfz hsz hsh
  rw[Tryz.params6]at hA hval hsz
  obtain⟨v0,v1,v2,d0,d1,d2,p0,p1,p2,rfl,rfl,rfl,h0,h1,h2⟩:=trodAll_three hA
  obtain⟨cs,rfl,_⟩:=okWide_struct Tryz.underlying24 (hval 0 24 v0 rfl rfl)
  obtain⟨a',n',cap',rfl⟩:=okWide_slice Tryz.underlying25 (hval 1 25 v1 rfl rfl)
  obtain⟨a2,n2,cap2,rfl⟩:=okWide_slice Tryz.underlying60 (hval 2 60 v2 rfl rfl)
  obtain⟨fuel0,hf0⟩:=h0
  obtain⟨fuel1,hf1⟩:=h1
  obtain⟨fuel2,hf2⟩:=h2
  obtain⟨j,hj⟩:=aaw hf0
  obtain⟨l,_,hs,hsz2⟩:=aav hf1
  obtain⟨L,_,hr,hR⟩:=Yk hf2
  obtain⟨m,hm⟩:=Yu W hsh
  have hj':=hj
  obtain⟨va,ea,_⟩:=hj'
  have ea':cs= #[.int .i64 j.par,va]:=ea
  subst ea'
  exact Sj j va _ _ l L W m hm hj hs hsz2 hr hR
theorem over:Rows.idealFeedsRow.holds Tryz.pinned (OpenSpec.ofChange Rows.idealFeedsSpec):=
 OpenClaim.holds_of_wide 6 Tryz.f6 rfl rfl rfl rfl rfl rfl rfl ⟨rfl,rfl,rfl,rfl,rfl⟩ rfl rfl rfl rfl rfl Zb Tryz.func6 facts inst wrapper
  (fun os started H enc _=>lifted os started H enc)
end idealFeeds
