/- The law ExactParts: its row. -/
import Derived.Test.YtopeleenlcnkkaaGreatDoorX47
import Derived.Test.YtopeleenlcnkkaaGreatDoorX48
import Derived.Test.YtopeleenlcnkkaaGreatDoorX55
set_option linter.unusedVariables false
set_option linter.unusedSimpArgs false
namespace Go.Proofs.YtopeleenlcnkkaaGreatDoor
namespace exactParts
open Go Go.ChangeShapes Go.WideShapes Go.ChangeAt Go.RowKit
set_option maxRecDepth 100000
theorem sO:Tryz.pinned.checked.prog.funcNamed Rows.exactPartsRow.func=some 14:=by kernel_rfl
theorem MW:(Rows.exactPartsRow.inPlace==Tryz.pinned.checked.prog.inPlace 14)=true:=by kernel_rfl
theorem Ij:(Rows.exactPartsRow.unfollowed==Tryz.pinned.checked.prog.unfollowed 14)=true:=by kernel_rfl
theorem LG:(Rows.exactPartsRow.recurses==Tryz.pinned.checked.prog.recurses 14)=true:=by kernel_rfl
theorem Me:(Rows.exactPartsRow.named==Tryz.pinned.checked.prog.varsNamed 14)=true:=by kernel_rfl
theorem facts:joinedFacts Tryz.pinned.checked.prog 14 Tryz.f14 Rows.exactPartsSpec Rows.exactPartsRow=true:=by
 unfold joinedFacts
 simp only[Bool.and_eq_true]
 and_intros
 all_goals first|with_reducible exact CZ|with_reducible exact yL|with_reducible exact wW|with_reducible exact zV|with_reducible exact LW|with_reducible exact MW|with_reducible exact Ij|with_reducible exact LG|with_reducible exact Me|kernel_rfl
theorem inst:Tryz.f14.isInstance Tryz.pinned.checked.prog Rows.exactPartsRow.origin Rows.exactPartsRow.targs:=of_decide_eq_true (by kernel_rfl)
theorem wrapper:Tryz.f14.isWrapper Tryz.pinned.checked.prog Rows.exactPartsRow.wrapper Rows.exactPartsRow.mainSum:=(by unfold Func.isWrapper;first|(rw[if_pos (by decide+kernel)];kernel_rfl)|(rw[if_neg (by decide+kernel)];exact⟨rfl,rfl⟩))
theorem witness (os:Os)(H:Type)(enc:TypeId×Value->H): ∃(w:World)(tape:Tape)(i:Input),w.os=os/\(w.forCall tape i).Shaped Tryz.prog/\i.vars=[]/\Input.okWide Tryz.prog (w.forCall tape i) .any w.heap.size 14 i/\
 (OpenSpec.ofChange Rows.exactPartsSpec).preRow enc Tryz.prog Tryz.f14 [] false mF (w.forCall tape i).memory i.args/\({}:Assume).holds Tryz.prog (lone (Frame.enter Tryz.prog 14 i.args .normal) [] (w.forCall tape i)):=
 ChangeSpec.witness_shaped (enc:=enc) (C:=Tryz.checked) (os:=os) (X:=fun w _=>laidMetH Tryz.prog mF w) false (laidWorld os) #[.agg #[.int .i64 0, .slice none 0 0], .slice none 0 0, .slice none 0 0, .int .i64 0] 8 rfl (World.shaped_of_RefB (by kernel_rfl) (by kernel_rfl)) (by kernel_rfl) (by kernel_rfl) (by kernel_rfl) (laid_met os _)
theorem lifted (os:Os)(started:os.Started)(H:Type)(enc:TypeId×Value->H):
 ReturnsInHanded {} Tryz.checked os 14 .any ((OpenSpec.ofChange Rows.exactPartsSpec).preRow enc Tryz.prog Tryz.f14 [] false mF) (Rows.exactPartsSpec.post enc Tryz.prog Tryz.f14 false true false false):=by
 refine wZ Tryz.func14 rfl rfl (by kernel_rfl) (by kernel_rfl) (by kernel_rfl) (fun H ds hl=>?_) ?_ os started H enc (witness os H enc)
 ·rw[Tryz.params14]at hl
  match ds,hl with
  |[d,d1,d2,d3],_=>rfl
 ·intro H enc W base args ds p hA hval hfz hsz hsh
  rw[Tryz.params14]at hA hval hsz
  obtain⟨v0,v1,v2,v3,d0,d1,d2,d3,p0,p1,p2,p3,rfl,rfl,rfl,h0,h1,h2,h3⟩:=trodAll_four hA
  obtain⟨cs,rfl,_⟩:=okWide_struct Tryz.underlying24 (hval 0 24 v0 rfl rfl)
  obtain⟨at',nt',adR,rfl⟩:=okWide_slice Tryz.underlying76 (hval 1 76 v1 rfl rfl)
  obtain⟨a',n',cap',rfl⟩:=okWide_slice Tryz.underlying49 (hval 2 49 v2 rfl rfl)
  obtain⟨z,rfl⟩:=okWide_int Tryz.underlying3 (hval 3 3 v3 rfl rfl)
  obtain⟨fuel,hf⟩:=h0
  obtain⟨fuel1,hf1⟩:=h1
  obtain⟨fuel',hf'⟩:=h2
  obtain⟨fuel2,hf2⟩:=h3
  obtain⟨j,hj⟩:=yM hf
  obtain⟨ts,ht⟩:=DW hf1
  obtain⟨L,_,hr,hR⟩:=C9 hf'
  obtain⟨m,hm⟩:=zY W hsh
  obtain⟨z',hz,hw⟩:=vW hf2
  injection hz with _ hz
  subst hz
  exact Oj j cs _ _ ts L z W m hm hj ht hr hR
theorem over:Rows.exactPartsRow.holds Tryz.pinned (OpenSpec.ofChange Rows.exactPartsSpec):=
 OpenClaim.holds_of_wide 14 Tryz.f14 rfl rfl rfl rfl rfl rfl rfl ⟨rfl,rfl,rfl,rfl,rfl⟩ rfl rfl rfl rfl rfl sO Tryz.func14 facts inst wrapper
  (fun os started H enc _=>lifted os started H enc)
end exactParts
end Go.Proofs.YtopeleenlcnkkaaGreatDoor
