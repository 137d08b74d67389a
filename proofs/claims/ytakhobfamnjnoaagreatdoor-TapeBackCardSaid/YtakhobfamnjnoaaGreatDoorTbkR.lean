/- The law TapeBack: its row. -/
import Derived.Test.YtakhobfamnjnoaaGreatDoorB03
import Derived.Test.YtakhobfamnjnoaaGreatDoorB04
import Derived.Test.YtakhobfamnjnoaaGreatDoorB49
set_option linter.unusedVariables false
set_option linter.unusedSimpArgs false
namespace Go.Proofs.YtakhobfamnjnoaaGreatDoor
namespace tapeBack
open Go Go.ChangeShapes Go.WideShapes Go.ChangeAt Go.RowKit
set_option maxRecDepth 100000
theorem V7:Tryz.pinned.checked.prog.funcNamed Rows.tapeBackRow.func=some 4:=by kernel_rfl
theorem aeG:(Rows.tapeBackRow.inPlace==Tryz.pinned.checked.prog.inPlace 4)=true:=by kernel_rfl
theorem aey:(Rows.tapeBackRow.unfollowed==Tryz.pinned.checked.prog.unfollowed 4)=true:=by kernel_rfl
theorem aeA:(Rows.tapeBackRow.recurses==Tryz.pinned.checked.prog.recurses 4)=true:=by kernel_rfl
theorem aeD:(Rows.tapeBackRow.named==Tryz.pinned.checked.prog.varsNamed 4)=true:=by kernel_rfl
theorem facts:joinedFacts Tryz.pinned.checked.prog 4 Tryz.f4 Rows.tapeBackSpec Rows.tapeBackRow=true:=by
 unfold joinedFacts
 simp only[Bool.and_eq_true]
 and_intros
 all_goals first|with_reducible exact XL|with_reducible exact Si|with_reducible exact OJ|with_reducible exact Vj|with_reducible exact abo|with_reducible exact aeG|with_reducible exact aey|with_reducible exact aeA|with_reducible exact aeD|kernel_rfl
theorem inst:Tryz.f4.isInstance Tryz.pinned.checked.prog Rows.tapeBackRow.origin Rows.tapeBackRow.targs:=of_decide_eq_true (by kernel_rfl)
theorem wrapper:Tryz.f4.isWrapper Tryz.pinned.checked.prog Rows.tapeBackRow.wrapper Rows.tapeBackRow.mainSum:=(by unfold Func.isWrapper;first|(rw[if_pos (by decide+kernel)];kernel_rfl)|(rw[if_neg (by decide+kernel)];exact⟨rfl,rfl⟩))
theorem witness (os:Os)(H:Type)(enc:TypeId×Value->H): ∃(w:World)(tape:Tape)(i:Input),w.os=os/\(w.forCall tape i).Shaped Tryz.prog/\i.vars=[]/\Input.okWide Tryz.prog (w.forCall tape i) .any w.heap.size 4 i/\
 (OpenSpec.ofChange Rows.tapeBackSpec).preRow enc Tryz.prog Tryz.f4 [] false tN (w.forCall tape i).memory i.args/\({}:Assume).holds Tryz.prog (lone (Frame.enter Tryz.prog 4 i.args .normal) [] (w.forCall tape i)):=
 ChangeSpec.witness_shaped (enc:=enc) (C:=Tryz.checked) (os:=os) (X:=fun w _=>laidMetH Tryz.prog tN w) false (laidWorld os) #[.agg #[.int .i64 0, .int .i64 0, .int .i64 0, .slice none 0 0, .slice none 0 0], .int .i64 0, .string ⟨#[]⟩] 8 rfl (World.shaped_of_RefB (by kernel_rfl) (by kernel_rfl)) (by kernel_rfl) (by kernel_rfl) (by kernel_rfl) (laid_met os _)
theorem lifted (os:Os)(started:os.Started)(H:Type)(enc:TypeId×Value->H):
 ReturnsInHanded {} Tryz.checked os 4 .any ((OpenSpec.ofChange Rows.tapeBackSpec).preRow enc Tryz.prog Tryz.f4 [] false tN) (Rows.tapeBackSpec.post enc Tryz.prog Tryz.f4 false true false false):=by
 refine OQ Tryz.func4 rfl rfl (by kernel_rfl) (by kernel_rfl) (by kernel_rfl) (fun H ds hl=>?_) ?_ os started H enc (witness os H enc)
 ·rw[Tryz.params4]at hl
  match ds,hl with
  |[d,d1,d2],_=>rfl
 ·intro H enc W base args ds p hA hval hsz h8
  rw[Tryz.params4]at hA hval hsz
  obtain⟨v0,vs,d0,ds,p0,q,ha,rfl,rfl,h0,hA⟩:=trodAll_cons hA
  obtain⟨v1,vs,d1,ds,p1,q,rfl,rfl,rfl,h1,hA⟩:=trodAll_cons hA
  obtain⟨v2,vs,d2,ds,p2,q,rfl,rfl,rfl,h2,hA⟩:=trodAll_cons hA
  obtain⟨rfl,rfl,rfl⟩:=trodAll_nil hA
  have ha:args= #[v0,v1,v2]:=by cases args;simp_all
  subst ha
  obtain⟨cs,rfl,_⟩:=okWide_struct Tryz.underlying27 (hval 0 27 v0 rfl rfl)
  obtain⟨n,rfl⟩:=okWide_int Tryz.underlying3 (hval 1 3 v1 rfl rfl)
  obtain⟨s,rfl⟩:=okWide_string Tryz.underlying9 (hval 2 9 v2 rfl rfl)
  obtain⟨fuel,hf⟩:=h0
  obtain⟨t,ht,hg⟩:=Sx.XO fuel _ _ hf fun m hm=>of_decide_eq_true (List.all_eq_true.1 hsz m (DataW.weights_mem_each (j:=0) rfl rfl m hm))
  exact Sx.Ub h8 t n s.data.toList ht (Sx.ZM hg) rfl (by rw[Sx.uo])
theorem over:Rows.tapeBackRow.holds Tryz.pinned (OpenSpec.ofChange Rows.tapeBackSpec):=
 OpenClaim.holds_of_wide 4 Tryz.f4 rfl rfl rfl rfl rfl rfl rfl ⟨rfl,rfl,rfl,rfl,rfl⟩ rfl rfl rfl rfl rfl V7 Tryz.func4 facts inst wrapper
  (fun os started H enc _=>lifted os started H enc)
end tapeBack
end Go.Proofs.YtakhobfamnjnoaaGreatDoor
