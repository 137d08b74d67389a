/- The law TapePuts: its row. -/
import Derived.Test.YtakhobfamnjnoaaGreatDoorC02
import Derived.Test.YtakhobfamnjnoaaGreatDoorC03
import Derived.Test.YtakhobfamnjnoaaGreatDoorC49
set_option linter.unusedVariables false
set_option linter.unusedSimpArgs false
namespace Go.Proofs.YtakhobfamnjnoaaGreatDoor
namespace tapePuts
open Go Go.ChangeShapes Go.WideShapes Go.ChangeAt Go.RowKit
set_option maxRecDepth 100000
theorem ZW:Tryz.pinned.checked.prog.funcNamed Rows.tapePutsRow.func=some 3:=by kernel_rfl
theorem aik:(Rows.tapePutsRow.inPlace==Tryz.pinned.checked.prog.inPlace 3)=true:=by kernel_rfl
theorem aia:(Rows.tapePutsRow.unfollowed==Tryz.pinned.checked.prog.unfollowed 3)=true:=by kernel_rfl
theorem aic:(Rows.tapePutsRow.recurses==Tryz.pinned.checked.prog.recurses 3)=true:=by kernel_rfl
theorem aii:(Rows.tapePutsRow.named==Tryz.pinned.checked.prog.varsNamed 3)=true:=by kernel_rfl
theorem facts:joinedFacts Tryz.pinned.checked.prog 3 Tryz.f3 Rows.tapePutsSpec Rows.tapePutsRow=true:=by
 unfold joinedFacts
 simp only[Bool.and_eq_true]
 and_intros
 all_goals first|with_reducible exact abe|with_reducible exact WR|with_reducible exact TR|with_reducible exact Y9|with_reducible exact ae5|with_reducible exact aik|with_reducible exact aia|with_reducible exact aic|with_reducible exact aii|kernel_rfl
theorem inst:Tryz.f3.isInstance Tryz.pinned.checked.prog Rows.tapePutsRow.origin Rows.tapePutsRow.targs:=of_decide_eq_true (by kernel_rfl)
theorem wrapper:Tryz.f3.isWrapper Tryz.pinned.checked.prog Rows.tapePutsRow.wrapper Rows.tapePutsRow.mainSum:=(by unfold Func.isWrapper;first|(rw[if_pos (by decide+kernel)];kernel_rfl)|(rw[if_neg (by decide+kernel)];exact⟨rfl,rfl⟩))
theorem witness (os:Os)(H:Type)(enc:TypeId×Value->H): ∃(w:World)(tape:Tape)(i:Input),w.os=os/\(w.forCall tape i).Shaped Tryz.prog/\i.vars=[]/\Input.okWide Tryz.prog (w.forCall tape i) .any w.heap.size 3 i/\
 (OpenSpec.ofChange Rows.tapePutsSpec).preRow enc Tryz.prog Tryz.f3 [] false wW (w.forCall tape i).memory i.args/\({}:Assume).holds Tryz.prog (lone (Frame.enter Tryz.prog 3 i.args .normal) [] (w.forCall tape i)):=
 ChangeSpec.witness_shaped (enc:=enc) (C:=Tryz.checked) (os:=os) (X:=fun w _=>laidMetH Tryz.prog wW w) false (laidWorld os) #[.agg #[.int .i64 0, .int .i64 0, .int .i64 0, .slice none 0 0, .slice none 0 0], .agg #[.int .i64 0, .int .i64 0, .int .i64 0, .slice none 0 0, .slice none 0 0], .string ⟨#[]⟩] 8 rfl (World.shaped_of_RefB (by kernel_rfl) (by kernel_rfl)) (by kernel_rfl) (by kernel_rfl) (by kernel_rfl) (laid_met os _)
theorem lifted (os:Os)(started:os.Started)(H:Type)(enc:TypeId×Value->H):
 ReturnsInHanded {} Tryz.checked os 3 .any ((OpenSpec.ofChange Rows.tapePutsSpec).preRow enc Tryz.prog Tryz.f3 [] false wW) (Rows.tapePutsSpec.post enc Tryz.prog Tryz.f3 false true false false):=by
 refine TU Tryz.func3 rfl rfl (by kernel_rfl) (by kernel_rfl) (by kernel_rfl) (fun H ds hl=>?_) ?_ os started H enc (witness os H enc)
 ·rw[Tryz.params3]at hl
  match ds,hl with
  |[d,d1,d2],_=>rfl
 ·intro H enc W base args ds p hA hval hsz h8
  rw[Tryz.params3]at hA hval hsz
  obtain⟨v0,vs,d0,ds,p0,q,ha,rfl,rfl,h0,hA⟩:=trodAll_cons hA
  obtain⟨v1,vs,d1,ds,p1,q,rfl,rfl,rfl,h1,hA⟩:=trodAll_cons hA
  obtain⟨v2,vs,d2,ds,p2,q,rfl,rfl,rfl,h2,hA⟩:=trodAll_cons hA
  obtain⟨rfl,rfl,rfl⟩:=trodAll_nil hA
  have ha:args= #[v0,v1,v2]:=by cases args;simp_all
  subst ha
  obtain⟨cs,rfl,_⟩:=okWide_struct Tryz.underlying27 (hval 0 27 v0 rfl rfl)
  obtain⟨cs',rfl,_⟩:=okWide_struct Tryz.underlying27 (hval 1 27 v1 rfl rfl)
  obtain⟨s,rfl⟩:=okWide_string Tryz.underlying9 (hval 2 9 v2 rfl rfl)
  obtain⟨fuel,hf⟩:=h0
  obtain⟨t,ht,hg⟩:=Sx.Qp fuel _ _ hf fun m hm=>of_decide_eq_true (List.all_eq_true.1 hsz m (DataW.weights_mem_each (j:=0) rfl rfl m hm))
  obtain⟨fuel',hf'⟩:=h1
  obtain⟨u,hu,hg'⟩:=Sx.Qp fuel' _ _ hf' fun m hm=>of_decide_eq_true (List.all_eq_true.1 hsz m (DataW.weights_mem_each (j:=1) rfl rfl m hm))
  exact Sx.WL h8 t u s.data.toList ht hu (Sx.Uw hg) (Sx.Uw hg') (by rw[Sx.sD])
theorem over:Rows.tapePutsRow.holds Tryz.pinned (OpenSpec.ofChange Rows.tapePutsSpec):=
 OpenClaim.holds_of_wide 3 Tryz.f3 rfl rfl rfl rfl rfl rfl rfl ⟨rfl,rfl,rfl,rfl,rfl⟩ rfl rfl rfl rfl rfl ZW Tryz.func3 facts inst wrapper
  (fun os started H enc _=>lifted os started H enc)
end tapePuts
end Go.Proofs.YtakhobfamnjnoaaGreatDoor
