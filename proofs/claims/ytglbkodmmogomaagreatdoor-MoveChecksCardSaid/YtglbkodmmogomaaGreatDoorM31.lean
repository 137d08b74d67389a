/- The jobs of the documents' texts, parsed. -/
import Derived.Test.YtglbkodmmogomaaGreatDoorM30
set_option linter.unusedVariables false
set_option linter.unusedSimpArgs false
set_option maxHeartbeats 4000000
set_option maxRecDepth 100000
namespace Go.Proofs.YtglbkodmmogomaaGreatDoor
section
open Go Go.RowKit
attribute [local irreducible] bH dP H2.bW
def Rf (w:World)(par:Int)(nodes:List JN)(e:Ending)(w':World):Prop:= ∃v J lo D,e= .returned (.agg #[.int .i64 par,v])/\jk w' J lo par nodes v D/\w.heap.size<J/\Kept none' w w'
theorem Fp (s:ByteArray)(par:Int)(nodes:List JN)(w:World)(hP:Bc s par nodes)(m:Int)(hm:w.cell? ⟨0,0,none⟩=some (.int .i64 m)):Calls Tryz.prog 39 #[.string s] w (Rf w par nodes):=by
 have k0:Kept none' w (w.alloc (.cells #[.int .i64 0, .slice none 0 0] 24)):=(Kept.refl _ _).alloc _
 have t0:(w.alloc (.cells #[.int .i64 0, .slice none 0 0] 24)).heap[w.heap.size]?=some (.cells #[.int .i64 0, .slice none 0 0] 24 (0,0)):=heap_alloc_new _ _
 have hm0:0<w.heap.size:=by have:=block_lt_of_cell hm;simpa using this
 have cp:=parse_any s par nodes _ hP m (k0.cell (p:=⟨0,0,none⟩) (fun h=>h) hm)
 have H:=Lib.hid (And.intro k0 t0)
 clear k0 t0 hP hm
 go_enter Tryz.func39,Tryz.ntmps39
 go_wp2_with fail
 (with_reducible refine cp.mono ?_)
 clear cp
 rintro e w1 ⟨v,J,lo,D,rfl,hj,hJ,k1⟩
 obtain⟨va,vc,rfl⟩: ∃a c,v= .slice a nodes.length c:=by
  obtain⟨cs,h2,_⟩:=hj.row
  exact ay h2
 have hsz1:(w.alloc (.cells #[.int .i64 0, .slice none 0 0] 24)).heap.size=w.heap.size+1:=Array.size_push _
 rw[hsz1]at hJ
 have ka:Kept none' w1 (w1.alloc (.cells #[.int .i64 par, .slice va nodes.length vc] 24)):=(Kept.refl _ _).alloc _
 have t1:=ka.heap (k1.heap H.out.2 (fun h=>h)) (fun h=>h)
 have z0:=cells_at t1 (j:=0) rfl
 have z1:=cells_at t1 (j:=1) rfl
 have f0:=free_at t1 0
 have f1:=free_at t1 1
 have hT:w.heap.size<w1.heap.size+1:=by have:=(Array.getElem?_eq_some_iff.1 t1).1;simpa using this
 have hT1:w.heap.size<(w1.alloc (.cells #[.int .i64 par, .slice va nodes.length vc] 24)).heap.size:=(Array.getElem?_eq_some_iff.1 t1).1
 have hset:=aS (aS t1 0 (.int .i64 par)) 1 (.slice va nodes.length vc)
 have ks:Kept (one w.heap.size) (w1.alloc (.cells #[.int .i64 par, .slice va nodes.length vc] 24)) (((w1.alloc (.cells #[.int .i64 par, .slice va nodes.length vc] 24)).setCell ⟨w.heap.size,0,none⟩ (.int .i64 par)).setCell ⟨w.heap.size,1,none⟩ (.slice va nodes.length vc)):=
  Kept.setCell (p:=⟨w.heap.size,1,none⟩) (Kept.setCell (p:=⟨w.heap.size,0,none⟩) (Kept.refl (one w.heap.size) _) (.inl rfl) _) (.inl rfl) _
 have hjk:=hj.pure ka
 obtain⟨rcs,hrow,_⟩:=hjk.row
 have WU:=hjk.jL ks (fun k hk=>by
  unfold one at hk
  refine⟨by omega,fun h=>?_,fun h=>?_⟩
  ·have:=(hrow.lt k h).1;have:=hjk.lt;omega
  ·have:=(hjk.dd k h).1;have:=hjk.lt;omega)
 have F:Rf w par nodes (.returned (.agg #[.int .i64 par, .slice va nodes.length vc])) (((w1.alloc (.cells #[.int .i64 par, .slice va nodes.length vc] 24)).setCell ⟨w.heap.size,0,none⟩ (.int .i64 par)).setCell ⟨w.heap.size,1,none⟩ (.slice va nodes.length vc)):=
  ⟨_,J,lo,D,rfl,WU,by omega,(((H.out.1.trans k1).trans ka).new ks (fun i hi hs=>by unfold one at hs;omega))⟩
 have FF:=Lib.hid (And.intro F hset)
 clear F hset ks hj hjk WU hrow k1 ka
 go_wp2_with fail
 obtain⟨WF,ji⟩: ∃WF,(((w1.alloc (.cells #[.int .i64 par, .slice va nodes.length vc] 24)).setCell ⟨w.heap.size,0,none⟩ (.int .i64 par)).setCell ⟨w.heap.size,1,none⟩ (.slice va nodes.length vc))=WF:=⟨_,rfl⟩
 obtain⟨F,s5⟩:=FF.out
 have V8:WF.heap[w.heap.size]?=some (.cells #[.int .i64 par, .slice va nodes.length vc] 24 (0,0)):=by rw[<-ji];simpa using s5
 rw[ji]at F⊢
 have q0:=cells_at V8 (j:=0) rfl
 have q1:=cells_at V8 (j:=1) rfl
 refine bodyPost_ret (v:= .agg #[.int .i64 par, .slice va nodes.length vc]) (by simp[results,Tryz.results39,go_sem,q0,q1]) rfl F
def Lh (r:Nat):Bool:=r==97||r==99||r==118||r==108||r==43||r==45||r==32
theorem Qh {r:Nat}(h:Lh r=true):iJ r:=by
 unfold Lh at h
 unfold iJ
 simp at h
 omega
theorem Gv {l:List (Nat×Nat)}(h:l.all (fun p=>Lh p.2)=true): ∀p∈l,iJ p.2:=fun p hp=>Qh (List.all_eq_true.1 h p hp)
abbrev Qz:ByteArray:=⟨#[112,97,114,32,50,10,115,32,115,111,117,114,99,101,10,114,32,114,101,100,117,99,101,32,115,32,58,32,97,99,99,32,43,32,118,97,108,10,116,32,115,105,110,107,32,114]⟩
def JX:List JN:=[⟨⟨#[115]⟩,1,[], .mk 0 0 [],0⟩,⟨⟨#[114]⟩,6,[0], .mk 7 0 [.mk 4 0 [], .mk 3 0 []],0⟩,⟨⟨#[116]⟩,9,[1], .mk 0 0 [],0⟩]
theorem JW:Bc Qz 2 JX:=by
 refine⟨by decide,⟨⟨#[112,97,114,32,50]⟩,[⟨#[115,32,115,111,117,114,99,101]⟩,⟨#[114,32,114,101,100,117,99,101,32,115,32,58,32,97,99,99,32,43,32,118,97,108]⟩,⟨#[116,32,115,105,110,107,32,114]⟩],⟨#[112,97,114,32,50]⟩,vg,⟨#[50]⟩,by kernel_rfl,by kernel_rfl,by decide,by kernel_rfl,by kernel_rfl,by kernel_rfl,?_⟩,⟨by decide,by decide⟩,by decide,by kernel_rfl⟩
 have l0:qg ([]:List JN) ⟨#[115,32,115,111,117,114,99,101]⟩ ⟨#[115]⟩ ⟨#[115,111,117,114,99,101]⟩ [] 1 none:=⟨by kernel_rfl,by kernel_rfl,by decide,by decide,(fun i hi=>by cases hi),by kernel_rfl,by kernel_rfl,by decide,(fun y h=>by cases h)⟩
 have l1:qg ([⟨⟨#[115]⟩,1,[], .mk 0 0 [],0⟩]:List JN) ⟨#[114,32,114,101,100,117,99,101,32,115,32,58,32,97,99,99,32,43,32,118,97,108]⟩ ⟨#[114]⟩ ⟨#[114,101,100,117,99,101]⟩ [⟨#[115]⟩] 6 (some (.mk 7 0 [.mk 4 0 [], .mk 3 0 []])):=⟨by kernel_rfl,by kernel_rfl,by decide,by decide,(fun i hi=>by rw[List.mem_singleton.1 hi,show aA ([⟨⟨#[115]⟩,1,[], .mk 0 0 [],0⟩]:List JN) ⟨#[115]⟩=(0:Int)from by kernel_rfl];decide),by kernel_rfl,by kernel_rfl,by decide,(fun y h=>by cases h;exact⟨[97,99,99,32,43,32,118,97,108],by kernel_rfl,by decide,Gv (by kernel_rfl),by kernel_rfl,by unfold qc;intro z hz;simp[Ex.args]at hz;rcases hz with rfl|rfl<;>(unfold qc;intro z hz;simp[Ex.args]at hz)⟩)⟩
 have l2:qg ([⟨⟨#[115]⟩,1,[], .mk 0 0 [],0⟩,⟨⟨#[114]⟩,6,[0], .mk 7 0 [.mk 4 0 [], .mk 3 0 []],0⟩]:List JN) ⟨#[116,32,115,105,110,107,32,114]⟩ ⟨#[116]⟩ ⟨#[115,105,110,107]⟩ [⟨#[114]⟩] 9 none:=⟨by kernel_rfl,by kernel_rfl,by decide,by decide,(fun i hi=>by rw[List.mem_singleton.1 hi,show aA ([⟨⟨#[115]⟩,1,[], .mk 0 0 [],0⟩,⟨⟨#[114]⟩,6,[0], .mk 7 0 [.mk 4 0 [], .mk 3 0 []],0⟩]:List JN) ⟨#[114]⟩=(1:Int)from by kernel_rfl];decide),by kernel_rfl,by kernel_rfl,by decide,(fun y h=>by cases h)⟩
 refine .cons (by kernel_rfl) l0 (by decide) (by decide) ?_
 have e0:([]++[jP [] ⟨#[115]⟩ [] 1 none]:List JN)=[⟨⟨#[115]⟩,1,[], .mk 0 0 [],0⟩]:=by kernel_rfl
 rw[e0]
 refine .cons (by kernel_rfl) l1 (by decide) (by decide) ?_
 have e1:([⟨⟨#[115]⟩,1,[], .mk 0 0 [],0⟩]++[jP [⟨⟨#[115]⟩,1,[], .mk 0 0 [],0⟩] ⟨#[114]⟩ [⟨#[115]⟩] 6 (some (.mk 7 0 [.mk 4 0 [], .mk 3 0 []]))]:List JN)=[⟨⟨#[115]⟩,1,[], .mk 0 0 [],0⟩,⟨⟨#[114]⟩,6,[0], .mk 7 0 [.mk 4 0 [], .mk 3 0 []],0⟩]:=by kernel_rfl
 rw[e1]
 refine .cons (by kernel_rfl) l2 (by decide) (by decide) ?_
 have e2:([⟨⟨#[115]⟩,1,[], .mk 0 0 [],0⟩,⟨⟨#[114]⟩,6,[0], .mk 7 0 [.mk 4 0 [], .mk 3 0 []],0⟩]++[jP [⟨⟨#[115]⟩,1,[], .mk 0 0 [],0⟩,⟨⟨#[114]⟩,6,[0], .mk 7 0 [.mk 4 0 [], .mk 3 0 []],0⟩] ⟨#[116]⟩ [⟨#[114]⟩] 9 none]:List JN)=[⟨⟨#[115]⟩,1,[], .mk 0 0 [],0⟩,⟨⟨#[114]⟩,6,[0], .mk 7 0 [.mk 4 0 [], .mk 3 0 []],0⟩,⟨⟨#[116]⟩,9,[1], .mk 0 0 [],0⟩]:=by kernel_rfl
 rw[e2]
 exact .nil _
abbrev QF:ByteArray:=⟨#[112,97,114,32,50,10,115,32,115,111,117,114,99,101,10,113,32,114,101,100,117,99,101,32,115,32,58,32,97,99,99,32,43,32,118,97,108,10,116,32,115,105,110,107,32,113]⟩
def Kv:List JN:=[⟨⟨#[115]⟩,1,[], .mk 0 0 [],0⟩,⟨⟨#[113]⟩,6,[0], .mk 7 0 [.mk 4 0 [], .mk 3 0 []],0⟩,⟨⟨#[116]⟩,9,[1], .mk 0 0 [],0⟩]
theorem Ku:Bc QF 2 Kv:=by
 refine⟨by decide,⟨⟨#[112,97,114,32,50]⟩,[⟨#[115,32,115,111,117,114,99,101]⟩,⟨#[113,32,114,101,100,117,99,101,32,115,32,58,32,97,99,99,32,43,32,118,97,108]⟩,⟨#[116,32,115,105,110,107,32,113]⟩],⟨#[112,97,114,32,50]⟩,vg,⟨#[50]⟩,by kernel_rfl,by kernel_rfl,by decide,by kernel_rfl,by kernel_rfl,by kernel_rfl,?_⟩,⟨by decide,by decide⟩,by decide,by kernel_rfl⟩
 have l0:qg ([]:List JN) ⟨#[115,32,115,111,117,114,99,101]⟩ ⟨#[115]⟩ ⟨#[115,111,117,114,99,101]⟩ [] 1 none:=⟨by kernel_rfl,by kernel_rfl,by decide,by decide,(fun i hi=>by cases hi),by kernel_rfl,by kernel_rfl,by decide,(fun y h=>by cases h)⟩
 have l1:qg ([⟨⟨#[115]⟩,1,[], .mk 0 0 [],0⟩]:List JN) ⟨#[113,32,114,101,100,117,99,101,32,115,32,58,32,97,99,99,32,43,32,118,97,108]⟩ ⟨#[113]⟩ ⟨#[114,101,100,117,99,101]⟩ [⟨#[115]⟩] 6 (some (.mk 7 0 [.mk 4 0 [], .mk 3 0 []])):=⟨by kernel_rfl,by kernel_rfl,by decide,by decide,(fun i hi=>by rw[List.mem_singleton.1 hi,show aA ([⟨⟨#[115]⟩,1,[], .mk 0 0 [],0⟩]:List JN) ⟨#[115]⟩=(0:Int)from by kernel_rfl];decide),by kernel_rfl,by kernel_rfl,by decide,(fun y h=>by cases h;exact⟨[97,99,99,32,43,32,118,97,108],by kernel_rfl,by decide,Gv (by kernel_rfl),by kernel_rfl,by unfold qc;intro z hz;simp[Ex.args]at hz;rcases hz with rfl|rfl<;>(unfold qc;intro z hz;simp[Ex.args]at hz)⟩)⟩
 have l2:qg ([⟨⟨#[115]⟩,1,[], .mk 0 0 [],0⟩,⟨⟨#[113]⟩,6,[0], .mk 7 0 [.mk 4 0 [], .mk 3 0 []],0⟩]:List JN) ⟨#[116,32,115,105,110,107,32,113]⟩ ⟨#[116]⟩ ⟨#[115,105,110,107]⟩ [⟨#[113]⟩] 9 none:=⟨by kernel_rfl,by kernel_rfl,by decide,by decide,(fun i hi=>by rw[List.mem_singleton.1 hi,show aA ([⟨⟨#[115]⟩,1,[], .mk 0 0 [],0⟩,⟨⟨#[113]⟩,6,[0], .mk 7 0 [.mk 4 0 [], .mk 3 0 []],0⟩]:List JN) ⟨#[113]⟩=(1:Int)from by kernel_rfl];decide),by kernel_rfl,by kernel_rfl,by decide,(fun y h=>by cases h)⟩
 refine .cons (by kernel_rfl) l0 (by decide) (by decide) ?_
 have e0:([]++[jP [] ⟨#[115]⟩ [] 1 none]:List JN)=[⟨⟨#[115]⟩,1,[], .mk 0 0 [],0⟩]:=by kernel_rfl
 rw[e0]
 refine .cons (by kernel_rfl) l1 (by decide) (by decide) ?_
 have e1:([⟨⟨#[115]⟩,1,[], .mk 0 0 [],0⟩]++[jP [⟨⟨#[115]⟩,1,[], .mk 0 0 [],0⟩] ⟨#[113]⟩ [⟨#[115]⟩] 6 (some (.mk 7 0 [.mk 4 0 [], .mk 3 0 []]))]:List JN)=[⟨⟨#[115]⟩,1,[], .mk 0 0 [],0⟩,⟨⟨#[113]⟩,6,[0], .mk 7 0 [.mk 4 0 [], .mk 3 0 []],0⟩]:=by kernel_rfl
 rw[e1]
 refine .cons (by kernel_rfl) l2 (by decide) (by decide) ?_
 have e2:([⟨⟨#[115]⟩,1,[], .mk 0 0 [],0⟩,⟨⟨#[113]⟩,6,[0], .mk 7 0 [.mk 4 0 [], .mk 3 0 []],0⟩]++[jP [⟨⟨#[115]⟩,1,[], .mk 0 0 [],0⟩,⟨⟨#[113]⟩,6,[0], .mk 7 0 [.mk 4 0 [], .mk 3 0 []],0⟩] ⟨#[116]⟩ [⟨#[113]⟩] 9 none]:List JN)=[⟨⟨#[115]⟩,1,[], .mk 0 0 [],0⟩,⟨⟨#[113]⟩,6,[0], .mk 7 0 [.mk 4 0 [], .mk 3 0 []],0⟩,⟨⟨#[116]⟩,9,[1], .mk 0 0 [],0⟩]:=by kernel_rfl
 rw[e2]
 exact .nil _
end
section
open Go Go.RowKit
attribute [local irreducible] bH
theorem kF.grow {w0 w w':World}{j:Jb}{l:List St}{e:Ending}(h:kF w j l e w')(hk:Kept none' w0 w):kF w0 j l e w':=by
 unfold kF at h⊢
 split at h
 ·obtain⟨b,m,pm,h1,h2,h3,h5,h4⟩:=h
  exact⟨b,m,pm,h1,h2,Nat.le_trans hk.size h3,fun q T hT=>Nat.le_trans hk.size (h5 q T hT),hk.trans h4⟩
 ·exact⟨h.1,h.2.1,hk.trans h.2.2⟩
theorem kF.tuple {w w':World}{j:Jb}{l:List St}{e:Ending}(h:kF w j l e w'): ∃p er,e= .returned (.tuple #[.pointer p, .int .i64 er]):=by
 unfold kF at h
 split at h
 ·obtain⟨b,m,pm,h1,_⟩:=h
  exact⟨_,_,h1⟩
 ·exact⟨_,_,h.1⟩
end
section
open Go Go.RowKit
end
section
open Go Go.RowKit
attribute [local irreducible] bH
end
section
open Go Go.RowKit
attribute [local irreducible] bH dP H2.bW
end
section
open Go Go.RowKit
attribute [local irreducible] bH
theorem Tryz.info35: ∃i z,Tryz.prog.info? 35=some i/\i.zero=some z/\i.size=2/\i.bytes=32/\z.cells.size=2:=by
 have h:(Tryz.prog.info? 35).map (fun i=>(i.zero,i.size,i.bytes))=some (some (.agg #[.string ByteArray.empty, .string ByteArray.empty]),2,32):=by kernel_rfl
 obtain⟨i,hi,h⟩:=Option.map_eq_some_iff.1 h
 simp only[Prod.mk.injEq]at h
 exact⟨i,_,hi,h.1,h.2.1,h.2.2,by rfl⟩
def mO (nodes:List JN)(Ts:Tabs)(k:Nat):List St:=kT (nodes.take k) (Ts.take k)
theorem IX {nodes:List JN}{Ts:Tabs}(h:Ts.length=nodes.length):mO nodes Ts nodes.length=kT nodes Ts:=by
 unfold mO
 rw[List.take_of_length_le (Nat.le_refl _),List.take_of_length_le (by omega)]
theorem EK {nodes:List JN}{Ts:Tabs}{k:Nat}{d:JN}{t:Option Tab}(hd:nodes[k]?=some d)(ht:Ts[k]?=some t):
 mO nodes Ts (k+1)=mO nodes Ts k++(qX (d,t)).toList:=by
 have h1:k<nodes.length:=(List.getElem?_eq_some_iff.1 hd).1
 have h2:k<Ts.length:=(List.getElem?_eq_some_iff.1 ht).1
 unfold mO kT
 rw[List.take_add_one,List.take_add_one,hd,ht,Option.toList_some,Option.toList_some,List.zip_append (by rw[List.length_take,List.length_take];omega),List.filterMap_append]
 try rfl
theorem L9 (nodes:List JN)(Ts:Tabs)(k:Nat):(mO nodes Ts k).length<=k:=by
 unfold mO kT
 refine Nat.le_trans (List.length_filterMap_le _ _) ?_
 rw[List.length_zip,List.length_take,List.length_take];omega
theorem L8 (l:List St)(s:St):dK (l++[s])=dK l++[.string s.1, .string s.2]:=by
 unfold dK;rw[List.flatMap_append];rfl
theorem BA {w:World}{base n:Nat}{va:Value}{l:List St}(h:w.ownsRow base 35 2 va n (dK l))(s:St)(hb:base<=w.heap.size)(hn:n<=100000):
 ∃iH w',(Builtin.append_ #[25,25] 25 #[va, .slice (some ⟨w.heap.size,0,none⟩) 1 1]).run Tryz.prog (w.alloc (.cells #[.string s.1, .string s.2] 35))= .ok iH w'/\w'.ownsRow base 35 2 iH (n+1) (dK (l++[s]))/\
  Kept (fun q=>va.ownBlock=some q) w w'/\ ∃a c,iH= .slice a (n+1) c:=by
 obtain⟨i,z,hi,hz,hs,hby,hzs⟩:=Tryz.info35
 have kA:Kept none' w (w.alloc (.cells #[.string s.1, .string s.2] 35)):=(Kept.refl _ _).alloc _
 have hr:=Reads.lit w [.string s.1, .string s.2] 35 2 1 rfl (by unfold maxLen;omega)
 have hl:(dK l).length=n*2:=h.1
 obtain⟨v',n',w',b1,b2,b3,b4,_⟩:=bI (P:=Tryz.prog) base 25 25 35 i z 2 32 Tryz.underlying25 hi hz hs hby hzs (by omega) (kA.owns h (fun _ _ h=>h)) hr (by intro y hy;simp at hy;rcases hy with rfl|rfl<;>rfl)
  (by simp;omega) (by simp;unfold maxLen;omega) (by have:=kA.size;omega)
 have hn':n'=n+1:=by simp at b3;omega
 subst hn'
 refine⟨v',w',b1,by rw[L8];exact b2,kA.pure.trans (Kept.grown b4 (fun k hk _=>hk)),?_⟩
 obtain⟨a,c,e⟩:=ay b2
 exact⟨a,c,e⟩
theorem GU {v:Value}{q:Nat}(h:Value.blk v=some q):v.ownBlock=some q:=by
 unfold Value.blk at h
 split at h
 ·split at h
  ·cases h
  ·exact h
 ·cases h
def yw (w:World)(l:List St)(e:Ending)(w':World):Prop:= ∃v,e= .returned v/\Reads w' 2 v (dK l)/\(∀q,Value.blk v=some q->w.heap.size<=q)/\Kept none' w w'
theorem Qo (v:Value)(l:List St)(w:World)(h:Reads w 2 v (dK l)):Calls Tryz.prog 75 #[v] w fun e w'=> ∃v',e= .returned v'/\Reads w' 2 v' (dK l)/\(∀q,Value.blk v'=some q->Value.blk v=some q)/\w'=w:=by
 obtain⟨a,cap,rfl,h1,h2,h3⟩:=h.mV
 have HR:=Lib.hid h
 clear h h3
 unfold maxLen at h2
 go_enter Tryz.func75,Tryz.ntmps75
 go_wp2_with fail
 go_ret
 refine⟨.slice a l.length l.length,rfl,?_,fun q hq=>by cases a<;>exact hq,rfl⟩
 obtain⟨a',n,cap',e,h1,h2,h3,h4⟩:=HR.out
 injection e with e1 e2 e3
 subst e1 e2 e3
 exact⟨a,_,_,rfl,Nat.le_refl _,Nat.le_trans h1 h2,h3,h4⟩
theorem JZ (j:Jb)(b m:Nat)(Ts:Tabs)(pm:Nat->Nat×Nat)(w:World)(h:tC w b m j Ts pm)(hlen:Ts.length=j.nodes.length)(hsm:j.nodes.length<=1000):
 Calls Tryz.prog 29 #[.pointer (some ⟨b,0,none⟩)] w (yw w (kT j.nodes Ts)):=by
 obtain⟨⟨nv,hob,hn⟩,hpar,htb⟩:=h
 obtain⟨na,cap,rfl,h1,h2,h3⟩:=hn.at
 have x1:w.cell? ⟨b,1,none⟩=some (.slice na j.nodes.length cap):=cells_at hob rfl
 have x2:w.cell? ⟨b,2,none⟩=some (.map (some m)):=cells_at hob rfl
 have hbl:b<w.heap.size:=(Array.getElem?_eq_some_iff.1 hob).1
 have H:=Lib.hid (And.intro htb (And.intro h3 hlen))
 clear hob hn hpar htb h3 hlen
 unfold maxLen at h2
 go_enter Tryz.func29,Tryz.ntmps29
 go_wp2
 go_loopg [3,16] j.nodes.length (fun g vo vi wr=> ∃k:Nat,k<=j.nodes.length/\vi= .int .i64 (k:Int)/\j.nodes.length-k<=g/\wr.ownsRow w.heap.size 35 2 vo (mO j.nodes Ts k).length (dK (mO j.nodes Ts k))/\Kept none' w wr)
 case atStart=>exact⟨0,by omega,rfl,by omega,World.ownsRow_nil _ _ _ _,Kept.refl _ _⟩
 case round=>
  obtain⟨k,hkn,rfl,hg,hown,hkp⟩:=hrel
  obtain⟨wo,rfl⟩: ∃wo:World,wo=wr:=⟨_,rfl⟩
  obtain⟨va,vc,rfl⟩:=ay hown
  have x1:=hkp.cell (p:=⟨b,1,none⟩) (fun h=>h) x1
  have x2:=hkp.cell (p:=⟨b,2,none⟩) (fun h=>h) x2
  have hle:=L9 j.nodes Ts k
  by_cases hlt:k<j.nodes.length
  ·obtain⟨d,hd⟩: ∃d,j.nodes[k]?=some d:=⟨_,List.getElem?_eq_getElem hlt⟩
   obtain⟨t,ht⟩: ∃t,Ts[k]?=some t:=⟨_,List.getElem?_eq_getElem (by have:=H.out.2.2;omega)⟩
   obtain⟨nb,off,pi,ci,p,cap',rfl,hc,hjn⟩:=H.out.2.1 k d hd
   obtain⟨c0,c1,c2,c3,c4,c5,c6⟩:=hc.kept hkp (fun h=>h)
   have kA:Kept none' wo (wo.alloc (.cells (aZ d pi ci p cap') 42)):=(Kept.refl _ _).alloc _
   have hlk:=(H.out.1.pure (hkp.trans kA)).lookup k (by have:=H.out.2.2;omega)
   rw[List.getD_eq_getElem?_getD,ht,Option.getD_some]at hlk
   have x1a:=kA.cell (p:=⟨b,1,none⟩) (fun h=>h) x1
   have x2a:=kA.cell (p:=⟨b,2,none⟩) (fun h=>h) x2
   have nB:(wo.alloc (.cells (aZ d pi ci p cap') 42)).heap[wo.heap.size]?=some (.cells (aZ d pi ci p cap') 42 (0,0)):=heap_alloc_new _ _
   have n0:(wo.alloc (.cells (aZ d pi ci p cap') 42)).cell? ⟨wo.heap.size,0,none⟩=some (.string d.uid):=cells_at nB rfl
   have hsn:=EK hd ht
   have G:=Lib.hid (And.intro hg (And.intro hown (And.intro hkp (And.intro kA (And.intro n0 hsn)))))
   have hbw:b<wo.heap.size:=Nat.lt_of_lt_of_le hbl hkp.size
   clear hg hown hkp kA n0 nB hsn hc hjn hd
   cases t with
   |none=>
    simp only[l9,Option.map_none,Option.getD_none,Option.isSome_none]at hlk
    clear ht
    go_wp2_with fail
    go_roundg (j.nodes.length-(k+1))
    case rel=>exact⟨k+1,by omega,by go_num,Nat.le_refl _,by rw[G.out.2.2.2.2.2,show(qX (d,none)).toList=[]from rfl,List.append_nil];exact G.out.2.2.2.1.owns G.out.2.1 (fun _ _ h=>h),G.out.2.2.1.trans G.out.2.2.2.1⟩
    case measure=>have:=G.out.1;omega
   |some T=>
    simp only[l9,Option.map_some,Option.getD_some,Option.isSome_some]at hlk
    have hT:=(H.out.1.tab k T ht).1
    have HT:=Lib.hid (hT.pure (G.out.2.2.1.trans G.out.2.2.2.1))
    clear ht hT
    go_wp2_with fail
    obtain⟨WA,Gq⟩: ∃WA,(wo.alloc (.cells (aZ d pi ci p cap') 42))=WA:=⟨_,rfl⟩
    rw[Gq]at G HT
    have Gp:(wo.alloc (.cells #[.string d.uid, .int .u8 d.kind, .slice pi d.ins.length ci, .int .u8 d.x.op, .int .i64 d.x.n, .slice p d.x.args.length cap', .int .i64 d.n] 42))=WA:=Gq
    try rw[Gp]
    have n0:=G.out.2.2.2.2.1
    have hno: ¬(Value.slice va (mO j.nodes Ts k).length vc).ownBlock=some wo.heap.size:=fun h=>by have:=(G.out.2.1.lt _ h).2;omega
    clear Gq Gp hlk x1a x2a c0 c1 c2 c3 c4 c5 c6 x1 x2
    refine ak [0,1,2,3,4,5,6,7,8] (fun W=>Kept (fun q=>(Value.slice va (mO j.nodes Ts k).length vc).ownBlock=some q) WA W) (by kernel_rfl) (by kernel_rfl) rfl (Kept.refl _ _).drew ?_
    simp only[List.map_cons,List.map_nil,List.getElem?_toArray,List.getElem?_cons_zero,List.getElem?_cons_succ,Option.getD_some]
    iterate 4 (apply aj rfl rfl;(intro W hW;have z0:=hW.cell (p:=⟨wo.heap.size,0,none⟩) hno n0;go_simp;rfl);go_frame)
    apply aB rfl rfl
    intro K hK
    go_wp2_with fail
    (with_reducible refine(Oj xU _ _ T _ (HT.out.pure (Kept.refl none' WA).drew)).mono ?_)
    rintro e w5 ⟨rfl,k5⟩
    go_wp2_with fail
    refine hK _ _ (fun _=>((Kept.refl none' WA).drew.trans k5).pure) ?_
    clear hK
    have hown5:=((Kept.refl none' WA).drew.trans k5).owns (G.out.2.2.2.1.owns G.out.2.1 (fun _ _ h=>h)) (fun _ _ h=>h)
    have FK:=G.out.2.2.1.trans (G.out.2.2.2.1.trans ((Kept.refl none' WA).drew.trans k5))
    obtain⟨v6,w6,g1,g2,g3,a6,c6,rfl⟩:=BA hown5 (d.uid,strOf (cZ (oP T))) FK.size (by omega)
    apply aj rfl rfl
    ·intro W hW
     go_simp
     rfl
    go_frame
    apply aB rfl rfl
    intro K2 hK2
    go_wp2_with fail
    refine hK2 _ _ (fun _=>(((Kept.refl none' WA).drew.trans k5).alloc _).pure) ?_
    clear hK2
    have Z:=Lib.hid (And.intro (show w6.ownsRow w.heap.size 35 2 (.slice a6 ((mO j.nodes Ts k).length+1) c6) (mO j.nodes Ts (k+1)).length (dK (mO j.nodes Ts (k+1))) by
     rw[G.out.2.2.2.2.2]
     simpa[qX]using g2) (FK.new g3 (fun i hi hs=>by have:=(hown5.lt i hs).1;omega)))
    apply aB rfl rfl
    intro K3 hK3
    refine xX (.tmp 31) (.tmp 37) 25 rfl _ _ _ rfl rfl g1 ?_
    refine hK3 _ _ (fun _=>((Kept.refl none' WA).drew.trans k5).pure.trans g3) ?_
    clear hK3
    apply aj rfl rfl
    ·intro W hW
     go_simp
     rfl
    go_frame
    refine aG (fun _=>((Kept.refl none' WA).drew.trans k5).pure.trans g3) ?_
    clear g1 g2 g3 hown5 k5 FK n0
    go_wp2_with fail
    go_roundg (j.nodes.length-(k+1))
    case rel=>exact⟨k+1,by omega,by go_num,Nat.le_refl _,Z.out⟩
    case measure=>have:=G.out.1;omega
  ·have e1:k=j.nodes.length:=by omega
   subst e1
   have cl:=Qo _ _ wo (Reads.bQ hown)
   have G:=Lib.hid (And.intro hown hkp)
   clear hown hkp hg hlt x1 x2
   go_wp2_with fail
   (with_reducible refine cl.mono ?_)
   clear cl
   rintro e w2 ⟨v',rfl,hr,hb2,rfl⟩
   have F:=Lib.hid (show yw w (kT j.nodes Ts) (.returned v') w2 from⟨v',rfl,by rw[<-IX H.out.2.2];exact hr,fun q hq=>(G.out.1.lt q (GU (hb2 q hq))).1,G.out.2⟩)
   clear hr hb2
   go_wp2_with fail
   go_ret
   exact F.out
end
end Go.Proofs.YtglbkodmmogomaaGreatDoor
