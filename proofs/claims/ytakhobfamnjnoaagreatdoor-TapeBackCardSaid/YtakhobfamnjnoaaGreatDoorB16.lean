/- Symbolic runs: words for the proofs. -/
import Derived.Test.YtakhobfamnjnoaaGreatDoorB15
set_option linter.unusedVariables false
set_option linter.unusedSimpArgs false
namespace Go.Proofs.YtakhobfamnjnoaaGreatDoor
section
namespace Sx
open Go Go.RowKit
def Ny:List Pl->List Nat
 |[]=>[]
 | .gone a::l=>a::Ny l
 |_::l=>Ny l
theorem Mc {i:Nat}: ∀{l:List Pl}{j:Nat},aA l j=some (.gone i)->i∈Ny l
 |[],_,h=>by cases h
 |p::l,0,h=>by cases h;exact .head _
 |p::l,j+1,h=>by
  have:=Mc (l:=l) (j:=j) h
  cases p with
  |gone a=>exact .tail _ this
  |_=>exact this
theorem Fj {i:Nat}{c:eH}: ∀{fs:List Nat}{h:Hp},wz fs h=true->aA (ql fs h) i=some c->c= .no\/aA h i=some c
 |[],_,_,hc=> .inr hc
 |j::fs,h,hf,hc=>by
  unfold wz at hf
  split at hf
  ·rename_i l hl
   have hlt:j<h.length:=by
    unfold EP at hl
    split at hl
    ·rename_i h0;exact bH h0
    ·rename_i h0;exact bH h0
    ·cases hl
   rcases Fj (fs:=fs) hf hc with e|e
   ·exact .inl e
   ·unfold fP at e
    rw[dG _ hlt]at e
    split at e
    ·cases e;exact .inl rfl
    ·exact .inr e
  ·cases hf
theorem gJ.Ll {P:Program}{f:FuncId}{args args2:List AV}{H:Hp}{K':List Nat->RV->Hp->Prop}(fs:List Nat)(js:List Pl)(H2:Hp)(C:gJ P f args2 H2 fun T r h'=>K' (app (Ny js) T) r h')
 (hs:sG js (llen H) (wS fs H) (ql fs H) js H2:=by((try cbv)<;>repeat' (first|trivial|rfl|apply And.intro|exact dH _|exact nH _ _ _ _|exact nJ _ _ _ _|(refine⟨?_⟩;(first|exact hms _ _ _|(try cbv)))|(simp only[Nat.beq_refl];done)|(simp[hb];done)|(simp only[hb];omega)))) (ha:wQ js (llen H) (wS fs H) args2 args:=by((try cbv)<;>repeat' (first|trivial|rfl|apply And.intro|exact dH _|exact nH _ _ _ _|exact nJ _ _ _ _|(refine⟨?_⟩;(first|exact hms _ _ _|(try cbv)))|(simp only[Nat.beq_refl];done)|(simp[hb];done)|(simp only[hb];omega)))) (h1:wz fs H=true:=by cbv) (h2:AX 0 (llen H) js=true:=by cbv) (h3:mg js=true:=by cbv):gJ P f args H K':=by
 refine⟨C.enter,fun ρ O w xs R hx=>?_⟩
 obtain⟨ρ1,O1,q1,q2,q3,q4,q5⟩:=R.freezes h1
 rw[aG,<-q5]at hs ha
 have R2:=q3.sub q4 h3 hs
 have hx2:=qQ q3.fr q4 ha (lW (fun _ _=>GA.mono q1) hx)
 refine(C.run _ _ w xs R2 hx2).mono fun e w'=>?_
 rintro⟨T,r,x,c,h',Oc,rfl,hk,hle,hfm,hc,hl,hU,hr⟩
 rw[aG]at h2
 have nm1: ∀i k x,ρ.nm i k=some x->(dB ρ1 js).nm i k=some x:=fun i k x hx=>by
  rcases Nat.lt_or_ge i H.length with hi|hi
  ·have:=q1.nm i k x hx
   rcases kK h2 hi with e|e<;>(simp only[Nat.zero_add]at e;simp[dB,e,this])
  ·rw[R.fr i k hi]at hx;cases hx
 have on1: ∀i,ρ.on i=true->(dB ρ1 js).on i=true:=fun i hx=>by
  rcases Nat.lt_or_ge i H.length with hi|hi
  ·have:=q1.on i hx
   rcases kK h2 hi with e|e<;>(simp only[Nat.zero_add]at e;simp[dB,e,this])
  ·rw[R.of i hi]at hx;cases hx
 have le1:ρ.le (dB ρ1 js):=⟨nm1,q1.fz,on1⟩
 have hlen:=(jS hs).1
 have hjs:H.length<=js.length:=by
  rcases Nat.lt_or_ge js.length H.length with hl|hl
  ·rcases kK h2 hl with e|e<;>(rw[aF,List.getElem?_eq_none (by omega)]at e;cases e)
  ·exact hl
 refine⟨_,r,x,c,h',Oc,rfl,hk,le1.le_trans hle,(q2.trans Fm.sub).trans hfm,hc,by omega,fun i k q hn hq=>?_,hr⟩
 rw[iG]at hn
 have hg:i∉Ny js:=fun h=>hn (List.mem_append_left _ h)
 have hT:i∉T:=fun h=>hn (List.mem_append_right _ h)
 obtain⟨o,ho⟩:=R.live i k q hq
 have hi:=bH ho
 have hall:aA js i=some (.all i):=by
  rcases kK h2 hi with e|e
  ·simpa using e
  ·exact absurd (Mc (j:=i) (by simpa using e)) hg
 obtain⟨c0,hc0⟩:=Hw (l:=H2) (i:=i) (by omega)
 obtain⟨p,hp,Ns⟩:=(jS hs).2 hc0
 rw[hall]at hp
 cases hp
 have Ns:(match aA (ql fs H) i with|some c'=>Jk js (ql fs H).length (wS fs H) c0 c'|none=>False):=by
  cases c0 with
  |no=>exact Ns
  |one=>exact Ns
  |many=>exact Ns
 split at Ns
 ·rename_i c' hc'
  rcases Fj h1 hc' with e|e
  ·subst e
   cases c0<;>exact Ns.elim
  ·have ho1:aV (ql fs H) i k=some o:=by
    unfold aV at ho⊢
    rw[hc']
    rw[e]at ho
    exact ho
   obtain⟨o2,ho2⟩:=KU hs (uP h3 hall k) ho1
   have hq2:=Ob.same (R.ob i k o ho) (R2.ob i k o2 ho2) le1 hq
   exact hU i k q hT hq2
 ·exact Ns.elim
section
variable {is:List Pl} {L:Nat} {F:Fs}
theorem VJ {a b:PV}(h:a=b):MW a b:=h▸dH a
theorem aar {k:IntKind}{n m:Int}(h:n=m):Fv is L F (.a (.c (.p (.int k n)))) (.a (.c (.p (.int k m)))):=VJ (a:= .int k n) (b:= .int k m) (by rw[h])
theorem rE {b c:Bool}(h:b=c):Fv is L F (.a (.c (.p (.bool b)))) (.a (.c (.p (.bool c)))):=VJ (a:= .bool b) (b:= .bool c) (by rw[h])
theorem J9 {b:Bool}(h:b=true):Fv is L F (.a (.c (.p (.bool b)))) (.a (.c (.p .tt))):=h
theorem ou {b:Bool}(h:b=false):Fv is L F (.a (.c (.p (.bool b)))) (.a (.c (.p .ff))):=h
theorem vJ {n:Int}(h: -9223372036854775808<=n/\n<=9223372036854775807):wr .i64 n=n:=by
 show RowKit.wrap64 n=n
 unfold RowKit.wrap64;omega
end
end Sx
end
section
namespace Sx
open Go Go.RowKit _root_.Go.Proofs.Tryz
set_option maxRecDepth 100000
noncomputable def tys:gV:= #[
 fun _=>t0,fun _=>t1,fun _=>t2,fun _=>t3,fun _=>t4,fun _=>t5,fun _=>t6,fun _=>t7,fun _=>t8,fun _=>t9,fun _=>t10,fun _=>t11,
 fun _=>t12,fun _=>t13,fun _=>t14,fun _=>t15,fun _=>t16,fun _=>t17,fun _=>t18,fun _=>t19,fun _=>t20,fun _=>t21,fun _=>t22,fun _=>t23,
 fun _=>t24,fun _=>t25,fun _=>t26,fun _=>t27,fun _=>t28,fun _=>t29,fun _=>t30,fun _=>t31,fun _=>t32,fun _=>t33,fun _=>t34,fun _=>t35,
 fun _=>t36,fun _=>t37,fun _=>t38,fun _=>t39,fun _=>t40,fun _=>t41,fun _=>t42,fun _=>t43,fun _=>t44,fun _=>t45,fun _=>t46,fun _=>t47,
 fun _=>t48,fun _=>t49,fun _=>t50,fun _=>t51,fun _=>t52,fun _=>t53,fun _=>t54,fun _=>t55,fun _=>t56,fun _=>t57,fun _=>t58,fun _=>t59,
 fun _=>t60,fun _=>t61,fun _=>t62,fun _=>t63,fun _=>t64,fun _=>t65,fun _=>t66,fun _=>t67,fun _=>t68,fun _=>t69,fun _=>t70,fun _=>t71,
 fun _=>t72,fun _=>t73,fun _=>t74,fun _=>t75,fun _=>t76,fun _=>t77,fun _=>t78,fun _=>t79,fun _=>t80,fun _=>t81,fun _=>t82,fun _=>t83,
 fun _=>t84,fun _=>t85,fun _=>t86,fun _=>t87,fun _=>t88,fun _=>t89,fun _=>t90,fun _=>t91,fun _=>t92,fun _=>t93,fun _=>t94,fun _=>t95,
 fun _=>t96,fun _=>t97,fun _=>t98,fun _=>t99,fun _=>t100,fun _=>t101,fun _=>t102,fun _=>t103,fun _=>t104,fun _=>t105,fun _=>t106,fun _=>t107,
 fun _=>t108,fun _=>t109,fun _=>t110,fun _=>t111,fun _=>t112,fun _=>t113,fun _=>t114,fun _=>t115,fun _=>t116,fun _=>t117,fun _=>t118,fun _=>t119,
 fun _=>t120,fun _=>t121,fun _=>t122,fun _=>t123,fun _=>t124,fun _=>t125,fun _=>t126,fun _=>t127,fun _=>t128,fun _=>t129,fun _=>t130,fun _=>t131,
 fun _=>t132,fun _=>t133,fun _=>t134,fun _=>t135,fun _=>t136,fun _=>t137,fun _=>t138,fun _=>t139,fun _=>t140,fun _=>t141,fun _=>t142,fun _=>t143,
 fun _=>t144,fun _=>t145,fun _=>t146,fun _=>t147,fun _=>t148,fun _=>t149,fun _=>t150,fun _=>t151,fun _=>t152,fun _=>t153,fun _=>t154,fun _=>t155,
 fun _=>t156,fun _=>t157,fun _=>t158,fun _=>t159,fun _=>t160,fun _=>t161,fun _=>t162,fun _=>t163,fun _=>t164,fun _=>t165,fun _=>t166,fun _=>t167,
 fun _=>t168,fun _=>t169,fun _=>t170,fun _=>t171,fun _=>t172,fun _=>t173,fun _=>t174,fun _=>t175,fun _=>t176,fun _=>t177,fun _=>t178,fun _=>t179,
 fun _=>t180,fun _=>t181,fun _=>t182,fun _=>t183,fun _=>t184,fun _=>t185,fun _=>t186,fun _=>t187,fun _=>t188,fun _=>t189,fun _=>t190,fun _=>t191,
 fun _=>t192,fun _=>t193,fun _=>t194,fun _=>t195,fun _=>t196,fun _=>t197,fun _=>t198,fun _=>t199,fun _=>t200,fun _=>t201,fun _=>t202,fun _=>t203,
 fun _=>t204,fun _=>t205,fun _=>t206,fun _=>t207,fun _=>t208,fun _=>t209,fun _=>t210,fun _=>t211,fun _=>t212,fun _=>t213,fun _=>t214,fun _=>t215,
 fun _=>t216,fun _=>t217,fun _=>t218,fun _=>t219,fun _=>t220,fun _=>t221,fun _=>t222,fun _=>t223,fun _=>t224,fun _=>t225,fun _=>t226,fun _=>t227,
 fun _=>t228,fun _=>t229,fun _=>t230,fun _=>t231,fun _=>t232,fun _=>t233,fun _=>t234,fun _=>t235,fun _=>t236,fun _=>t237,fun _=>t238,fun _=>t239,
 fun _=>t240,fun _=>t241,fun _=>t242,fun _=>t243,fun _=>t244,fun _=>t245,fun _=>t246,fun _=>t247,fun _=>t248,fun _=>t249,fun _=>t250,fun _=>t251,
 fun _=>t252,fun _=>t253,fun _=>t254,fun _=>t255,fun _=>t256,fun _=>t257,fun _=>t258,fun _=>t259,fun _=>t260,fun _=>t261,fun _=>t262,fun _=>t263,
 fun _=>t264,fun _=>t265,fun _=>t266,fun _=>t267,fun _=>t268,fun _=>t269,fun _=>t270,fun _=>t271,fun _=>t272,fun _=>t273,fun _=>t274,fun _=>t275,
 fun _=>t276,fun _=>t277,fun _=>t278,fun _=>t279,fun _=>t280,fun _=>t281,fun _=>t282,fun _=>t283,fun _=>t284,fun _=>t285,fun _=>t286,fun _=>t287,
 fun _=>t288,fun _=>t289,fun _=>t290,fun _=>t291,fun _=>t292,fun _=>t293,fun _=>t294,fun _=>t295,fun _=>t296,fun _=>t297,fun _=>t298,fun _=>t299,
 fun _=>t300,fun _=>t301,fun _=>t302,fun _=>t303,fun _=>t304,fun _=>t305,fun _=>t306,fun _=>t307,fun _=>t308,fun _=>t309,fun _=>t310,fun _=>t311,
 fun _=>t312,fun _=>t313,fun _=>t314,fun _=>t315,fun _=>t316,fun _=>t317,fun _=>t318,fun _=>t319,fun _=>t320,fun _=>t321,fun _=>t322,fun _=>t323,
 fun _=>t324,fun _=>t325,fun _=>t326,fun _=>t327,fun _=>t328,fun _=>t329,fun _=>t330,fun _=>t331,fun _=>t332,fun _=>t333,fun _=>t334,fun _=>t335,
 fun _=>t336,fun _=>t337,fun _=>t338,fun _=>t339,fun _=>t340,fun _=>t341,fun _=>t342,fun _=>t343,fun _=>t344,fun _=>t345,fun _=>t346,fun _=>t347,
 fun _=>t348,fun _=>t349,fun _=>t350,fun _=>t351,fun _=>t352,fun _=>t353,fun _=>t354,fun _=>t355,fun _=>t356,fun _=>t357,fun _=>t358,fun _=>t359,
 fun _=>t360,fun _=>t361,fun _=>t362,fun _=>t363,fun _=>t364,fun _=>t365,fun _=>t366,fun _=>t367,fun _=>t368,fun _=>t369,fun _=>t370,fun _=>t371,
 fun _=>t372,fun _=>t373,fun _=>t374,fun _=>t375,fun _=>t376,fun _=>t377,fun _=>t378,fun _=>t379,fun _=>t380,fun _=>t381,fun _=>t382,fun _=>t383,
 fun _=>t384,fun _=>t385,fun _=>t386,fun _=>t387,fun _=>t388,fun _=>t389,fun _=>t390,fun _=>t391,fun _=>t392,fun _=>t393,fun _=>t394,fun _=>t395,
 fun _=>t396,fun _=>t397,fun _=>t398,fun _=>t399,fun _=>t400,fun _=>t401,fun _=>t402,fun _=>t403,fun _=>t404,fun _=>t405,fun _=>t406,fun _=>t407,
 fun _=>t408,fun _=>t409,fun _=>t410,fun _=>t411,fun _=>t412,fun _=>t413,fun _=>t414,fun _=>t415,fun _=>t416,fun _=>t417,fun _=>t418,fun _=>t419,
 fun _=>t420,fun _=>t421,fun _=>t422,fun _=>t423,fun _=>t424,fun _=>t425,fun _=>t426,fun _=>t427,fun _=>t428,fun _=>t429,fun _=>t430,fun _=>t431,
 fun _=>t432,fun _=>t433,fun _=>t434,fun _=>t435,fun _=>t436,fun _=>t437,fun _=>t438,fun _=>t439,fun _=>t440,fun _=>t441,fun _=>t442,fun _=>t443,
 fun _=>t444,fun _=>t445,fun _=>t446,fun _=>t447,fun _=>t448,fun _=>t449,fun _=>t450,fun _=>t451,fun _=>t452,fun _=>t453,fun _=>t454,fun _=>t455,
 fun _=>t456,fun _=>t457,fun _=>t458,fun _=>t459,fun _=>t460,fun _=>t461,fun _=>t462,fun _=>t463,fun _=>t464,fun _=>t465,fun _=>t466,fun _=>t467,
 fun _=>t468,fun _=>t469,fun _=>t470,fun _=>t471,fun _=>t472,fun _=>t473,fun _=>t474,fun _=>t475,fun _=>t476,fun _=>t477,fun _=>t478,fun _=>t479,
 fun _=>t480,fun _=>t481,fun _=>t482,fun _=>t483,fun _=>t484,fun _=>t485,fun _=>t486,fun _=>t487,fun _=>t488,fun _=>t489,fun _=>t490,fun _=>t491,
 fun _=>t492,fun _=>t493,fun _=>t494,fun _=>t495,fun _=>t496,fun _=>t497,fun _=>t498,fun _=>t499,fun _=>t500,fun _=>t501,fun _=>t502,fun _=>t503,
 fun _=>t504,fun _=>t505,fun _=>t506,fun _=>t507,fun _=>t508,fun _=>t509,fun _=>t510,fun _=>t511,fun _=>t512,fun _=>t513,fun _=>t514,fun _=>t515,
 fun _=>t516,fun _=>t517,fun _=>t518,fun _=>t519,fun _=>t520,fun _=>t521,fun _=>t522,fun _=>t523,fun _=>t524,fun _=>t525,fun _=>t526,fun _=>t527,
 fun _=>t528,fun _=>t529,fun _=>t530,fun _=>t531,fun _=>t532,fun _=>t533,fun _=>t534,fun _=>t535,fun _=>t536,fun _=>t537,fun _=>t538,fun _=>t539,
 fun _=>t540,fun _=>t541,fun _=>t542,fun _=>t543,fun _=>t544,fun _=>t545,fun _=>t546,fun _=>t547,fun _=>t548,fun _=>t549,fun _=>t550,fun _=>t551,
 fun _=>t552,fun _=>t553,fun _=>t554,fun _=>t555,fun _=>t556,fun _=>t557,fun _=>t558,fun _=>t559,fun _=>t560,fun _=>t561,fun _=>t562,fun _=>t563,
 fun _=>t564,fun _=>t565,fun _=>t566,fun _=>t567,fun _=>t568,fun _=>t569,fun _=>t570]
instance:jG prog tys:=⟨by kernel_rfl⟩
theorem iW:prog.follows .mixedOrders=true:=by kernel_rfl
theorem ct {bx:{α:Type}->α->α}(hb: ∀{α:Type}(x:α),bx x=x){f:FuncId}{F:Func}(hf:prog.funcs[f]?=some F){args:List AV}{h:Hp}{K:RV->Hp->Prop}(hk: ∀Q:Program,Q=prog-> ∀K':RV->Hp->Prop,(∀r h1 r' h2,Ir Q (llen h) r h1 r' h2->K r' h2->K' r h1)->body bx Q args h K' (FY tys F)):Ct prog f args h K:=fn hb hf hk
theorem ci {bx:{α:Type}->α->α}(hb: ∀{α:Type}(x:α),bx x=x){Q:Program}(hQ:Q=prog){f:FuncId}{F:Func}(hf:prog.funcs[f]?=some F){args:List AV}{h:Hp}{K:List Nat->RV->Hp->Prop}(hk:body bx Q args h (K (rng (llen h))) (FY tys F)):gJ Q f args h K:=inl hb hQ hf hk
end Sx
end
section
namespace Sx
open Go Go.RowKit
theorem pl:(∀(p:Prop)[Decidable p],(decide p=true)=p)/\(∀(p:Prop)[Decidable p],(decide p=false)= ¬p)/\(∀n:Nat,Int.ofNat n=(n:Int))/\(∀b:Bool,((!b)=true)=(b=false))/\(∀b:Bool,((!b)=false)=(b=true))/\(∀m n:Nat,((m:Int)=n)=(m=n))/\(∀m n:Nat,((m:Int)<n)=(m<n))/\(∀m n:Nat,((m:Int)<=n)=(m<=n))/\(∀a b:Bool,((a&&b)=true)=(a=true/\b=true))/\(∀n:Nat,(n:Int).toNat=n):=
 ⟨fun _ _=>by simp,fun _ _=>by simp,fun _=>rfl,fun b=>by cases b<;>simp,fun b=>by cases b<;>simp,fun _ _=>propext ⟨fun h=>by omega,fun h=>by omega⟩,fun _ _=>propext ⟨fun h=>by omega,fun h=>by omega⟩,fun _ _=>propext ⟨fun h=>by omega,fun h=>by omega⟩,fun a b=>by cases a<;>simp,fun _=>rfl⟩
theorem NZ {α:Type}{f:α->List PV}{n:Nat}(hf: ∀x,(f x).length=n): ∀{l:List α}{k:Nat}{x:α},l[k]?=some x->wV (l.flatMap f) (k*n) n=some (f x)
 |[],_,_,h=>by simp at h
 |y::l,0,x,h=>by
  simp at h;subst h
  simp[wV,hf]
 |y::l,k+1,x,h=>by
  have ih:=NZ hf (l:=l) (k:=k) (x:=x) (by simpa using h)
  obtain⟨h1,h2⟩:=BU ih
  have e:(k+1)*n=n+k*n:=by rw[Nat.add_mul];omega
  unfold wV
  rw[List.flatMap_cons,List.length_append,hf,e,if_pos (by omega),<-List.drop_drop,List.drop_left' (hf y),<-h2]
theorem zf {α:Type}{f:α->List PV}{n:Nat}(hf: ∀x,(f x).length=n)(l:List α):(l.flatMap f).length=l.length*n:=by
 induction l with
 |nil=>simp
 |cons x l ih=>rw[List.flatMap_cons,List.length_append,hf,ih,List.length_cons,Nat.add_mul];omega
section
variable {bx:{α:Type}->α->α} (hb: ∀{α:Type}(x:α),bx x=x)
include hb
theorem jZ {α:Type}{f:α->List PV}{n:Nat}(hf: ∀x,(f x).length=n){l:List α}{L:List PV}(hL:L=l.flatMap f){k:Nat}{x:α}(hx:l[k]?=some x){v:List PV}(hv:v=f x):bx (if 0<=bx (Int.ofNat k)then wV (bx L) ((bx (Int.ofNat k)).toNat*n) n else none)=some v:=by
 simp only[hb]
 rw[if_pos (by simp),hL,hv]
 exact NZ hf hx
theorem kC {s k n:Nat}(h:k<n)(h0:0<s):bx (decide (0<s)&&decide ((bx (Int.ofNat k)).toNat<bx n))=true:=by
 simp only[hb];simp[h0,h]
theorem uz {k:Nat}(h:k<4611686018427387904):PV.int .i64 (bx (Int.ofNat (k+1)))=PV.int .i64 (bx (wr .i64 (bx (Int.ofNat k)+1))):=by
 simp only[hb,Int.ofNat_eq_natCast]
 rw[vJ (by omega)];simp
end
end Sx
end
section
structure Rec where
 pos:Int
 key:Int
 val:Int
deriving DecidableEq
instance:Inhabited Rec:=⟨⟨0,0,0⟩⟩
end
section
open Go Go.RowKit
theorem aS.small {n:Int}(h1: -1000<=n)(h2:n<=1000):aS n:=⟨by omega,by omega⟩
inductive Ex where
 |mk (op n:Int) (args:List Ex)
instance:Inhabited Ex:=⟨.mk 0 0 []⟩
def Ex.op:Ex->Int| .mk o _ _=>o
def Ex.n:Ex->Int| .mk _ n _=>n
def Ex.args:Ex->List Ex| .mk _ _ l=>l
def arity (op:Int):Int:=if op=0\/18<op then-1 else if op<=4 then 0 else if op<=6 then 1 else if op=18 then 3 else 2
def eU:Nat->Ex->Bool
 |0,_=>false
 |f+1, .mk op n args=>decide (arity op=args.length)&&decide (0<=n)&&decide (n=0\/op=1)&&args.all (eU f)
abbrev vC:=(Int×Int×Int×Int)×Int
def rP:List vC:=
 [((1,0,0,0),1),((2,0,0,0),1),((3,0,0,0),1),((4,0,0,0),1),((5,1,0,0),1),
  ((7,1,1,0),1),((8,1,1,0),1),((9,1,1,0),1),((10,1,1,0),1),((11,1,1,0),1),((6,2,0,0),2),
  ((16,2,2,0),2),((17,2,2,0),2),((14,2,2,0),2),((15,2,2,0),2),
  ((12,1,1,0),2),((13,1,1,0),2),((14,1,1,0),2),((15,1,1,0),2),((18,2,1,1),1),((18,2,2,2),2)]
def xA (k:Int×Int×Int×Int):Int:=((rP.find? fun r=>r.1==k).map (·.2)).getD 0
def dJ:Nat->Ex->Int
 |0,_=>0
 |f+1, .mk op _ args=>if(args.map (dJ f)).contains 0 then 0 else xA (op,(args.map (dJ f)).getD 0 0,(args.map (dJ f)).getD 1 0,(args.map (dJ f)).getD 2 0)
structure Env where
 key:Int
 val:Int
 acc:Int
theorem TM {f:Nat}{op n:Int}{args:List Ex}(h:eU (f+1) (.mk op n args)=true):arity op=args.length/\0<=n/\(n=0\/op=1)/\ ∀a∈args,eU f a=true:=by
 simp only[eU,Bool.and_eq_true,decide_eq_true_eq,List.all_eq_true]at h
 exact⟨h.1.1.1,h.1.1.2,h.1.2,h.2⟩
theorem Et {k:Int}{c:Cell}{g:Int}: ∀{T:Tab},iq T->fE (mM k c T) g=fE T g+(if pz T k=none/\grp k=g then 1 else 0)
 |[],_=>by simp[fE,mM,pz,List.countP_cons]
 |q::r,h=>by
  obtain⟨h1,h2⟩:=List.pairwise_cons.1 h
  unfold mM
  split
  ·rename_i hl
   have hne:k≠q.1:=fun e=>by rw[e,dZ]at hl;cases hl
   have ih:=Et (k:=k) (c:=c) (g:=g) h2
   have hg:pz (q::r) k=pz r k:=by
    have hf:(k==q.1)=false:=by simp[hne]
    unfold pz;rw[List.find?_cons,hf]
   rw[hg]
   unfold fE at*
   rw[List.countP_cons,List.countP_cons,ih]
   omega
  ·rename_i hl
   split
   ·rename_i he
    have hg:pz (q::r) k≠none:=by unfold pz;rw[List.find?_cons];simp[he]
    rw[if_neg (fun h=>hg h.1)]
    unfold fE
    rw[List.countP_cons,List.countP_cons]
    simp only[he]
    omega
   ·rename_i he
    have hkq:dw k q.1=true:=(lV he).resolve_left hl
    have hg:pz (q::r) k=none:=by
     rw[Uz]
     unfold fF
     intro hm
     obtain⟨p,hp,e⟩:=List.mem_map.1 hm
     rcases List.mem_cons.1 hp with rfl|hp
     ·exact he e
     ·have:=lU hkq (h1 p hp);rw[e,dZ]at this;cases this
    rw[hg]
    unfold fE
    rw[List.countP_cons]
    simp
theorem oZ.mM {T:Tab}(h:oZ T){k:Int}{c:Cell}(hk:aS k)(hc:ZF c)(hm:pz T k≠none\/fE T (grp k)<40):oZ (mM k c T):=by
 refine⟨h.rises.mM,fun p hp=>?_,fun p hp=>?_,fun g=>?_⟩
 ·rcases(yU h.rises).1 hp with rfl|hp
  ·exact hk
  ·exact h.key p hp.1
 ·rcases(yU h.rises).1 hp with rfl|hp
  ·exact hc
  ·exact h.cell p hp.1
 ·rw[Et h.rises]
  split
  ·rename_i hh
   obtain⟨h1,rfl⟩:=hh
   have:=hm.resolve_left (fun h=>h h1)
   omega
  ·have:=h.many g;omega
def RQ (T:Tab)(k:Int)(n:Nat):Int:=if 16<n then 2 else if pz T k=none/\40<=fE T (grp k)then 7 else 0
def eY (T:Tab)(k:Int)(c:Cell):Tab:=if RQ T k c.2.length=0 then mM k c T else T
theorem Ux (T:Tab):T.length=fE T 0+fE T 1+fE T 2+fE T 3+fE T 4+fE T 5+fE T 6+fE T 7:=by
 unfold fE
 induction T with
 |nil=>rfl
 |cons p r ih=>
  have h1:=acu p.1
  have h2:=acv p.1
  simp only[List.length_cons,List.countP_cons,ih]
  have h3:grp p.1=0\/grp p.1=1\/grp p.1=2\/grp p.1=3\/grp p.1=4\/grp p.1=5\/grp p.1=6\/grp p.1=7:=by omega
  rcases h3 with h|h|h|h|h|h|h|h<;>simp[h]<;>omega
theorem oZ.len {T:Tab}(h:oZ T):T.length<=320:=by
 have:=Ux T
 have:=h.many 0;have:=h.many 1;have:=h.many 2;have:=h.many 3;have:=h.many 4;have:=h.many 5;have:=h.many 6;have:=h.many 7
 omega
structure Nod where
 kind:Int
 x:Ex
 n:Int
def adN (r:Rec)(k:Nat):List Rec:=(List.range k).map fun(i:Nat)=>(⟨wrap64 (wrap64 (8*r.pos)+(i:Int)),r.key,wrap64 (r.val+(i:Int))⟩:Rec)
theorem Xe:aS 0:=⟨by omega,by omega⟩
end
section
mutual
def xW:Ex->Nat
 | .mk _ _ l=>1+kL l
def kL:List Ex->Nat
 |[]=>0
 |x::l=>xW x+kL l
end
mutual
def Bc:Ex->Nat->Nat
 | .mk _ _ l,left=>if 0<left then fD l (left-1)else left
def fD:List Ex->Nat->Nat
 |[],left=>left
 |x::l,left=>fD l (Bc x left)
end
mutual
theorem aaG: ∀(x:Ex)(left:Nat),Bc x left=left-xW x
 | .mk o n l,left=>by
   unfold Bc xW
   by_cases h:0<left
   ·rw[if_pos h,qW l];omega
   ·rw[if_neg h];omega
theorem qW: ∀(l:List Ex)(left:Nat),fD l left=left-kL l
 |[],left=>by unfold fD kL;omega
 |x::l,left=>by
  unfold fD kL
  rw[qW l,aaG x]
  omega
end
def jO (k:Int):Nat:=if k=1 then 0 else if k=8 then 2 else 1
def iM (k:Int):Nat:=if k=1 then 0 else if k=8 then 3 else 1
def rW (k:Int):Int:=if k=3 then 2 else if k=2\/k=4\/k=5\/k=6 then 1 else 0
def pU (k:Int):Bool:=k==6
def jN (k:Int):Int:=if k=7 then 16 else 0
def DI (name:Bool)(k:Int)(ins:Nat)(good:Bool)(none:Bool)(ty:Bool->Int->Bool)(n:Int):Bool:=
 if name=false\/k<1\/9<k then false
 else if ins<jO k\/iM k<ins\/good=false then false
 else if n<min (jN k) 1\/jN k<n then false
 else if rW k=0 then none else ty (pU k) (rW k)
end
section
open Go Go.RowKit
def runesFrom (s:ByteArray):Nat->Nat->List (Nat×Nat)
 |0,_=>[]
 |f+1,i=>if i<s.size then(i,(Utf8.decode s i).1)::runesFrom s f (i+(Utf8.decode s i).2)else[]
def runes (s:ByteArray):List (Nat×Nat):=runesFrom s s.size 0
theorem CS (s:ByteArray)(pos:Nat)(h:pos<s.size):1<=(Utf8.decode s pos).2:=by
 by_cases ha:(s[pos]'h).toNat<128
 ·rw[decode_ascii s pos h ha];exact Nat.le_refl _
 ·exact(decode_high s pos h (by omega)).2
theorem runesFrom_length (s:ByteArray): ∀f i,(runesFrom s f i).length<=f
 |0,_=>Nat.zero_le _
 |f+1,i=>by
  unfold runesFrom
  split
  ·rw[List.length_cons];have:=runesFrom_length s f (i+(Utf8.decode s i).2);omega
  ·exact Nat.zero_le _
theorem zY (s:ByteArray):(runes s).length<=s.size:=runesFrom_length s _ _
def rG (w:World)(r:Nat)(s:ByteArray)(left:List (Nat×Nat)):Prop:=
 ∃pos f,w.heap[r]?=some (.stringIter s pos)/\s.size<=pos+f/\runesFrom s f pos=left
theorem rG.lt {w:World}{r:Nat}{s:ByteArray}{left:List (Nat×Nat)}(h:rG w r s left):r<w.heap.size:=by
 obtain⟨pos,f,h,_⟩:=h
 exact(Array.getElem?_eq_some_iff.1 h).1
theorem rG.kept {w w':World}{r:Nat}{s:ByteArray}{left:List (Nat×Nat)}{S:Nat->Prop}(h:rG w r s left)(hk:Kept S w w')(hr: ¬S r):rG w' r s left:=by
 obtain⟨pos,f,h1,h2,h3⟩:=h
 exact⟨pos,f,hk.heap h1 hr,h2,h3⟩
section
variable {P:Program}
theorem JM (w:World)(t:TypeId)(s:ByteArray)(h:P.underlying t=some .string):
 ∃w',(Instr.range t (.string s)).run P w= .ok (.pointer (some ⟨w.heap.size,0,none⟩)) w'/\rG w' w.heap.size s (runes s)/\Kept none' w w'/\w'.heap.size=w.heap.size+1:=
 ⟨w.iter s 0,run_range_string w t s h,⟨0,s.size,World.iter_heap w s 0,by omega,rfl⟩,(Kept.refl _ _).alloc _,by simp[World.iter]⟩
theorem rG.next {w:World}{r:Nat}{s:ByteArray}{left:List (Nat×Nat)}(h:rG w r s left)(ty:TypeId):
 (left=[]/\(Instr.next (.pointer (some ⟨r,0,none⟩)) true ty).run P w= .ok (.tuple #[.bool false]) w)\/
 ∃p left' w',left=p::left'/\(Instr.next (.pointer (some ⟨r,0,none⟩)) true ty).run P w= .ok (.tuple #[.bool true, .int .i64 p.1, .int .i32 p.2]) w'/\rG w' r s left'/\Kept (one r) w w'/\w'.heap.size=w.heap.size:=by
 obtain⟨pos,f,h1,h2,rfl⟩:=h
 have hr:r<w.heap.size:=(Array.getElem?_eq_some_iff.1 h1).1
 by_cases hp:pos<s.size
 ·right
  cases f with
  |zero=>omega
  |succ f=>
   have hw:=CS s pos hp
   refine⟨(pos,(Utf8.decode s pos).1),runesFrom s f (pos+(Utf8.decode s pos).2),{w with heap:=w.heap.setIfInBounds r (.stringIter s (pos+(Utf8.decode s pos).2))},?_,?_,⟨_,f,?_,by omega,rfl⟩,⟨rfl,rfl,rfl,by simp,fun k _ hk=>?_⟩,by simp⟩
   ·rw[runesFrom,if_pos hp]
   ·simp[Instr.next,getObj,setObj,Sem.run,h1,hp,goInt]
   ·simp[hr]
   ·rw[ru _ (fun e=>hk e.symm)]
 ·left
  refine⟨?_,?_⟩
  ·cases f with
   |zero=>rfl
   |succ f=>rw[runesFrom,if_neg hp]
  ·simp[Instr.next,getObj,Sem.run,h1,hp]
end
end
section
open Go Go.RowKit
instance baDec:DecidableEq ByteArray:=fun a b=>decidable_of_iff (a.data=b.data) ⟨fun h=>by cases a;cases b;simp_all,fun h=>by rw[h]⟩
theorem su (a b:ByteArray):(a==b)=decide (a=b):=by
 have h:(a==b)=(a.data==b.data):=by cases a;cases b;rfl
 rw[h]
 by_cases e:a=b
 ·subst e;simp
 ·rw[decide_eq_false e]
  refine Bool.eq_false_iff.2 fun hd=>e ?_
  have:=eq_of_beq hd
  cases a;cases b;simp_all
instance aeT:LawfulBEq ByteArray where
 eq_of_beq h:=by rw[su]at h;exact of_decide_eq_true h
 rfl:=fun{a}=>(su a a).trans (decide_eq_true rfl)
def jI (r:Nat):Bool:=(decide (97<=r)&&decide (r<=122))||(decide (65<=r)&&decide (r<=90))||(decide (191<r)&&r !=65533)
def mX (r:Nat):Bool:=jI r||(decide (48<=r)&&decide (r<=57))||r==45
def E5:List (Nat×Nat)->Bool
 |[]=>false
 |p::l=>jI p.2&&(p::l).all (fun q=>mX q.2)&&decide ((p::l).length<=24)
def kH (s:ByteArray):Bool:=E5 (runes s)
structure JN where
 uid:ByteArray
 kind:Int
 ins:List Int
 x:Ex
 n:Int
instance:Inhabited JN:=⟨⟨ByteArray.empty,0,[],default,0⟩⟩
structure Jb where
 par:Int
 nodes:List JN
def kM (x:Ex):Bool:=x.op==0&&x.n==0&&x.args.isEmpty
mutual
def jv:Ex->Bool
 | .mk o _ l=>o==4||xX l
def xX:List Ex->Bool
 |[]=>false
 |x::l=>jv x||xX l
end
theorem CP: ∀l:List Ex,xX l=l.any jv
 |[]=>by simp[xX]
 |x::l=>by simp[xX,CP l]
def jC (x:Ex)(acc:Bool):Int×Int:=
 if eU 16 x=false then(0,2)else if acc=false/\jv x=true then(0,90)else if dJ 16 x=0 then(0,91)else(dJ 16 x,0)
def uV (x:Ex)(acc:Bool)(ty:Int):Bool:=(jC x acc).2==0&&(jC x acc).1==ty
def kJ (ins:List Int)(at_:Nat):Bool:=decide ins.Nodup&&ins.all fun k=>decide (0<=k)&&decide (k<(at_:Int))
def dM (at_:Nat)(d:JN):Bool:=DI (kH d.uid) d.kind d.ins.length (kJ d.ins at_) (kM d.x) (fun acc ty=>uV d.x acc ty) d.n
def yC (W:List Int)(d:JN):Int:=if d.kind=1 then 1 else(d.ins.map fun k=>W.getD k.toNat 0).sum*(if d.kind=4 then 4 else 1)
def dI (nodes:List JN):List Int:=nodes.foldl (fun W d=>W++[yC W d]) []
def mO (nodes:List JN)(i:Nat):Nat:=nodes.countP fun d=>d.ins.contains (i:Int)
def FZ (nodes:List JN)(i:Nat):Nat:=(nodes.take (i+1)).countP fun d=>d.kind==4
def bK (nodes:List JN)(i:Nat)(d:JN):Bool:=
 (decide (d.kind=1) !=decide (i=0))||(decide (d.kind=9) !=decide (i+1=nodes.length))||(decide (mO nodes i=0) !=decide (i+1=nodes.length))||
   decide (3<mO nodes i)||decide (2<FZ nodes i)||decide (64<(dI nodes).getD i 0)
def jk (j:Jb):Bool:=decide (j.par<1)||decide (4<j.par)||decide (j.nodes.length<2)||decide (12<j.nodes.length)||decide (1000<1001-fD (j.nodes.map (·.x)) 1001)
def kD (nodes:List JN)(i:Nat)(d:JN):Bool:=decide (d.uid∈(nodes.take i).map fun e:JN=>e.uid)
def tX (j:Jb):Bool:=!jk j&&(List.range j.nodes.length).all fun i=>dM i (j.nodes.getD i default)&&!kD j.nodes i (j.nodes.getD i default)&&!bK j.nodes i (j.nodes.getD i default)
theorem Jo {j:Jb}(h:tX j=true):jk j=false/\ ∀i d,j.nodes[i]?=some d->dM i d=true/\kD j.nodes i d=false/\bK j.nodes i d=false:=by
 unfold tX at h
 rw[Bool.and_eq_true,List.all_eq_true]at h
 refine⟨by simpa using h.1,fun i d hd=>?_⟩
 have hi:i<j.nodes.length:=(List.getElem?_eq_some_iff.1 hd).1
 have:=h.2 i (List.mem_range.2 hi)
 rw[List.getD_eq_getElem?_getD,hd]at this
 simpa[and_assoc]using this
theorem Yi {j:Jb}(h0:jk j=false)(h: ∀i d,j.nodes[i]?=some d->dM i d=true/\kD j.nodes i d=false/\bK j.nodes i d=false):tX j=true:=by
 unfold tX
 rw[Bool.and_eq_true,List.all_eq_true]
 refine⟨by simp[h0],fun i hi=>?_⟩
 have hi:=List.mem_range.1 hi
 have:=h i _ (List.getElem?_eq_getElem hi)
 rw[List.getD_eq_getElem?_getD,List.getElem?_eq_getElem hi]
 simpa[and_assoc]using this
abbrev St:=ByteArray×ByteArray
end
end Go.Proofs.YtakhobfamnjnoaaGreatDoor
