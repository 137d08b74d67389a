/-
  slices.symMerge over records: what follows its search: the rotation, and the two halves merged.
-/
import Derived.Test.YtglbkodmmogomaaGreatDoorF09
import Derived.Deep.DeepCutAuto
set_option linter.unusedVariables false
set_option linter.unusedSimpArgs false
namespace Go.Proofs.YtglbkodmmogomaaGreatDoor
open Go Go.RowKit
attribute [local irreducible] wpL wpH
theorem Sorted.get {L : List Rec} (h : Sorted L) {i j : Nat} {u v : Rec} (hu : L[i]? = some u) (hv : L[j]? = some v) (hij : i ≤ j) : u.pos ≤ v.pos := by
  obtain ⟨h1, rfl⟩ := List.getElem?_eq_some_iff.1 hu
  obtain ⟨h2, rfl⟩ := List.getElem?_eq_some_iff.1 hv
  rcases Nat.lt_or_eq_of_le hij with hlt | rfl
  · exact List.pairwise_iff_getElem.1 h i j h1 h2 hlt
  · exact Int.le_refl _
/-- What the search has found of the places c from lo to hi: where 'gt', the right one goes ahead. -/
def Found (A B : List Rec) (a m p lo hi : Nat) (gt : Bool) : Prop := ∀ c, lo ≤ c → c < hi → ∀ u v, A[c - a]? = some u → B[p - c - m]? = some v → decide (v.pos < u.pos) = gt
def Bnd (a m n mid s0 r0 : Nat) : Prop := mid = (a + n) / 2 ∧ a < m ∧ m < n ∧ (mid < m ∧ s0 + n = mid + m ∧ r0 = mid ∨ m ≤ mid ∧ s0 = a ∧ r0 = m)
theorem sym_split {A B : List Rec} {a m n mid s0 r0 s : Nat} (hA : Sorted A) (hB : Sorted B) (hm : a + A.length = m) (hn : m + B.length = n) (hb : Bnd a m n mid s0 r0) (h0 : s0 ≤ s) (h1 : s ≤ r0)
    (f1 : Found A B a m (mid + m - 1) s0 s false) (f2 : Found A B a m (mid + m - 1) s r0 true) :
    ∃ A1 A2 B1 B2, A = A1 ++ A2 ∧ B = B1 ++ B2 ∧ a + A1.length = s ∧ m + B1.length + s = mid + m ∧ (∀ u ∈ A1, ∀ v ∈ B2, u.pos ≤ v.pos) ∧ (∀ u ∈ A2, ∀ v ∈ B1, v.pos < u.pos) := by
  obtain ⟨b1, b2, b3, b4⟩ := hb
  refine ⟨A.take (s - a), A.drop (s - a), B.take (mid - s), B.drop (mid - s), (List.take_append_drop _ _).symm, (List.take_append_drop _ _).symm, ?_, ?_, ?_, ?_⟩
  · rw [List.length_take]; omega
  · rw [List.length_take]; omega
  · intro u hu v hv
    obtain ⟨i, hi⟩ := List.getElem?_of_mem hu
    obtain ⟨j, hj⟩ := List.getElem?_of_mem hv
    rw [List.getElem?_take] at hi
    rw [List.getElem?_drop] at hj
    split at hi
    · rename_i hlt
      have h2 := (List.getElem?_eq_some_iff.1 hj).1
      have h3 := (List.getElem?_eq_some_iff.1 hi).1
      obtain ⟨x, hx⟩ : ∃ x, A[s - 1 - a]? = some x := ⟨_, List.getElem?_eq_getElem (by omega)⟩
      obtain ⟨y, hy⟩ : ∃ y, B[mid - s]? = some y := ⟨_, List.getElem?_eq_getElem (by omega)⟩
      have h4 := hA.get hi hx (by omega)
      have h5 := hB.get hy hj (by omega)
      have h6 := f1 (s - 1) (by omega) (by omega) x y hx (by rw [show mid + m - 1 - (s - 1) - m = mid - s by omega]; exact hy)
      have h7 := of_decide_eq_false h6
      omega
    · cases hi
  · intro u hu v hv
    obtain ⟨i, hi⟩ := List.getElem?_of_mem hu
    obtain ⟨j, hj⟩ := List.getElem?_of_mem hv
    rw [List.getElem?_drop] at hi
    rw [List.getElem?_take] at hj
    split at hj
    · rename_i hlt
      have h2 := (List.getElem?_eq_some_iff.1 hj).1
      have h3 := (List.getElem?_eq_some_iff.1 hi).1
      obtain ⟨x, hx⟩ : ∃ x, A[s - a]? = some x := ⟨_, List.getElem?_eq_getElem (by omega)⟩
      obtain ⟨y, hy⟩ : ∃ y, B[mid - s - 1]? = some y := ⟨_, List.getElem?_eq_getElem (by omega)⟩
      have h4 := hA.get hx hi (by omega)
      have h5 := hB.get hj hy (by omega)
      have h6 := f2 s (Nat.le_refl _) (by omega) x y hx (by rw [show mid + m - 1 - s - m = mid - s - 1 by omega]; exact hy)
      have h7 := of_decide_eq_true h6
      omega
    · cases hj
theorem Found.left {A B : List Rec} {a m p lo c : Nat} (hA : Sorted A) (hB : Sorted B) (h1 : a ≤ lo) {u v : Rec} (hu : A[c - a]? = some u) (hv : B[p - c - m]? = some v) (hle : u.pos ≤ v.pos) : Found A B a m p lo (c + 1) false := by
  intro d h2 h3 x y hx hy
  have h4 := hA.get hx hu (by omega)
  have h5 := hB.get hv hy (by omega)
  exact decide_eq_false (by omega)
theorem Found.right {A B : List Rec} {a m p hi c : Nat} (hA : Sorted A) (hB : Sorted B) (h1 : a ≤ c) {u v : Rec} (hu : A[c - a]? = some u) (hv : B[p - c - m]? = some v) (hlt : v.pos < u.pos) : Found A B a m p c hi true := by
  intro d h2 h3 x y hx hy
  have h4 := hA.get hu hx (by omega)
  have h5 := hB.get hy hv (by omega)
  exact decide_eq_true (by omega)
noncomputable def headReg : Code → Option Nat
  | .region k _ _ => some k
  | .seq a _ => headReg a
  | _ => none
noncomputable def fromReg (k : Nat) : Code → Option Code
  | .seq a b => if headReg a = some k then some (.seq a b) else match fromReg k a with
    | some c => some c
    | none => fromReg k b
  | .loop c => fromReg k c
  | .block _ c => fromReg k c
  | .scope c => fromReg k c
  | .cond _ a b => match fromReg k a with
    | some c => some c
    | none => fromReg k b
  | _ => none
noncomputable def symTail38 : Code := (Tryz.f177.body.bind (fromReg 38)).getD .skip
noncomputable def symTail41 : Code := (Tryz.f177.body.bind (fromReg 41)).getD .skip
noncomputable def symTail43 : Code := (Tryz.f177.body.bind (fromReg 43)).getD .skip
set_option maxRecDepth 1000000 in
set_option maxHeartbeats 1000000 in
theorem sym_tail43 (b off cap N fuel : Nat)
    (IH : Hid (∀ (a m n : Nat) (P A B S : List Rec) (w : World), A.length + B.length ≤ fuel → RW w b off (P ++ A ++ B ++ S) → (P ++ A ++ B ++ S).length = N →
    P.length = a → a + A.length = m → m + B.length = n → Sorted A → Sorted B → A ≠ [] → B ≠ [] →
    Calls Tryz.prog 177 #[.slice (some ⟨b, off, none⟩) N cap, .int .i64 a, .int .i64 m, .int .i64 n, .func (.func 117) #[] #[]] w (SortsTo w b off P (A ++ B) S)))
    (a m n mid nn i e : Nat) (P A1 A2 B1 B2 S : List Rec) (w wr : World) (u5 u6 u7 u8 u9 u10 u11 u12 u13 u14 u15 u16 u17 u21 u22 u23 u25 u26 u27 u28 u29 u30 u31 u32 u33 u34 u35 u36 u37 u38 u39 u40 u41 u42 u43 u44 u45 u46 u47 u48 u49 u50 u51 u52 u53 u54 u55 u56 u57 u58 u59 u60 u61 u62 u63 u64 u65 u66 u67 u68 u69 u70 u71 u72 u73 u74 u75 u76 u77 u78 u79 u80 u81 u82 u83 u84 u85 u86 u87 u88 u89 u90 u91 u92 u93 u94 u95 u96 u97 u98 u99 u100 u101 u102 u103 u104 u105 u106 u107 u108 u109 u110 u111 u112 u113 u114 u115 u116 u117 u118 u119 u120 u121 u122 u123 u124 u125 u126 u127 u128 u129 u130 u131 u132 u133 u134 u135 u136 u137 u138 u139 u140 u141 u142 u143 u144 u145 u146 u147 u148 u149 u150 u151 u152 u153 u154 u155 u156 u157 u158 u159 u160 u161 u162 u163 u164 u165 u166 u167 u168 u169 u170 u171 u172 u173 u174 u175 u176 u177 u178 u179 u180 u181 u182 u183 u184 u185 u186 u187 u188 u189 u190 u191 u192 u193 u194 u195 u196 u197 u198 u199 u200 u201 u202 u203 u204 u205 u206 u207 u208 u209 u210 u211 u212 u213 u214 u215 u216 u217 u218 u219 : Value)
    (HN : Hid ((P ++ (A1 ++ A2) ++ (B1 ++ B2) ++ S).length = N))
    (HL : Hid (Sorted (A1 ++ A2) ∧ Sorted (B1 ++ B2) ∧ (A1 ++ A2).length + (B1 ++ B2).length ≤ fuel + 1))
    (L : Hid ((P.length = a ∧ a + A1.length = i ∧ i + A2.length = m ∧ m + B1.length = e ∧ e + B2.length = n ∧ mid + A2.length = e ∧ i + B1.length = mid ∧ a < mid ∧ mid < n) ∧
      (∀ u ∈ A1, ∀ v ∈ B2, u.pos ≤ v.pos) ∧ (∀ u ∈ A2, ∀ v ∈ B1, v.pos < u.pos)))
    (X1 : List Rec) (R2 : Hid (Same (A1 ++ B1) X1 ∧ Sorted X1 ∧ RW wr b off (P ++ X1 ++ A2 ++ B2 ++ S) ∧ Kept (one b) w wr)) :
    Code.wp Tryz.prog symTail43 (bodyPost Tryz.prog Tryz.f177 (SortsTo w b off P (A1 ++ A2 ++ (B1 ++ B2)) S)) ⟨List.toArray (.slice (some ⟨b, off, none⟩) N cap :: .int .i64 a :: .int .i64 m :: .int .i64 n :: .func (.func 117) #[] #[] :: u5 :: u6 :: u7 :: u8 :: u9 :: u10 :: u11 :: u12 :: u13 :: u14 :: u15 :: u16 :: u17 :: .int .i64 mid :: .int .i64 nn :: .int .i64 i :: u21 :: u22 :: u23 :: .int .i64 e :: u25 :: u26 :: u27 :: u28 :: u29 :: u30 :: u31 :: u32 :: u33 :: u34 :: u35 :: u36 :: u37 :: u38 :: u39 :: u40 :: u41 :: u42 :: u43 :: u44 :: u45 :: u46 :: u47 :: u48 :: u49 :: u50 :: u51 :: u52 :: u53 :: u54 :: u55 :: u56 :: u57 :: u58 :: u59 :: u60 :: u61 :: u62 :: u63 :: u64 :: u65 :: u66 :: u67 :: u68 :: u69 :: u70 :: u71 :: u72 :: u73 :: u74 :: u75 :: u76 :: u77 :: u78 :: u79 :: u80 :: u81 :: u82 :: u83 :: u84 :: u85 :: u86 :: u87 :: u88 :: u89 :: u90 :: u91 :: u92 :: u93 :: u94 :: u95 :: u96 :: u97 :: u98 :: u99 :: u100 :: u101 :: u102 :: u103 :: u104 :: u105 :: u106 :: u107 :: u108 :: u109 :: u110 :: u111 :: u112 :: u113 :: u114 :: u115 :: u116 :: u117 :: u118 :: u119 :: u120 :: u121 :: u122 :: u123 :: u124 :: u125 :: u126 :: u127 :: u128 :: u129 :: u130 :: u131 :: u132 :: u133 :: u134 :: u135 :: u136 :: u137 :: u138 :: u139 :: u140 :: u141 :: u142 :: u143 :: u144 :: u145 :: u146 :: u147 :: u148 :: u149 :: u150 :: u151 :: u152 :: u153 :: u154 :: u155 :: u156 :: u157 :: u158 :: u159 :: u160 :: u161 :: u162 :: u163 :: u164 :: u165 :: u166 :: u167 :: u168 :: u169 :: u170 :: u171 :: u172 :: u173 :: u174 :: u175 :: u176 :: u177 :: u178 :: u179 :: u180 :: u181 :: u182 :: u183 :: u184 :: u185 :: u186 :: u187 :: u188 :: u189 :: u190 :: u191 :: u192 :: u193 :: u194 :: u195 :: u196 :: u197 :: u198 :: u199 :: u200 :: u201 :: u202 :: u203 :: u204 :: u205 :: u206 :: u207 :: u208 :: u209 :: u210 :: u211 :: u212 :: u213 :: u214 :: u215 :: u216 :: u217 :: u218 :: u219 :: []), []⟩ wr := by
  conv => arg 2; whnf
  have fin : ∀ X2, Same (A2 ++ B2) X2 → Sorted X2 → ∀ w2, RW w2 b off (P ++ X1 ++ X2 ++ S) → Kept (one b) w w2 → SortsTo w b off P (A1 ++ A2 ++ (B1 ++ B2)) S (.returned (.tuple #[])) w2 := by
    intro X2 h1 h2 w2 h3 h4
    obtain ⟨q1, q2, _, _⟩ := R2.out
    obtain ⟨_, p3, p4⟩ := L.out
    have sA := HL.out.1
    have sB := HL.out.2.1
    refine ⟨X1 ++ X2, ?_, Sorted.append q2 h2 ?_, rfl, by simpa using h3, h4⟩
    · have e1 : Same (A1 ++ A2 ++ (B1 ++ B2)) ((A1 ++ B1) ++ (A2 ++ B2)) := by
        have := ((Same.refl A1).append (Same.comm (A := A2) (B := B1) (fun u hu v hv => by have := p4 u hu v hv; omega))).append (Same.refl B2)
        simpa using this
      exact e1.trans (q1.append h1)
    · intro u hu v hv
      have hu' := q1.mem.2 hu
      have hv' := h1.mem.2 hv
      rcases List.mem_append.1 hu' with hu' | hu' <;> rcases List.mem_append.1 hv' with hv' | hv'
      · exact sA.le u hu' v hv'
      · exact p3 u hu' v hv'
      · have := p4 v hv' u hu'; omega
      · exact sB.le u hu' v hv'
  have no : ¬ (mid < e ∧ e < n) → SortsTo w b off P (A1 ++ A2 ++ (B1 ++ B2)) S (.returned (.tuple #[])) wr := by
    intro h2
    have h1 := L.out.1
    have h6 : Sorted (A2 ++ B2) := by
      by_cases h4 : mid < e
      · have h5 : B2 = [] := List.eq_nil_of_length_eq_zero (by omega)
        rw [h5]; simpa using HL.out.1.right
      · have h5 : A2 = [] := List.eq_nil_of_length_eq_zero (by omega)
        rw [h5]; simpa using HL.out.2.1.right
    exact fin (A2 ++ B2) (Same.refl _) h6 _ (by simpa using R2.out.2.2.1) R2.out.2.2.2
  have FIN := Lib.hid fin
  have NO := Lib.hid no
  clear fin no
  by_cases g1 : mid < e
  · by_cases g2 : e < n
    · go_wp2_with fail
      refine (IH.out mid e n (P ++ X1) A2 B2 S _ ?_ (by simpa using R2.out.2.2.1) ?_ ?_ ?_ ?_ HL.out.1.right HL.out.2.1.right ?_ ?_).mono ?_
      · have h1 := L.out.1; have h2 := HL.out.2.2; simp only [List.length_append] at h2; omega
      · have h1 := HN.out; have h2 := R2.out.1.length; simp only [List.length_append] at h1 h2 ⊢; omega
      · have h1 := L.out.1; have h2 := R2.out.1.length; simp only [List.length_append] at h2 ⊢; omega
      · exact L.out.1.2.2.2.2.2.1
      · exact L.out.1.2.2.2.2.1
      · intro h0; have h1 := L.out.1; rw [h0] at h1; simp only [List.length_nil] at h1; omega
      · intro h0; have h1 := L.out.1; rw [h0] at h1; simp only [List.length_nil] at h1; omega
      · rintro e2 w2 ⟨X2, hX1, hX2, rfl, hr2, hk2⟩
        have F := Lib.hid (FIN.out X2 hX1 hX2 w2 hr2 (R2.out.2.2.2.trans hk2))
        clear hX1 hX2 hr2 hk2
        go_wp2_with fail
        go_end0
        exact F.out
    · go_wp2_with fail
      go_end0
      exact NO.out (fun h => g2 h.2)
  · go_wp2_with fail
    go_end0
    exact NO.out (fun h => g1 h.1)
set_option maxRecDepth 1000000 in
set_option maxHeartbeats 1000000 in
theorem sym_tail41 (b off cap N fuel : Nat)
    (IH : Hid (∀ (a m n : Nat) (P A B S : List Rec) (w : World), A.length + B.length ≤ fuel → RW w b off (P ++ A ++ B ++ S) → (P ++ A ++ B ++ S).length = N →
    P.length = a → a + A.length = m → m + B.length = n → Sorted A → Sorted B → A ≠ [] → B ≠ [] →
    Calls Tryz.prog 177 #[.slice (some ⟨b, off, none⟩) N cap, .int .i64 a, .int .i64 m, .int .i64 n, .func (.func 117) #[] #[]] w (SortsTo w b off P (A ++ B) S)))
    (a m n mid nn i e : Nat) (P A1 A2 B1 B2 S : List Rec) (w wr : World) (u5 u6 u7 u8 u9 u10 u11 u12 u13 u14 u15 u16 u17 u21 u22 u23 u25 u26 u27 u28 u29 u30 u31 u32 u33 u34 u35 u36 u37 u38 u39 u40 u41 u42 u43 u44 u45 u46 u47 u48 u49 u50 u51 u52 u53 u54 u55 u56 u57 u58 u59 u60 u61 u62 u63 u64 u65 u66 u67 u68 u69 u70 u71 u72 u73 u74 u75 u76 u77 u78 u79 u80 u81 u82 u83 u84 u85 u86 u87 u88 u89 u90 u91 u92 u93 u94 u95 u96 u97 u98 u99 u100 u101 u102 u103 u104 u105 u106 u107 u108 u109 u110 u111 u112 u113 u114 u115 u116 u117 u118 u119 u120 u121 u122 u123 u124 u125 u126 u127 u128 u129 u130 u131 u132 u133 u134 u135 u136 u137 u138 u139 u140 u141 u142 u143 u144 u145 u146 u147 u148 u149 u150 u151 u152 u153 u154 u155 u156 u157 u158 u159 u160 u161 u162 u163 u164 u165 u166 u167 u168 u169 u170 u171 u172 u173 u174 u175 u176 u177 u178 u179 u180 u181 u182 u183 u184 u185 u186 u187 u188 u189 u190 u191 u192 u193 u194 u195 u196 u197 u198 u199 u200 u201 u202 u203 u204 u205 u206 u207 u208 u209 u210 u211 u212 u213 u214 u215 u216 u217 u218 u219 : Value)
    (HN : Hid ((P ++ (A1 ++ A2) ++ (B1 ++ B2) ++ S).length = N))
    (HL : Hid (Sorted (A1 ++ A2) ∧ Sorted (B1 ++ B2) ∧ (A1 ++ A2).length + (B1 ++ B2).length ≤ fuel + 1))
    (L : Hid ((P.length = a ∧ a + A1.length = i ∧ i + A2.length = m ∧ m + B1.length = e ∧ e + B2.length = n ∧ mid + A2.length = e ∧ i + B1.length = mid ∧ a < mid ∧ mid < n) ∧
      (∀ u ∈ A1, ∀ v ∈ B2, u.pos ≤ v.pos) ∧ (∀ u ∈ A2, ∀ v ∈ B1, v.pos < u.pos)))
    (R1 : Hid (RW wr b off (P ++ A1 ++ B1 ++ A2 ++ B2 ++ S) ∧ Kept (one b) w wr)) :
    Code.wp Tryz.prog symTail41 (bodyPost Tryz.prog Tryz.f177 (SortsTo w b off P (A1 ++ A2 ++ (B1 ++ B2)) S)) ⟨List.toArray (.slice (some ⟨b, off, none⟩) N cap :: .int .i64 a :: .int .i64 m :: .int .i64 n :: .func (.func 117) #[] #[] :: u5 :: u6 :: u7 :: u8 :: u9 :: u10 :: u11 :: u12 :: u13 :: u14 :: u15 :: u16 :: u17 :: .int .i64 mid :: .int .i64 nn :: .int .i64 i :: u21 :: u22 :: u23 :: .int .i64 e :: u25 :: u26 :: u27 :: u28 :: u29 :: u30 :: u31 :: u32 :: u33 :: u34 :: u35 :: u36 :: u37 :: u38 :: u39 :: u40 :: u41 :: u42 :: u43 :: u44 :: u45 :: u46 :: u47 :: u48 :: u49 :: u50 :: u51 :: u52 :: u53 :: u54 :: u55 :: u56 :: u57 :: u58 :: u59 :: u60 :: u61 :: u62 :: u63 :: u64 :: u65 :: u66 :: u67 :: u68 :: u69 :: u70 :: u71 :: u72 :: u73 :: u74 :: u75 :: u76 :: u77 :: u78 :: u79 :: u80 :: u81 :: u82 :: u83 :: u84 :: u85 :: u86 :: u87 :: u88 :: u89 :: u90 :: u91 :: u92 :: u93 :: u94 :: u95 :: u96 :: u97 :: u98 :: u99 :: u100 :: u101 :: u102 :: u103 :: u104 :: u105 :: u106 :: u107 :: u108 :: u109 :: u110 :: u111 :: u112 :: u113 :: u114 :: u115 :: u116 :: u117 :: u118 :: u119 :: u120 :: u121 :: u122 :: u123 :: u124 :: u125 :: u126 :: u127 :: u128 :: u129 :: u130 :: u131 :: u132 :: u133 :: u134 :: u135 :: u136 :: u137 :: u138 :: u139 :: u140 :: u141 :: u142 :: u143 :: u144 :: u145 :: u146 :: u147 :: u148 :: u149 :: u150 :: u151 :: u152 :: u153 :: u154 :: u155 :: u156 :: u157 :: u158 :: u159 :: u160 :: u161 :: u162 :: u163 :: u164 :: u165 :: u166 :: u167 :: u168 :: u169 :: u170 :: u171 :: u172 :: u173 :: u174 :: u175 :: u176 :: u177 :: u178 :: u179 :: u180 :: u181 :: u182 :: u183 :: u184 :: u185 :: u186 :: u187 :: u188 :: u189 :: u190 :: u191 :: u192 :: u193 :: u194 :: u195 :: u196 :: u197 :: u198 :: u199 :: u200 :: u201 :: u202 :: u203 :: u204 :: u205 :: u206 :: u207 :: u208 :: u209 :: u210 :: u211 :: u212 :: u213 :: u214 :: u215 :: u216 :: u217 :: u218 :: u219 :: []), []⟩ wr := by
  conv => arg 2; whnf
  change Code.wp Tryz.prog (Code.seq _ symTail43) _ _ _
  have no : ¬ (a < i ∧ i < mid) → Hid (Same (A1 ++ B1) (A1 ++ B1) ∧ Sorted (A1 ++ B1) ∧ RW wr b off (P ++ (A1 ++ B1) ++ A2 ++ B2 ++ S) ∧ Kept (one b) w wr) := by
    intro h2
    have h1 := L.out.1
    refine ⟨Same.refl _, ?_, by simpa using R1.out.1, R1.out.2⟩
    by_cases h4 : a < i
    · have h5 : B1 = [] := List.eq_nil_of_length_eq_zero (by omega)
      rw [h5]; simpa using HL.out.1.left
    · have h5 : A1 = [] := List.eq_nil_of_length_eq_zero (by omega)
      rw [h5]; simpa using HL.out.2.1.left
  have NO := Lib.hid no
  clear no
  by_cases g1 : a < i
  · by_cases g2 : i < mid
    · go_wp2_with fail
      refine (IH.out a i mid P A1 B1 (A2 ++ B2 ++ S) _ ?_ (by simpa using R1.out.1) ?_ ?_ ?_ ?_ HL.out.1.left HL.out.2.1.left ?_ ?_).mono ?_
      · have h1 := L.out.1; have h2 := HL.out.2.2; simp only [List.length_append] at h2; omega
      · have := HN.out; simp only [List.length_append] at this ⊢; omega
      · exact L.out.1.1
      · exact L.out.1.2.1
      · exact L.out.1.2.2.2.2.2.2.1
      · intro h0; have h1 := L.out.1; rw [h0] at h1; simp only [List.length_nil] at h1; omega
      · intro h0; have h1 := L.out.1; rw [h0] at h1; simp only [List.length_nil] at h1; omega
      · rintro e2 w2 ⟨X1, hX1, hX2, rfl, hr2, hk2⟩
        have F : Hid (Same (A1 ++ B1) X1 ∧ Sorted X1 ∧ RW w2 b off (P ++ X1 ++ A2 ++ B2 ++ S) ∧ Kept (one b) w w2) := ⟨hX1, hX2, by simpa using hr2, R1.out.2.trans hk2⟩
        clear hX1 hX2 hr2 hk2
        go_wp2_with fail
        exact sym_tail43 b off cap N fuel IH a m n mid nn i e P A1 A2 B1 B2 S w w2 _ _ _ _ _ _ _ _ _ _ _ _ _ _ _ _ _ _ _ _ _ _ _ _ _ _ _ _ _ _ _ _ _ _ _ _ _ _ _ _ _ _ _ _ _ _ _ _ _ _ _ _ _ _ _ _ _ _ _ _ _ _ _ _ _ _ _ _ _ _ _ _ _ _ _ _ _ _ _ _ _ _ _ _ _ _ _ _ _ _ _ _ _ _ _ _ _ _ _ _ _ _ _ _ _ _ _ _ _ _ _ _ _ _ _ _ _ _ _ _ _ _ _ _ _ _ _ _ _ _ _ _ _ _ _ _ _ _ _ _ _ _ _ _ _ _ _ _ _ _ _ _ _ _ _ _ _ _ _ _ _ _ _ _ _ _ _ _ _ _ _ _ _ _ _ _ _ _ _ _ _ _ _ _ _ _ _ _ _ _ _ _ _ _ _ _ _ _ _ _ _ _ _ _ _ _ _ _ _ _ _ HN HL L X1 F
    · go_wp2_with fail
      exact sym_tail43 b off cap N fuel IH a m n mid nn i e P A1 A2 B1 B2 S w wr _ _ _ _ _ _ _ _ _ _ _ _ _ _ _ _ _ _ _ _ _ _ _ _ _ _ _ _ _ _ _ _ _ _ _ _ _ _ _ _ _ _ _ _ _ _ _ _ _ _ _ _ _ _ _ _ _ _ _ _ _ _ _ _ _ _ _ _ _ _ _ _ _ _ _ _ _ _ _ _ _ _ _ _ _ _ _ _ _ _ _ _ _ _ _ _ _ _ _ _ _ _ _ _ _ _ _ _ _ _ _ _ _ _ _ _ _ _ _ _ _ _ _ _ _ _ _ _ _ _ _ _ _ _ _ _ _ _ _ _ _ _ _ _ _ _ _ _ _ _ _ _ _ _ _ _ _ _ _ _ _ _ _ _ _ _ _ _ _ _ _ _ _ _ _ _ _ _ _ _ _ _ _ _ _ _ _ _ _ _ _ _ _ _ _ _ _ _ _ _ _ _ _ _ _ _ _ _ _ _ _ HN HL L _ (NO.out (fun h => g2 h.2))
  · go_wp2_with fail
    exact sym_tail43 b off cap N fuel IH a m n mid nn i e P A1 A2 B1 B2 S w wr _ _ _ _ _ _ _ _ _ _ _ _ _ _ _ _ _ _ _ _ _ _ _ _ _ _ _ _ _ _ _ _ _ _ _ _ _ _ _ _ _ _ _ _ _ _ _ _ _ _ _ _ _ _ _ _ _ _ _ _ _ _ _ _ _ _ _ _ _ _ _ _ _ _ _ _ _ _ _ _ _ _ _ _ _ _ _ _ _ _ _ _ _ _ _ _ _ _ _ _ _ _ _ _ _ _ _ _ _ _ _ _ _ _ _ _ _ _ _ _ _ _ _ _ _ _ _ _ _ _ _ _ _ _ _ _ _ _ _ _ _ _ _ _ _ _ _ _ _ _ _ _ _ _ _ _ _ _ _ _ _ _ _ _ _ _ _ _ _ _ _ _ _ _ _ _ _ _ _ _ _ _ _ _ _ _ _ _ _ _ _ _ _ _ _ _ _ _ _ _ _ _ _ _ _ _ _ _ _ _ _ HN HL L _ (NO.out (fun h => g1 h.1))
set_option maxRecDepth 1000000 in
set_option maxHeartbeats 1000000 in
theorem sym_tail38 (b off cap N fuel : Nat) (hN2 : N < 1099511627776) 
    (IH : Hid (∀ (a m n : Nat) (P A B S : List Rec) (w : World), A.length + B.length ≤ fuel → RW w b off (P ++ A ++ B ++ S) → (P ++ A ++ B ++ S).length = N →
    P.length = a → a + A.length = m → m + B.length = n → Sorted A → Sorted B → A ≠ [] → B ≠ [] →
    Calls Tryz.prog 177 #[.slice (some ⟨b, off, none⟩) N cap, .int .i64 a, .int .i64 m, .int .i64 n, .func (.func 117) #[] #[]] w (SortsTo w b off P (A ++ B) S)))
    (a m n mid nn i e : Nat) (P A1 A2 B1 B2 S : List Rec) (w wr : World) (u5 u6 u7 u8 u9 u10 u11 u12 u13 u14 u15 u16 u17 u21 u22 u23 u24 u25 u26 u27 u28 u29 u30 u31 u32 u33 u34 u35 u36 u37 u38 u39 u40 u41 u42 u43 u44 u45 u46 u47 u48 u49 u50 u51 u52 u53 u54 u55 u56 u57 u58 u59 u60 u61 u62 u63 u64 u65 u66 u67 u68 u69 u70 u71 u72 u73 u74 u75 u76 u77 u78 u79 u80 u81 u82 u83 u84 u85 u86 u87 u88 u89 u90 u91 u92 u93 u94 u95 u96 u97 u98 u99 u100 u101 u102 u103 u104 u105 u106 u107 u108 u109 u110 u111 u112 u113 u114 u115 u116 u117 u118 u119 u120 u121 u122 u123 u124 u125 u126 u127 u128 u129 u130 u131 u132 u133 u134 u135 u136 u137 u138 u139 u140 u141 u142 u143 u144 u145 u146 u147 u148 u149 u150 u151 u152 u153 u154 u155 u156 u157 u158 u159 u160 u161 u162 u163 u164 u165 u166 u167 u168 u169 u170 u171 u172 u173 u174 u175 u176 u177 u178 u179 u180 u181 u182 u183 u184 u185 u186 u187 u188 u189 u190 u191 u192 u193 u194 u195 u196 u197 u198 u199 u200 u201 u202 u203 u204 u205 u206 u207 u208 u209 u210 u211 u212 u213 u214 u215 u216 u217 u218 u219 : Value)
    (HN : Hid ((P ++ (A1 ++ A2) ++ (B1 ++ B2) ++ S).length = N))
    (HL : Hid (Sorted (A1 ++ A2) ∧ Sorted (B1 ++ B2) ∧ (A1 ++ A2).length + (B1 ++ B2).length ≤ fuel + 1))
    (L : Hid ((P.length = a ∧ a + A1.length = i ∧ i + A2.length = m ∧ m + B1.length = e ∧ e + B2.length = n ∧ mid + A2.length = e ∧ i + B1.length = mid ∧ a < mid ∧ mid < n) ∧
      (∀ u ∈ A1, ∀ v ∈ B2, u.pos ≤ v.pos) ∧ (∀ u ∈ A2, ∀ v ∈ B1, v.pos < u.pos)))
    (hNn : Hid (n ≤ N ∧ nn = i + e)) (R0 : Hid (RW wr b off (P ++ (A1 ++ A2) ++ (B1 ++ B2) ++ S) ∧ Kept none' w wr)) :
    Code.wp Tryz.prog symTail38 (bodyPost Tryz.prog Tryz.f177 (SortsTo w b off P (A1 ++ A2 ++ (B1 ++ B2)) S)) ⟨List.toArray (.slice (some ⟨b, off, none⟩) N cap :: .int .i64 a :: .int .i64 m :: .int .i64 n :: .func (.func 117) #[] #[] :: u5 :: u6 :: u7 :: u8 :: u9 :: u10 :: u11 :: u12 :: u13 :: u14 :: u15 :: u16 :: u17 :: .int .i64 mid :: .int .i64 nn :: .int .i64 i :: u21 :: u22 :: u23 :: u24 :: u25 :: u26 :: u27 :: u28 :: u29 :: u30 :: u31 :: u32 :: u33 :: u34 :: u35 :: u36 :: u37 :: u38 :: u39 :: u40 :: u41 :: u42 :: u43 :: u44 :: u45 :: u46 :: u47 :: u48 :: u49 :: u50 :: u51 :: u52 :: u53 :: u54 :: u55 :: u56 :: u57 :: u58 :: u59 :: u60 :: u61 :: u62 :: u63 :: u64 :: u65 :: u66 :: u67 :: u68 :: u69 :: u70 :: u71 :: u72 :: u73 :: u74 :: u75 :: u76 :: u77 :: u78 :: u79 :: u80 :: u81 :: u82 :: u83 :: u84 :: u85 :: u86 :: u87 :: u88 :: u89 :: u90 :: u91 :: u92 :: u93 :: u94 :: u95 :: u96 :: u97 :: u98 :: u99 :: u100 :: u101 :: u102 :: u103 :: u104 :: u105 :: u106 :: u107 :: u108 :: u109 :: u110 :: u111 :: u112 :: u113 :: u114 :: u115 :: u116 :: u117 :: u118 :: u119 :: u120 :: u121 :: u122 :: u123 :: u124 :: u125 :: u126 :: u127 :: u128 :: u129 :: u130 :: u131 :: u132 :: u133 :: u134 :: u135 :: u136 :: u137 :: u138 :: u139 :: u140 :: u141 :: u142 :: u143 :: u144 :: u145 :: u146 :: u147 :: u148 :: u149 :: u150 :: u151 :: u152 :: u153 :: u154 :: u155 :: u156 :: u157 :: u158 :: u159 :: u160 :: u161 :: u162 :: u163 :: u164 :: u165 :: u166 :: u167 :: u168 :: u169 :: u170 :: u171 :: u172 :: u173 :: u174 :: u175 :: u176 :: u177 :: u178 :: u179 :: u180 :: u181 :: u182 :: u183 :: u184 :: u185 :: u186 :: u187 :: u188 :: u189 :: u190 :: u191 :: u192 :: u193 :: u194 :: u195 :: u196 :: u197 :: u198 :: u199 :: u200 :: u201 :: u202 :: u203 :: u204 :: u205 :: u206 :: u207 :: u208 :: u209 :: u210 :: u211 :: u212 :: u213 :: u214 :: u215 :: u216 :: u217 :: u218 :: u219 :: []), []⟩ wr := by
  conv => arg 2; whnf
  change Code.wp Tryz.prog (Code.seq _ (Code.seq _ symTail41)) _ _ _
  have e6 : IntKind.i64.wrap ((nn : Int) - i) = (e : Int) := by have h1 := L.out.1; have h2 := hNn.out; rw [show (nn : Int) - i = ((e : Nat) : Int) by omega]; exact wrapNat (by omega)
  have no : ¬ (i < m ∧ m < e) → Hid (RW wr b off (P ++ A1 ++ B1 ++ A2 ++ B2 ++ S) ∧ Kept (one b) w wr) := by
    intro h2
    have h1 := L.out.1
    have h3 := R0.out.1
    refine ⟨?_, R0.out.2.pure⟩
    by_cases h4 : i < m
    · have h5 : B1 = [] := List.eq_nil_of_length_eq_zero (by omega)
      rw [h5] at h3 ⊢
      simpa using h3
    · have h5 : A2 = [] := List.eq_nil_of_length_eq_zero (by omega)
      rw [h5] at h3 ⊢
      simpa using h3
  have NO := Lib.hid no
  clear no
  by_cases g1 : i < m
  · by_cases g2 : m < e
    · go_wp2_with fail
      refine (rotate_any b off cap N i m e (P ++ A1) A2 B1 (B2 ++ S) _ (by simpa using R0.out.1) ?_ hN2 ?_ ?_ ?_ ?_ ?_).mono ?_
      · have := HN.out
        simp only [List.length_append] at this ⊢
        omega
      · have := L.out.1; rw [List.length_append]; omega
      · have := L.out.1; rw [List.length_append, List.length_append]; omega
      · have := L.out.1; rw [List.length_append, List.length_append, List.length_append]; omega
      · intro h0; have h1 := L.out.1; rw [h0] at h1; simp only [List.length_nil] at h1; omega
      · intro h0; have h1 := L.out.1; rw [h0] at h1; simp only [List.length_nil] at h1; omega
      · rintro e2 w2 ⟨rfl, hr2, hk2⟩
        have F : Hid (RW w2 b off (P ++ A1 ++ B1 ++ A2 ++ B2 ++ S) ∧ Kept (one b) w w2) := ⟨by simpa using hr2, R0.out.2.pure.trans hk2⟩
        clear hr2 hk2
        go_wp2_with fail
        exact sym_tail41 b off cap N fuel IH a m n mid nn i e P A1 A2 B1 B2 S w w2 _ _ _ _ _ _ _ _ _ _ _ _ _ _ _ _ _ _ _ _ _ _ _ _ _ _ _ _ _ _ _ _ _ _ _ _ _ _ _ _ _ _ _ _ _ _ _ _ _ _ _ _ _ _ _ _ _ _ _ _ _ _ _ _ _ _ _ _ _ _ _ _ _ _ _ _ _ _ _ _ _ _ _ _ _ _ _ _ _ _ _ _ _ _ _ _ _ _ _ _ _ _ _ _ _ _ _ _ _ _ _ _ _ _ _ _ _ _ _ _ _ _ _ _ _ _ _ _ _ _ _ _ _ _ _ _ _ _ _ _ _ _ _ _ _ _ _ _ _ _ _ _ _ _ _ _ _ _ _ _ _ _ _ _ _ _ _ _ _ _ _ _ _ _ _ _ _ _ _ _ _ _ _ _ _ _ _ _ _ _ _ _ _ _ _ _ _ _ _ _ _ _ _ _ _ _ _ _ _ _ _ HN HL L F
    · go_wp2_with fail
      exact sym_tail41 b off cap N fuel IH a m n mid nn i e P A1 A2 B1 B2 S w wr _ _ _ _ _ _ _ _ _ _ _ _ _ _ _ _ _ _ _ _ _ _ _ _ _ _ _ _ _ _ _ _ _ _ _ _ _ _ _ _ _ _ _ _ _ _ _ _ _ _ _ _ _ _ _ _ _ _ _ _ _ _ _ _ _ _ _ _ _ _ _ _ _ _ _ _ _ _ _ _ _ _ _ _ _ _ _ _ _ _ _ _ _ _ _ _ _ _ _ _ _ _ _ _ _ _ _ _ _ _ _ _ _ _ _ _ _ _ _ _ _ _ _ _ _ _ _ _ _ _ _ _ _ _ _ _ _ _ _ _ _ _ _ _ _ _ _ _ _ _ _ _ _ _ _ _ _ _ _ _ _ _ _ _ _ _ _ _ _ _ _ _ _ _ _ _ _ _ _ _ _ _ _ _ _ _ _ _ _ _ _ _ _ _ _ _ _ _ _ _ _ _ _ _ _ _ _ _ _ _ _ HN HL L (NO.out (fun h => g2 h.2))
  · go_wp2_with fail
    exact sym_tail41 b off cap N fuel IH a m n mid nn i e P A1 A2 B1 B2 S w wr _ _ _ _ _ _ _ _ _ _ _ _ _ _ _ _ _ _ _ _ _ _ _ _ _ _ _ _ _ _ _ _ _ _ _ _ _ _ _ _ _ _ _ _ _ _ _ _ _ _ _ _ _ _ _ _ _ _ _ _ _ _ _ _ _ _ _ _ _ _ _ _ _ _ _ _ _ _ _ _ _ _ _ _ _ _ _ _ _ _ _ _ _ _ _ _ _ _ _ _ _ _ _ _ _ _ _ _ _ _ _ _ _ _ _ _ _ _ _ _ _ _ _ _ _ _ _ _ _ _ _ _ _ _ _ _ _ _ _ _ _ _ _ _ _ _ _ _ _ _ _ _ _ _ _ _ _ _ _ _ _ _ _ _ _ _ _ _ _ _ _ _ _ _ _ _ _ _ _ _ _ _ _ _ _ _ _ _ _ _ _ _ _ _ _ _ _ _ _ _ _ _ _ _ _ _ _ _ _ _ _ HN HL L (NO.out (fun h => g1 h.1))
end Go.Proofs.YtglbkodmmogomaaGreatDoor
