/-
  The machine's operations: structs and rows that are built, append, copy.
-/
import Derived.Test.YtmcoaebldobapaaGreatDoorD13
set_option linter.unusedVariables false
set_option linter.unusedSimpArgs false
namespace Go.Proofs.YtmcoaebldobapaaGreatDoor
namespace Eng
open Go Go.RowKit
section
variable {P : Program} {g : Nat} {w0 : World} {ρ : Ren} {h : Hp} {nx : Nat} {w : World}
/-! ### parts are filled in -/
noncomputable def fillK (place : Nat → Option (Nat × Nat)) (parts : List (Nat × AV)) : List CV → (List CV → Bool) → Bool :=
  List.rec (motive := fun _ => List CV → (List CV → Bool) → Bool) (fun cs k => k cs) (fun p _ ih cs k => optK (place p.1) fun os => optK (rvCells p.2.rv) fun l => iff (Nat.beq (llen l) os.2) (iff (Nat.ble (Nat.add os.1 os.2) (llen cs)) (lputK l cs os.1 fun cs => ih cs k))) parts
theorem foldl_put (xs : List Value) : ∀ (cells : Array Value) (off k : Nat), ((xs.zipIdx k).foldl (fun cs (c, j) => cs.setIfInBounds (off + j) c) cells).toList = lput xs cells.toList (off + k) := by
  induction xs with
  | nil => intro cells off k; rfl
  | cons x xs ih =>
    intro cells off k
    simp only [List.zipIdx_cons, List.foldl_cons, lput]
    rw [ih]
    simp [Nat.add_assoc]
theorem f2_lput {l : List CV} {xs : List Value} (hx : F2 (G ρ) l xs) : ∀ {cs : List CV} {ys : List Value} (_ : F2 (G ρ) cs ys) (n : Nat), F2 (G ρ) (lput l cs n) (lput xs ys n) := by
  induction hx with
  | nil => intro cs ys hy n; exact hy
  | cons a _ ih => intro cs ys hy n; exact ih (f2_set hy a n) _
theorem fillK_ok {place : Nat → Option (Nat × Nat)} {parts : List (Nat × AV)} {pv : List (Nat × Value)} (hp : F2 (fun a b => a.1 = b.1 ∧ GA ρ a.2 b.2) parts pv) : ∀ {cs : List CV} {ys : List Value} {k : List CV → Bool}, F2 (G ρ) cs ys → fillK place parts cs k = true →
    ∃ cs' ys', k cs' = true ∧ F2 (G ρ) cs' ys' ∧ Instr.fill place ys.toArray pv = some ys'.toArray ∧ ys'.length = ys.length := by
  induction hp with
  | nil => intro cs ys k hy hk; exact ⟨cs, ys, hk, hy, rfl, rfl⟩
  | @cons p q _ _ hpq _ ih =>
    intro cs ys k hy hk
    obtain ⟨i, a⟩ := p
    obtain ⟨j, v⟩ := q
    obtain ⟨rfl, hav⟩ := hpq
    obtain ⟨⟨off, sz⟩, hos, hk⟩ := optK_ok hk
    obtain ⟨l, hl, hk⟩ := optK_ok hk
    obtain ⟨hlen, hk⟩ := iff_ok hk
    have hlen : l.length = sz := by rw [← llen_eq]; exact nateq hlen
    obtain ⟨hb, hk⟩ := iff_ok hk
    have hb : off + sz ≤ cs.length := by rw [← llen_eq]; exact natle hb
    obtain ⟨hfit, hk⟩ := lputK_ok hk
    obtain ⟨xs, h1, hx⟩ := rvCells_ok hl hav.rv
    obtain ⟨cs', ys', hk, h3, h4, h5⟩ := ih (f2_lput hx hy off) hk
    refine ⟨cs', ys', hk, h3, ?_, by rw [h5, lput_length]⟩
    have hxl := f2_len hx
    have hyl := f2_len hy
    have e1 : ¬ (v.cells.size ≠ sz ∨ off + v.cells.size > ys.toArray.size) := by
      rw [h1]
      simp only [List.size_toArray]
      rintro (e | e)
      · exact e (by omega)
      · omega
    have e2 : (v.cells.zipIdx.foldl (fun cs (c, j) => cs.setIfInBounds (off + j) c) ys.toArray) = (lput xs ys off).toArray := by
      apply Array.ext'
      rw [h1]
      have := foldl_put xs ys.toArray off 0
      simpa using this
    show Instr.fill place ys.toArray ((i, v) :: _) = _
    simp only [Instr.fill, hos]
    have e1' : (decide (v.cells.size ≠ sz) || decide (off + v.cells.size > ys.toArray.size)) = false := by simpa using e1
    rw [if_neg (by simpa using e1), e2]
    exact h4
/-! ### structs, arrays, rows -/
noncomputable def buildK (P : Program) (t : TypeId) (parts : List (Nat × AV)) (k : RV → Bool) : Bool :=
  zeroK P t fun cs => optK (undL P t) fun d => (match d with
    | .struct fs => optK (fs.toList.mapM fun f => (infL P f.type).map fun i => (f.offset, i.size)) fun places => fillK (lget places) parts cs fun cs => k (.agg cs)
    | .array _ e => optK (szT P e) fun n => fillK (fun i => some (Nat.mul i n, n)) parts cs fun cs => k (.agg cs)
    | _ => false)
theorem buildK_ok {t : TypeId} {parts : List (Nat × AV)} {pv : List (Nat × Value)} (hp : F2 (fun a b => a.1 = b.1 ∧ GA ρ a.2 b.2) parts pv) {k : RV → Bool} (hk : buildK P t parts k = true) : Pu P ρ k (Instr.build t pv.toArray) := by
  obtain ⟨i, z, cs, hi, hz, hk, hx⟩ := zeroK_ok (ρ := ρ) hk
  obtain ⟨d, hd, hk⟩ := optK_ok hk
  try simp only [undL_eq, infL_eq, fnL_eq] at hd
  split at hk
  · obtain ⟨places, hpl, hk⟩ := optK_ok hk
    simp only [infL_eq] at hpl
    obtain ⟨cs', ys', hk, h1, h2, _⟩ := fillK_ok hp hx hk
    refine ⟨_, _, hk, .agg h1, fun w => run_build w t _ _ ?_⟩
    have : lget places = fun i => places.toArray[i]? := by funext i; rw [lget_eq]; simp
    rw [this] at h2
    simp only [Program.built, hi, hd, hz, hpl]
    simpa using h2
  · rename_i e _ _ _
    obtain ⟨n, hn, hk⟩ := optK_ok hk
    obtain ⟨cs', ys', hk, h1, h2, _⟩ := fillK_ok hp hx hk
    refine ⟨_, _, hk, .agg h1, fun w => run_build w t _ _ ?_⟩
    unfold szT at hn
    rw [infL_eq] at hn
    cases hie : P.info? _ with
    | none => rw [hie] at hn; cases hn
    | some ie =>
      rw [hie] at hn
      cases hn
      simp only [Program.built, hi, hd, hz, hie]
      simpa using h2
  · cases hk
noncomputable def lrep {α : Type} (n : Nat) (l : List α) : List α := Nat.rec [] (fun _ acc => l ++ acc) n
theorem lrep_len {α : Type} (l : List α) : ∀ n, (lrep n l).length = n * l.length
  | 0 => by show ([] : List α).length = _; simp
  | n + 1 => by show (l ++ lrep n l).length = _; rw [List.length_append, lrep_len l n, Nat.succ_mul, Nat.add_comm]
theorem f2_rep {l : List CV} {xs : List Value} (hx : F2 (G ρ) l xs) : ∀ n, F2 (G ρ) (lrep n l) (lrep n xs)
  | 0 => .nil
  | n + 1 => f2_app hx (f2_rep hx n)
theorem lrep_get {α : Type} (l : List α) : ∀ (n j : Nat), j < n * l.length → (lrep n l)[j]? = l[j % l.length]?
  | 0, j, h => by simp at h
  | n + 1, j, h => by
    show (l ++ lrep n l)[j]? = _
    by_cases hj : j < l.length
    · rw [List.getElem?_append_left hj, Nat.mod_eq_of_lt hj]
    · rw [List.getElem?_append_right (by omega), lrep_get l n (j - l.length) (by rw [Nat.succ_mul] at h; omega), ← Nat.mod_eq_sub_mod (by omega)]
theorem madeCells_rep (z : Array Value) (n : Nat) : madeCells z (n * z.size) = (lrep n z.toList).toArray := by
  apply Array.ext'
  apply List.ext_getElem?
  intro j
  by_cases hj : j < n * z.size
  · have hz : 0 < z.size := by
      rcases Nat.eq_zero_or_pos z.size with h | h
      · rw [h] at hj; simp at hj
      · exact h
    have hm := Nat.mod_lt j hz
    have := lrep_get z.toList n j (by simpa using hj)
    simp only [List.toList_toArray] at *
    rw [this]
    simp [madeCells, hj, hm]
  · rw [List.getElem?_eq_none (by simp [madeCells]; omega), List.getElem?_eq_none (by rw [List.toList_toArray, lrep_len]; simpa using hj)]
noncomputable def buildSliceK (P : Program) (h : Hp) (nx : Nat) (t : TypeId) (len : Nat) (parts : List (Nat × AV)) (k : RV → Hp → Nat → Bool) : Bool :=
  optK (undL P t) fun d => (match d with
    | .slice e => zeroK P e fun zs => optK (szT P e) fun n => iff (Nat.beq (llen zs) n) (iff (!Nat.beq n 0) (iff (Nat.ble (Nat.mul len n) 16777216) (fL (lrep len zs) fun cs => fillK (fun i => some (Nat.mul i n, n)) parts cs fun cs =>
        newK h nx (.row cs e (some len)) fun id h nx => k (.c (.sl id 0 len 0 none)) h nx)))
    | _ => false)
theorem cellsOf_sz {e n : Nat} (hn : szT P e = some n) : P.cellsOf e = n := by
  unfold szT at hn
  rw [infL_eq] at hn
  simp [Program.cellsOf, hn]
theorem buildSliceK_ok (H : HR P g w0 ρ h nx w) {t : TypeId} {len : Nat} {parts : List (Nat × AV)} {pv : List (Nat × Value)} (hp : F2 (fun a b => a.1 = b.1 ∧ GA ρ a.2 b.2) parts pv) {k : RV → Hp → Nat → Bool} (hk : buildSliceK P h nx t len parts k = true) :
    Do P g w0 ρ nx w k (Instr.buildSlice t len pv.toArray) := by
  obtain ⟨d, hd, hk⟩ := optK_ok hk
  try simp only [undL_eq, infL_eq, fnL_eq] at hd
  split at hk
  · rename_i e
    obtain ⟨i, z, zs, hi, hz, hk, hx⟩ := zeroK_ok (ρ := ρ) hk
    obtain ⟨n, hn, hk⟩ := optK_ok hk
    obtain ⟨hzl, hk⟩ := iff_ok hk
    obtain ⟨hn0, hk⟩ := iff_ok hk
    obtain ⟨hlim, hk⟩ := iff_ok hk
    have hzl : zs.length = n := by rw [← llen_eq]; exact nateq hzl
    have hn0 : n ≠ 0 := fun e => by subst e; simp at hn0
    have hlim : len * n ≤ 16777216 := natle hlim
    rw [fL_eq] at hk
    obtain ⟨cs', ys', hk, h1, h2, h3⟩ := fillK_ok hp (f2_rep hx len) hk
    obtain ⟨h', hkk, hh⟩ := Tr.setK_ok hk
    have hzs : z.cells.size = n := by have := f2_len hx; simp at this; omega
    subst hzs
    have hys : ys'.length = len * z.cells.size := by rw [h3, lrep_len]; simp
    have hcell := cellsOf_sz hn
    have hlen : len ≤ maxLen := by
      unfold maxLen
      have : len ≤ len * z.cells.size := Nat.le_mul_of_pos_right _ (by omega)
      omega
    obtain ⟨ρ', hle, hr, H'⟩ := H.row h1 [] e len (some len) (by simp) (by rw [hcell, hys]; simp) hlen hh
    have hsl : G ρ' (.sl nx 0 len 0 none) (.slice (some ⟨w.heap.size, 0, none⟩) len len) := by
      have := G.sl (ρ := ρ') 0 len 0 none hr (by simp) (by simpa using hlen) (by simp)
      simpa using this
    refine ⟨_, _, ρ', h', nx + 1, _, hkk, hle, H', .c hsl, ?_⟩
    have hmade : (Array.range (len * z.cells.size)).map (z.cells[· % z.cells.size]!) = (lrep len z.cells.toList).toArray := madeCells_rep z.cells len
    have hbig : ¬ (16777216 < len * z.cells.size) := by omega
    by_cases h0 : len * z.cells.size = 0
    · have hl0 : len = 0 := by
        rcases Nat.mul_eq_zero.1 h0 with h | h
        · exact h
        · exact absurd h hn0
      subst hl0
      have hfill : Instr.fill (fun i => some (i * z.cells.size, z.cells.size)) #[] pv = some ys'.toArray := h2
      simp [Instr.buildSlice, run_underlying hd, run_sizeOf' hn, Array.range_zero', hfill, newRow]
    · simp [Instr.buildSlice, run_underlying hd, run_sizeOf' hn, hbig, h0, zeroValue, typeInfo, hi, hz, newRow]
      have hmade' : (Array.map (fun x => z.cells[x % z.cells.size]!) (Array.range (len * z.cells.size))) = (lrep len z.cells.toList).toArray := hmade
      rw [hmade']
      simp only [Nat.mul_eq] at h2
      simp [h2]
  · cases hk
/-- A block under a name that was kept back. -/
theorem HR.newAt (H : HR P g w0 ρ h nx w) (x : Obj) {r base cap : Nat} {o : AO} {h' : Hp} (hr : r < nx) (hg : g ≤ r) (hn : ρ r = none) (hh : ∀ m, h'.get m = if m = r then some o else h.get m)
    (ho : ∀ ρ', ρ.le ρ' → ρ' r = some (.blk w.heap.size base cap) → Ob P ρ' r o (w.alloc x)) :
    HR P g w0 (ρ.put r (.blk w.heap.size base cap)) h' nx (w.alloc x) := by
  have hle := Ren.le_put hn (.blk w.heap.size base cap)
  have hb : ∀ id b, blkOf (ρ.put r (.blk w.heap.size base cap)) id b → (id = r ∧ b = w.heap.size) ∨ (id ≠ r ∧ blkOf ρ id b) := fun id b ⟨bs, cp, hb⟩ => by
    unfold Ren.put at hb
    split at hb
    · rename_i e; cases hb; exact .inl ⟨e, rfl⟩
    · exact .inr ⟨by assumption, _, _, hb⟩
  have hle0 : w0.heap.size ≤ w.heap.size := H.kept.size
  refine ⟨fun id hid => ?_, H.gnx, fun id p hp hid => ?_, fun i j oi oj b hi hj bi bj => ?_, fun id b hid hg => ?_, fun id b hid => ?_, ?_, fun i hi => (H.glob i hi).imp fun _ h => hle _ _ h, fun id hid => by rw [hh, if_neg (by omega)]; exact H.hfr id hid⟩
  · unfold Ren.put; rw [if_neg (by omega)]; exact H.fresh id hid
  · rw [hh] at hp
    split at hp
    · rename_i e; cases hp; subst e; exact ho _ hle (Ren.put_self _ _ _)
    · rename_i hne; rw [Ren.put_ne hne] at hid; exact ((H.objs id p hp hid).frame (fun b _ hb => Below.heap_alloc _ _ _ hb)).mono hle
  · rcases hb _ _ bi with ⟨ei, eb⟩ | ⟨ni, bi⟩ <;> rcases hb _ _ bj with ⟨ej, eb'⟩ | ⟨nj, bj⟩
    · rw [ei, ej]
    · exact absurd (H.lt _ _ bj) (by omega)
    · exact absurd (H.lt _ _ bi) (by omega)
    · rw [hh, if_neg ni] at hi
      rw [hh, if_neg nj] at hj
      exact H.inj i j _ _ b hi hj bi bj
  · rcases hb _ _ hid with ⟨_, eb⟩ | ⟨_, hid⟩
    · omega
    · exact H.own id b hid hg
  · rw [World.size_alloc]
    rcases hb _ _ hid with ⟨_, eb⟩ | ⟨_, hid⟩
    · omega
    · have := H.lt id b hid; omega
  · exact ⟨H.kept.os, H.kept.tape, H.kept.output, by rw [World.size_alloc]; omega, fun k hk => (Below.heap_alloc _ _ _ (by omega)).trans (H.kept.block k hk)⟩
/-- A slice is laid under a name that was kept back. -/
noncomputable def buildSliceAtK (P : Program) (h : Hp) (r : Nat) (t : TypeId) (len : Nat) (parts : List (Nat × AV)) (k : RV → Hp → Bool) : Bool :=
  optK (undL P t) fun d => (match d with
    | .slice e => zeroK P e fun zs => optK (szT P e) fun n => iff (Nat.beq (llen zs) n) (iff (!Nat.beq n 0) (iff (Nat.ble (Nat.mul len n) 16777216) (fL (lrep len zs) fun cs => fillK (fun i => some (Nat.mul i n, n)) parts cs fun cs =>
        h.setK r (some (.row cs e (some len))) fun h => k (.c (.sl r 0 len 0 none)) h)))
    | _ => false)
theorem buildSliceAtK_ok (H : HR P g w0 ρ h nx w) {r : Nat} (hrn : r < nx) (hgr : g ≤ r) (hnr : ρ r = none) {t : TypeId} {len : Nat} {parts : List (Nat × AV)} {pv : List (Nat × Value)} (hp : F2 (fun a b => a.1 = b.1 ∧ GA ρ a.2 b.2) parts pv) {k : RV → Hp → Bool} (hk : buildSliceAtK P h r t len parts k = true) :
    ∃ v x ρ' h' w', k v h' = true ∧ ρ.le ρ' ∧ (∀ j, j ≠ r → ρ j = none → ρ' j = none) ∧ HR P g w0 ρ' h' nx w' ∧ GR ρ' v x ∧ (Instr.buildSlice t len pv.toArray).run P w = .ok x w' := by
  obtain ⟨d, hd, hk⟩ := optK_ok hk
  try simp only [undL_eq, infL_eq, fnL_eq] at hd
  split at hk
  · rename_i e
    obtain ⟨i, z, zs, hi, hz, hk, hx⟩ := zeroK_ok (ρ := ρ) hk
    obtain ⟨n, hn, hk⟩ := optK_ok hk
    obtain ⟨hzl, hk⟩ := iff_ok hk
    obtain ⟨hn0, hk⟩ := iff_ok hk
    obtain ⟨hlim, hk⟩ := iff_ok hk
    have hzl : zs.length = n := by rw [← llen_eq]; exact nateq hzl
    have hn0 : n ≠ 0 := fun e => by subst e; simp at hn0
    have hlim : len * n ≤ 16777216 := natle hlim
    rw [fL_eq] at hk
    obtain ⟨cs', ys', hk, h1, h2, h3⟩ := fillK_ok hp (f2_rep hx len) hk
    obtain ⟨h', hkk, hh⟩ := Tr.setK_ok hk
    have hzs : z.cells.size = n := by have := f2_len hx; simp at this; omega
    subst hzs
    have hys : ys'.length = len * z.cells.size := by rw [h3, lrep_len]; simp
    have hcell := cellsOf_sz hn
    have hlen : len ≤ maxLen := by
      unfold maxLen
      have : len ≤ len * z.cells.size := Nat.le_mul_of_pos_right _ (by omega)
      omega
    have hle := Ren.le_put hnr (.blk w.heap.size 0 len)
    have hr : (ρ.put r (.blk w.heap.size 0 len)) r = some (.blk w.heap.size 0 len) := Ren.put_self _ _ _
    have H' := H.newAt (.cells ys'.toArray e) (base := 0) (cap := len) hrn hgr hnr hh fun ρ' hle hr => .row hr (heap_alloc_new _ _) (fun j v hv => by
      obtain ⟨x, q1, q2⟩ := f2_get h1 hv
      exact ⟨x, q2.mono hle, by simpa using q1⟩) (fun m hm => ⟨by cases hm; rfl, fun _ => rfl⟩) (by rw [hcell]; simp [hys]) hlen
    have hsl : G (ρ.put r (.blk w.heap.size 0 len)) (.sl r 0 len 0 none) (.slice (some ⟨w.heap.size, 0, none⟩) len len) := by
      have := G.sl (ρ := ρ.put r (.blk w.heap.size 0 len)) 0 len 0 none hr (by simp) (by simpa using hlen) (by simp)
      simpa using this
    refine ⟨_, _, _, h', _, hkk, hle, fun j hj hn => by rw [Ren.put_ne hj]; exact hn, H', .c hsl, ?_⟩
    have hmade : (Array.range (len * z.cells.size)).map (z.cells[· % z.cells.size]!) = (lrep len z.cells.toList).toArray := madeCells_rep z.cells len
    have hbig : ¬ (16777216 < len * z.cells.size) := by omega
    by_cases h0 : len * z.cells.size = 0
    · have hl0 : len = 0 := by
        rcases Nat.mul_eq_zero.1 h0 with h | h
        · exact h
        · exact absurd h hn0
      subst hl0
      have hfill : Instr.fill (fun i => some (i * z.cells.size, z.cells.size)) #[] pv = some ys'.toArray := h2
      simp [Instr.buildSlice, run_underlying hd, run_sizeOf' hn, Array.range_zero', hfill, newRow]
    · simp [Instr.buildSlice, run_underlying hd, run_sizeOf' hn, hbig, h0, zeroValue, typeInfo, hi, hz, newRow]
      have hmade' : (Array.map (fun x => z.cells[x % z.cells.size]!) (Array.range (len * z.cells.size))) = (lrep len z.cells.toList).toArray := hmade
      rw [hmade']
      simp only [Nat.mul_eq] at h2
      simp [h2]
  · cases hk
noncomputable def makeSliceK (P : Program) (h : Hp) (nx : Nat) (t : TypeId) (l c : RV) (k : RV → Hp → Nat → Bool) : Bool :=
  optK (undL P t) fun d => (match d with
    | .slice e => optK (natOf l) fun l => optK (natOf c) fun c => iff (Nat.ble l c) (optK (infL P e) fun i => zeroK P e fun zs => iff (Nat.beq (llen zs) i.size) (iff (Nat.ble c 16777216) (iff (Nat.ble (Nat.mul i.bytes c) 140737488355328) (fL (lrep c zs) fun cs =>
        newK h nx (.row cs e (some c)) fun id h nx => k (.c (.sl id 0 l 0 none)) h nx))))
    | _ => false)
theorem makeSliceK_ok (H : HR P g w0 ρ h nx w) {t : TypeId} {l c : RV} {lv cv : Value} (hl : GR ρ l lv) (hc : GR ρ c cv) {k : RV → Hp → Nat → Bool} (hk : makeSliceK P h nx t l c k = true) : Do P g w0 ρ nx w k (Instr.makeSlice t lv cv) := by
  obtain ⟨d, hd, hk⟩ := optK_ok hk
  try simp only [undL_eq, infL_eq, fnL_eq] at hd
  split at hk
  · rename_i e
    obtain ⟨m, hm, hk⟩ := optK_ok hk
    obtain ⟨n, hn, hk⟩ := optK_ok hk
    obtain ⟨q1, rfl⟩ := natOf_ok hm hl
    obtain ⟨q2, rfl⟩ := natOf_ok hn hc
    obtain ⟨hmn, hk⟩ := iff_ok hk
    have hmn := natle hmn
    obtain ⟨i', hi', hk⟩ := optK_ok hk
    try simp only [undL_eq, infL_eq, fnL_eq] at hi'
    obtain ⟨i, z, zs, hi, hz, hk, hx⟩ := zeroK_ok (ρ := ρ) hk
    have ei : i' = i := Option.some.inj (hi'.symm.trans hi)
    rw [ei] at hk
    obtain ⟨hzl, hk⟩ := iff_ok hk
    obtain ⟨hlim, hk⟩ := iff_ok hk
    obtain ⟨hby, hk⟩ := iff_ok hk
    have hzl : zs.length = i.size := by rw [← llen_eq]; exact nateq hzl
    have hlim : n ≤ 16777216 := natle hlim
    have hby : i.bytes * n ≤ 140737488355328 := natle hby
    rw [fL_eq] at hk
    obtain ⟨h', hk, hh⟩ := Tr.setK_ok hk
    have hzs : z.cells.size = i.size := by have := f2_len hx; simp at this; omega
    have hcell : P.cellsOf e = i.size := by simp [Program.cellsOf, hi]
    have hmx : n ≤ maxLen := by unfold maxLen; omega
    obtain ⟨ρ', hle, hr, H'⟩ := H.row (f2_rep hx n) [] e n (some n) (by simp) (by rw [hcell, lrep_len, Array.length_toList, hzs]; simp) hmx hh
    have hsl : G ρ' (.sl nx 0 m 0 none) (.slice (some ⟨w.heap.size, 0, none⟩) m n) := by
      have := G.sl (ρ := ρ') 0 m 0 none hr (by simpa using hmn) (by simpa using hmx) (by simp)
      simpa using this
    refine ⟨_, _, ρ', h', nx + 1, _, hk, hle, H', .c hsl, ?_⟩
    have hby' : (i.bytes : Int) * (n : Int) ≤ 281474976710656 := by
      have h0 := Int.ofNat_le.2 hby
      rw [Int.natCast_mul] at h0
      exact Int.le_trans h0 (by decide)
    have := run_make (P := P) w t e i z hd hi hz q1 q2 (m : Int) (n : Int) (by omega) (by omega) hby' (by omega)
    rw [this]
    simp only [Int.toNat_natCast]
    rw [← hzs, madeCells_rep]
    simp
  · cases hk
end
end Eng
end Go.Proofs.YtmcoaebldobapaaGreatDoor
