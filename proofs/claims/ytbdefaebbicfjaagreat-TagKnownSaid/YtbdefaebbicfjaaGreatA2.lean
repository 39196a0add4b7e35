/- Lemmas on an abstract memory that stands for the worlds of the model: no condition. -/
import Derived.Test.YtbdefaebbicfjaaGreatA1
import Derived.RangeFuncRecord
set_option linter.all false
/- The abstract operations: aggregates, slices' parts, maps, interface values, builtins. -/
namespace Go.Ab
open Go.RowKit

/-! ### aggregates -/
def aFill (place : Nat → Option (Nat × Nat)) (cells : List AV) : List (Nat × AV) → Option (List AV)
  | [] => some cells
  | (i, v) :: rest =>
    match place i with
    | none => none
    | some (off, size) =>
      if v.cells.length = size ∧ off + size ≤ cells.length ∧ v.cells.all (·.isCell) then aFill place (cells.take off ++ v.cells ++ cells.drop (off + size)) rest else none

theorem foldl_set (off : Nat) : ∀ (vs : List Value) (j : Nat) (cs : Array Value), off + j + vs.length ≤ cs.size →
    (vs.zipIdx j).foldl (fun cs (x : Value × Nat) => cs.setIfInBounds (off + x.2) x.1) cs = ⟨cs.toList.take (off + j) ++ vs ++ cs.toList.drop (off + j + vs.length)⟩
  | [], j, cs, h => by
    apply Array.ext'
    simp
  | v :: rest, j, cs, h => by
    simp only [List.zipIdx_cons, List.foldl_cons]
    rw [foldl_set off rest (j + 1) _ (by simp at h ⊢; omega)]
    have := list_seg_step cs.toList (off + j) v rest (by simp at h ⊢; omega)
    congr 1
    simpa [Array.toList_setIfInBounds, Nat.add_assoc] using this

theorem aFill_ok {σ : St} {m : AM} {w : World} {place place' : Nat → Option (Nat × Nat)} (hp : ∀ i x, place i = some x → place' i = some x) : ∀ (parts : List (Nat × AV)) (cparts : List (Nat × Value)) (cells : List AV) (vs : List Value) (res : List AV),
    aFill place cells parts = some res → Rs σ m w vs cells → parts.length = cparts.length → (∀ (q : Nat) i a j v, parts[q]? = some (i, a) → cparts[q]? = some (j, v) → i = j ∧ R σ m w v a) →
    ∃ us, Instr.fill place' ⟨vs⟩ cparts = some ⟨us⟩ ∧ Rs σ m w us res
  | [], cparts, cells, vs, res, h, hr, hl, hq => by
    cases cparts with
    | nil => cases h; exact ⟨vs, rfl, hr⟩
    | cons x y => simp at hl
  | (i, a) :: rest, cparts, cells, vs, res, h, hr, hl, hq => by
    cases cparts with
    | nil => simp at hl
    | cons x crest =>
      obtain ⟨j, v⟩ := x
      obtain ⟨hij, hra⟩ := hq 0 i a j v rfl rfl
      subst hij
      simp only [aFill] at h
      split at h
      · cases h
      · rename_i off size hpl
        split at h
        · rename_i hc
          obtain ⟨c1, c2, c3⟩ := hc
          obtain ⟨r1, r2⟩ := hra.cells c3
          have hsz : v.cells.size = size := by rw [← c1, ← r1.1]; simp
          have hle : off + size ≤ vs.length := by rw [hr.1]; exact c2
          have hpl' := hp i _ hpl
          have hf := foldl_set off v.cells.toList 0 ⟨vs⟩ (by simp; omega)
          obtain ⟨us, hu, hru⟩ := aFill_ok hp rest crest _ (vs.take off ++ v.cells.toList ++ vs.drop (off + size)) res h (Rs.splice hr r1 off _ (by omega)) (by simpa using hl) (fun q i a j v h1 h2 => hq (q + 1) i a j v h1 h2)
          refine ⟨us, ?_, hru⟩
          have hc2 : ¬ (v.cells.size ≠ size ∨ vs.length < off + v.cells.size) := by omega
          simp only [Nat.add_zero, Array.length_toList, hsz] at hf
          simp only [Instr.fill, hpl']
          rw [if_neg (by simp; omega)]
          have hz : v.cells.zipIdx.foldl (fun (cs : Array Value) (x : Value × Nat) => cs.setIfInBounds (off + x.2) x.1) (⟨vs⟩ : Array Value) = (v.cells.toList.zipIdx 0).foldl (fun (cs : Array Value) (x : Value × Nat) => cs.setIfInBounds (off + x.2) x.1) (⟨vs⟩ : Array Value) := by
            rw [← Array.foldl_toList]
            simp
          refine Eq.trans ?_ hu
          exact congrArg (fun q => Instr.fill place' q crest) (hz.trans hf)
        · cases h

def aPlaces (P : Program) : List Field → Option (List (Nat × Nat))
  | [] => some []
  | f :: fs => match tinf P f.type, aPlaces P fs with
    | some ti, some r => some ((f.offset, ti.size) :: r)
    | _, _ => none

theorem aPlaces_ok {P : Program} : ∀ (fs : List Field) (r : List (Nat × Nat)), aPlaces P fs = some r → fs.mapM (fun f => (P.info? f.type).map fun i => (f.offset, i.size)) = some r
  | [], r, h => by cases h; rfl
  | f :: fs, r, h => by
    simp only [aPlaces] at h
    split at h
    · rename_i ti r' hti hr'
      cases h
      obtain ⟨h1, i, h2, h3, h4, h5⟩ := tinf_spec hti
      simp [List.mapM_cons, h2, h3, aPlaces_ok fs r' hr']
    · cases h

def aBuild (P : Program) (t : TypeId) (parts : List (Nat × AV)) : Option AV :=
  match tinf P t with
  | some ti =>
    match zeroCells? ti with
    | some zs =>
      if zs.all (·.isCell) then
        match ti.desc with
        | .struct fields =>
          match aPlaces P fields.toList with
          | some pl => (aFill (fun i => pl[i]?) zs parts).map .agg
          | none => none
        | .array _ e =>
          match tinf P e with
          | some te => (aFill (fun i => some (i * te.size, te.size)) zs parts).map .agg
          | none => none
        | _ => none
      else none
    | none => none
  | none => none

theorem aBuild_ok {P : Program} {σ : St} {m : AM} {w : World} {t : TypeId} {parts : List (Nat × AV)} {cparts : Array (Nat × Value)} {av : AV} (hs : Sim σ m w) (hl : parts.length = cparts.toList.length)
    (hq : ∀ (q : Nat) i a j v, parts[q]? = some (i, a) → cparts.toList[q]? = some (j, v) → i = j ∧ R σ m w v a) (h : aBuild P t parts = some av) : VOK P (Instr.build t cparts) σ m w av m := by
  unfold aBuild at h
  split at h
  · rename_i ti hti
    split at h
    · rename_i zs hz
      split at h
      · rename_i hc
        obtain ⟨h1, i, h2, h3, h4, h5⟩ := tinf_spec hti
        obtain ⟨z, _, hzr, _, hzz⟩ := zeroCells_ok (P := P) (σ := σ) (m := m) (w := w) hti hz hc
        split at h
        · rename_i fields hd
          split at h
          · rename_i pl hpl
            obtain ⟨cs, hcs, rfl⟩ := Option.map_eq_some_iff.1 h
            obtain ⟨us, hu, hru⟩ := aFill_ok (place' := fun i => pl.toArray[i]?) (fun i x hx => by simpa using hx) parts cparts.toList zs z.cells.toList cs hcs hzr hl hq
            refine VOK.pure hs (run_build w t cparts ⟨us⟩ ?_) (.agg us cs hru.1 hru.2)
            unfold Program.built
            rw [h2, h1, hd]
            simp only [h5, hzz, aPlaces_ok _ _ hpl]
            exact hu
          · cases h
        · rename_i n e hd
          split at h
          · rename_i te hte
            obtain ⟨cs, hcs, rfl⟩ := Option.map_eq_some_iff.1 h
            obtain ⟨us, hu, hru⟩ := aFill_ok (place' := fun i => some (i * te.size, te.size)) (fun i x hx => hx) parts cparts.toList zs z.cells.toList cs hcs hzr hl hq
            obtain ⟨e1, j, e2, e3, e4, e5⟩ := tinf_spec hte
            refine VOK.pure hs (run_build w t cparts ⟨us⟩ ?_) (.agg us cs hru.1 hru.2)
            unfold Program.built
            rw [h2, h1, hd]
            simp only [h5, hzz, e2, e3]
            exact hu
          · cases h
        · cases h
      · cases h
    · cases h
  · cases h

/-! ### slice literals of data -/
def toD : AV → Option D
  | .d x => some x
  | .gsl _ sz rows => some (.sl sz rows)
  | _ => none

theorem R.toD {σ : St} {m : AM} {w : World} {v : Value} {a : AV} (h : R σ m w v a) {x : D} (hx : toD a = some x) : RD (Imm σ m w) w v x := by
  cases h with
  | d v y hd => cases hx; exact hd
  | gsl v n sz rows hn hd hg => cases hx; exact hd
  | _ => simp [Ab.toD] at hx

def toDs : List AV → Option (List D)
  | [] => some []
  | a :: as => match toD a, toDs as with
    | some x, some xs => some (x :: xs)
    | _, _ => none

theorem toDs_spec : ∀ (as : List AV) (xs : List D), toDs as = some xs → as.length = xs.length ∧ ∀ (i : Nat) a x, as[i]? = some a → xs[i]? = some x → toD a = some x
  | [], xs, h => by cases h; simp
  | a :: as, xs, h => by
    simp only [toDs] at h
    split at h
    · rename_i x ys hx hys
      cases h
      obtain ⟨h1, h2⟩ := toDs_spec as ys hys
      refine ⟨by simp [h1], fun i b y hb hy => ?_⟩
      cases i with
      | zero => simp at hb hy; subst hb; subst hy; exact hx
      | succ i => exact h2 i b y hb hy
    · cases h

/-- The rows of a literal whose parts are numbered in order from 'k' on. -/
def litRows (size : Nat) : Nat → List (Nat × AV) → Option (List (List D))
  | _, [] => some []
  | k, (i, v) :: rest =>
    if i = k ∧ v.cells.length = size then
      match toDs v.cells, litRows size (k + 1) rest with
      | some r, some rs => some (r :: rs)
      | _, _ => none
    else none

def aBuildSlice (P : Program) (t : TypeId) (len : Nat) (parts : List (Nat × AV)) : Option AV :=
  match tinf P t with
  | some { desc := .slice e, .. } =>
    match tinf P e with
    | some te =>
      match zeroCells? te with
      | some zs => if zs.length = te.size ∧ zs.all (·.isCell) ∧ parts.length = len ∧ len * te.size ≤ 16777216 ∧ 0 < te.size then (litRows te.size 0 parts).map fun rows => .d (.sl te.size rows) else none
      | none => none
    | none => none
  | _ => none

theorem toD_isCell {a : AV} {x : D} (h : toD a = some x) : a.isCell = true := by
  cases a <;> simp [toD] at h <;> rfl

theorem toDs_isCell {as : List AV} {xs : List D} (h : toDs as = some xs) : as.all (·.isCell) = true := by
  obtain ⟨h1, h2⟩ := toDs_spec as xs h
  rw [List.all_eq_true]
  intro a ha
  obtain ⟨i, hi, rfl⟩ := List.mem_iff_getElem.1 ha
  exact toD_isCell (h2 i as[i] xs[i] (by simp) (by simp [← h1, hi]))

/-- A literal's cells: row after row. -/
theorem fill_rows {σ : St} {m : AM} {w : World} {size : Nat} : ∀ (parts : List (Nat × AV)) (cparts : List (Nat × Value)) (k : Nat) (rows : List (List D)) (vs : List Value),
    litRows size k parts = some rows → parts.length = cparts.length → (∀ (q : Nat) i a j v, parts[q]? = some (i, a) → cparts[q]? = some (j, v) → i = j ∧ R σ m w v a) → (k + parts.length) * size ≤ vs.length →
    ∃ us, Instr.fill (fun i => some (i * size, size)) ⟨vs⟩ cparts = some ⟨us⟩ ∧ us.length = vs.length ∧ (∀ j, j < k * size → us[j]? = vs[j]?) ∧ rows.length = parts.length ∧ (∀ r ∈ rows, r.length = size) ∧
      ∀ (i j : Nat) row x, rows[i]? = some row → row[j]? = some x → ∃ u, us[(k + i) * size + j]? = some u ∧ RD (Imm σ m w) w u x
  | [], cparts, k, rows, vs, h, hl, hq, hb => by
    cases cparts with
    | nil => cases h; exact ⟨vs, rfl, rfl, fun _ _ => rfl, rfl, by simp, by simp⟩
    | cons x y => simp at hl
  | (i, a) :: rest, cparts, k, rows, vs, h, hl, hq, hb => by
    cases cparts with
    | nil => simp at hl
    | cons x crest =>
      obtain ⟨j, v⟩ := x
      obtain ⟨hij, hra⟩ := hq 0 i a j v rfl rfl
      subst hij
      simp only [litRows] at h
      split at h
      · rename_i hc
        obtain ⟨rfl, c1⟩ := hc
        split at h
        · rename_i r rs hr hrs
          cases h
          obtain ⟨r1, r2⟩ := hra.cells (toDs_isCell hr)
          have hsz : v.cells.size = size := by rw [← c1, ← r1.1]; simp
          simp only [List.length_cons] at hb
          have hb' : i * size + size ≤ vs.length := by
            have : (i + 1) * size ≤ (i + (rest.length + 1)) * size := Nat.mul_le_mul_right _ (by omega)
            rw [Nat.add_mul, Nat.one_mul] at this
            omega
          have hf := foldl_set (i * size) v.cells.toList 0 ⟨vs⟩ (by simp; omega)
          simp only [Nat.add_zero, Array.length_toList, hsz] at hf
          have hlen : (vs.take (i * size) ++ v.cells.toList ++ vs.drop (i * size + size)).length = vs.length := by simp; omega
          obtain ⟨us, hu, hul, hpre, hrl, hrs', hrd⟩ := fill_rows rest crest (i + 1) rs (vs.take (i * size) ++ v.cells.toList ++ vs.drop (i * size + size)) hrs (by simpa using hl)
            (fun q i a j v h1 h2 => hq (q + 1) i a j v h1 h2) (by rw [hlen]; have : i + 1 + rest.length = i + (rest.length + 1) := by omega
                                                                  rw [this]; exact hb)
          refine ⟨us, ?_, by omega, fun j hj => ?_, by simp [hrl], ?_, ?_⟩
          · simp only [Instr.fill]
            rw [if_neg (by simp; omega)]
            have hz : v.cells.zipIdx.foldl (fun (cs : Array Value) (x : Value × Nat) => cs.setIfInBounds (i * size + x.2) x.1) (⟨vs⟩ : Array Value) = (v.cells.toList.zipIdx 0).foldl (fun (cs : Array Value) (x : Value × Nat) => cs.setIfInBounds (i * size + x.2) x.1) (⟨vs⟩ : Array Value) := by
              rw [← Array.foldl_toList]
              simp
            refine Eq.trans ?_ hu
            exact congrArg (fun q => Instr.fill _ q crest) (hz.trans hf)
          · rw [hpre j (by rw [Nat.add_mul]; omega), List.append_assoc, List.getElem?_append_left (by simp; omega), List.getElem?_take, if_pos hj]
          · intro q hq'
            rcases List.mem_cons.1 hq' with rfl | hq'
            · rw [← c1]; exact (toDs_spec _ _ hr).1.symm
            · exact hrs' q hq'
          · intro p j row x hp hx
            cases p with
            | zero =>
              simp at hp
              subst hp
              obtain ⟨t1, t2⟩ := toDs_spec _ _ hr
              have hj : j < r.length := (List.getElem?_eq_some_iff.1 hx).1
              have hjs : j < size := by rw [← c1, t1]; exact hj
              have hjc : j < v.cells.toList.length := by simp; omega
              have e1 : us[(i + 0) * size + j]? = some v.cells.toList[j] := by
                rw [Nat.add_zero, hpre _ (by rw [Nat.succ_mul]; omega), List.append_assoc, List.getElem?_append_right (by simp; omega), List.getElem?_append_left (by simp; omega)]
                rw [List.getElem?_eq_getElem (by simp; omega)]
                congr 1
                congr 1
                simp
                omega
              refine ⟨_, e1, ?_⟩
              have ha : j < a.cells.length := by omega
              exact (r1.2 j _ a.cells[j] (by simp [hjc]) (by simp [ha])).toD (t2 j _ x (by simp [ha]) hx)
            | succ p =>
              obtain ⟨u, g1, g2⟩ := hrd p j row x (by simpa using hp) hx
              refine ⟨u, ?_, g2⟩
              rw [show i + (p + 1) = i + 1 + p from by omega]
              exact g1
        · cases h
      · cases h

theorem aBuildSlice_ok {P : Program} {σ : St} {m : AM} {w : World} {t : TypeId} {len : Nat} {parts : List (Nat × AV)} {cparts : Array (Nat × Value)} {av : AV} (hs : Sim σ m w) (hl : parts.length = cparts.toList.length)
    (hq : ∀ (q : Nat) i a j v, parts[q]? = some (i, a) → cparts.toList[q]? = some (j, v) → i = j ∧ R σ m w v a) (h : aBuildSlice P t len parts = some av) : VOK P (Instr.buildSlice t len cparts) σ m w av m := by
  unfold aBuildSlice at h
  split at h
  · rename_i e _ _ _ hti
    split at h
    · rename_i te hte
      split at h
      · rename_i zs hz
        split at h
        · rename_i hc
          obtain ⟨c1, c2, c3, c4, c5⟩ := hc
          obtain ⟨rows, hrows, rfl⟩ := Option.map_eq_some_iff.1 h
          obtain ⟨h1, i, h2, h3, h4, h5⟩ := tinf_spec hti
          obtain ⟨e1, j, e2, e3, e4, e5⟩ := tinf_spec hte
          obtain ⟨z, hzr, hzrs, _, hzz⟩ := zeroCells_ok (P := P) (σ := σ) (m := m) (w := w) hte hz c2
          obtain ⟨us, hu, hul, _, hrl, hrs, hrd⟩ := fill_rows (σ := σ) (m := m) (w := w) parts cparts.toList 0 rows ((Array.range (len * te.size)).map (z.cells[· % z.cells.size]!)).toList hrows hl hq (by simp [c3])
          simp only [Array.toArray_toList] at hu
          have hrun : (Instr.buildSlice t len cparts).run P w = .ok (.slice (some ⟨w.heap.size, 0, none⟩) len len) (w.alloc (.cells ⟨us⟩ e)) := by
            have hsz : (sizeOf e).run P w = .ok te.size w := by simp [sizeOf, typeInfo, e2, e3]
            by_cases h0 : len * te.size = 0
            · have hlen0 : len = 0 := by
                rcases Nat.mul_eq_zero.1 h0 with h | h
                · exact h
                · omega
              subst hlen0
              have hp0 : cparts.toList = [] := List.eq_nil_of_length_eq_zero (by omega)
              have hus : us = [] := List.eq_nil_of_length_eq_zero (by rw [hul]; simp)
              subst hus
              simp [Instr.buildSlice, run_underlying h1, hsz, hp0, Instr.fill, newRow, Array.range_zero']
            · have hn1 : ¬ (len = 0 ∨ te.size = 0) := by
                rintro (e | e) <;> simp [e] at h0
              have hn2 : ¬ (16777216 < len * te.size) := by omega
              simp [Instr.buildSlice, run_underlying h1, hsz, hn1, hn2, hzr, hu, newRow]
              exact fun h => absurd h h0
          have hE := Ext.alloc σ m w (.cells ⟨us⟩ e)
          refine ⟨_, _, σ, hrun, hE, hs.alloc _, .d _ _ ?_⟩
          have hlr : rows.length = len := by omega
          have hmax : len ≤ maxLen := by
            have : len * 1 ≤ len * te.size := Nat.mul_le_mul_left _ c5
            simp only [maxLen]
            omega
          have := RD.sl (I := Imm σ m (w.alloc (.cells ⟨us⟩ e))) (w := w.alloc (.cells ⟨us⟩ e)) w.heap.size 0 len te.size rows (fun p q => us.getD (p * te.size + q) (.bool false)) (by omega) hmax hrs
            (fun p q row x hp hx => by
              obtain ⟨u, g1, g2⟩ := hrd p q row x hp hx
              simp only [Nat.zero_add] at g1 ⊢
              refine ⟨Imm.alloc_new hs _ _, ?_⟩
              rw [World.cell?_alloc_new]
              simp only [List.getElem?_toArray, g1, List.getD_eq_getElem?_getD, Option.getD_some])
            (fun p q row x hp hx => by
              obtain ⟨u, g1, g2⟩ := hrd p q row x hp hx
              simp only [Nat.zero_add] at g1
              simp only [List.getD_eq_getElem?_getD, g1, Option.getD_some]
              exact g2.mono hE.imm)
          rw [hlr] at this
          exact this
        · cases h
      · cases h
    · cases h
  · cases h

end Go.Ab

/- The abstract operations: parts of slices and texts, maps, interface values, lengths, append, copy. -/
namespace Go.Ab
open Go.RowKit

/-! ### x[lo:hi:max] -/
def aBnd (v : Option AV) (dflt most : Nat) : Option Nat :=
  match v with
  | none => some dflt
  | some (.d (.int _ i)) => if 0 ≤ i ∧ i ≤ most then some i.toNat else none
  | _ => none

/-- A bound that is left out, or one that fits. -/
def BndOK (v : Option Value) (dflt most r : Nat) : Prop := (v = none ∧ r = dflt) ∨ ∃ k i, v = some (.int k i) ∧ 0 ≤ i ∧ i ≤ (most : Int) ∧ r = i.toNat

def RO (σ : St) (m : AM) (w : World) : Option Value → Option AV → Prop
  | none, none => True
  | some v, some a => R σ m w v a
  | _, _ => False

theorem aBnd_ok {σ : St} {m : AM} {w : World} {v : Option Value} {a : Option AV} (h : RO σ m w v a) {dflt most r : Nat} (hb : aBnd a dflt most = some r) : BndOK v dflt most r := by
  unfold aBnd at hb
  split at hb
  · cases hb
    cases v with
    | none => exact .inl ⟨rfl, rfl⟩
    | some v => simp [RO] at h
  · split at hb
    · rename_i hc
      cases hb
      cases v with
      | none => simp [RO] at h
      | some v => exact .inr ⟨_, _, by rw [R.int_inv h], hc.1, hc.2, rfl⟩
    · cases hb
  · cases hb

theorem BndOK.wide {v : Option Value} {dflt most most' r : Nat} (h : BndOK v dflt most r) (hm : most ≤ most') : BndOK v dflt most' r := by
  rcases h with h | ⟨k, i, h1, h2, h3, h4⟩
  · exact .inl h
  · exact .inr ⟨k, i, h1, h2, by omega, h4⟩

theorem run_bound {P : Program} {w : World} {k : IntKind} {i : Int} {y : Nat} (code : BoundsCode) (h0 : 0 ≤ i) (h1 : i ≤ y) : (Instr.sliceBound (.int k i) y code).run P w = .ok i.toNat w := by
  simp [Instr.sliceBound, asIntOf, h0, h1]

theorem run_bounds {P : Program} {w : World} (isSlice : Bool) {len cap l h m : Nat} {lo hi mx : Option Value} (hm : BndOK mx cap cap m) (hh : BndOK hi len m h) (hl : BndOK lo 0 h l) (hmx : mx.isSome = true → hi.isSome = true) :
    (Instr.sliceBounds isSlice len cap lo hi mx).run P w = .ok (l, h, m) w := by
  unfold Instr.sliceBounds
  rcases hm with ⟨rfl, rfl⟩ | ⟨km, im, rfl, m0, m1, rfl⟩
  · rcases hh with ⟨rfl, rfl⟩ | ⟨kh, ih, rfl, h0, h1, rfl⟩
    · rcases hl with ⟨rfl, rfl⟩ | ⟨kl, il, rfl, l0, l1, rfl⟩
      · simp
      · simp [run_bound _ l0 l1]
    · rcases hl with ⟨rfl, rfl⟩ | ⟨kl, il, rfl, l0, l1, rfl⟩
      · simp [run_bound _ h0 h1]
      · simp [run_bound _ h0 h1, run_bound _ l0 l1]
  · rcases hh with ⟨rfl, rfl⟩ | ⟨kh, ih, rfl, h0, h1, rfl⟩
    · simp at hmx
    · rcases hl with ⟨rfl, rfl⟩ | ⟨kl, il, rfl, l0, l1, rfl⟩
      · simp [run_bound _ m0 m1, run_bound _ h0 h1]
      · simp [run_bound _ m0 m1, run_bound _ h0 h1, run_bound _ l0 l1]

def cutList {α : Type} (x : List α) (l h : Nat) (open_ : Bool) : List α := if open_ then x.drop l else (x.drop l).take (h - l)

def aSlice (P : Program) (t : TypeId) (x : AV) (lo hi mx : Option AV) : Option AV :=
  if mx.isSome && !hi.isSome then none else
  match tinf P t with
  | some { desc := .string, .. } =>
    match x with
    | .d (.str s) =>
      if mx.isSome then none else
      match aBnd hi s.length s.length with
      | some h =>
        match aBnd lo 0 h with
        | some l => some (.d (.str (cutList s l h hi.isNone)))
        | none => none
      | none => none
    | _ => none
  | some { desc := .array n e, .. } =>
    match tinf P e, x with
    | some te, .ptr b off =>
      match aBnd mx n n with
      | some m =>
        match aBnd hi n m with
        | some h =>
          match aBnd lo 0 h with
          | some l => some (.lsl b (if m = l then off else off + l * te.size) (h - l) (m - l))
          | none => none
        | none => none
      | none => none
    | _, _ => none
  | some { desc := .slice e, .. } =>
    match tinf P e with
    | some te =>
      match x with
      | .lsl b off len cap =>
        match aBnd mx cap cap with
        | some m =>
          match aBnd hi len m with
          | some h =>
            match aBnd lo 0 h with
            | some l => some (.lsl b (if m = l then off else off + l * te.size) (h - l) (m - l))
            | none => none
          | none => none
        | none => none
      | .d .nilsl =>
        match aBnd mx 0 0, aBnd hi 0 0, aBnd lo 0 0 with
        | some _, some _, some _ => some (.d .nilsl)
        | _, _, _ => none
      | x =>
        match x.rows with
        | some (sz, rows) =>
          if sz = te.size then
            match aBnd mx rows.length rows.length with
            | some m =>
              match aBnd hi rows.length (if mx.isSome then m else rows.length) with
              | some h =>
                match aBnd lo 0 h with
                | some l => some (.d (.sl sz (cutList rows l h hi.isNone)))
                | none => none
              | none => none
            | none => none
          else none
        | none => none
    | none => none
  | _ => none

theorem BndOK.le {v : Option Value} {dflt most r : Nat} (h : BndOK v dflt most r) (hd : dflt ≤ most) : r ≤ most := by
  rcases h with ⟨_, rfl⟩ | ⟨k, i, h1, h2, h3, rfl⟩
  · exact hd
  · omega

theorem aSlice_ok {P : Program} {σ : St} {m : AM} {w : World} {t : TypeId} {x av : AV} {lo hi mx : Option AV} {xv : Value} {vlo vhi vmx : Option Value} (hs : Sim σ m w) (hx : R σ m w xv x)
    (hlo : RO σ m w vlo lo) (hhi : RO σ m w vhi hi) (hmx : RO σ m w vmx mx) (h : aSlice P t x lo hi mx = some av) : VOK P (Instr.sliceAt t xv vlo vhi vmx) σ m w av m := by
  have hsome : ∀ {v : Option Value} {a : Option AV}, RO σ m w v a → v.isSome = a.isSome := by
    intro v a h
    cases v <;> cases a <;> simp_all [RO]
  unfold aSlice at h
  split at h
  · cases h
  rename_i hmh
  have hmh' : vmx.isSome = true → vhi.isSome = true := by
    rw [hsome hmx, hsome hhi]
    intro e
    cases hi with
    | none => simp [e] at hmh
    | some _ => rfl
  split at h
  · rename_i hti
    obtain ⟨h1, _⟩ := tinf_spec hti
    split at h
    · rename_i s
      split at h
      · cases h
      rename_i hmn
      split at h
      · rename_i hh hhb
        split at h
        · rename_i l hlb
          cases h
          obtain rfl := hx.str_inv
          have bh := aBnd_ok hhi hhb
          have bl := aBnd_ok hlo hlb
          have hvm : vmx = none := by
            have := hsome hmx
            cases vmx
            · rfl
            · simp at this; simp [← this] at hmn
          subst hvm
          have hrun := run_bounds (P := P) (w := w) false (.inl ⟨rfl, rfl⟩ : BndOK none s.length s.length s.length) bh bl (by simp)
          have hle := bh.le (Nat.le_refl _)
          have hsz : (ByteArray.mk ⟨s⟩).size = s.length := rfl
          refine VOK.pure hs (cv := .string ⟨⟨cutList s l hh hi.isNone⟩⟩) ?_ (.str _)
          have hext : (ByteArray.mk ⟨s⟩).extract l hh = ⟨⟨cutList s l hh hi.isNone⟩⟩ := by
            apply ByteArray.ext
            rw [ByteArray.data_extract]
            apply Array.ext'
            rw [Array.toList_extract, List.extract_eq_take_drop]
            unfold cutList
            split
            · rename_i hn
              rcases bh with ⟨_, rfl⟩ | ⟨k, i, e, _⟩
              · show List.take _ (List.drop l s) = _
                rw [List.take_of_length_le (by simp)]
              · subst e
                cases hi with
                | none => simp [RO] at hhi
                | some _ => simp at hn
            · rfl
          simp [Instr.sliceAt, Instr.slice, run_underlying h1, hsz, hrun, hext]
        · cases h
      · cases h
    · cases h
  · rename_i n e _ _ _ hti
    obtain ⟨h1, _⟩ := tinf_spec hti
    split at h
    · rename_i te b off hte
      obtain ⟨e1, j, e2, e3, _⟩ := tinf_spec hte
      split at h
      · rename_i mm hmb
        split at h
        · rename_i hh hhb
          split at h
          · rename_i l hlb
            cases h
            cases hx
            rename_i hn
            have hrun := run_bounds (P := P) (w := w) false (aBnd_ok hmx hmb) (aBnd_ok hhi hhb) (aBnd_ok hlo hlb) hmh'
            refine VOK.pure hs ?_ (.lsl _ _ _ _ hn)
            simp [Instr.sliceAt, run_underlying h1, Instr.sureAddr, hrun, sizeOf, typeInfo, e2, e3, add_lit']
            split <;> rfl
          · cases h
        · cases h
      · cases h
    · cases h
  · rename_i e _ _ _ hti
    obtain ⟨h1, _⟩ := tinf_spec hti
    split at h
    · rename_i te hte
      obtain ⟨e1, j, e2, e3, _⟩ := tinf_spec hte
      split at h
      · rename_i b off len cap
        split at h
        · rename_i mm hmb
          split at h
          · rename_i hh hhb
            split at h
            · rename_i l hlb
              cases h
              cases hx
              rename_i hn
              have hrun := run_bounds (P := P) (w := w) true (aBnd_ok hmx hmb) (aBnd_ok hhi hhb) (aBnd_ok hlo hlb) hmh'
              refine VOK.pure hs ?_ (.lsl _ _ _ _ hn)
              simp [Instr.sliceAt, Instr.slice, run_underlying h1, hrun, sizeOf, typeInfo, e2, e3, add_lit']
              split <;> rfl
            · cases h
          · cases h
        · cases h
      · split at h
        · rename_i a b c hmb hhb hlb
          cases h
          obtain rfl := hx.nilsl_inv
          have bm := aBnd_ok hmx hmb
          have bh := aBnd_ok hhi hhb
          have bl := aBnd_ok hlo hlb
          obtain rfl : a = 0 := by have := bm.le (Nat.le_refl _); omega
          obtain rfl : b = 0 := by have := bh.le (Nat.le_refl _); omega
          obtain rfl : c = 0 := by have := bl.le (Nat.le_refl _); omega
          have hrun := run_bounds (P := P) (w := w) true bm bh bl hmh'
          refine VOK.pure hs ?_ (.d _ _ .nilsl)
          simp [Instr.sliceAt, Instr.slice, run_underlying h1, hrun, sizeOf, typeInfo, e2]
        · cases h
      · split at h
        · rename_i sz rows hrows
          split at h
          · rename_i hsz
            subst hsz
            split at h
            · rename_i mm hmb
              split at h
              · rename_i hh hhb
                split at h
                · rename_i l hlb
                  cases h
                  obtain ⟨A, cap, rfl, hlc, hcm, hq⟩ := (hx.rows hrows).sl_inv
                  have bm := aBnd_ok hmx hmb
                  have bh := aBnd_ok hhi hhb
                  have bl := aBnd_ok hlo hlb
                  have hhr : hh ≤ rows.length := by
                    have hmr := bm.le (Nat.le_refl _)
                    rcases bh with ⟨_, rfl⟩ | ⟨k, i, _, q0, q1, rfl⟩
                    · exact Nat.le_refl _
                    · split at q1 <;> omega
                  have hlh : l ≤ hh := bl.le (Nat.zero_le _)
                  have bm' : BndOK vmx cap cap (if vmx.isSome then mm else cap) := by
                    rcases bm with ⟨rfl, _⟩ | ⟨k, i, rfl, q0, q1, rfl⟩
                    · exact .inl ⟨rfl, by simp⟩
                    · exact .inr ⟨k, i, rfl, q0, by omega, by simp⟩
                  have bh' : BndOK vhi rows.length (if vmx.isSome then mm else cap) hh := by
                    refine bh.wide ?_
                    rw [hsome hmx]
                    split <;> omega
                  have hrun := run_bounds (P := P) (w := w) true bm' bh' bl hmh'
                  have hcut : cutList rows l hh hi.isNone = (rows.drop l).take (hh - l) := by
                    unfold cutList
                    split
                    · rename_i hn
                      rcases bh with ⟨_, rfl⟩ | ⟨k, i, e, _⟩
                      · rw [List.take_of_length_le (by simp)]
                      · have := hsome hhi
                        rw [e] at this
                        have h2 : hi.isNone = false := by cases hi <;> simp_all
                        rw [h2] at hn
                        cases hn
                    · rfl
                  have hclen : (cutList rows l hh hi.isNone).length = hh - l := by rw [hcut]; simp; omega
                  generalize hM : (if vmx.isSome then mm else cap) = M at bm' bh' hrun
                  have hMle : hh ≤ M ∧ M ≤ cap := ⟨by
                    rcases bh' with ⟨_, rfl⟩ | ⟨k, i, _, q0, q1, rfl⟩
                    · rcases bm' with ⟨_, rfl⟩ | ⟨k, i, e, q0, q1, rfl⟩
                      · exact hlc
                      · have : vhi.isSome = true := hmh' (by rw [e]; rfl)
                        simp_all
                    · omega, bm'.le (Nat.le_refl _)⟩
                  have hval : (Instr.sliceAt t (.slice A rows.length cap) vlo vhi vmx).run P w = .ok (.slice (if M = l then A else A.map (·.add (l * te.size))) (hh - l) (M - l)) w := by
                    simp [Instr.sliceAt, Instr.slice, run_underlying h1, hrun, sizeOf, typeInfo, e2, e3]
                  refine VOK.pure hs hval (.d _ _ ?_)
                  rw [← hclen]
                  rcases hq with rfl | ⟨b, o, cv, rfl, hrow, hc, hrd⟩
                  · have : cutList ([] : List (List D)) l hh hi.isNone = [] := by rw [hcut]; simp
                    rw [this]
                    exact .slNil _ _ _ (by omega)
                  · by_cases hMl : M = l
                    · have h0 : cutList rows l hh hi.isNone = [] := List.eq_nil_of_length_eq_zero (by rw [hclen]; omega)
                      rw [h0]
                      exact .slNil _ _ _ (by omega)
                    · rw [if_neg hMl]
                      simp only [Option.map_some, add_lit']
                      refine .sl b (o + l * te.size) (M - l) te.size _ (fun i j => cv (l + i) j) (by rw [hclen]; omega) (by omega) (fun r hr => hrow r ?_) (fun i j row x hi hj => ?_) (fun i j row x hi hj => ?_)
                      · rw [hcut] at hr
                        exact List.mem_of_mem_drop (List.mem_of_mem_take hr)
                      · rw [hcut, List.getElem?_take] at hi
                        split at hi
                        · rw [List.getElem?_drop] at hi
                          have := hc (l + i) j row x hi hj
                          rw [Nat.add_mul, Nat.add_assoc] at this
                          rw [Nat.add_assoc]
                          exact this
                        · cases hi
                      · rw [hcut, List.getElem?_take] at hi
                        split at hi
                        · rw [List.getElem?_drop] at hi
                          exact hrd (l + i) j row x hi hj
                        · cases hi
                · cases h
              · cases h
            · cases h
          · cases h
        · cases h
    · cases h
  · cases h

/-! ### tuples, interface values -/
def aExtract (x : AV) (ix : Nat) : Option AV :=
  match x with
  | .tup vs => vs[ix]?
  | _ => none

theorem aExtract_ok {P : Program} {σ : St} {m : AM} {w : World} {x av : AV} {xv : Value} {ix : Nat} (hs : Sim σ m w) (hx : R σ m w xv x) (h : aExtract x ix = some av) : VOK P (Instr.extract xv ix) σ m w av m := by
  unfold aExtract at h
  split at h
  · cases hx
    rename_i as vs hl hr
    have hlt : ix < vs.length := by rw [hl]; exact (List.getElem?_eq_some_iff.1 h).1
    refine VOK.pure hs (cv := vs[ix]) ?_ (hr ix _ _ (by simp [hlt]) h)
    simp [Instr.extract, hlt]
  · cases h

def aMkIface (P : Program) (t : TypeId) (x : AV) : Option AV :=
  match tinf P t with
  | some { desc := .interface _, .. } => none
  | some _ => some (.ifc t x)
  | none => none

theorem aMkIface_ok {P : Program} {σ : St} {m : AM} {w : World} {t : TypeId} {x av : AV} {xv : Value} (hs : Sim σ m w) (hx : R σ m w xv x) (h : aMkIface P t x = some av) : VOK P (Instr.makeInterface t xv) σ m w av m := by
  unfold aMkIface at h
  split at h
  · cases h
  · rename_i ti hn hti
    cases h
    obtain ⟨h1, _⟩ := tinf_spec hti
    refine VOK.pure hs ?_ (.ifc t xv x hx)
    have : ∀ ms, ti.desc ≠ .interface ms := by
      intro ms e
      obtain ⟨d, a, b, c⟩ := ti
      simp only at e
      subst e
      exact hn _ _ _ _ rfl
    simp only [Instr.makeInterface, Sem.run_bind, run_underlying h1, Result.andThen_ok]
    cases hd : ti.desc <;> simp_all
  · cases h

def aAssert (P : Program) (x : AV) (asserted : TypeId) (ok : Bool) : Option AV :=
  match tinf P asserted with
  | some { desc := .interface _, .. } => none
  | some ti =>
    match x with
    | .ifc t v => if t = asserted then some (if ok then .tup [v, .d (.bool true)] else v) else if ok then (ti.zero.bind ofVal).map fun z => .tup [z, .d (.bool false)] else none
    | .d (.cst .nilIface) => if ok then (ti.zero.bind ofVal).map fun z => .tup [z, .d (.bool false)] else none
    | _ => none
  | none => none

theorem R.pair {σ : St} {m : AM} {w : World} {u v : Value} {a b : AV} (h1 : R σ m w u a) (h2 : R σ m w v b) : R σ m w (.tuple #[u, v]) (.tup [a, b]) := by
  refine .tup [u, v] [a, b] rfl fun i x y hx hy => ?_
  match i with
  | 0 => simp at hx hy; subst hx; subst hy; exact h1
  | 1 => simp at hx hy; subst hx; subst hy; exact h2
  | i + 2 => simp at hx

theorem aAssert_ok {P : Program} {σ : St} {m : AM} {w : World} {xt asserted : TypeId} {ok : Bool} {x av : AV} {xv : Value} (hs : Sim σ m w) (hx : R σ m w xv x) (h : aAssert P x asserted ok = some av) : VOK P (Instr.typeAssert xv xt asserted ok) σ m w av m := by
  unfold aAssert at h
  split at h
  · cases h
  · rename_i ti hn hti
    obtain ⟨h1, i, h2, h3, h4, h5⟩ := tinf_spec hti
    have hni : ∀ ms, ti.desc ≠ .interface ms := by
      intro ms e
      obtain ⟨d, a, b, c⟩ := ti
      simp only at e
      subst e
      exact hn _ _ _ _ rfl
    have hz : ∀ a, (ti.zero.bind ofVal) = some a → ∃ z, (zeroValue asserted).run P w = .ok z w ∧ R σ m w z a := by
      intro a ha
      obtain ⟨z, hz, ha⟩ := Option.bind_eq_some_iff.1 ha
      exact ⟨z, by simp [zeroValue, typeInfo, h2, h5, hz], R.ofVal z ha⟩
    split at h
    · rename_i t v
      cases hx
      rename_i u hu
      split at h
      · rename_i ht
        subst ht
        cases h
        refine VOK.pure hs (cv := if ok then .tuple #[u, .bool true] else u) ?_ ?_
        · simp only [Instr.typeAssert, Sem.run_bind, run_underlying h1, Result.andThen_ok]
          cases hd : ti.desc <;> first | (exact absurd hd (hni _)) | simp
        · cases ok
          · exact hu
          · exact hu.pair (.bool true)
      · rename_i ht
        split at h
        · rename_i hok
          subst hok
          obtain ⟨a, ha, rfl⟩ := Option.map_eq_some_iff.1 h
          obtain ⟨z, hz1, hz2⟩ := hz a ha
          refine VOK.pure hs (cv := .tuple #[z, .bool false]) ?_ (hz2.pair (.bool false))
          simp only [Instr.typeAssert, Sem.run_bind, run_underlying h1, Result.andThen_ok]
          cases hd : ti.desc <;> first | (exact absurd hd (hni _)) | simp [ht, hz1]
        · cases h
    · obtain rfl := hx.nilIface_inv
      split at h
      · rename_i hok
        subst hok
        obtain ⟨a, ha, rfl⟩ := Option.map_eq_some_iff.1 h
        obtain ⟨z, hz1, hz2⟩ := hz a ha
        refine VOK.pure hs (cv := .tuple #[z, .bool false]) ?_ (hz2.pair (.bool false))
        simp only [Instr.typeAssert, Sem.run_bind, run_underlying h1, Result.andThen_ok]
        cases hd : ti.desc <;> first | (exact absurd hd (hni _)) | simp [hz1]
      · cases h
    · cases h
  · cases h

/-! ### lengths -/
def aLen (P : Program) (ts : List TypeId) (x : AV) : Option AV :=
  match ts with
  | t :: _ =>
    match tinf P t, x with
    | some { desc := .string, .. }, .d (.str s) => some (.d (.int .i64 s.length))
    | some { desc := .slice _, .. }, .d .nilsl => some (.d (.int .i64 0))
    | some { desc := .slice _, .. }, .lsl _ _ len _ => some (.d (.int .i64 len))
    | some { desc := .slice _, .. }, .d (.sl _ rows) => some (.d (.int .i64 rows.length))
    | some { desc := .slice _, .. }, .gsl _ _ rows => some (.d (.int .i64 rows.length))
    | _, _ => none
  | [] => none

theorem aLen_ok {P : Program} {σ : St} {m : AM} {w : World} {ts : Array TypeId} {ty : TypeId} {x av : AV} {xv : Value} (hs : Sim σ m w) (hx : R σ m w xv x) (h : aLen P ts.toList x = some av) : VOK P (Builtin.len_ ts ty #[xv]) σ m w av m := by
  obtain ⟨ts⟩ := ts
  unfold aLen at h
  split at h
  · rename_i t rest heq
    simp only at heq
    subst heq
    split at h <;> try (cases h; done)
    all_goals
      rename_i hti
      cases h
      obtain ⟨h1, _⟩ := tinf_spec hti
    · obtain rfl := hx.str_inv
      refine VOK.pure hs ?_ (.int _ _)
      simp [Builtin.len_, run_underlying h1, goInt]
      rfl
    · obtain rfl := hx.nilsl_inv
      refine VOK.pure hs ?_ (.int _ _)
      simp [Builtin.len_, run_underlying h1, goInt]
    · cases hx
      refine VOK.pure hs ?_ (.int _ _)
      simp [Builtin.len_, run_underlying h1, goInt]
    · obtain ⟨A, cap, rfl, _⟩ := (hx.rows rfl).sl_inv
      refine VOK.pure hs ?_ (.int _ _)
      simp [Builtin.len_, run_underlying h1, goInt]
    · obtain ⟨A, cap, rfl, _⟩ := (hx.rows rfl).sl_inv
      refine VOK.pure hs ?_ (.int _ _)
      simp [Builtin.len_, run_underlying h1, goInt]
  · cases h

def aMin (x y : AV) : Option AV :=
  match x, y with
  | .d (.int k a), .d (.int k' b) => if k = k' then some (.d (.int k (if b < a then b else a))) else none
  | _, _ => none
def aMax (x y : AV) : Option AV :=
  match x, y with
  | .d (.int k a), .d (.int k' b) => if k = k' then some (.d (.int k (if a < b then b else a))) else none
  | _, _ => none

theorem aMin_ok {P : Program} {σ : St} {m : AM} {w : World} {ts : Array TypeId} {ty : TypeId} {x y av : AV} {xv yv : Value} (hs : Sim σ m w) (hx : R σ m w xv x) (hy : R σ m w yv y) (h : aMin x y = some av) : VOK P (Builtin.min_ ts ty #[xv, yv]) σ m w av m := by
  unfold aMin at h
  split at h
  · split at h
    · cases h
      obtain rfl := hx.int_inv
      obtain rfl := hy.int_inv
      exact VOK.pure hs (run_min_int2 w ts ty _ _ _ _) (.int _ _)
    · cases h
  · cases h
theorem aMax_ok {P : Program} {σ : St} {m : AM} {w : World} {ts : Array TypeId} {ty : TypeId} {x y av : AV} {xv yv : Value} (hs : Sim σ m w) (hx : R σ m w xv x) (hy : R σ m w yv y) (h : aMax x y = some av) : VOK P (Builtin.max_ ts ty #[xv, yv]) σ m w av m := by
  unfold aMax at h
  split at h
  · split at h
    · cases h
      obtain rfl := hx.int_inv
      obtain rfl := hy.int_inv
      exact VOK.pure hs (run_max_int2 w ts ty _ _ _ _) (.int _ _)
    · cases h
  · cases h

/-! ### maps of int keys -/
def aFind (k : Int) : List (Int × AV) → Option AV
  | [] => none
  | (j, v) :: rest => if k = j then some v else aFind k rest

def aMakeMap (m : AM) : ARes := .val (.mp m.length) (some (.map []) :: m)

theorem aMakeMap_ok {P : Program} {σ : St} {m : AM} {w : World} {t : TypeId} {av : AV} {m' : AM} (hs : Sim σ m w) (h : aMakeMap m = .val av m') : VOK P (Instr.makeMap t none) σ m w av m' := by
  cases h
  have hE := Ext.push hs (.map #[] 0) (.map []) (by simp)
  refine ⟨.map (some w.heap.size), _, _, by simp [Instr.makeMap], hE, Sim.push hs _ _ (by simp) ⟨#[], 0, ?_, rfl, by simp⟩, ?_⟩
  · simp only [St.name, if_true]; exact heap_alloc_new w _
  · have := R.mp (σ := σ.name m.length w.heap.size) (m := some (.map []) :: m) (w := w.alloc (.map #[] 0)) m.length (by simp)
    simpa [St.name] using this

def aMapPut (P : Program) (t : TypeId) (mp k x : AV) (m : AM) : ARes :=
  match tinf P t, mp, k with
  | some { desc := .map kt _, .. }, .mp n, .d (.int .i64 i) =>
    match tinf P kt, m.get n with
    | some { desc := .int _, .. }, some (.map es) => if (aFind i es).isNone then .unit (m.set n (some (.map (es ++ [(i, x)])))) else .bad
    | _, _ => .bad
  | _, _, _ => .bad

theorem findNow_int {σ : St} {m : AM} {w : World} {q : IntKind} {i : Int} : ∀ (entries : List MapEntry) (es : List (Int × AV)) (p : Nat), entries.length = es.length →
    (∀ (j : Nat) (e : MapEntry) (k : Int) (a : AV), entries[j]? = some e → es[j]? = some (k, a) → e.key = .int .i64 k ∧ R σ m w e.val a) →
    ∃ r, Instr.findNow (.int q) (.int .i64 i) entries p = some r ∧ (aFind i es = none → r = none) ∧ (∀ a, aFind i es = some a → ∃ j v, r = some (j, v) ∧ R σ m w v a)
  | [], es, p, hl, h => by
    cases es with
    | nil => exact ⟨none, rfl, fun _ => rfl, by simp [aFind]⟩
    | cons x y => simp at hl
  | e :: entries, es, p, hl, h => by
    cases es with
    | nil => simp at hl
    | cons x es =>
      obtain ⟨k, a⟩ := x
      obtain ⟨h1, h2⟩ := h 0 e k a rfl rfl
      by_cases hk : i = k
      · subst hk
        exact ⟨some (p, e.val), by simp [Instr.findNow, Instr.sameNow, h1], by simp [aFind], fun b hb => by simp [aFind] at hb; subst hb; exact ⟨_, _, rfl, h2⟩⟩
      · obtain ⟨r, g1, g2, g3⟩ := findNow_int (q := q) (i := i) entries es (p + 1) (by simpa using hl) (fun j e k a x y => h (j + 1) e k a x y)
        refine ⟨r, ?_, ?_, ?_⟩
        · have hne : (i == k) = false := by simpa using hk
          simp [Instr.findNow, Instr.sameNow, h1, hne, g1]
        · simpa [aFind, hk] using g2
        · simpa [aFind, hk] using g3

theorem run_checkKey_int {P : Program} {w : World} {kt : TypeId} {q : IntKind} (h : P.underlying kt = some (.int q)) (b : Bool) (d : Nat) (v : Value) : (Instr.checkKey b (d + 1) kt v).run P w = .ok () w := by
  unfold Instr.checkKey
  simp only [Sem.run_bind, run_underlying h, Result.andThen_ok]
  cases v <;> rfl

theorem aMapPut_ok {P : Program} {σ : St} {m : AM} {w : World} {t : TypeId} {mp k x : AV} {mv kv xv : Value} {m' : AM} (hs : Sim σ m w) (hm : R σ m w mv mp) (hk : R σ m w kv k) (hx : R σ m w xv x)
    (h : aMapPut P t mp k x m = .unit m') : UOK P (Instr.mapUpdate t mv kv xv) σ m w m' := by
  unfold aMapPut at h
  split at h
  · rename_i kt _ _ _ _ n i hti
    split at h
    · rename_i q _ _ _ es htk hg
      split at h
      · rename_i hf
        cases h
        obtain rfl := hk.int_inv
        cases hm
        rename_i hn
        obtain ⟨h1, _⟩ := tinf_spec hti
        obtain ⟨k1, _⟩ := tinf_spec htk
        obtain ⟨entries, clock, hh, hl, hr⟩ := hs.ok n _ hg
        obtain ⟨r, g1, g2, _⟩ := findNow_int (q := q) (i := i) entries.toList es 0 hl hr
        have hr0 : r = none := g2 (by simpa using hf)
        subst hr0
        have hE : Ext σ m w σ (m.set n (some (.map (es ++ [(i, x)])))) (w.putObj (σ.ρ n) (.map (entries.push { key := .int .i64 i, val := xv, born := clock }) (clock + 1))) :=
          Ext.write hg (by simp) (by simp) rfl rfl rfl (by simp) (fun b hb => World.putObj_heap_other hb)
        refine ⟨_, σ, ?_, hE, Sim.write hs hg (by simp) (by simp) rfl rfl rfl (by simp) (fun b hb => World.putObj_heap_other hb) ?_⟩
        · have hset : (setObj (σ.ρ n) (.map (entries.push { key := .int .i64 i, val := xv, born := clock }) (clock + 1))).run P w = .ok () (w.putObj (σ.ρ n) (.map (entries.push { key := .int .i64 i, val := xv, born := clock }) (clock + 1))) := by
            simp [setObj, Sem.run, hh, World.putObj]
          have hget : (getObj (σ.ρ n)).run P w = .ok (.map entries clock) w := by simp [getObj, Sem.run, hh]
          simp [Instr.mapUpdate, run_underlying h1, hget, run_checkKey_int k1, Instr.findKey, run_underlying k1, g1, hset]
        · refine ⟨_, _, World.putObj_heap_same (Array.getElem?_eq_some_iff.1 hh).1, by simp [hl], fun j e k a he ha => ?_⟩
          simp only [Array.toList_push] at he
          by_cases hj : j < entries.toList.length
          · rw [List.getElem?_append_left hj] at he
            rw [List.getElem?_append_left (by omega)] at ha
            exact ⟨(hr j e k a he ha).1, (hr j e k a he ha).2.mono hE⟩
          · rw [List.getElem?_append_right (by omega)] at he
            rw [List.getElem?_append_right (by omega)] at ha
            cases hj' : j - entries.toList.length with
            | zero =>
              rw [hj'] at he
              rw [← hl, hj'] at ha
              simp at he ha
              obtain ⟨rfl, rfl⟩ := ha
              subst he
              exact ⟨rfl, hx.mono hE⟩
            | succ q => rw [hj'] at he; simp at he
      · cases h
    · cases h
  · cases h

def aLookup (P : Program) (t : TypeId) (mp k : AV) (ok : Bool) (m : AM) : Option AV :=
  match tinf P t, mp, k with
  | some { desc := .map kt et, .. }, .mp n, .d (.int .i64 i) =>
    match tinf P kt, m.get n with
    | some { desc := .int _, .. }, some (.map es) =>
      match aFind i es with
      | some v => some (if ok then .tup [v, .d (.bool true)] else v)
      | none => ((tinf P et).bind fun te => te.zero.bind ofVal).map fun z => if ok then .tup [z, .d (.bool false)] else z
    | _, _ => none
  | _, _, _ => none

theorem aLookup_ok {P : Program} {σ : St} {m : AM} {w : World} {t : TypeId} {mp k av : AV} {mv kv : Value} {ok : Bool} (hs : Sim σ m w) (hm : R σ m w mv mp) (hk : R σ m w kv k)
    (h : aLookup P t mp k ok m = some av) : VOK P (Instr.lookup t mv kv ok) σ m w av m := by
  unfold aLookup at h
  split at h
  · rename_i kt et _ _ _ n i hti
    split at h
    · rename_i q _ _ _ es htk hg
      obtain rfl := hk.int_inv
      cases hm
      rename_i hn
      obtain ⟨h1, _⟩ := tinf_spec hti
      obtain ⟨k1, _⟩ := tinf_spec htk
      obtain ⟨entries, clock, hh, hl, hr⟩ := hs.ok n _ hg
      obtain ⟨r, g1, g2, g3⟩ := findNow_int (q := q) (i := i) entries.toList es 0 hl hr
      have hget : (getObj (σ.ρ n)).run P w = .ok (.map entries clock) w := by simp [getObj, Sem.run, hh]
      split at h
      · rename_i v hf
        cases h
        obtain ⟨j, u, rfl, hu⟩ := g3 v hf
        refine VOK.pure hs (cv := if ok then .tuple #[u, .bool true] else u) ?_ ?_
        · simp [Instr.lookup, run_underlying h1, hget, run_checkKey_int k1, Instr.findKey, run_underlying k1, g1]
        · cases ok
          · exact hu
          · exact hu.pair (.bool true)
      · rename_i hf
        obtain ⟨a, ha, rfl⟩ := Option.map_eq_some_iff.1 h
        obtain ⟨te, hte, ha⟩ := Option.bind_eq_some_iff.1 ha
        obtain ⟨z, hz, ha⟩ := Option.bind_eq_some_iff.1 ha
        obtain ⟨e1, j, e2, e3, e4, e5⟩ := tinf_spec hte
        have hr0 := g2 hf
        subst hr0
        have hzr : (zeroValue et).run P w = .ok z w := by simp [zeroValue, typeInfo, e2, e5, hz]
        have hzR : R σ m w z a := R.ofVal z ha
        refine VOK.pure hs (cv := if ok then .tuple #[z, .bool false] else z) ?_ ?_
        · simp [Instr.lookup, run_underlying h1, hget, run_checkKey_int k1, Instr.findKey, run_underlying k1, g1, hzr]
        · cases ok
          · exact hzR
          · exact hzR.pair (.bool false)
    · cases h
  · cases h

end Go.Ab
