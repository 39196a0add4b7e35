/- Elements: the check. -/
import Derived.Test.YtbdefaebbicfjaaGreatK12
set_option linter.all false
namespace Go.Proofs.YtbdefaebbicfjaaGreat
open Go Go.Ab Go.RowKit
set_option maxHeartbeats 400000
set_option maxRecDepth 10000

theorem idx124 (p : Int → Bool) (fid : Nat) (fs cs : List AV) (l : List (Int)) (m : AM) (hp : ∀ v (Q : AE → AM → Prop), v ∈ l → Q (.ret (B (p v))) m → ACalls Tryz.prog fid (fs ++ [I v] ++ cs) m Q)
    (hl : l.length ≤ 4611686018427387904) (Q : AE → AM → Prop) (hQ : ∀ k : Int, -1 ≤ k → (decide (0 ≤ k) = l.any p) → Q (.ret (I k)) m) : ACalls Tryz.prog 124 [.d (ints l), .fn (.func fid) fs cs] m Q := by
  refine acalls_of_body Tryz.func124 (by rfl) (by rfl) (Nat.le_of_ble_eq_true rfl) ?_
  simp -dsimp (disch := omega) only [go_sem, Tryz.f124]
  refine AW.loop (ι := Nat) (fun i => i ≤ l.length ∧ ∀ j v, j < i → l[j]? = some v → p v = false) (fun i => [(8, I i), (7, I l.length), (1, .fn (.func fid) fs cs), (0, .d (ints l))]) (fun _ => m) (fun i => l.length - i) [] ⟨0, ⟨by simp, by omega⟩, Weak.of ?_ (mLe.refl _)⟩ ?_
  · (simp only [frLe]; repeat' apply And.intro) <;> first | trivial | exact ⟨_, rfl, .refl _⟩
  · rintro i ⟨g1, g2⟩
    simp -dsimp (disch := omega) only [go_sem]
    refine Br.intro (fun h => ?_) (fun h => ?_)
    · obtain ⟨v, hv⟩ : ∃ v, l[i]? = some v := ⟨_, List.getElem?_eq_getElem (by omega)⟩
      simp -dsimp (disch := omega) only [go_sem, List.getD_eq_getElem?_getD, List.getElem?_map, Option.getD_some, hv]
      refine hp v _ (List.mem_of_getElem? hv) ?_
      cases hpv : p v
      · simp -dsimp (disch := omega) only [go_sem]
        refine ⟨i + 1, ⟨by omega, fun j u hj hu => ?_⟩, by omega, Weak.of ?_ (mLe.refl _)⟩
        · by_cases e : j = i
          · subst e
            rw [hv] at hu
            cases hu
            exact hpv
          · exact g2 j u (by omega) hu
        · (simp only [frLe]; repeat' apply And.intro) <;> first | trivial | exact ⟨_, rfl, .refl _⟩
      · simp -dsimp (disch := omega) only [go_sem]
        refine hQ i (by omega) ?_
        rw [decide_eq_true (by omega)]
        exact (List.any_eq_true.2 ⟨v, List.mem_of_getElem? hv, hpv⟩).symm
    · simp -dsimp (disch := omega) only [go_sem]
      refine hQ (-1) (by omega) ?_
      rw [decide_eq_false (by omega)]
      refine (List.any_eq_false.2 fun v hv => ?_).symm
      obtain ⟨j, hj⟩ := List.mem_iff_getElem?.1 hv
      have hlt : j < l.length := (List.getElem?_eq_some_iff.1 hj).1
      rw [g2 j v (by omega) hj]
      simp
theorem any87 (p : Int → Bool) (fid : Nat) (fs cs : List AV) (l : List (Int)) (m : AM) (hp : ∀ v (Q : AE → AM → Prop), v ∈ l → Q (.ret (B (p v))) m → ACalls Tryz.prog fid (fs ++ [I v] ++ cs) m Q)
    (hl : l.length ≤ 4611686018427387904) (Q : AE → AM → Prop) (hQ : Q (.ret (B (l.any p))) m) : ACalls Tryz.prog 87 [.d (ints l), .fn (.func fid) fs cs] m Q := by
  refine acalls_of_body Tryz.func87 (by rfl) (by rfl) (Nat.le_of_ble_eq_true rfl) ?_
  simp -dsimp (disch := omega) only [go_sem, Tryz.f87]
  refine idx124 p fid fs cs l m hp hl _ fun k h0 h1 => ?_
  simp -dsimp (disch := omega) only [go_sem, h1]
  exact hQ

theorem idx215 (p : Cur → Bool) (fid : Nat) (fs cs : List AV) (l : List (Cur)) (m : AM) (hp : ∀ v (Q : AE → AM → Prop), v ∈ l → Q (.ret (B (p v))) m → ACalls Tryz.prog fid (fs ++ [Cur.enc v] ++ cs) m Q)
    (hl : l.length ≤ 4611686018427387904) (Q : AE → AM → Prop) (hQ : ∀ k : Int, -1 ≤ k → (decide (0 ≤ k) = l.any p) → Q (.ret (I k)) m) : ACalls Tryz.prog 215 [.d (curvesD l), .fn (.func fid) fs cs] m Q := by
  refine acalls_of_body Tryz.func215 (by rfl) (by rfl) (Nat.le_of_ble_eq_true rfl) ?_
  simp -dsimp (disch := omega) only [go_sem, Tryz.f215]
  refine AW.loop (ι := Nat) (fun i => i ≤ l.length ∧ ∀ j v, j < i → l[j]? = some v → p v = false) (fun i => [(8, I i), (7, I l.length), (1, .fn (.func fid) fs cs), (0, .d (curvesD l))]) (fun _ => m) (fun i => l.length - i) [] ⟨0, ⟨by simp, by omega⟩, Weak.of ?_ (mLe.refl _)⟩ ?_
  · (simp only [frLe]; repeat' apply And.intro) <;> first | trivial | exact ⟨_, rfl, .refl _⟩
  · rintro i ⟨g1, g2⟩
    simp -dsimp (disch := omega) only [go_sem]
    refine Br.intro (fun h => ?_) (fun h => ?_)
    · obtain ⟨v, hv⟩ : ∃ v, l[i]? = some v := ⟨_, List.getElem?_eq_getElem (by omega)⟩
      simp -dsimp (disch := omega) only [go_sem, List.getD_eq_getElem?_getD, List.getElem?_map, Option.getD_some, hv]
      refine hp v _ (List.mem_of_getElem? hv) ?_
      cases hpv : p v
      · simp -dsimp (disch := omega) only [go_sem]
        refine ⟨i + 1, ⟨by omega, fun j u hj hu => ?_⟩, by omega, Weak.of ?_ (mLe.refl _)⟩
        · by_cases e : j = i
          · subst e
            rw [hv] at hu
            cases hu
            exact hpv
          · exact g2 j u (by omega) hu
        · (simp only [frLe]; repeat' apply And.intro) <;> first | trivial | exact ⟨_, rfl, .refl _⟩
      · simp -dsimp (disch := omega) only [go_sem]
        refine hQ i (by omega) ?_
        rw [decide_eq_true (by omega)]
        exact (List.any_eq_true.2 ⟨v, List.mem_of_getElem? hv, hpv⟩).symm
    · simp -dsimp (disch := omega) only [go_sem]
      refine hQ (-1) (by omega) ?_
      rw [decide_eq_false (by omega)]
      refine (List.any_eq_false.2 fun v hv => ?_).symm
      obtain ⟨j, hj⟩ := List.mem_iff_getElem?.1 hv
      have hlt : j < l.length := (List.getElem?_eq_some_iff.1 hj).1
      rw [g2 j v (by omega) hj]
      simp
theorem any201 (p : Cur → Bool) (fid : Nat) (fs cs : List AV) (l : List (Cur)) (m : AM) (hp : ∀ v (Q : AE → AM → Prop), v ∈ l → Q (.ret (B (p v))) m → ACalls Tryz.prog fid (fs ++ [Cur.enc v] ++ cs) m Q)
    (hl : l.length ≤ 4611686018427387904) (Q : AE → AM → Prop) (hQ : Q (.ret (B (l.any p))) m) : ACalls Tryz.prog 201 [.d (curvesD l), .fn (.func fid) fs cs] m Q := by
  refine acalls_of_body Tryz.func201 (by rfl) (by rfl) (Nat.le_of_ble_eq_true rfl) ?_
  simp -dsimp (disch := omega) only [go_sem, Tryz.f201]
  refine idx215 p fid fs cs l m hp hl _ fun k h0 h1 => ?_
  simp -dsimp (disch := omega) only [go_sem, h1]
  exact hQ

def farF (x : Int) : Bool := decide (x < -1000000000 ∨ 1000000000 < x)
theorem far (x : Int) (m : AM) (Q : AE → AM → Prop) (hQ : Q (.ret (B (farF x))) m) : ACalls Tryz.prog 203 [I x] m Q := by
  unfold farF at hQ
  refine acalls_of_body Tryz.func203 (by rfl) (by rfl) (Nat.le_of_ble_eq_true rfl) ?_
  simp -dsimp (disch := omega) only [go_sem, Tryz.f203]
  by_cases h : x < -1000000000
  · simp -dsimp (disch := omega) only [go_sem, h]
    simpa [h] using hQ
  · simp -dsimp (disch := omega) only [go_sem, h]
    simpa [h] using hQ

theorem goodCurve1 (c : Cur) (m : AM) (Q : AE → AM → Prop) (hQ : Q (.ret (B (!decide (curveE c = 0)))) m) : ACalls Tryz.prog 202 [Cur.enc c] m Q := by
  refine ACalls.cut0 hQ (by simp only [AE.bd, AV.bd, AV.bdL, and_self]) ?_
  refine acalls_of_body Tryz.func202 (by rfl) (by rfl) (Nat.le_of_ble_eq_true rfl) ?_
  simp -dsimp (disch := omega) only [go_sem, Tryz.f202]
  refine curveCheck c _ _ ?_
  simp -dsimp (disch := omega) only [go_sem]
  repeat (first | exact Over.refl _ | apply Over.cons)

def curvesFine (l : List Cur) : Bool := decide (1 ≤ (l.length : Int) ∧ (l.length : Int) ≤ 4) && !l.any fun c => !decide (curveE c = 0)
theorem goodCurves (l : List Cur) (m : AM) (Q : AE → AM → Prop) (hQ : Q (.ret (B (curvesFine l))) m) : ACalls Tryz.prog 185 [.d (curvesD l)] m Q := by
  unfold curvesFine at hQ
  refine acalls_of_body Tryz.func185 (by rfl) (by rfl) (Nat.le_of_ble_eq_true rfl) ?_
  simp -dsimp (disch := omega) only [go_sem, Tryz.f185]
  by_cases h : (l.length : Int) < 1
  · rw [decide_eq_false (by omega)] at hQ
    simp -dsimp (disch := omega) only [go_sem, h]
    exact hQ
  by_cases h2 : 4 < (l.length : Int)
  · rw [decide_eq_false (by omega)] at hQ
    simp -dsimp (disch := omega) only [go_sem, h, h2]
    exact hQ
  rw [decide_eq_true (by omega)] at hQ
  simp -dsimp (disch := omega) only [go_sem, h, h2]
  refine any201 (fun c => !decide (curveE c = 0)) 202 [] [] l _ (fun v Q _ hq => goodCurve1 v _ Q hq) (by omega) _ ?_
  simp -dsimp (disch := omega) only [go_sem]
  exact hQ

def matFine (rows : List (List Int)) (off : List Int) : Bool := decide ((1 ≤ (rows.length : Int) ∧ (rows.length : Int) ≤ 4) ∧ (off.length : Int) = rows.length) && (let n : Int := (rows.getD 0 []).length; decide (1 ≤ n ∧ n ≤ 4) && rows.all (fun r => decide ((r.length : Int) = n) && !r.any farF) && !off.any farF)

theorem goodMatrix (rows : List (List Int)) (off : List Int) (m : AM) (Q : AE → AM → Prop) (hQ : Q (.ret (B (matFine rows off))) m) : ACalls Tryz.prog 186 [.d (rowsD rows), .d (ints off)] m Q := by
  unfold matFine at hQ
  refine acalls_of_body Tryz.func186 (by rfl) (by rfl) (Nat.le_of_ble_eq_true rfl) ?_
  simp -dsimp (disch := omega) only [go_sem, Tryz.f186]
  by_cases h1 : (rows.length : Int) < 1
  · rw [decide_eq_false (by omega)] at hQ
    simp -dsimp (disch := omega) only [go_sem, h1]
    exact hQ
  by_cases h2 : 4 < (rows.length : Int)
  · rw [decide_eq_false (by omega)] at hQ
    simp -dsimp (disch := omega) only [go_sem, h1, h2]
    exact hQ
  by_cases h3 : (off.length : Int) = rows.length
  rotate_left
  · rw [decide_eq_false (fun h => h3 h.2)] at hQ
    simp -dsimp (disch := omega) only [go_sem, h1, h2, h3]
    exact hQ
  rw [decide_eq_true (by omega)] at hQ
  obtain ⟨r0, h0⟩ : ∃ r0, rows[0]? = some r0 := ⟨_, List.getElem?_eq_getElem (by omega)⟩
  have e0 : rows.getD 0 [] = r0 := by rw [List.getD_eq_getElem?_getD, h0]; rfl
  rw [e0] at hQ
  simp -dsimp (disch := omega) only [go_sem, h1, h2, h3, List.getD_eq_getElem?_getD, List.getElem?_map, Option.getD_some, h0]
  by_cases h4 : (r0.length : Int) < 1
  · simp only [decide_eq_false (show ¬ (1 ≤ (r0.length : Int) ∧ (r0.length : Int) ≤ 4) by omega), Bool.false_and, Bool.and_false] at hQ
    simp -dsimp (disch := omega) only [go_sem, h4]
    exact hQ
  by_cases h5 : 4 < (r0.length : Int)
  · simp only [decide_eq_false (show ¬ (1 ≤ (r0.length : Int) ∧ (r0.length : Int) ≤ 4) by omega), Bool.false_and, Bool.and_false] at hQ
    simp -dsimp (disch := omega) only [go_sem, h4, h5]
    exact hQ
  simp only [decide_eq_true (show (1 ≤ (r0.length : Int) ∧ (r0.length : Int) ≤ 4) by omega), Bool.true_and] at hQ
  simp -dsimp (disch := omega) only [go_sem, h4, h5]
  refine AW.loop (ι := Nat) (fun i => i ≤ rows.length ∧ ∀ j r, j < i → rows[j]? = some r → (decide ((r.length : Int) = r0.length) && !r.any farF) = true) (fun i => [(35, I i), (34, I rows.length), (33, .d (rowsD rows)), (5, I r0.length), (1, .d (ints off))]) (fun _ => m) (fun i => rows.length - i) [] ⟨0, ⟨by simp, by omega⟩, Weak.of ?_ (mLe.refl _)⟩ ?_
  · (simp only [frLe]; repeat' apply And.intro) <;> first | trivial | exact ⟨_, rfl, .refl _⟩
  · rintro i ⟨g1, g2⟩
    simp -dsimp (disch := omega) only [go_sem]
    refine Br.intro (fun h => ?_) (fun h => ?_)
    · obtain ⟨r, hr⟩ : ∃ r, rows[i]? = some r := ⟨_, List.getElem?_eq_getElem (by omega)⟩
      have bad : ¬ (decide ((r.length : Int) = r0.length) && !r.any farF) = true → Q (.ret (B false)) m := fun hb => by
        rw [show rows.all (fun r => decide ((r.length : Int) = r0.length) && !r.any farF) = false from List.all_eq_false.2 ⟨r, List.mem_of_getElem? hr, hb⟩] at hQ
        exact hQ
      simp -dsimp (disch := omega) only [go_sem, List.getD_eq_getElem?_getD, List.getElem?_map, Option.getD_some, hr]
      by_cases h6 : (r.length : Int) = r0.length
      · simp -dsimp (disch := omega) only [go_sem, h6]
        refine any87 farF 203 [] [] r _ (fun v Q _ hq => far v _ Q hq) (by omega) _ ?_
        cases h7 : r.any farF
        · simp -dsimp (disch := omega) only [go_sem]
          refine ⟨i + 1, ⟨by omega, fun j u hj hu => ?_⟩, by omega, Weak.of ?_ (mLe.refl _)⟩
          · by_cases e : j = i
            · subst e
              rw [hr] at hu
              cases hu
              simp [h6, h7]
            · simpa using g2 j u (by omega) hu
          · (simp only [frLe]; repeat' apply And.intro) <;> first | trivial | exact ⟨_, rfl, .refl _⟩
        · simp -dsimp (disch := omega) only [go_sem]
          exact bad (by simp [h7])
      · simp -dsimp (disch := omega) only [go_sem, h6]
        exact bad (by simp [h6])
    · simp -dsimp (disch := omega) only [go_sem]
      refine any87 farF 203 [] [] off _ (fun v Q _ hq => far v _ Q hq) (by omega) _ ?_
      rw [show rows.all (fun r => decide ((r.length : Int) = r0.length) && !r.any farF) = true from List.all_eq_true.2 fun r hr => by
        obtain ⟨j, hj⟩ := List.mem_iff_getElem?.1 hr
        have hlt : j < rows.length := (List.getElem?_eq_some_iff.1 hj).1
        exact g2 j r (by omega) hj] at hQ
      simp -dsimp (disch := omega) only [go_sem]
      exact hQ

def noM (x : Elt) : Bool := decide ((x.rows.length : Int) = 0) && decide ((x.offset.length : Int) = 0)
def noG (x : Elt) : Bool := decide ((x.grid.size.length : Int) = 0) && (decide (x.grid.out = 0) && decide ((x.grid.data.length : Int) = 0))
def noP (x : Elt) : Bool := decide ((x.prog.length : Int) = 0) && (decide (x.nin = 0) && decide (x.nout = 0))
def noC (x : Elt) : Bool := decide ((x.curves.length : Int) = 0)
def eltFine (x : Elt) : Bool := if x.kind = 1 then noM x && (noG x && (noP x && curvesFine x.curves)) else if x.kind = 2 then noC x && (noG x && (noP x && matFine x.rows x.offset)) else if x.kind = 3 then noC x && (noM x && (noP x && decide (gridE x.grid = 0))) else if x.kind = 4 then noC x && (noM x && (noG x && decide (progE x.prog x.nin x.nout = 0))) else false
def eltE (x : Elt) : Int := if eltFine x = true then 0 else 130

theorem eltCheck (x : Elt) (m : AM) (Q : AE → AM → Prop) (hQ : Q (.ret (I (eltE x))) m) : ACalls Tryz.prog 153 [Elt.enc x] m Q := by
  refine ACalls.cut0 hQ (by simp only [AE.bd, AV.bd, AV.bdL, and_self]) ?_
  refine acalls_of_AW Tryz.func153 (by rfl) (by rfl) (Nat.le_of_ble_eq_true rfl) ?_
  refine AW.step ?_
  simp -dsimp (disch := omega) only [go_sem, Tryz.f153]
  refine AW.step ?_
  simp -dsimp (disch := omega) only [go_sem, Tryz.f153]
  refine AW.chk (ι := Bool) (fun b => b = noM x) (fun b => [(4, B b), (3, B (noC x)), (1, .ptr m.length 0)]) (fun _ => some (.cells 63 [I x.kind, .d (curvesD x.curves), .d (rowsD x.rows), .d (ints x.offset), .d (ints x.grid.size), I x.grid.out, .d (ints x.grid.data), .d (progD x.prog), I x.nin, I x.nout]) :: m) [] ?_ ?_
  · by_cases h1 : (x.rows.length : Int) = 0 <;> by_cases h2 : (x.offset.length : Int) = 0 <;> simp -dsimp (disch := omega) only [go_sem, Tryz.f153, h1, h2]
    all_goals
      refine ⟨_, ?_, Weak.of (by (simp only [frLe]; repeat' apply And.intro) <;> first | trivial | exact ⟨_, rfl, .refl _⟩) (mLe.refl _)⟩
      simp only [noM, Bool.and_true, Bool.and_false, Bool.true_and, Bool.false_and, decide_true, decide_false, h1, h2]
  rintro _ rfl
  refine AW.chk (ι := Bool) (fun b => b = noG x) (fun b => [(5, B b), (4, B (noM x)), (3, B (noC x)), (1, .ptr m.length 0)]) (fun _ => some (.cells 63 [I x.kind, .d (curvesD x.curves), .d (rowsD x.rows), .d (ints x.offset), .d (ints x.grid.size), I x.grid.out, .d (ints x.grid.data), .d (progD x.prog), I x.nin, I x.nout]) :: m) [] ?_ ?_
  · by_cases h1 : (x.grid.size.length : Int) = 0 <;> by_cases h2 : x.grid.out = 0 <;> by_cases h3 : (x.grid.data.length : Int) = 0 <;> simp -dsimp (disch := omega) only [go_sem, Tryz.f153, h1, h2, h3]
    all_goals
      refine ⟨_, ?_, Weak.of (by (simp only [frLe]; repeat' apply And.intro) <;> first | trivial | exact ⟨_, rfl, .refl _⟩) (mLe.refl _)⟩
      simp only [noG, Bool.and_true, Bool.and_false, Bool.true_and, Bool.false_and, decide_true, decide_false, h1, h2, h3]
  rintro _ rfl
  refine AW.chk (ι := Bool) (fun b => b = noP x) (fun b => [(6, B b), (5, B (noG x)), (4, B (noM x)), (3, B (noC x)), (1, .ptr m.length 0)]) (fun _ => some (.cells 63 [I x.kind, .d (curvesD x.curves), .d (rowsD x.rows), .d (ints x.offset), .d (ints x.grid.size), I x.grid.out, .d (ints x.grid.data), .d (progD x.prog), I x.nin, I x.nout]) :: m) [] ?_ ?_
  · by_cases h1 : (x.prog.length : Int) = 0 <;> by_cases h2 : x.nin = 0 <;> by_cases h3 : x.nout = 0 <;> simp -dsimp (disch := omega) only [go_sem, Tryz.f153, h1, h2, h3]
    all_goals
      refine ⟨_, ?_, Weak.of (by (simp only [frLe]; repeat' apply And.intro) <;> first | trivial | exact ⟨_, rfl, .refl _⟩) (mLe.refl _)⟩
      simp only [noP, Bool.and_true, Bool.and_false, Bool.true_and, Bool.false_and, decide_true, decide_false, h1, h2, h3]
  rintro _ rfl
  refine AW.step ?_
  simp -dsimp (disch := omega) only [go_sem, Tryz.f153]
  refine AW.chk (ι := Bool) (fun b => b = eltFine x) (fun b => [(7, B b)]) (fun _ => some (.cells 63 [I x.kind, .d (curvesD x.curves), .d (rowsD x.rows), .d (ints x.offset), .d (ints x.grid.size), I x.grid.out, .d (ints x.grid.data), .d (progD x.prog), I x.nin, I x.nout]) :: m) [] ?_ ?_
  · unfold eltFine
    by_cases k1 : x.kind = 1
    · cases a1 : noM x <;> cases a2 : noG x <;> cases a3 : noP x <;> simp -dsimp (disch := omega) only [go_sem, Tryz.f153, k1, a1, a2, a3]
      all_goals first
        | (refine goodCurves _ _ _ ?_; simp -dsimp (disch := omega) only [go_sem, Tryz.f153, k1, a1, a2, a3])
        | skip
      all_goals
        refine ⟨_, ?_, Weak.of (by (simp only [frLe]; repeat' apply And.intro) <;> first | trivial | exact ⟨_, rfl, .refl _⟩) (mLe.refl _)⟩
        simp [k1, a1, a2, a3]
    by_cases k2 : x.kind = 2
    · cases a1 : noC x <;> cases a2 : noG x <;> cases a3 : noP x <;> simp -dsimp (disch := omega) only [go_sem, Tryz.f153, k2, a1, a2, a3]
      all_goals first
        | (refine goodMatrix _ _ _ _ ?_; simp -dsimp (disch := omega) only [go_sem, Tryz.f153, k2, a1, a2, a3])
        | skip
      all_goals
        refine ⟨_, ?_, Weak.of (by (simp only [frLe]; repeat' apply And.intro) <;> first | trivial | exact ⟨_, rfl, .refl _⟩) (mLe.refl _)⟩
        simp [k2, a1, a2, a3]
    by_cases k3 : x.kind = 3
    · cases a1 : noC x <;> cases a2 : noM x <;> cases a3 : noP x <;> simp -dsimp (disch := omega) only [go_sem, Tryz.f153, k3, a1, a2, a3]
      all_goals first
        | (refine gridCheck x.grid _ _ ?_; simp -dsimp (disch := omega) only [go_sem, Tryz.f153, k3, a1, a2, a3])
        | skip
      all_goals
        refine ⟨_, ?_, Weak.of (by (simp only [frLe]; repeat' apply And.intro) <;> first | trivial | exact ⟨_, rfl, .refl _⟩) (mLe.refl _)⟩
        simp [k3, a1, a2, a3]
    by_cases k4 : x.kind = 4
    · cases a1 : noC x <;> cases a2 : noM x <;> cases a3 : noG x <;> simp -dsimp (disch := omega) only [go_sem, Tryz.f153, k4, a1, a2, a3]
      all_goals first
        | (refine progCheck _ _ _ _ _ ?_; simp -dsimp (disch := omega) only [go_sem, Tryz.f153, k4, a1, a2, a3])
        | skip
      all_goals
        refine ⟨_, ?_, Weak.of (by (simp only [frLe]; repeat' apply And.intro) <;> first | trivial | exact ⟨_, rfl, .refl _⟩) (mLe.refl _)⟩
        simp [k4, a1, a2, a3]
    simp -dsimp (disch := omega) only [go_sem, Tryz.f153, k1, k2, k3, k4]
    refine ⟨_, ?_, Weak.of (by (simp only [frLe]; repeat' apply And.intro) <;> first | trivial | exact ⟨_, rfl, .refl _⟩) (mLe.refl _)⟩
    simp [k1, k2, k3, k4]
  rintro _ rfl
  refine awpC_ok _ _ _ _ ?_
  unfold eltE
  cases h : eltFine x <;> simp -dsimp (disch := omega) only [go_sem, Tryz.f153]
  all_goals exact (Over.refl _).cons _
end Go.Proofs.YtbdefaebbicfjaaGreat
