/- Grids: the check. -/
import Derived.Test.YtbdefaebbicfjaaGreatK9
set_option linter.all false
namespace Go.Proofs.YtbdefaebbicfjaaGreat
open Go Go.Ab Go.RowKit
set_option maxHeartbeats 400000
set_option maxRecDepth 10000

theorem within204 (x lo hi : Int) (m : AM) (Q : AE → AM → Prop) (hQ : Q (.ret (B (decide (lo ≤ x ∧ x ≤ hi)))) m) : ACalls Tryz.prog 204 [I x, I lo, I hi] m Q := by
  refine acalls_of_body Tryz.func204 (by rfl) (by rfl) (Nat.le_of_ble_eq_true rfl) ?_
  simp -dsimp (disch := omega) only [go_sem, Tryz.f204]
  by_cases h : lo ≤ x
  · simp -dsimp (disch := omega) only [go_sem, h]
    simpa [h] using hQ
  · simp -dsimp (disch := omega) only [go_sem, h]
    simpa [h] using hQ

def prodF (l : List Int) : Int := l.foldl (· * ·) 1

theorem prodF_take {l : List Int} {i : Nat} {v : Int} (h : l[i]? = some v) : prodF (l.take (i + 1)) = prodF (l.take i) * v := by
  have hlt : i < l.length := (List.getElem?_eq_some_iff.1 h).1
  have e : l.take (i + 1) = l.take i ++ [v] := by
    rw [List.take_succ, h]
    rfl
  rw [e, prodF, List.foldl_append]
  rfl

theorem prodF_le (l : List Int) (hl : l.length ≤ 4) (hv : ∀ v ∈ l, 2 ≤ v ∧ v ≤ 9) : prodF l ≤ 6561 ∧ 1 ≤ prodF l := by
  have key : ∀ (l : List Int) (p : Int), 1 ≤ p → (∀ v ∈ l, 2 ≤ v ∧ v ≤ 9) → l.foldl (· * ·) p ≤ p * 9 ^ l.length ∧ 1 ≤ l.foldl (· * ·) p := by
    intro l
    induction l with
    | nil => intro p hp _; simp; omega
    | cons v l ih =>
      intro p hp hv
      have h := hv v List.mem_cons_self
      have h1 : 1 * 1 ≤ p * v := Int.mul_le_mul hp (by omega) (by omega) (by omega)
      have h2 : p * v ≤ p * 9 := Int.mul_le_mul (Int.le_refl _) h.2 (by omega) (by omega)
      obtain ⟨a1, a2⟩ := ih (p * v) (by omega) (fun u hu => hv u (List.mem_cons_of_mem _ hu))
      refine ⟨Int.le_trans a1 ?_, a2⟩
      rw [List.length_cons, Int.pow_succ, Int.mul_comm (9 ^ l.length) 9, ← Int.mul_assoc]
      exact Int.mul_le_mul h2 (Int.le_refl _) (Int.le_of_lt (Int.pow_pos (by omega))) (by omega)
  obtain ⟨h1, h2⟩ := key l 1 (by omega) hv
  refine ⟨Int.le_trans h1 ?_, h2⟩
  have : l.length = 0 ∨ l.length = 1 ∨ l.length = 2 ∨ l.length = 3 ∨ l.length = 4 := by omega
  rcases this with e | e | e | e | e <;> rw [e] <;> decide

theorem product (l : List Int) (hl : l.length ≤ 4) (hv : ∀ v ∈ l, 2 ≤ v ∧ v ≤ 9) (m : AM) (Q : AE → AM → Prop) (hQ : Q (.ret (I (prodF l))) m) : ACalls Tryz.prog 205 [.d (ints l)] m Q := by
  refine acalls_of_body Tryz.func205 (by rfl) (by rfl) (Nat.le_of_ble_eq_true rfl) ?_
  simp -dsimp (disch := omega) only [go_sem, Tryz.f205]
  refine AW.loop (ι := Nat) (fun i => i ≤ l.length ∧ 1 ≤ prodF (l.take i) ∧ prodF (l.take i) ≤ 9 ^ i) (fun i => [(0, .d (ints l)), (3, I (prodF (l.take i))), (6, .d (ints l)), (7, I l.length), (8, I i)]) (fun _ => m) (fun i => l.length - i) [] ⟨0, ⟨by simp, by simp [prodF], by simp [prodF]⟩, Weak.of ?_ (mLe.refl _)⟩ ?_
  · (simp only [frLe]; repeat' apply And.intro) <;> first | trivial | exact ⟨_, rfl, .refl _⟩
  · rintro i ⟨g1, g2, g3⟩
    simp -dsimp (disch := omega) only [go_sem]
    refine Br.intro (fun h => ?_) (fun h => ?_)
    · obtain ⟨v, hvi⟩ : ∃ v, l[i]? = some v := ⟨_, List.getElem?_eq_getElem (by omega)⟩
      have hb := hv v (List.mem_of_getElem? hvi)
      have hp : (9 : Int) ^ i ≤ 9 ^ 3 := by
        have : i = 0 ∨ i = 1 ∨ i = 2 ∨ i = 3 := by omega
        rcases this with rfl | rfl | rfl | rfl <;> decide
      have h1 : prodF (l.take i) * v ≤ 9 ^ i * 9 := Int.mul_le_mul g3 hb.2 (by omega) (by omega)
      have h2 : 1 * 1 ≤ prodF (l.take i) * v := Int.mul_le_mul g2 (by omega) (by omega) (by omega)
      simp -dsimp (disch := omega) only [go_sem, List.getD_eq_getElem?_getD, List.getElem?_map, Option.getD_some, hvi]
      refine ⟨i + 1, ⟨by omega, ?_, ?_⟩, by omega, Weak.of ?_ (mLe.refl _)⟩
      · rw [prodF_take hvi]; omega
      · rw [prodF_take hvi, Int.pow_succ]; exact h1
      · rw [prodF_take hvi]
        (simp only [frLe]; repeat' apply And.intro) <;> first | trivial | exact ⟨_, rfl, .refl _⟩
    · obtain rfl : i = l.length := by omega
      rw [List.take_length]
      simp -dsimp (disch := omega) only [go_sem]
      exact hQ

def gridFine (g : Grd) : Bool :=
  decide (1 ≤ (g.size.length : Int) ∧ (g.size.length : Int) ≤ 4) && decide (1 ≤ g.out ∧ g.out ≤ 4) && (g.size.all fun v => decide (2 ≤ v ∧ v ≤ 9)) &&
  decide ((g.data.length : Int) ≤ 4096) && decide ((g.data.length : Int) = prodF g.size * g.out) && (g.data.all fun v => decide (0 ≤ v ∧ v ≤ 65535))
def gridE (g : Grd) : Int := if gridFine g = true then 0 else 100

theorem gridCheck (g : Grd) (m : AM) (Q : AE → AM → Prop) (hQ : Q (.ret (I (gridE g))) m) : ACalls Tryz.prog 187 [Grd.enc g] m Q := by
  refine ACalls.cut0 hQ (by simp only [AE.bd, AV.bd, AV.bdL, and_self]) ?_
  unfold gridE gridFine
  refine acalls_of_body Tryz.func187 (by rfl) (by rfl) (Nat.le_of_ble_eq_true rfl) ?_
  simp -dsimp (disch := omega) only [go_sem, Tryz.f187]
  refine within204 _ _ _ _ _ ?_
  by_cases c1 : 1 ≤ (g.size.length : Int) ∧ (g.size.length : Int) ≤ 4
  rotate_left
  · simp -dsimp (disch := omega) only [go_sem, c1]
    repeat (first | exact Over.refl _ | apply Over.cons)
  simp -dsimp (disch := omega) only [go_sem, c1]
  refine within204 _ _ _ _ _ ?_
  by_cases c2 : 1 ≤ g.out ∧ g.out ≤ 4
  rotate_left
  · simp -dsimp (disch := omega) only [go_sem, c1, c2]
    repeat (first | exact Over.refl _ | apply Over.cons)
  simp -dsimp (disch := omega) only [go_sem, c1, c2]
  refine AW.loop (ι := Nat) (fun i => i ≤ g.size.length ∧ ∀ j v, j < i → g.size[j]? = some v → 2 ≤ v ∧ v ≤ 9) (fun i => [(21, I i), (20, I g.size.length), (19, .d (ints g.size)), (2, .d (.int .i64 0)), (1, .ptr m.length 0)]) (fun _ => some (.cells 60 [.d (ints g.size), I g.out, .d (ints g.data)]) :: m) (fun i => g.size.length - i) [] ⟨0, ⟨by simp, by omega⟩, Weak.of ?_ (mLe.refl _)⟩ ?_
  · (simp only [frLe]; repeat' apply And.intro) <;> first | trivial | exact ⟨_, rfl, .refl _⟩
  · rintro i ⟨g1, g2⟩
    simp -dsimp (disch := omega) only [go_sem]
    refine Br.intro (fun h => ?_) (fun h => ?_)
    · obtain ⟨v, hv⟩ : ∃ v, g.size[i]? = some v := ⟨_, List.getElem?_eq_getElem (by omega)⟩
      simp -dsimp (disch := omega) only [go_sem, List.getD_eq_getElem?_getD, List.getElem?_map, Option.getD_some, hv]
      refine within204 _ _ _ _ _ ?_
      by_cases c3 : 2 ≤ v ∧ v ≤ 9
      · simp -dsimp (disch := omega) only [go_sem, c3]
        refine ⟨i + 1, ⟨by omega, fun j u hj hu => ?_⟩, by omega, Weak.of ?_ (mLe.refl _)⟩
        · by_cases e : j = i
          · subst e
            rw [hv] at hu
            cases hu
            exact c3
          · exact g2 j u (by omega) hu
        · (simp only [frLe]; repeat' apply And.intro) <;> first | trivial | exact ⟨_, rfl, .refl _⟩
      · rw [show (g.size.all fun v => decide (2 ≤ v ∧ v ≤ 9)) = false by
          rw [List.all_eq_false]
          exact ⟨v, List.mem_of_getElem? hv, by simpa using c3⟩]
        simp -dsimp (disch := omega) only [go_sem, c3]
        repeat (first | exact Over.refl _ | apply Over.cons)
    · rw [show (g.size.all fun v => decide (2 ≤ v ∧ v ≤ 9)) = true by
        rw [List.all_eq_true]
        intro v hv
        obtain ⟨j, hj, e⟩ := List.getElem_of_mem hv
        have := g2 j v (by omega) (by rw [List.getElem?_eq_getElem hj, e])
        simpa using this]
      have hall : ∀ v ∈ g.size, 2 ≤ v ∧ v ≤ 9 := fun v hv => by
        obtain ⟨j, hj, e⟩ := List.getElem_of_mem hv
        exact g2 j v (by omega) (by rw [List.getElem?_eq_getElem hj, e])
      simp -dsimp (disch := omega) only [go_sem]
      by_cases c4 : (4096 : Int) < g.data.length
      · refine ADraw.of (es := []) (pn := none) (T := [⟨false, false, 0, 0, 0⟩, ⟨false, true, 0, 0, 0⟩, ⟨false, false, 0, 0, 0⟩, ⟨false, false, 0, 0, 0⟩, ⟨false, false, 0, 0, 0⟩, ⟨false, false, 0, 0, 0⟩, ⟨false, true, 0, 0, 0⟩, ⟨false, false, 0, 0, 0⟩, ⟨false, false, 0, 0, 0⟩, ⟨false, true, 0, 0, 0⟩, ⟨false, true, 0, 0, 0⟩, ⟨false, false, 0, 0, 0⟩, ⟨false, true, 0, 0, 0⟩, ⟨false, false, 0, 0, 0⟩, ⟨false, false, 0, 0, 0⟩, ⟨false, false, 0, 0, 0⟩]) mixed (by kernel_rfl) ?_
        simp -dsimp (disch := omega) only [go_sem, c4]
        repeat (first | exact Over.refl _ | apply Over.cons)
      · refine ADraw.of (es := []) (pn := none) (T := [⟨false, false, 0, 0, 0⟩, ⟨false, true, 0, 0, 0⟩, ⟨false, false, 0, 0, 0⟩, ⟨false, false, 0, 0, 0⟩, ⟨false, false, 0, 0, 0⟩, ⟨false, false, 0, 0, 0⟩, ⟨false, true, 0, 0, 0⟩, ⟨false, false, 0, 0, 0⟩, ⟨false, false, 0, 0, 0⟩, ⟨false, true, 0, 0, 0⟩, ⟨false, true, 0, 0, 0⟩, ⟨false, false, 0, 0, 0⟩, ⟨false, true, 0, 0, 0⟩, ⟨false, false, 0, 0, 0⟩, ⟨false, false, 0, 0, 0⟩, ⟨false, false, 0, 0, 0⟩]) mixed (by kernel_rfl) ?_
        simp -dsimp (disch := omega) only [go_sem, c4]
        have hp : prodF g.size ≤ 6561 ∧ 1 ≤ prodF g.size := prodF_le g.size (by omega) hall
        have hm : prodF g.size * g.out ≤ 6561 * 4 := Int.mul_le_mul hp.1 c2.2 (by omega) (by omega)
        have hm0 : 1 * 1 ≤ prodF g.size * g.out := Int.mul_le_mul hp.2 c2.1 (by omega) (by omega)
        refine wDCall.still (I (prodF g.size)) (product g.size (by omega) hall _ _ ⟨rfl, rfl⟩) ?_
        simp -dsimp (disch := omega) only [go_sem]
        by_cases c5 : (g.data.length : Int) = prodF g.size * g.out
        rotate_left
        · simp -dsimp (disch := omega) only [go_sem, c5]
          repeat (first | exact Over.refl _ | apply Over.cons)
        simp -dsimp (disch := omega) only [go_sem, c5]
        refine AW.loop (ι := Nat) (fun i => i ≤ g.data.length ∧ ∀ j v, j < i → g.data[j]? = some v → 0 ≤ v ∧ v ≤ 65535) (fun i => [(48, I i), (47, I (prodF g.size * g.out)), (46, .d (ints g.data)), (2, .d (.int .i64 0))]) (fun _ => some (.cells 60 [.d (ints g.size), I g.out, .d (ints g.data)]) :: m) (fun i => g.data.length - i) [] ⟨0, ⟨by simp, by omega⟩, Weak.of ?_ (mLe.refl _)⟩ ?_
        · (simp only [frLe]; repeat' apply And.intro) <;> first | trivial | exact ⟨_, rfl, .refl _⟩
        · rintro i ⟨g1, g2⟩
          simp -dsimp (disch := omega) only [go_sem]
          refine Br.intro (fun h => ?_) (fun h => ?_)
          · obtain ⟨v, hv⟩ : ∃ v, g.data[i]? = some v := ⟨_, List.getElem?_eq_getElem (by omega)⟩
            simp -dsimp (disch := omega) only [go_sem, List.getD_eq_getElem?_getD, List.getElem?_map, Option.getD_some, hv]
            refine within204 _ _ _ _ _ ?_
            by_cases c6 : 0 ≤ v ∧ v ≤ 65535
            · simp -dsimp (disch := omega) only [go_sem, c6]
              refine ⟨i + 1, ⟨by omega, fun j u hj hu => ?_⟩, by omega, Weak.of ?_ (mLe.refl _)⟩
              · by_cases e : j = i
                · subst e
                  rw [hv] at hu
                  cases hu
                  exact c6
                · exact g2 j u (by omega) hu
              · (simp only [frLe]; repeat' apply And.intro) <;> first | trivial | exact ⟨_, rfl, .refl _⟩
            · rw [show (g.data.all fun v => decide (0 ≤ v ∧ v ≤ 65535)) = false by
                rw [List.all_eq_false]
                exact ⟨v, List.mem_of_getElem? hv, by simpa using c6⟩]
              simp -dsimp (disch := omega) only [go_sem, c6]
              repeat (first | exact Over.refl _ | apply Over.cons)
          · rw [show (g.data.all fun v => decide (0 ≤ v ∧ v ≤ 65535)) = true by
              rw [List.all_eq_true]
              intro v hv
              obtain ⟨j, hj, e⟩ := List.getElem_of_mem hv
              have := g2 j v (by omega) (by rw [List.getElem?_eq_getElem hj, e])
              simpa using this]
            simp -dsimp (disch := omega) only [go_sem]
            repeat (first | exact Over.refl _ | apply Over.cons)
end Go.Proofs.YtbdefaebbicfjaaGreat
