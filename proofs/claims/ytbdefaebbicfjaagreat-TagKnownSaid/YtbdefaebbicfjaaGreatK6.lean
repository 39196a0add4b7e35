/- Curves: the checks of tables and of one piece of a formula. -/
import Derived.Test.YtbdefaebbicfjaaGreatK5
set_option linter.all false
namespace Go.Proofs.YtbdefaebbicfjaaGreat
open Go Go.Ab Go.RowKit
set_option maxHeartbeats 400000
set_option maxRecDepth 10000

theorem within212 (x lo hi : Int) (m : AM) (Q : AE → AM → Prop) (hQ : Q (.ret (B (decide (lo ≤ x ∧ x ≤ hi)))) m) : ACalls Tryz.prog 212 [I x, I lo, I hi] m Q := by
  refine acalls_of_body Tryz.func212 (by rfl) (by rfl) (Nat.le_of_ble_eq_true rfl) ?_
  simp -dsimp (disch := omega) only [go_sem, Tryz.f212]
  by_cases h : lo ≤ x
  · simp -dsimp (disch := omega) only [go_sem, h]
    simpa [h] using hQ
  · simp -dsimp (disch := omega) only [go_sem, h]
    simpa [h] using hQ

def tabOk (l : List Int) : Bool := decide (2 ≤ l.length ∧ l.length ≤ 17) && l.all fun v => decide (0 ≤ v ∧ v ≤ 65535)

theorem checkTable (l : List Int) (m : AM) (Q : AE → AM → Prop) (hQ : Q (.ret (B (tabOk l))) m) : ACalls Tryz.prog 199 [.d (ints l)] m Q := by
  refine acalls_of_body Tryz.func199 (by rfl) (by rfl) (Nat.le_of_ble_eq_true rfl) ?_
  simp -dsimp (disch := omega) only [go_sem, Tryz.f199]
  unfold tabOk at hQ
  by_cases c1 : (l.length : Int) < 2
  · rw [show decide (2 ≤ l.length ∧ l.length ≤ 17) = false by simp; omega, Bool.false_and] at hQ
    simp -dsimp (disch := omega) only [go_sem, c1]
    exact hQ
  by_cases c2 : (17 : Int) < l.length
  · rw [show decide (2 ≤ l.length ∧ l.length ≤ 17) = false by simp; omega, Bool.false_and] at hQ
    simp -dsimp (disch := omega) only [go_sem, c1, c2]
    exact hQ
  rw [show decide (2 ≤ l.length ∧ l.length ≤ 17) = true by simp; omega, Bool.true_and] at hQ
  simp -dsimp (disch := omega) only [go_sem, c1, c2]
  refine AW.loop (ι := Nat) (fun i => i ≤ l.length ∧ ∀ j v, j < i → l[j]? = some v → 0 ≤ v ∧ v ≤ 65535) (fun i => [(15, I i), (14, I l.length), (13, .d (ints l)), (2, B false), (0, .d (ints l))]) (fun _ => m) (fun i => l.length - i) [] ⟨0, ⟨by simp, by omega⟩, Weak.of ?_ (mLe.refl _)⟩ ?_
  · (simp only [frLe]; repeat' apply And.intro) <;> first | trivial | exact ⟨_, rfl, .refl _⟩
  · rintro i ⟨g1, g2⟩
    simp -dsimp (disch := omega) only [go_sem]
    refine Br.intro (fun h => ?_) (fun h => ?_)
    · obtain ⟨v, hv⟩ : ∃ v, l[i]? = some v := ⟨_, List.getElem?_eq_getElem (by omega)⟩
      simp -dsimp (disch := omega) only [go_sem, List.getD_eq_getElem?_getD, List.getElem?_map, Option.getD_some, hv]
      refine within212 _ _ _ _ _ ?_
      by_cases c3 : 0 ≤ v ∧ v ≤ 65535
      · simp -dsimp (disch := omega) only [go_sem, c3]
        refine ⟨i + 1, ⟨by omega, fun j u hj hu => ?_⟩, by omega, Weak.of ?_ (mLe.refl _)⟩
        · by_cases e : j = i
          · subst e
            rw [hv] at hu
            cases hu
            exact c3
          · exact g2 j u (by omega) hu
        · (simp only [frLe]; repeat' apply And.intro) <;> first | trivial | exact ⟨_, rfl, .refl _⟩
      · rw [show (l.all fun v => decide (0 ≤ v ∧ v ≤ 65535)) = false by
          rw [List.all_eq_false]
          exact ⟨v, List.mem_of_getElem? hv, by simpa using c3⟩] at hQ
        simp -dsimp (disch := omega) only [go_sem, c3]
        exact hQ
    · rw [show (l.all fun v => decide (0 ≤ v ∧ v ≤ 65535)) = true by
        rw [List.all_eq_true]
        intro v hv
        obtain ⟨j, hj, e⟩ := List.getElem_of_mem hv
        have := g2 j v (by omega) (by rw [List.getElem?_eq_getElem hj, e])
        simpa using this] at hQ
      simp -dsimp (disch := omega) only [go_sem]
      exact hQ

/-- The greatest common divisor, as the program finds it. -/
def segOk (fr : Int) (o : Seg) : Bool :=
  decide (-100000000 ≤ o.mul ∧ o.mul ≤ 100000000) && decide (-100000000 ≤ o.add ∧ o.add ≤ 100000000) && decide (-100000000 ≤ o.off ∧ o.off ≤ 100000000) &&
  decide (fr + 1 ≤ o.till ∧ o.till ≤ 1000000) && decide (1 ≤ o.num ∧ o.num ≤ 36) && decide (1 ≤ o.den ∧ o.den ≤ 12) && decide (Nat.gcd o.num.toNat o.den.toNat = 1)

theorem valid (o : Seg) (fr : Int) (hfr : fr < 9223372036854775807) (h0 : -9223372036854775808 ≤ fr) (first : Bool) (m : AM) (Q : AE → AM → Prop) (hQ : Q (.ret (B (segOk fr o))) m) : ACalls Tryz.prog 214 [.agg [I o.till, I o.mul, I o.add, I o.num, I o.den, I o.off, I fr, B first]] m Q := by
  refine ACalls.cut0 hQ (by simp only [AE.bd, AV.bd, AV.bdL, and_self]) ?_
  refine acalls_of_body Tryz.func214 (by rfl) (by rfl) (Nat.le_of_ble_eq_true rfl) ?_
  simp -dsimp (disch := omega) only [go_sem, Tryz.f214]
  refine ALoop.unr 4 ?_
  simp -dsimp (disch := omega) only [go_sem]
  refine within212 _ _ _ _ _ ?_
  unfold segOk
  by_cases c1 : -100000000 ≤ o.mul ∧ o.mul ≤ 100000000
  rotate_left
  · simp -dsimp (disch := omega) only [go_sem, c1]
    repeat (first | exact Over.refl _ | apply Over.cons)
  simp -dsimp (disch := omega) only [go_sem, c1]
  refine within212 _ _ _ _ _ ?_
  by_cases c2 : -100000000 ≤ o.add ∧ o.add ≤ 100000000
  rotate_left
  · simp -dsimp (disch := omega) only [go_sem, c1, c2]
    repeat (first | exact Over.refl _ | apply Over.cons)
  simp -dsimp (disch := omega) only [go_sem, c1, c2]
  refine within212 _ _ _ _ _ ?_
  by_cases c3 : -100000000 ≤ o.off ∧ o.off ≤ 100000000
  rotate_left
  · simp -dsimp (disch := omega) only [go_sem, c1, c2, c3]
    repeat (first | exact Over.refl _ | apply Over.cons)
  simp -dsimp (disch := omega) only [go_sem, c1, c2, c3]
  refine within212 _ _ _ _ _ ?_
  by_cases c4 : fr + 1 ≤ o.till ∧ o.till ≤ 1000000
  rotate_left
  · simp -dsimp (disch := omega) only [go_sem, c1, c2, c3, c4]
    repeat (first | exact Over.refl _ | apply Over.cons)
  simp -dsimp (disch := omega) only [go_sem, c1, c2, c3, c4]
  refine within212 _ _ _ _ _ ?_
  by_cases c5 : 1 ≤ o.num ∧ o.num ≤ 36
  rotate_left
  · simp -dsimp (disch := omega) only [go_sem, c1, c2, c3, c4, c5]
    repeat (first | exact Over.refl _ | apply Over.cons)
  simp -dsimp (disch := omega) only [go_sem, c1, c2, c3, c4, c5]
  refine within212 _ _ _ _ _ ?_
  by_cases c6 : 1 ≤ o.den ∧ o.den ≤ 12
  rotate_left
  · simp -dsimp (disch := omega) only [go_sem, c1, c2, c3, c4, c5, c6]
    repeat (first | exact Over.refl _ | apply Over.cons)
  simp -dsimp (disch := omega) only [go_sem, c1, c2, c3, c4, c5, c6]
  refine ADraw.of (es := []) (pn := none) (T := [⟨false, false, 0, 0, 0⟩, ⟨false, false, 0, 0, 0⟩, ⟨false, true, 0, 0, 0⟩, ⟨false, false, 0, 0, 0⟩, ⟨false, false, 0, 0, 0⟩, ⟨false, true, 0, 0, 0⟩, ⟨false, false, 0, 0, 0⟩, ⟨false, false, 0, 0, 0⟩]) mixed (by kernel_rfl) ?_
  simp -dsimp (disch := omega) only [go_sem]
  refine AW.loop (ι := Nat × Nat) (fun i => Nat.gcd i.1 i.2 = Nat.gcd o.num.toNat o.den.toNat) (fun i => [(5, I i.1), (6, I i.2), (2, B false)]) (fun _ => some (.cells 244 [I o.till, I o.mul, I o.add, I o.num, I o.den, I o.off, I fr, B first]) :: m) (fun i => i.2) [] ⟨(o.num.toNat, o.den.toNat), rfl, Weak.of ?_ (mLe.refl _)⟩ ?_
  · simp only []
    rw [show ((o.num.toNat : Nat) : Int) = o.num by omega, show ((o.den.toNat : Nat) : Int) = o.den by omega]
    (simp only [frLe]; repeat' apply And.intro) <;> first | trivial | exact ⟨_, rfl, .refl _⟩
  · rintro ⟨x, y⟩ g1
    simp only [] at g1
    simp -dsimp (disch := omega) only [go_sem]
    refine Br.intro (fun h => ?_) (fun h => ?_)
    · simp -dsimp (disch := omega) only [go_sem]
      refine ADraw.of (es := []) (pn := none) (T := [⟨false, false, 0, 0, 0⟩, ⟨false, false, 0, 0, 0⟩, ⟨false, false, 0, 0, 0⟩, ⟨false, false, 0, 0, 0⟩, ⟨false, false, 0, 0, 0⟩, ⟨false, false, 0, 0, 0⟩]) mixed (by kernel_rfl) ?_
      simp -dsimp (disch := omega) only [go_sem]
      refine ⟨(y, x % y), ?_, Nat.mod_lt _ (by omega), Weak.of ?_ (mLe.refl _)⟩
      · rw [← g1, Nat.gcd_comm x y, Nat.gcd_rec y x, Nat.gcd_comm]
      · simp only [Int.natCast_emod]
        (simp only [frLe]; repeat' apply And.intro) <;> first | trivial | exact ⟨_, rfl, .refl _⟩
    · simp -dsimp (disch := omega) only [go_sem]
      obtain rfl : y = 0 := by omega
      rw [Nat.gcd_zero_right] at g1
      subst g1
      refine ⟨?_, ?_⟩
      · simp [c4, c5, c6]
        omega
      · repeat (first | exact Over.refl _ | apply Over.cons)

end Go.Proofs.YtbdefaebbicfjaaGreat
