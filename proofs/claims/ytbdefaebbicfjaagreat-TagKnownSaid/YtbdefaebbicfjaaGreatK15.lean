/- Tags: the check. -/
import Derived.Test.YtbdefaebbicfjaaGreatK14
set_option linter.all false
namespace Go.Proofs.YtbdefaebbicfjaaGreat
open Go Go.Ab Go.RowKit
set_option maxHeartbeats 400000
set_option maxRecDepth 10000

def textChar (b : UInt8) : Bool := decide (32 ≤ (b.toNat : Int) ∧ (b.toNat : Int) ≤ 126)
def textFine (s : List UInt8) : Bool := decide (1 ≤ (s.length : Int) ∧ (s.length : Int) ≤ 200) && s.all textChar

theorem all_step {α : Type} {p : α → Bool} {l : List α} {i : Nat} {b : α} (hb : l[i]? = some b) (hp : p b = true) (h : ∀ j v, j < i → l[j]? = some v → p v = true) : ∀ j v, j < i + 1 → l[j]? = some v → p v = true := fun j v hj hv => by
  by_cases e : j = i
  · subst e
    rw [hb] at hv
    cases hv
    exact hp
  · exact h j v (by omega) hv
theorem all_end {α : Type} {p : α → Bool} {l : List α} (h : ∀ j v, j < l.length → l[j]? = some v → p v = true) : l.all p = true := List.all_eq_true.2 fun v hv => by
  obtain ⟨j, hj⟩ := List.mem_iff_getElem?.1 hv
  exact h j v (List.getElem?_eq_some_iff.1 hj).1 hj
theorem all_not {α : Type} {p : α → Bool} {l : List α} {i : Nat} {b : α} (hb : l[i]? = some b) (hp : p b = false) : l.all p = false := List.all_eq_false.2 ⟨b, List.mem_of_getElem? hb, by simp [hp]⟩

theorem goodText (s : List UInt8) (m : AM) (Q : AE → AM → Prop) (hQ : Q (.ret (B (textFine s))) m) : ACalls Tryz.prog 41 [S s] m Q := by
  unfold textFine at hQ
  refine acalls_of_body Tryz.func41 (by rfl) (by rfl) (Nat.le_of_ble_eq_true rfl) ?_
  simp -dsimp (disch := omega) only [go_sem, Tryz.f41]
  by_cases h1 : (s.length : Int) < 1
  · rw [decide_eq_false (by omega)] at hQ
    simp -dsimp (disch := omega) only [go_sem, h1]
    exact hQ
  by_cases h2 : 200 < (s.length : Int)
  · rw [decide_eq_false (by omega)] at hQ
    simp -dsimp (disch := omega) only [go_sem, h1, h2]
    exact hQ
  rw [decide_eq_true (by omega), Bool.true_and] at hQ
  simp -dsimp (disch := omega) only [go_sem, h1, h2]
  refine AW.loop (ι := Nat) (fun i => i ≤ s.length ∧ ∀ j v, j < i → s[j]? = some v → textChar v = true) (fun i => [(14, I i), (13, I s.length), (0, S s)]) (fun _ => m) (fun i => s.length - i) [] ⟨0, ⟨by simp, by omega⟩, Weak.of ?_ (mLe.refl _)⟩ ?_
  · (simp only [frLe]; repeat' apply And.intro) <;> first | trivial | exact ⟨_, rfl, .refl _⟩
  · rintro i ⟨g1, g2⟩
    simp -dsimp (disch := omega) only [go_sem]
    refine Br.intro (fun h => ?_) (fun h => ?_)
    · obtain ⟨b, hb⟩ : ∃ b, s[i]? = some b := ⟨_, List.getElem?_eq_getElem (by omega)⟩
      by_cases c1 : (b.toNat : Int) < 32
      · rw [all_not hb (by simp only [textChar]; rw [decide_eq_false (by omega)])] at hQ
        simp -dsimp (disch := omega) only [go_sem, List.getD_eq_getElem?_getD, Option.getD_some, hb, c1]
        exact hQ
      by_cases c2 : 126 < (b.toNat : Int)
      · rw [all_not hb (by simp only [textChar]; rw [decide_eq_false (by omega)])] at hQ
        simp -dsimp (disch := omega) only [go_sem, List.getD_eq_getElem?_getD, Option.getD_some, hb, c1, c2]
        exact hQ
      simp -dsimp (disch := omega) only [go_sem, List.getD_eq_getElem?_getD, Option.getD_some, hb, c1, c2]
      refine ⟨i + 1, ⟨by omega, all_step hb (by simp only [textChar]; rw [decide_eq_true (by omega)]) g2⟩, by omega, Weak.of ?_ (mLe.refl _)⟩
      (simp only [frLe]; repeat' apply And.intro) <;> first | trivial | exact ⟨_, rfl, .refl _⟩
    · obtain rfl : i = s.length := by omega
      rw [all_end g2] at hQ
      simp -dsimp (disch := omega) only [go_sem]
      exact hQ

def signChar (b : UInt8) : Bool := decide ((97 ≤ (b.toNat : Int) ∧ (b.toNat : Int) ≤ 122) ∨ (48 ≤ (b.toNat : Int) ∧ (b.toNat : Int) ≤ 57))
def signFine (s : List UInt8) : Bool := decide ((s.length : Int) = 4) && s.all signChar

theorem goodSign (s : List UInt8) (m : AM) (Q : AE → AM → Prop) (hQ : Q (.ret (B (signFine s))) m) : ACalls Tryz.prog 44 [S s] m Q := by
  unfold signFine at hQ
  refine acalls_of_body Tryz.func44 (by rfl) (by rfl) (Nat.le_of_ble_eq_true rfl) ?_
  simp -dsimp (disch := omega) only [go_sem, Tryz.f44]
  by_cases h1 : (s.length : Int) = 4
  rotate_left
  · rw [decide_eq_false h1] at hQ
    simp -dsimp (disch := omega) only [go_sem, h1]
    exact hQ
  rw [decide_eq_true h1, Bool.true_and] at hQ
  simp -dsimp (disch := omega) only [go_sem, h1]
  refine AW.loop (ι := Nat) (fun i => i ≤ s.length ∧ ∀ j v, j < i → s[j]? = some v → signChar v = true) (fun i => [(11, I i), (10, I 4), (0, S s)]) (fun _ => m) (fun i => s.length - i) [] ⟨0, ⟨by simp, by omega⟩, Weak.of ?_ (mLe.refl _)⟩ ?_
  · (simp only [frLe]; repeat' apply And.intro) <;> first | trivial | exact ⟨_, rfl, .refl _⟩
  · rintro i ⟨g1, g2⟩
    simp -dsimp (disch := omega) only [go_sem]
    refine Br.intro (fun h => ?_) (fun h => ?_)
    · obtain ⟨b, hb⟩ : ∃ b, s[i]? = some b := ⟨_, List.getElem?_eq_getElem (by omega)⟩
      by_cases hc : signChar b = true
      · simp only [signChar, decide_eq_true_eq] at hc
        by_cases c1 : 97 ≤ (b.toNat : Int) <;> by_cases c2 : (b.toNat : Int) ≤ 122 <;> by_cases c3 : 48 ≤ (b.toNat : Int) <;> by_cases c4 : (b.toNat : Int) ≤ 57 <;> first | (exfalso; omega) | skip
        all_goals
          simp -dsimp (disch := omega) only [go_sem, List.getD_eq_getElem?_getD, Option.getD_some, hb, c1, c2, c3, c4]
          refine ⟨i + 1, ⟨by omega, all_step hb (by simp only [signChar]; rw [decide_eq_true (by omega)]) g2⟩, by omega, Weak.of ?_ (mLe.refl _)⟩
          (simp only [frLe]; repeat' apply And.intro) <;> first | trivial | exact ⟨_, rfl, .refl _⟩
      · rw [all_not hb (by simpa using hc)] at hQ
        simp only [signChar, decide_eq_true_eq] at hc
        by_cases c1 : 97 ≤ (b.toNat : Int) <;> by_cases c2 : (b.toNat : Int) ≤ 122 <;> by_cases c3 : 48 ≤ (b.toNat : Int) <;> by_cases c4 : (b.toNat : Int) ≤ 57 <;> first | (exfalso; omega) | skip
        all_goals
          simp -dsimp (disch := omega) only [go_sem, List.getD_eq_getElem?_getD, Option.getD_some, hb, c1, c2, c3, c4]
          exact hQ
    · obtain rfl : i = s.length := by omega
      rw [all_end g2] at hQ
      simp -dsimp (disch := omega) only [go_sem]
      exact hQ

def wideF (x : Int) : Bool := decide (x < -2147483648 ∨ 2147483647 < x)
theorem wide (x : Int) (m : AM) (Q : AE → AM → Prop) (hQ : Q (.ret (B (wideF x))) m) : ACalls Tryz.prog 88 [I x] m Q := by
  unfold wideF at hQ
  refine acalls_of_body Tryz.func88 (by rfl) (by rfl) (Nat.le_of_ble_eq_true rfl) ?_
  simp -dsimp (disch := omega) only [go_sem, Tryz.f88]
  by_cases h : x < -2147483648
  · simp -dsimp (disch := omega) only [go_sem, h]
    simpa [h] using hQ
  · simp -dsimp (disch := omega) only [go_sem, h]
    simpa [h] using hQ
def numsFine (l : List Int) : Bool := decide (1 ≤ (l.length : Int) ∧ (l.length : Int) ≤ 12) && !l.any wideF
theorem goodNumbers (l : List Int) (m : AM) (Q : AE → AM → Prop) (hQ : Q (.ret (B (numsFine l))) m) : ACalls Tryz.prog 42 [.d (ints l)] m Q := by
  unfold numsFine at hQ
  refine acalls_of_body Tryz.func42 (by rfl) (by rfl) (Nat.le_of_ble_eq_true rfl) ?_
  simp -dsimp (disch := omega) only [go_sem, Tryz.f42]
  by_cases h : (l.length : Int) < 1
  · rw [decide_eq_false (by omega)] at hQ
    simp -dsimp (disch := omega) only [go_sem, h]
    exact hQ
  by_cases h2 : 12 < (l.length : Int)
  · rw [decide_eq_false (by omega)] at hQ
    simp -dsimp (disch := omega) only [go_sem, h, h2]
    exact hQ
  rw [decide_eq_true (by omega)] at hQ
  simp -dsimp (disch := omega) only [go_sem, h, h2]
  refine any87 wideF 88 [] [] l _ (fun v Q _ hq => wide v _ Q hq) (by omega) _ ?_
  simp -dsimp (disch := omega) only [go_sem]
  exact hQ

def noChn (t : Tg) : Bool := decide (t.chain.nin = 0) && decide ((t.chain.elts.length : Int) = 0)
def noNums (t : Tg) : Bool := decide ((t.numbers.length : Int) = 0)
def noText (t : Tg) : Bool := t.text == []
def tgBody (t : Tg) : Bool := if t.kind = 1 then noNums t && (noChn t && textFine t.text) else if t.kind = 2 then noText t && (noChn t && numsFine t.numbers) else if t.kind = 3 then noText t && (noNums t && decide (chnE t.chain = 0)) else false
def tgE (t : Tg) : Int := if (tgBody t && signFine t.sign) = true then 0 else 150

theorem tagCheck (t : Tg) (m : AM) (Q : AE → AM → Prop) (hQ : Q (.ret (I (tgE t))) m) : ACalls Tryz.prog 16 [Tg.enc t] m Q := by
  refine ACalls.cut0 hQ (by simp only [AE.bd, AV.bd, AV.bdL, and_self]) ?_
  refine acalls_of_AW Tryz.func16 (by rfl) (by rfl) (Nat.le_of_ble_eq_true rfl) ?_
  refine AW.step ?_
  simp -dsimp (disch := omega) only [go_sem, Tryz.f16]
  refine AW.step ?_
  simp -dsimp (disch := omega) only [go_sem, Tryz.f16]
  refine AW.step ?_
  simp -dsimp (disch := omega) only [go_sem, Tryz.f16]
  refine AW.chk (ι := Bool) (fun b => b = noChn t) (fun b => [(5, B b), (4, B (noNums t)), (3, B (noText t)), (2, I 0), (1, .ptr m.length 0)]) (fun _ => some (.cells 41 [S t.sign, I t.kind, S t.text, .d (ints t.numbers), I t.chain.nin, .d (eltsD t.chain.elts)]) :: m) [] ?_ ?_
  · by_cases h1 : t.chain.nin = 0 <;> by_cases h2 : (t.chain.elts.length : Int) = 0 <;> simp -dsimp (disch := omega) only [go_sem, Tryz.f16, h1, h2]
    all_goals
      refine ⟨_, ?_, Weak.of (by (simp only [frLe]; repeat' apply And.intro) <;> first | trivial | exact ⟨_, rfl, .refl _⟩) (mLe.refl _)⟩
      simp only [noChn, Bool.and_true, Bool.and_false, Bool.true_and, Bool.false_and, decide_true, decide_false, h1, h2]
  rintro _ rfl
  refine AW.step ?_
  simp -dsimp (disch := omega) only [go_sem, Tryz.f16]
  refine AW.chk (ι := Bool) (fun b => b = tgBody t) (fun b => [(6, B b), (1, .ptr m.length 0)]) (fun _ => some (.cells 41 [S t.sign, I t.kind, S t.text, .d (ints t.numbers), I t.chain.nin, .d (eltsD t.chain.elts)]) :: m) [] ?_ ?_
  · unfold tgBody
    by_cases k1 : t.kind = 1
    · cases a1 : noNums t <;> cases a2 : noChn t <;> simp -dsimp (disch := omega) only [go_sem, Tryz.f16, k1, a1, a2]
      all_goals first
        | (refine goodText _ _ _ ?_; simp -dsimp (disch := omega) only [go_sem, Tryz.f16, k1, a1, a2])
        | skip
      all_goals
        refine ⟨_, ?_, Weak.of (by (simp only [frLe]; repeat' apply And.intro) <;> first | trivial | exact ⟨_, rfl, .refl _⟩) (mLe.refl _)⟩
        simp [k1, a1, a2]
    by_cases k2 : t.kind = 2
    · cases a1 : noText t <;> cases a2 : noChn t <;> simp -dsimp (disch := omega) only [go_sem, Tryz.f16, k2, a1, a2]
      all_goals first
        | (refine goodNumbers _ _ _ ?_; simp -dsimp (disch := omega) only [go_sem, Tryz.f16, k2, a1, a2])
        | skip
      all_goals
        refine ⟨_, ?_, Weak.of (by (simp only [frLe]; repeat' apply And.intro) <;> first | trivial | exact ⟨_, rfl, .refl _⟩) (mLe.refl _)⟩
        simp [k2, a1, a2]
    by_cases k3 : t.kind = 3
    · cases a1 : noText t <;> cases a2 : noNums t <;> simp -dsimp (disch := omega) only [go_sem, Tryz.f16, k3, a1, a2]
      all_goals first
        | (refine chnCheck t.chain _ _ ?_; simp -dsimp (disch := omega) only [go_sem, Tryz.f16, k3, a1, a2])
        | skip
      all_goals
        refine ⟨_, ?_, Weak.of (by (simp only [frLe]; repeat' apply And.intro) <;> first | trivial | exact ⟨_, rfl, .refl _⟩) (mLe.refl _)⟩
        simp [k3, a1, a2]
    simp -dsimp (disch := omega) only [go_sem, Tryz.f16, k1, k2, k3]
    refine ⟨_, ?_, Weak.of (by (simp only [frLe]; repeat' apply And.intro) <;> first | trivial | exact ⟨_, rfl, .refl _⟩) (mLe.refl _)⟩
    simp [k1, k2, k3]
  rintro _ rfl
  refine awpC_ok _ _ _ _ ?_
  unfold tgE
  cases h : tgBody t
  · simp -dsimp (disch := omega) only [go_sem, Tryz.f16]
    repeat (first | exact Over.refl _ | apply Over.cons)
  · simp -dsimp (disch := omega) only [go_sem, Tryz.f16]
    refine goodSign _ _ _ ?_
    cases h2 : signFine t.sign <;> simp -dsimp (disch := omega) only [go_sem, Tryz.f16]
    · repeat (first | exact Over.refl _ | apply Over.cons)
    · repeat (first | exact Over.refl _ | apply Over.cons)
end Go.Proofs.YtbdefaebbicfjaaGreat
