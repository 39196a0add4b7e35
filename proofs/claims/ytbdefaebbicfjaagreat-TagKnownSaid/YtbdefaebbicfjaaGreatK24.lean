/- Equality. Printed by mk_c24.py. -/
import Derived.Test.YtbdefaebbicfjaaGreatK23
set_option linter.all false
namespace Go.Proofs.YtbdefaebbicfjaaGreat
open Go Go.Ab Go.RowKit
set_option maxHeartbeats 400000
set_option maxRecDepth 10000

theorem pop_ne {u v : POp} (e : ¬ u = v) : ¬ (u.code = v.code ∧ u.arg = v.arg) := by
  cases u; cases v
  simpa using e
theorem seg_ne {u v : Seg} (e : ¬ u = v) : ¬ (u.till = v.till ∧ u.mul = v.mul ∧ u.add = v.add ∧ u.num = v.num ∧ u.den = v.den ∧ u.off = v.off) := by
  cases u; cases v
  simpa using e

theorem eq45 (a b : List (Int)) (m : AM) (Q : AE → AM → Prop) (hQ : Q (.ret (B (decide (a = b)))) m) : ACalls Tryz.prog 45 [.d (ints a), .d (ints b)] m Q := by
  refine ACalls.tell (fun σ w vs _ hr => hr.len 0 rfl) fun hl => ?_
  rw [List.length_map, maxLen] at hl
  refine acalls_of_body Tryz.func45 (by rfl) (by rfl) (Nat.le_of_ble_eq_true rfl) ?_
  simp -dsimp (disch := omega) only [go_sem, Tryz.f45]
  by_cases hlen : (a.length : Int) = b.length
  rotate_left
  · rw [decide_eq_false (fun e => hlen (by rw [e]))] at hQ
    simp -dsimp (disch := omega) only [go_sem, hlen]
    exact hQ
  simp -dsimp (disch := omega) only [go_sem, hlen]
  refine AW.loop (ι := Nat) (fun i => i ≤ b.length ∧ ∀ j, j < i → a[j]? = b[j]?) (fun i => [(13, I i), (12, I b.length), (0, .d (ints a)), (1, .d (ints b))]) (fun _ => m) (fun i => b.length - i) [] ⟨0, ⟨by simp, by omega⟩, Weak.of ?_ (mLe.refl _)⟩ ?_
  · (simp only [frLe]; repeat' apply And.intro) <;> first | trivial | exact ⟨_, rfl, .refl _⟩
  · rintro i ⟨g1, g2⟩
    simp -dsimp (disch := omega) only [go_sem]
    refine Br.intro (fun h => ?_) (fun h => ?_)
    · obtain ⟨u, hu⟩ : ∃ u, a[i]? = some u := ⟨_, List.getElem?_eq_getElem (by omega)⟩
      obtain ⟨v, hv⟩ : ∃ v, b[i]? = some v := ⟨_, List.getElem?_eq_getElem (by omega)⟩
      simp -dsimp (disch := omega) only [go_sem]
      refine ADraw.of (es := []) (pn := none) (T := [⟨false, false, 0, 0, 0⟩, ⟨false, false, 0, 0, 0⟩, ⟨false, false, 0, 0, 0⟩, ⟨false, true, 0, 0, 0⟩, ⟨false, false, 0, 0, 0⟩, ⟨false, false, 0, 0, 0⟩, ⟨false, false, 0, 0, 0⟩, ⟨false, true, 0, 0, 0⟩, ⟨false, false, 0, 0, 0⟩]) mixed (by kernel_rfl) ?_
      simp -dsimp (disch := omega) only [go_sem, List.getD_eq_getElem?_getD, List.getElem?_map, Option.getD_some, hu, hv]
      by_cases e : u = v
      · subst e
        simp -dsimp (disch := omega) only [go_sem, and_self, Bool.not_true, not_true_eq_false]
        refine ⟨i + 1, ⟨by omega, fun j hj => ?_⟩, by omega, Weak.of ?_ (mLe.refl _)⟩
        · by_cases e : j = i
          · rw [e, hu, hv]
          · exact g2 j (by omega)
        · (simp only [frLe]; repeat' apply And.intro) <;> first | trivial | exact ⟨_, rfl, .refl _⟩
      · rw [decide_eq_false (fun h => e (by rw [h, hv] at hu; exact Option.some.inj hu.symm))] at hQ
        have e' := e
        simp -dsimp (disch := omega) only [go_sem, e']
        exact hQ
    · obtain rfl : i = b.length := by omega
      rw [decide_eq_true (List.ext_getElem? fun j => by
        by_cases hj : j < b.length
        · exact g2 j hj
        · rw [List.getElem?_eq_none (by omega), List.getElem?_eq_none (by omega)])] at hQ
      simp -dsimp (disch := omega) only [go_sem]
      exact hQ

theorem eq131 (a b : List (POp)) (m : AM) (Q : AE → AM → Prop) (hQ : Q (.ret (B (decide (a = b)))) m) : ACalls Tryz.prog 131 [.d (progD a), .d (progD b)] m Q := by
  refine ACalls.tell (fun σ w vs _ hr => hr.len 0 rfl) fun hl => ?_
  rw [List.length_map, maxLen] at hl
  refine acalls_of_body Tryz.func131 (by rfl) (by rfl) (Nat.le_of_ble_eq_true rfl) ?_
  simp -dsimp (disch := omega) only [go_sem, Tryz.f131]
  by_cases hlen : (a.length : Int) = b.length
  rotate_left
  · rw [decide_eq_false (fun e => hlen (by rw [e]))] at hQ
    simp -dsimp (disch := omega) only [go_sem, hlen]
    exact hQ
  simp -dsimp (disch := omega) only [go_sem, hlen]
  refine AW.loop (ι := Nat) (fun i => i ≤ b.length ∧ ∀ j, j < i → a[j]? = b[j]?) (fun i => [(13, I i), (12, I b.length), (0, .d (progD a)), (1, .d (progD b))]) (fun _ => m) (fun i => b.length - i) [] ⟨0, ⟨by simp, by omega⟩, Weak.of ?_ (mLe.refl _)⟩ ?_
  · (simp only [frLe]; repeat' apply And.intro) <;> first | trivial | exact ⟨_, rfl, .refl _⟩
  · rintro i ⟨g1, g2⟩
    simp -dsimp (disch := omega) only [go_sem]
    refine Br.intro (fun h => ?_) (fun h => ?_)
    · obtain ⟨u, hu⟩ : ∃ u, a[i]? = some u := ⟨_, List.getElem?_eq_getElem (by omega)⟩
      obtain ⟨v, hv⟩ : ∃ v, b[i]? = some v := ⟨_, List.getElem?_eq_getElem (by omega)⟩
      simp -dsimp (disch := omega) only [go_sem]
      refine ADraw.of (es := []) (pn := none) (T := [⟨false, false, 0, 0, 0⟩, ⟨false, false, 0, 0, 0⟩, ⟨false, false, 0, 0, 0⟩, ⟨false, true, 0, 0, 0⟩, ⟨false, false, 0, 0, 0⟩, ⟨false, false, 0, 0, 0⟩, ⟨false, false, 0, 0, 0⟩, ⟨false, true, 0, 0, 0⟩, ⟨false, false, 0, 0, 0⟩]) mixed (by kernel_rfl) ?_
      simp -dsimp (disch := omega) only [go_sem, List.getD_eq_getElem?_getD, List.getElem?_map, Option.getD_some, hu, hv]
      by_cases e : u = v
      · subst e
        refine Br.intro (fun h => absurd h (by simp)) (fun _ => ?_)
        simp -dsimp (disch := omega) only [go_sem]
        refine ⟨i + 1, ⟨by omega, fun j hj => ?_⟩, by omega, Weak.of ?_ (mLe.refl _)⟩
        · by_cases e : j = i
          · rw [e, hu, hv]
          · exact g2 j (by omega)
        · (simp only [frLe]; repeat' apply And.intro) <;> first | trivial | exact ⟨_, rfl, .refl _⟩
      · rw [decide_eq_false (fun h => e (by rw [h, hv] at hu; exact Option.some.inj hu.symm))] at hQ
        have e' := pop_ne e
        refine Br.intro (fun _ => ?_) (fun h => absurd (by intros; intro _; apply e'; simp only [*, and_self]) h)
        simp -dsimp (disch := omega) only [go_sem]
        exact hQ
    · obtain rfl : i = b.length := by omega
      rw [decide_eq_true (List.ext_getElem? fun j => by
        by_cases hj : j < b.length
        · exact g2 j hj
        · rw [List.getElem?_eq_none (by omega), List.getElem?_eq_none (by omega)])] at hQ
      simp -dsimp (disch := omega) only [go_sem]
      exact hQ

theorem eq165 (a b : List (Seg)) (m : AM) (Q : AE → AM → Prop) (hQ : Q (.ret (B (decide (a = b)))) m) : ACalls Tryz.prog 165 [.d (segsD a), .d (segsD b)] m Q := by
  refine ACalls.tell (fun σ w vs _ hr => hr.len 0 rfl) fun hl => ?_
  rw [List.length_map, maxLen] at hl
  refine acalls_of_body Tryz.func165 (by rfl) (by rfl) (Nat.le_of_ble_eq_true rfl) ?_
  simp -dsimp (disch := omega) only [go_sem, Tryz.f165]
  by_cases hlen : (a.length : Int) = b.length
  rotate_left
  · rw [decide_eq_false (fun e => hlen (by rw [e]))] at hQ
    simp -dsimp (disch := omega) only [go_sem, hlen]
    exact hQ
  simp -dsimp (disch := omega) only [go_sem, hlen]
  refine AW.loop (ι := Nat) (fun i => i ≤ b.length ∧ ∀ j, j < i → a[j]? = b[j]?) (fun i => [(13, I i), (12, I b.length), (0, .d (segsD a)), (1, .d (segsD b))]) (fun _ => m) (fun i => b.length - i) [] ⟨0, ⟨by simp, by omega⟩, Weak.of ?_ (mLe.refl _)⟩ ?_
  · (simp only [frLe]; repeat' apply And.intro) <;> first | trivial | exact ⟨_, rfl, .refl _⟩
  · rintro i ⟨g1, g2⟩
    simp -dsimp (disch := omega) only [go_sem]
    refine Br.intro (fun h => ?_) (fun h => ?_)
    · obtain ⟨u, hu⟩ : ∃ u, a[i]? = some u := ⟨_, List.getElem?_eq_getElem (by omega)⟩
      obtain ⟨v, hv⟩ : ∃ v, b[i]? = some v := ⟨_, List.getElem?_eq_getElem (by omega)⟩
      simp -dsimp (disch := omega) only [go_sem]
      refine ADraw.of (es := []) (pn := none) (T := [⟨false, false, 0, 0, 0⟩, ⟨false, false, 0, 0, 0⟩, ⟨false, false, 0, 0, 0⟩, ⟨false, true, 0, 0, 0⟩, ⟨false, false, 0, 0, 0⟩, ⟨false, false, 0, 0, 0⟩, ⟨false, false, 0, 0, 0⟩, ⟨false, true, 0, 0, 0⟩, ⟨false, false, 0, 0, 0⟩]) mixed (by kernel_rfl) ?_
      simp -dsimp (disch := omega) only [go_sem, List.getD_eq_getElem?_getD, List.getElem?_map, Option.getD_some, hu, hv]
      by_cases e : u = v
      · subst e
        refine Br.intro (fun h => absurd h (by simp)) (fun _ => ?_)
        simp -dsimp (disch := omega) only [go_sem]
        refine ⟨i + 1, ⟨by omega, fun j hj => ?_⟩, by omega, Weak.of ?_ (mLe.refl _)⟩
        · by_cases e : j = i
          · rw [e, hu, hv]
          · exact g2 j (by omega)
        · (simp only [frLe]; repeat' apply And.intro) <;> first | trivial | exact ⟨_, rfl, .refl _⟩
      · rw [decide_eq_false (fun h => e (by rw [h, hv] at hu; exact Option.some.inj hu.symm))] at hQ
        have e' := seg_ne e
        refine Br.intro (fun _ => ?_) (fun h => absurd (by intros; intro _; apply e'; simp only [*, and_self]) h)
        simp -dsimp (disch := omega) only [go_sem]
        exact hQ
    · obtain rfl : i = b.length := by omega
      rw [decide_eq_true (List.ext_getElem? fun j => by
        by_cases hj : j < b.length
        · exact g2 j hj
        · rw [List.getElem?_eq_none (by omega), List.getElem?_eq_none (by omega)])] at hQ
      simp -dsimp (disch := omega) only [go_sem]
      exact hQ

theorem eqf90 (fid : Nat) (a b : List (Elt)) (m : AM) (hf : ∀ u v (m : AM) (Q : AE → AM → Prop), Q (.ret (B (decide (u = v)))) m → ACalls Tryz.prog fid [Elt.enc u, Elt.enc v] m Q) (Q : AE → AM → Prop) (hQ : Q (.ret (B (decide (a = b)))) m) : ACalls Tryz.prog 90 [.d (eltsD a), .d (eltsD b), .fn (.func fid) [] []] m Q := by
  refine ACalls.tell (fun σ w vs _ hr => hr.len 0 rfl) fun hl => ?_
  rw [List.length_map, maxLen] at hl
  refine ACalls.fin ?_
  refine acalls_of_body Tryz.func90 (by rfl) (by rfl) (Nat.le_of_ble_eq_true rfl) ?_
  simp -dsimp (disch := omega) only [go_sem, Tryz.f90]
  by_cases hlen : (a.length : Int) = b.length
  rotate_left
  · rw [decide_eq_false (fun e => hlen (by rw [e]))] at hQ
    simp -dsimp (disch := omega) only [go_sem, hlen]
    refine ⟨_, _, .ret (.refl _), ?_, ?_, ?_, hQ⟩ <;> first | (exact Over.refl _) | (exact (Over.refl _).cons _) | (exact ((Over.refl _).cons _).cons _) | (exact (((Over.refl _).cons _).cons _).cons _) | (exact ((((Over.refl _).cons _).cons _).cons _).cons _) | exact Kept.refl _ | (exact (Kept.refl _).set (by simp only [ABlk.bd, AV.bd, AV.bdL, and_self])) | (simp only [AE.bd, AV.bd, AV.bdL, and_self]; done)
  simp -dsimp (disch := omega) only [go_sem, hlen]
  refine AW.loopB (ι := Nat) (fun i => i ≤ b.length ∧ ∀ j, j < i → a[j]? = b[j]?) (fun i => [(17, I i), (16, I b.length), (15, .d (eltsD a)), (1, .d (eltsD b)), (2, .fn (.func fid) [] [])]) (fun _ => m) (fun i => b.length - i) [] ⟨0, ⟨by simp, by omega⟩, Weak.of ?_ (mLe.refl _)⟩ ?_
  · (simp only [frLe]; repeat' apply And.intro) <;> first | trivial | exact ⟨_, rfl, .refl _⟩
  · rintro i ⟨g1, g2⟩
    simp -dsimp (disch := omega) only [go_sem]
    refine Br.intro (fun h => ?_) (fun h => ?_)
    · obtain ⟨u, hu⟩ : ∃ u, a[i]? = some u := ⟨_, List.getElem?_eq_getElem (by omega)⟩
      obtain ⟨v, hv⟩ : ∃ v, b[i]? = some v := ⟨_, List.getElem?_eq_getElem (by omega)⟩
      simp -dsimp (disch := omega) only [go_sem, List.getD_eq_getElem?_getD, List.getElem?_map, Option.getD_some, hu, hv]
      refine hf u v _ _ ?_
      by_cases e : u = v
      · rw [decide_eq_true e]
        simp -dsimp (disch := omega) only [go_sem]
        refine ⟨i + 1, ⟨by omega, fun j hj => ?_⟩, by omega, WeakB.cut ?_ (((Over.refl _).cons _).cons _) (Kept.refl _) ?_⟩
        · by_cases e2 : j = i
          · rw [e2, hu, hv, e]
          · exact g2 j (by omega)
        · (simp only [frLe]; repeat' apply And.intro) <;> first | trivial | exact ⟨_, rfl, .refl _⟩
        · simp only [frBd, AV.bd, AV.bdL, and_true, true_and, and_self]
      · rw [decide_eq_false (fun h => e (by rw [h, hv] at hu; exact Option.some.inj hu.symm))] at hQ
        rw [decide_eq_false e]
        simp -dsimp (disch := omega) only [go_sem]
        refine ⟨_, _, .ret (.refl _), ?_, ?_, ?_, hQ⟩ <;> first | (exact Over.refl _) | (exact (Over.refl _).cons _) | (exact ((Over.refl _).cons _).cons _) | (exact (((Over.refl _).cons _).cons _).cons _) | (exact ((((Over.refl _).cons _).cons _).cons _).cons _) | exact Kept.refl _ | (exact (Kept.refl _).set (by simp only [ABlk.bd, AV.bd, AV.bdL, and_self])) | (simp only [AE.bd, AV.bd, AV.bdL, and_self]; done)
    · obtain rfl : i = b.length := by omega
      rw [decide_eq_true (List.ext_getElem? fun j => by
        by_cases hj : j < b.length
        · exact g2 j hj
        · rw [List.getElem?_eq_none (by omega), List.getElem?_eq_none (by omega)])] at hQ
      simp -dsimp (disch := omega) only [go_sem]
      refine ⟨_, _, .ret (.refl _), ?_, ?_, ?_, hQ⟩ <;> first | (exact Over.refl _) | (exact (Over.refl _).cons _) | (exact ((Over.refl _).cons _).cons _) | (exact (((Over.refl _).cons _).cons _).cons _) | (exact ((((Over.refl _).cons _).cons _).cons _).cons _) | exact Kept.refl _ | (exact (Kept.refl _).set (by simp only [ABlk.bd, AV.bd, AV.bdL, and_self])) | (simp only [AE.bd, AV.bd, AV.bdL, and_self]; done)

theorem eqf126 (fid : Nat) (a b : List (Cur)) (m : AM) (hf : ∀ u v (m : AM) (Q : AE → AM → Prop), Q (.ret (B (decide (u = v)))) m → ACalls Tryz.prog fid [Cur.enc u, Cur.enc v] m Q) (Q : AE → AM → Prop) (hQ : Q (.ret (B (decide (a = b)))) m) : ACalls Tryz.prog 126 [.d (curvesD a), .d (curvesD b), .fn (.func fid) [] []] m Q := by
  refine ACalls.tell (fun σ w vs _ hr => hr.len 0 rfl) fun hl => ?_
  rw [List.length_map, maxLen] at hl
  refine ACalls.fin ?_
  refine acalls_of_body Tryz.func126 (by rfl) (by rfl) (Nat.le_of_ble_eq_true rfl) ?_
  simp -dsimp (disch := omega) only [go_sem, Tryz.f126]
  by_cases hlen : (a.length : Int) = b.length
  rotate_left
  · rw [decide_eq_false (fun e => hlen (by rw [e]))] at hQ
    simp -dsimp (disch := omega) only [go_sem, hlen]
    refine ⟨_, _, .ret (.refl _), ?_, ?_, ?_, hQ⟩ <;> first | (exact Over.refl _) | (exact (Over.refl _).cons _) | (exact ((Over.refl _).cons _).cons _) | (exact (((Over.refl _).cons _).cons _).cons _) | (exact ((((Over.refl _).cons _).cons _).cons _).cons _) | exact Kept.refl _ | (exact (Kept.refl _).set (by simp only [ABlk.bd, AV.bd, AV.bdL, and_self])) | (simp only [AE.bd, AV.bd, AV.bdL, and_self]; done)
  simp -dsimp (disch := omega) only [go_sem, hlen]
  refine AW.loopB (ι := Nat) (fun i => i ≤ b.length ∧ ∀ j, j < i → a[j]? = b[j]?) (fun i => [(17, I i), (16, I b.length), (15, .d (curvesD a)), (1, .d (curvesD b)), (2, .fn (.func fid) [] [])]) (fun _ => m) (fun i => b.length - i) [] ⟨0, ⟨by simp, by omega⟩, Weak.of ?_ (mLe.refl _)⟩ ?_
  · (simp only [frLe]; repeat' apply And.intro) <;> first | trivial | exact ⟨_, rfl, .refl _⟩
  · rintro i ⟨g1, g2⟩
    simp -dsimp (disch := omega) only [go_sem]
    refine Br.intro (fun h => ?_) (fun h => ?_)
    · obtain ⟨u, hu⟩ : ∃ u, a[i]? = some u := ⟨_, List.getElem?_eq_getElem (by omega)⟩
      obtain ⟨v, hv⟩ : ∃ v, b[i]? = some v := ⟨_, List.getElem?_eq_getElem (by omega)⟩
      simp -dsimp (disch := omega) only [go_sem, List.getD_eq_getElem?_getD, List.getElem?_map, Option.getD_some, hu, hv]
      refine hf u v _ _ ?_
      by_cases e : u = v
      · rw [decide_eq_true e]
        simp -dsimp (disch := omega) only [go_sem]
        refine ⟨i + 1, ⟨by omega, fun j hj => ?_⟩, by omega, WeakB.cut ?_ (((Over.refl _).cons _).cons _) (Kept.refl _) ?_⟩
        · by_cases e2 : j = i
          · rw [e2, hu, hv, e]
          · exact g2 j (by omega)
        · (simp only [frLe]; repeat' apply And.intro) <;> first | trivial | exact ⟨_, rfl, .refl _⟩
        · simp only [frBd, AV.bd, AV.bdL, and_true, true_and, and_self]
      · rw [decide_eq_false (fun h => e (by rw [h, hv] at hu; exact Option.some.inj hu.symm))] at hQ
        rw [decide_eq_false e]
        simp -dsimp (disch := omega) only [go_sem]
        refine ⟨_, _, .ret (.refl _), ?_, ?_, ?_, hQ⟩ <;> first | (exact Over.refl _) | (exact (Over.refl _).cons _) | (exact ((Over.refl _).cons _).cons _) | (exact (((Over.refl _).cons _).cons _).cons _) | (exact ((((Over.refl _).cons _).cons _).cons _).cons _) | exact Kept.refl _ | (exact (Kept.refl _).set (by simp only [ABlk.bd, AV.bd, AV.bdL, and_self])) | (simp only [AE.bd, AV.bd, AV.bdL, and_self]; done)
    · obtain rfl : i = b.length := by omega
      rw [decide_eq_true (List.ext_getElem? fun j => by
        by_cases hj : j < b.length
        · exact g2 j hj
        · rw [List.getElem?_eq_none (by omega), List.getElem?_eq_none (by omega)])] at hQ
      simp -dsimp (disch := omega) only [go_sem]
      refine ⟨_, _, .ret (.refl _), ?_, ?_, ?_, hQ⟩ <;> first | (exact Over.refl _) | (exact (Over.refl _).cons _) | (exact ((Over.refl _).cons _).cons _) | (exact (((Over.refl _).cons _).cons _).cons _) | (exact ((((Over.refl _).cons _).cons _).cons _).cons _) | exact Kept.refl _ | (exact (Kept.refl _).set (by simp only [ABlk.bd, AV.bd, AV.bdL, and_self])) | (simp only [AE.bd, AV.bd, AV.bdL, and_self]; done)

theorem eqf128 (fid : Nat) (a b : List (List Int)) (m : AM) (hf : ∀ u v (m : AM) (Q : AE → AM → Prop), Q (.ret (B (decide (u = v)))) m → ACalls Tryz.prog fid [(fun l => AV.d (ints l)) u, (fun l => AV.d (ints l)) v] m Q) (Q : AE → AM → Prop) (hQ : Q (.ret (B (decide (a = b)))) m) : ACalls Tryz.prog 128 [.d (rowsD a), .d (rowsD b), .fn (.func fid) [] []] m Q := by
  refine ACalls.tell (fun σ w vs _ hr => hr.len 0 rfl) fun hl => ?_
  rw [List.length_map, maxLen] at hl
  refine ACalls.fin ?_
  refine acalls_of_body Tryz.func128 (by rfl) (by rfl) (Nat.le_of_ble_eq_true rfl) ?_
  simp -dsimp (disch := omega) only [go_sem, Tryz.f128]
  by_cases hlen : (a.length : Int) = b.length
  rotate_left
  · rw [decide_eq_false (fun e => hlen (by rw [e]))] at hQ
    simp -dsimp (disch := omega) only [go_sem, hlen]
    refine ⟨_, _, .ret (.refl _), ?_, ?_, ?_, hQ⟩ <;> first | (exact Over.refl _) | (exact (Over.refl _).cons _) | (exact ((Over.refl _).cons _).cons _) | (exact (((Over.refl _).cons _).cons _).cons _) | (exact ((((Over.refl _).cons _).cons _).cons _).cons _) | exact Kept.refl _ | (exact (Kept.refl _).set (by simp only [ABlk.bd, AV.bd, AV.bdL, and_self])) | (simp only [AE.bd, AV.bd, AV.bdL, and_self]; done)
  simp -dsimp (disch := omega) only [go_sem, hlen]
  refine AW.loopB (ι := Nat) (fun i => i ≤ b.length ∧ ∀ j, j < i → a[j]? = b[j]?) (fun i => [(17, I i), (16, I b.length), (15, .d (rowsD a)), (1, .d (rowsD b)), (2, .fn (.func fid) [] [])]) (fun _ => m) (fun i => b.length - i) [] ⟨0, ⟨by simp, by omega⟩, Weak.of ?_ (mLe.refl _)⟩ ?_
  · (simp only [frLe]; repeat' apply And.intro) <;> first | trivial | exact ⟨_, rfl, .refl _⟩
  · rintro i ⟨g1, g2⟩
    simp -dsimp (disch := omega) only [go_sem]
    refine Br.intro (fun h => ?_) (fun h => ?_)
    · obtain ⟨u, hu⟩ : ∃ u, a[i]? = some u := ⟨_, List.getElem?_eq_getElem (by omega)⟩
      obtain ⟨v, hv⟩ : ∃ v, b[i]? = some v := ⟨_, List.getElem?_eq_getElem (by omega)⟩
      simp -dsimp (disch := omega) only [go_sem, List.getD_eq_getElem?_getD, List.getElem?_map, Option.getD_some, hu, hv]
      refine hf u v _ _ ?_
      by_cases e : u = v
      · rw [decide_eq_true e]
        simp -dsimp (disch := omega) only [go_sem]
        refine ⟨i + 1, ⟨by omega, fun j hj => ?_⟩, by omega, WeakB.cut ?_ (Over.refl _) (Kept.refl _) ?_⟩
        · by_cases e2 : j = i
          · rw [e2, hu, hv, e]
          · exact g2 j (by omega)
        · (simp only [frLe]; repeat' apply And.intro) <;> first | trivial | exact ⟨_, rfl, .refl _⟩
        · simp only [frBd, AV.bd, AV.bdL, and_true, true_and, and_self]
      · rw [decide_eq_false (fun h => e (by rw [h, hv] at hu; exact Option.some.inj hu.symm))] at hQ
        rw [decide_eq_false e]
        simp -dsimp (disch := omega) only [go_sem]
        refine ⟨_, _, .ret (.refl _), ?_, ?_, ?_, hQ⟩ <;> first | (exact Over.refl _) | (exact (Over.refl _).cons _) | (exact ((Over.refl _).cons _).cons _) | (exact (((Over.refl _).cons _).cons _).cons _) | (exact ((((Over.refl _).cons _).cons _).cons _).cons _) | exact Kept.refl _ | (exact (Kept.refl _).set (by simp only [ABlk.bd, AV.bd, AV.bdL, and_self])) | (simp only [AE.bd, AV.bd, AV.bdL, and_self]; done)
    · obtain rfl : i = b.length := by omega
      rw [decide_eq_true (List.ext_getElem? fun j => by
        by_cases hj : j < b.length
        · exact g2 j hj
        · rw [List.getElem?_eq_none (by omega), List.getElem?_eq_none (by omega)])] at hQ
      simp -dsimp (disch := omega) only [go_sem]
      refine ⟨_, _, .ret (.refl _), ?_, ?_, ?_, hQ⟩ <;> first | (exact Over.refl _) | (exact (Over.refl _).cons _) | (exact ((Over.refl _).cons _).cons _) | (exact (((Over.refl _).cons _).cons _).cons _) | (exact ((((Over.refl _).cons _).cons _).cons _).cons _) | exact Kept.refl _ | (exact (Kept.refl _).set (by simp only [ABlk.bd, AV.bd, AV.bdL, and_self])) | (simp only [AE.bd, AV.bd, AV.bdL, and_self]; done)
end Go.Proofs.YtbdefaebbicfjaaGreat
