/- Octets of numbers. -/
import Derived.Test.YtbdefaebbicfjaaGreatK18
set_option linter.all false
namespace Go.Proofs.YtbdefaebbicfjaaGreat
open Go Go.Ab Go.RowKit
set_option maxHeartbeats 400000
set_option maxRecDepth 10000

def octF1 (x : Int) : UInt8 := UInt8.ofNat (IntKind.u8.wrap x).toNat
def octs4 (n : Int) : List UInt8 := [octF1 (n.fdiv 16777216), octF1 (n.fdiv 65536), octF1 (n.fdiv 256), octF1 (n.fdiv 1)]
def putS (n w : Int) : List UInt8 := (octs4 n).drop (4 - w.toNat)

theorem writer1 (n w : Int) (hw : w = 1 ∨ w = 2 ∨ w = 4) (b : Nat) (m : AM) (hb : m.get b = some (.cells 3 [I w])) (Q : AE → AM → Prop) (hQ : Q (.ret (S (putS n w))) m) : ACalls Tryz.prog 210 [I n, .ptr b 0] m Q := by
  refine ACalls.fin ?_
  have hlt := AM.get_lt _ _ _ hb
  refine acalls_of_body Tryz.func210 (by rfl) (by rfl) (Nat.le_of_ble_eq_true rfl) ?_
  simp -dsimp (disch := omega) only [go_sem, Tryz.f210]
  refine ALoop.unr 5 ?_
  simp -dsimp (disch := omega) only [go_sem]
  rcases hw with rfl | rfl | rfl
  · simp -dsimp (disch := omega) only [go_sem, hb, cellsBytes]
    refine ⟨_, _, .ret (.refl _), ?_, ?_, ?_, hQ⟩ <;> first | (exact Over.refl _) | (exact (Over.refl _).cons _) | (exact ((Over.refl _).cons _).cons _) | (exact (((Over.refl _).cons _).cons _).cons _) | (exact ((((Over.refl _).cons _).cons _).cons _).cons _) | exact Kept.refl _ | (exact (Kept.refl _).set (by simp only [ABlk.bd, AV.bd, AV.bdL, and_self])) | (simp only [AE.bd, AV.bd, AV.bdL, and_self]; done)
  · simp -dsimp (disch := omega) only [go_sem, hb, cellsBytes]
    refine ⟨_, _, .ret (.refl _), ?_, ?_, ?_, hQ⟩ <;> first | (exact Over.refl _) | (exact (Over.refl _).cons _) | (exact ((Over.refl _).cons _).cons _) | (exact (((Over.refl _).cons _).cons _).cons _) | (exact ((((Over.refl _).cons _).cons _).cons _).cons _) | exact Kept.refl _ | (exact (Kept.refl _).set (by simp only [ABlk.bd, AV.bd, AV.bdL, and_self])) | (simp only [AE.bd, AV.bd, AV.bdL, and_self]; done)
  · simp -dsimp (disch := omega) only [go_sem, hb, cellsBytes]
    refine ⟨_, _, .ret (.refl _), ?_, ?_, ?_, hQ⟩ <;> first | (exact Over.refl _) | (exact (Over.refl _).cons _) | (exact ((Over.refl _).cons _).cons _) | (exact (((Over.refl _).cons _).cons _).cons _) | (exact ((((Over.refl _).cons _).cons _).cons _).cons _) | exact Kept.refl _ | (exact (Kept.refl _).set (by simp only [ABlk.bd, AV.bd, AV.bdL, and_self])) | (simp only [AE.bd, AV.bd, AV.bdL, and_self]; done)

/-- What writers returns: its fourth part, a span and a function that holds the width. -/
abbrev wrt (lo hi : Int) (b : Nat) : List AV := [I lo, I hi, .fn (.func 210) [] [.ptr b 0]]
theorem writer (lo hi w : Int) (m : AM) (Q : AE → AM → Prop) (hQ : Q (.ret (.agg (wrt lo hi m.length))) (some (.cells 3 [I w]) :: m)) : ACalls Tryz.prog 209 [I lo, I hi, I w] m Q := by
  refine ACalls.fin ?_
  refine acalls_of_body Tryz.func209 (by rfl) (by rfl) (Nat.le_of_ble_eq_true rfl) ?_
  simp -dsimp (disch := omega) only [go_sem, Tryz.f209]
  refine ⟨_, _, .ret (.refl _), (Over.refl _).cons _, (Kept.refl _).push (by simp only [frBd, preBd, ABlk.bd, AV.bd, AV.bdL, List.length_cons, List.length_nil, List.length_append, List.nil_append, List.cons_append, and_true, true_and] <;> (try omega)), ?_, hQ⟩
  simp only [AE.bd, AV.bd, AV.bdL, and_true, true_and, List.length_cons]
  omega

theorem writers (m : AM) (Q : AE → AM → Prop) (hQ : ∀ k1 k2 k3 k4 m', (Over m m') → m'.get k1 = some (.cells 3 [I 1]) → m'.get k2 = some (.cells 3 [I 2]) → m'.get k3 = some (.cells 3 [I 4]) → m'.get k4 = some (.cells 3 [I 4]) → Q (.ret (.agg (wrt 0 255 k1 ++ wrt 0 65535 k2 ++ wrt 0 4294967295 k3 ++ wrt (-2147483648) 2147483647 k4))) m') : ACalls Tryz.prog 190 [] m Q := by
  refine acalls_of_body Tryz.func190 (by rfl) (by rfl) (Nat.le_of_ble_eq_true rfl) ?_
  simp -dsimp (disch := omega) only [go_sem, Tryz.f190]
  refine writer _ _ _ _ _ ?_
  simp -dsimp (disch := omega) only [go_sem]
  refine writer _ _ _ _ _ ?_
  simp -dsimp (disch := omega) only [go_sem]
  refine writer _ _ _ _ _ ?_
  simp -dsimp (disch := omega) only [go_sem]
  refine writer _ _ _ _ _ ?_
  simp -dsimp (disch := omega) only [go_sem]
  refine hQ _ _ _ _ _ ?_ ?_ ?_ ?_ ?_
  · repeat (first | exact Over.refl _ | apply Over.cons)
  · simp -dsimp (disch := omega) only [go_sem]
  · simp -dsimp (disch := omega) only [go_sem]
  · simp -dsimp (disch := omega) only [go_sem]
  · simp -dsimp (disch := omega) only [go_sem]

/-- What put writes, if there is such a span. -/
def putF (n lo hi : Int) : List UInt8 × Int := if lo ≤ n ∧ n ≤ hi then (if (lo, hi) = (0, 255) then (putS n 1, 0) else if (lo, hi) = (0, 65535) then (putS n 2, 0) else if (lo, hi) = (0, 4294967295) then (putS n 4, 0) else if (lo, hi) = (-2147483648, 2147483647) then (putS n 4, 0) else ([], 2)) else ([], 2)

theorem put (n lo hi : Int) (h : (lo, hi) = (0, 255) ∨ (lo, hi) = (0, 65535) ∨ (lo, hi) = (-2147483648, 2147483647)) (m : AM) (Q : AE → AM → Prop) (hQ : Q (.ret (.tup [S (putF n lo hi).1, I (putF n lo hi).2])) m) : ACalls Tryz.prog 156 [I n, I lo, I hi] m Q := by
  refine ACalls.fin ?_
  refine acalls_of_body Tryz.func156 (by rfl) (by rfl) (Nat.le_of_ble_eq_true rfl) ?_
  simp -dsimp (disch := omega) only [go_sem, Tryz.f156]
  refine writers _ _ fun k1 k2 k3 k4 m' ho w1 w2 w3 w4 => ?_
  have l1 := AM.get_lt _ _ _ w1
  have l2 := AM.get_lt _ _ _ w2
  have l3 := AM.get_lt _ _ _ w3
  have l4 := AM.get_lt _ _ _ w4
  simp -dsimp (disch := omega) only [go_sem]
  rcases h with h | h | h
  · obtain ⟨rfl, rfl⟩ := Prod.mk.inj h
    by_cases r1 : 0 ≤ n
    · by_cases r2 : n ≤ 255
      · have e : putF n 0 255 = (putS n 1, 0) := by unfold putF; rw [if_pos ⟨r1, r2⟩]; simp
        rw [e] at hQ
        refine ALoop.unr 5 ?_
        simp -dsimp (disch := omega) only [go_sem, r1, r2]
        refine writer1 n 1 (.inl rfl) k1 _ (by simp -dsimp (disch := omega) only [go_sem, w1]) _ ?_
        simp -dsimp (disch := omega) only [go_sem]
        refine ⟨_, m, .ret (.refl _), ?_, Kept.refl _, ?_, hQ⟩
        · repeat (first | exact ho | apply Over.cons)
        · simp only [AE.bd, AV.bd, AV.bdL, and_self]
      · have e : putF n 0 255 = ([], 2) := by unfold putF; rw [if_neg (fun h => r2 h.2)]
        rw [e] at hQ
        refine ALoop.unr 5 ?_
        simp -dsimp (disch := omega) only [go_sem, r1, r2]
        refine ⟨_, m, .ret (.refl _), ?_, Kept.refl _, ?_, hQ⟩
        · repeat (first | exact ho | apply Over.cons)
        · simp only [AE.bd, AV.bd, AV.bdL, and_self]
    · have e : putF n 0 255 = ([], 2) := by unfold putF; rw [if_neg (fun h => r1 h.1)]
      rw [e] at hQ
      refine ALoop.unr 5 ?_
      simp -dsimp (disch := omega) only [go_sem, r1]
      refine ⟨_, m, .ret (.refl _), ?_, Kept.refl _, ?_, hQ⟩
      · repeat (first | exact ho | apply Over.cons)
      · simp only [AE.bd, AV.bd, AV.bdL, and_self]
  · obtain ⟨rfl, rfl⟩ := Prod.mk.inj h
    by_cases r1 : 0 ≤ n
    · by_cases r2 : n ≤ 65535
      · have e : putF n 0 65535 = (putS n 2, 0) := by unfold putF; rw [if_pos ⟨r1, r2⟩]; simp
        rw [e] at hQ
        refine ALoop.unr 5 ?_
        simp -dsimp (disch := omega) only [go_sem, r1, r2]
        refine writer1 n 2 (.inr (.inl rfl)) k2 _ (by simp -dsimp (disch := omega) only [go_sem, w2]) _ ?_
        simp -dsimp (disch := omega) only [go_sem]
        refine ⟨_, m, .ret (.refl _), ?_, Kept.refl _, ?_, hQ⟩
        · repeat (first | exact ho | apply Over.cons)
        · simp only [AE.bd, AV.bd, AV.bdL, and_self]
      · have e : putF n 0 65535 = ([], 2) := by unfold putF; rw [if_neg (fun h => r2 h.2)]
        rw [e] at hQ
        refine ALoop.unr 5 ?_
        simp -dsimp (disch := omega) only [go_sem, r1, r2]
        refine ⟨_, m, .ret (.refl _), ?_, Kept.refl _, ?_, hQ⟩
        · repeat (first | exact ho | apply Over.cons)
        · simp only [AE.bd, AV.bd, AV.bdL, and_self]
    · have e : putF n 0 65535 = ([], 2) := by unfold putF; rw [if_neg (fun h => r1 h.1)]
      rw [e] at hQ
      refine ALoop.unr 5 ?_
      simp -dsimp (disch := omega) only [go_sem, r1]
      refine ⟨_, m, .ret (.refl _), ?_, Kept.refl _, ?_, hQ⟩
      · repeat (first | exact ho | apply Over.cons)
      · simp only [AE.bd, AV.bd, AV.bdL, and_self]
  · obtain ⟨rfl, rfl⟩ := Prod.mk.inj h
    by_cases r1 : -2147483648 ≤ n
    · by_cases r2 : n ≤ 2147483647
      · have e : putF n (-2147483648) 2147483647 = (putS n 4, 0) := by unfold putF; rw [if_pos ⟨r1, r2⟩]; simp
        rw [e] at hQ
        refine ALoop.unr 5 ?_
        simp -dsimp (disch := omega) only [go_sem, r1, r2]
        refine writer1 n 4 (.inr (.inr rfl)) k4 _ (by simp -dsimp (disch := omega) only [go_sem, w4]) _ ?_
        simp -dsimp (disch := omega) only [go_sem]
        refine ⟨_, m, .ret (.refl _), ?_, Kept.refl _, ?_, hQ⟩
        · repeat (first | exact ho | apply Over.cons)
        · simp only [AE.bd, AV.bd, AV.bdL, and_self]
      · have e : putF n (-2147483648) 2147483647 = ([], 2) := by unfold putF; rw [if_neg (fun h => r2 h.2)]
        rw [e] at hQ
        refine ALoop.unr 5 ?_
        simp -dsimp (disch := omega) only [go_sem, r1, r2]
        refine ⟨_, m, .ret (.refl _), ?_, Kept.refl _, ?_, hQ⟩
        · repeat (first | exact ho | apply Over.cons)
        · simp only [AE.bd, AV.bd, AV.bdL, and_self]
    · have e : putF n (-2147483648) 2147483647 = ([], 2) := by unfold putF; rw [if_neg (fun h => r1 h.1)]
      rw [e] at hQ
      refine ALoop.unr 5 ?_
      simp -dsimp (disch := omega) only [go_sem, r1]
      refine ⟨_, m, .ret (.refl _), ?_, Kept.refl _, ?_, hQ⟩
      · repeat (first | exact ho | apply Over.cons)
      · simp only [AE.bd, AV.bd, AV.bdL, and_self]

theorem PutU8 (n : Int) (m : AM) (Q : AE → AM → Prop) (hQ : Q (.ret (.tup [S (putF n 0 255).1, I (putF n 0 255).2])) m) : ACalls Tryz.prog 120 [I n] m Q := by
  refine acalls_of_body Tryz.func120 (by rfl) (by rfl) (Nat.le_of_ble_eq_true rfl) ?_
  simp -dsimp (disch := omega) only [go_sem, Tryz.f120]
  refine put n 0 255 (by simp) _ _ ?_
  simp -dsimp (disch := omega) only [go_sem]
  exact hQ

theorem PutU16 (n : Int) (m : AM) (Q : AE → AM → Prop) (hQ : Q (.ret (.tup [S (putF n 0 65535).1, I (putF n 0 65535).2])) m) : ACalls Tryz.prog 121 [I n] m Q := by
  refine acalls_of_body Tryz.func121 (by rfl) (by rfl) (Nat.le_of_ble_eq_true rfl) ?_
  simp -dsimp (disch := omega) only [go_sem, Tryz.f121]
  refine put n 0 65535 (by simp) _ _ ?_
  simp -dsimp (disch := omega) only [go_sem]
  exact hQ

theorem PutS32 (n : Int) (m : AM) (Q : AE → AM → Prop) (hQ : Q (.ret (.tup [S (putF n (-2147483648) 2147483647).1, I (putF n (-2147483648) 2147483647).2])) m) : ACalls Tryz.prog 122 [I n] m Q := by
  refine acalls_of_body Tryz.func122 (by rfl) (by rfl) (Nat.le_of_ble_eq_true rfl) ?_
  simp -dsimp (disch := omega) only [go_sem, Tryz.f122]
  refine put n (-2147483648) 2147483647 (by simp) _ _ ?_
  simp -dsimp (disch := omega) only [go_sem]
  exact hQ
end Go.Proofs.YtbdefaebbicfjaaGreat
