/- The law's helpers: written, refused, wakes. -/
import Derived.Test.YtbdefaebbicfjaaGreatK25
set_option linter.all false
namespace Go.Proofs.YtbdefaebbicfjaaGreat
open Go Go.Ab Go.RowKit
set_option maxHeartbeats 400000
set_option maxRecDepth 10000

def hiT : Tg := ⟨[100, 101, 115, 99], 1, [72, 105], [], ⟨0, []⟩⟩
def pairT : Tg := ⟨[97, 98, 99, 49], 2, [], [1, -1], ⟨0, []⟩⟩
def sameT : Tg := ⟨[102, 119, 100, 48], 3, [], [], ⟨1, [⟨1, [⟨1, [], []⟩], [], [], ⟨[], 0, []⟩, [], 0, 0⟩]⟩⟩

theorem hi (m : AM) (Q : AE → AM → Prop) (hQ : Q (.ret hiT.enc) m) : ACalls Tryz.prog 21 [] m Q := by
  refine ACalls.fin ?_
  refine acalls_of_body Tryz.func21 (by rfl) (by rfl) (Nat.le_of_ble_eq_true rfl) ?_
  simp -dsimp (disch := omega) only [go_sem, Tryz.f21]
  refine ⟨_, m, .ret (.agg (.cons (.refl _) (.cons (.refl _) (.cons (.refl _) (.cons (.nilsl 1) (.cons (.refl _) (.cons (.nilsl 10) .nil))))))), ?_, Kept.refl _, ?_, hQ⟩
  · repeat (first | exact Over.refl _ | apply Over.cons)
  · simp only [AE.bd, AV.bd, AV.bdL, and_self]
theorem pair (m : AM) (Q : AE → AM → Prop) (hQ : Q (.ret pairT.enc) m) : ACalls Tryz.prog 22 [] m Q := by
  refine ACalls.fin ?_
  refine acalls_of_body Tryz.func22 (by rfl) (by rfl) (Nat.le_of_ble_eq_true rfl) ?_
  simp -dsimp (disch := omega) only [go_sem, Tryz.f22]
  refine ⟨_, m, .ret (.agg (.cons (.refl _) (.cons (.refl _) (.cons (.refl _) (.cons (.refl _) (.cons (.refl _) (.cons (.nilsl 10) .nil))))))), ?_, Kept.refl _, ?_, hQ⟩
  · repeat (first | exact Over.refl _ | apply Over.cons)
  · simp only [AE.bd, AV.bd, AV.bdL, and_self]
theorem same (m : AM) (Q : AE → AM → Prop) (hQ : Q (.ret sameT.enc) m) : ACalls Tryz.prog 28 [] m Q := by
  refine ACalls.fin ?_
  refine acalls_of_body Tryz.func28 (by rfl) (by rfl) (Nat.le_of_ble_eq_true rfl) ?_
  simp -dsimp (disch := omega) only [go_sem, Tryz.f28]
  refine ⟨_, m, .ret (.agg (.cons (.refl _) (.cons (.refl _) (.cons (.refl _) (.cons (.nilsl 1) (.cons (.refl _) (.cons (.ofD (.sl 10 (.cons (.cons (.refl _) (.cons (.sl 3 (.cons (.cons (.refl _) (.cons (.nilsl 1) (.cons (.nilsl 6) .nil))) .nil)) (.cons (.nilsl 1) (.cons (.nilsl 1) (.cons (.nilsl 1) (.cons (.refl _) (.cons (.nilsl 1) (.cons (.nilsl 2) (.cons (.refl _) (.cons (.refl _) .nil)))))))))) .nil))) .nil))))))), ?_, Kept.refl _, ?_, hQ⟩
  · repeat (first | exact Over.refl _ | apply Over.cons)
  · simp only [AE.bd, AV.bd, AV.bdL, and_self]

theorem written (t : Tg) (s : List UInt8) (h1 : bytesF t = (s, 0)) (h2 : parseF s 0 = (t, (s.length : Int), 0, 0)) (m : AM) (Q : AE → AM → Prop) (hQ : Q (.ret (B true)) m) : ACalls Tryz.prog 19 [t.enc, S s] m Q := by
  refine ACalls.fin ?_
  refine acalls_of_body Tryz.func19 (by rfl) (by rfl) (Nat.le_of_ble_eq_true rfl) ?_
  simp -dsimp (disch := omega) only [go_sem, Tryz.f19]
  refine bytes t _ _ ?_
  rw [h1]
  simp -dsimp (disch := omega) only [go_sem]
  refine parse s 0 _ _ ?_
  rw [h2]
  simp -dsimp (disch := omega) only [go_sem]
  have e : (s == s) = true := by simp
  simp -dsimp (disch := omega) only [go_sem, e]
  refine tagSame t t _ _ ?_
  simp -dsimp (disch := omega) only [go_sem]
  refine ⟨_, _, .ret (.refl _), ?_, ?_, ?_, hQ⟩ <;> first | (exact Over.refl _) | (exact (Over.refl _).cons _) | (exact ((Over.refl _).cons _).cons _) | (exact (((Over.refl _).cons _).cons _).cons _) | (exact ((((Over.refl _).cons _).cons _).cons _).cons _) | exact Kept.refl _ | (exact (Kept.refl _).set (by simp only [ABlk.bd, AV.bd, AV.bdL, and_self])) | (simp only [AE.bd, AV.bd, AV.bdL, and_self]; done)

theorem refused (s : List UInt8) (w e : Int) (h : parseF s 0 = (zeroT, 0, w, e)) (m : AM) (Q : AE → AM → Prop) (hQ : Q (.ret (B true)) m) : ACalls Tryz.prog 20 [S s, I w, I e] m Q := by
  refine ACalls.fin ?_
  refine acalls_of_body Tryz.func20 (by rfl) (by rfl) (Nat.le_of_ble_eq_true rfl) ?_
  simp -dsimp (disch := omega) only [go_sem, Tryz.f20]
  refine parse s 0 _ _ ?_
  rw [h]
  simp -dsimp (disch := omega) only [go_sem]
  refine ACalls.args (.cons (.refl _) (.cons zeroLe .nil)) (tagSame zeroT zeroT _ _ ?_)
  simp -dsimp (disch := omega) only [go_sem]
  refine ⟨_, _, .ret (.refl _), ?_, ?_, ?_, hQ⟩ <;> first | (exact Over.refl _) | (exact (Over.refl _).cons _) | (exact ((Over.refl _).cons _).cons _) | (exact (((Over.refl _).cons _).cons _).cons _) | (exact ((((Over.refl _).cons _).cons _).cons _).cons _) | exact Kept.refl _ | (exact (Kept.refl _).set (by simp only [ABlk.bd, AV.bd, AV.bdL, and_self])) | (simp only [AE.bd, AV.bd, AV.bdL, and_self]; done)

theorem wakes (m : AM) (Q : AE → AM → Prop) (hQ : Q (.ret (B true)) m) : ACalls Tryz.prog 8 [] m Q := by
  refine ACalls.fin ?_
  refine acalls_of_body Tryz.func8 (by rfl) (by rfl) (Nat.le_of_ble_eq_true rfl) ?_
  simp -dsimp (disch := omega) only [go_sem, Tryz.f8]
  refine parse _ _ _ _ ?_
  rw [show parseF [100, 101, 115, 99, 1, 0, 2, 72, 105, 120] 0 = (hiT, 9, 0, 0) by kernel_rfl]
  simp -dsimp (disch := omega) only [go_sem]
  refine parse _ _ _ _ ?_
  rw [show parseF [100, 101, 115, 99, 1, 0, 2, 72, 105] 10 = (zeroT, 0, 0, 2) by kernel_rfl]
  simp -dsimp (disch := omega) only [go_sem]
  refine hi _ _ ?_
  simp -dsimp (disch := omega) only [go_sem]
  refine written hiT _ (by kernel_rfl) (by kernel_rfl) _ _ ?_
  simp -dsimp (disch := omega) only [go_sem]
  refine pair _ _ ?_
  simp -dsimp (disch := omega) only [go_sem]
  refine written pairT _ (by kernel_rfl) (by kernel_rfl) _ _ ?_
  simp -dsimp (disch := omega) only [go_sem]
  refine same _ _ ?_
  simp -dsimp (disch := omega) only [go_sem]
  refine written sameT _ (by kernel_rfl) (by kernel_rfl) _ _ ?_
  simp -dsimp (disch := omega) only [go_sem]
  refine refused _ _ _ (by kernel_rfl) _ _ ?_
  simp -dsimp (disch := omega) only [go_sem]
  refine refused _ _ _ (by kernel_rfl) _ _ ?_
  simp -dsimp (disch := omega) only [go_sem]
  refine refused _ _ _ (by kernel_rfl) _ _ ?_
  simp -dsimp (disch := omega) only [go_sem]
  refine refused _ _ _ (by kernel_rfl) _ _ ?_
  simp -dsimp (disch := omega) only [go_sem]
  refine ⟨_, _, .ret (.refl _), ?_, ?_, ?_, hQ⟩ <;> first | (exact Over.refl _) | (exact (Over.refl _).cons _) | (exact ((Over.refl _).cons _).cons _) | (exact (((Over.refl _).cons _).cons _).cons _) | (exact ((((Over.refl _).cons _).cons _).cons _).cons _) | exact Kept.refl _ | (exact (Kept.refl _).set (by simp only [ABlk.bd, AV.bd, AV.bdL, and_self])) | (simp only [AE.bd, AV.bd, AV.bdL, and_self]; done)
end Go.Proofs.YtbdefaebbicfjaaGreat
