/- Same. -/
import Derived.Test.YtbdefaebbicfjaaGreatK24
set_option linter.all false
namespace Go.Proofs.YtbdefaebbicfjaaGreat
open Go Go.Ab Go.RowKit
set_option maxHeartbeats 400000
set_option maxRecDepth 10000

theorem curSame (c d : Cur) (m : AM) (Q : AE → AM → Prop) (hQ : Q (.ret (B (decide (c = d)))) m) : ACalls Tryz.prog 127 [Cur.enc c, Cur.enc d] m Q := by
  refine ACalls.fin ?_
  rw [show decide (c = d) = (decide (c.kind = d.kind) && (decide (c.table = d.table) && decide (c.segs = d.segs))) by cases c; cases d; simp [Bool.decide_and]] at hQ
  refine acalls_of_body Tryz.func127 (by rfl) (by rfl) (Nat.le_of_ble_eq_true rfl) ?_
  simp -dsimp (disch := omega) only [go_sem, Tryz.f127]
  by_cases h1 : c.kind = d.kind
  rotate_left
  · rw [decide_eq_false h1] at hQ
    simp -dsimp (disch := omega) only [go_sem, h1]
    refine ⟨_, _, .ret (.refl _), ?_, ?_, ?_, hQ⟩ <;> first | (exact Over.refl _) | (exact (Over.refl _).cons _) | (exact ((Over.refl _).cons _).cons _) | (exact (((Over.refl _).cons _).cons _).cons _) | (exact ((((Over.refl _).cons _).cons _).cons _).cons _) | exact Kept.refl _ | (exact (Kept.refl _).set (by simp only [ABlk.bd, AV.bd, AV.bdL, and_self])) | (simp only [AE.bd, AV.bd, AV.bdL, and_self]; done)
  rw [decide_eq_true h1] at hQ
  simp -dsimp (disch := omega) only [go_sem, h1]
  refine eq45 _ _ _ _ ?_
  by_cases h2 : c.table = d.table
  rotate_left
  · rw [decide_eq_false h2] at hQ ⊢
    simp -dsimp (disch := omega) only [go_sem]
    refine ⟨_, _, .ret (.refl _), ?_, ?_, ?_, hQ⟩ <;> first | (exact Over.refl _) | (exact (Over.refl _).cons _) | (exact ((Over.refl _).cons _).cons _) | (exact (((Over.refl _).cons _).cons _).cons _) | (exact ((((Over.refl _).cons _).cons _).cons _).cons _) | exact Kept.refl _ | (exact (Kept.refl _).set (by simp only [ABlk.bd, AV.bd, AV.bdL, and_self])) | (simp only [AE.bd, AV.bd, AV.bdL, and_self]; done)
  rw [decide_eq_true h2] at hQ ⊢
  simp -dsimp (disch := omega) only [go_sem]
  refine eq165 _ _ _ _ ?_
  simp -dsimp (disch := omega) only [go_sem]
  refine ⟨_, _, .ret (.refl _), ?_, ?_, ?_, hQ⟩ <;> first | (exact Over.refl _) | (exact (Over.refl _).cons _) | (exact ((Over.refl _).cons _).cons _) | (exact (((Over.refl _).cons _).cons _).cons _) | (exact ((((Over.refl _).cons _).cons _).cons _).cons _) | exact Kept.refl _ | (exact (Kept.refl _).set (by simp only [ABlk.bd, AV.bd, AV.bdL, and_self])) | (simp only [AE.bd, AV.bd, AV.bdL, and_self]; done)

theorem rowSame (a b : List Int) (m : AM) (Q : AE → AM → Prop) (hQ : Q (.ret (B (decide (a = b)))) m) : ACalls Tryz.prog 129 [.d (ints a), .d (ints b)] m Q := by
  refine acalls_of_body Tryz.func129 (by rfl) (by rfl) (Nat.le_of_ble_eq_true rfl) ?_
  simp -dsimp (disch := omega) only [go_sem, Tryz.f129]
  refine eq45 _ _ _ _ ?_
  simp -dsimp (disch := omega) only [go_sem]
  exact hQ

theorem gridSame (c d : Grd) (m : AM) (Q : AE → AM → Prop) (hQ : Q (.ret (B (decide (c = d)))) m) : ACalls Tryz.prog 130 [Grd.enc c, Grd.enc d] m Q := by
  refine ACalls.fin ?_
  rw [show decide (c = d) = (decide (c.out = d.out) && (decide (c.size = d.size) && decide (c.data = d.data))) by cases c; cases d; simp [Bool.decide_and, and_left_comm]] at hQ
  refine acalls_of_body Tryz.func130 (by rfl) (by rfl) (Nat.le_of_ble_eq_true rfl) ?_
  simp -dsimp (disch := omega) only [go_sem, Tryz.f130]
  by_cases h1 : c.out = d.out
  rotate_left
  · rw [decide_eq_false h1] at hQ
    simp -dsimp (disch := omega) only [go_sem, h1]
    refine ⟨_, _, .ret (.refl _), ?_, ?_, ?_, hQ⟩ <;> first | (exact Over.refl _) | (exact (Over.refl _).cons _) | (exact ((Over.refl _).cons _).cons _) | (exact (((Over.refl _).cons _).cons _).cons _) | (exact ((((Over.refl _).cons _).cons _).cons _).cons _) | exact Kept.refl _ | (exact (Kept.refl _).set (by simp only [ABlk.bd, AV.bd, AV.bdL, and_self])) | (simp only [AE.bd, AV.bd, AV.bdL, and_self]; done)
  rw [decide_eq_true h1] at hQ
  simp -dsimp (disch := omega) only [go_sem, h1]
  refine eq45 _ _ _ _ ?_
  by_cases h2 : c.size = d.size
  rotate_left
  · rw [decide_eq_false h2] at hQ ⊢
    simp -dsimp (disch := omega) only [go_sem]
    refine ⟨_, _, .ret (.refl _), ?_, ?_, ?_, hQ⟩ <;> first | (exact Over.refl _) | (exact (Over.refl _).cons _) | (exact ((Over.refl _).cons _).cons _) | (exact (((Over.refl _).cons _).cons _).cons _) | (exact ((((Over.refl _).cons _).cons _).cons _).cons _) | exact Kept.refl _ | (exact (Kept.refl _).set (by simp only [ABlk.bd, AV.bd, AV.bdL, and_self])) | (simp only [AE.bd, AV.bd, AV.bdL, and_self]; done)
  rw [decide_eq_true h2] at hQ ⊢
  simp -dsimp (disch := omega) only [go_sem]
  refine eq45 _ _ _ _ ?_
  simp -dsimp (disch := omega) only [go_sem]
  refine ⟨_, _, .ret (.refl _), ?_, ?_, ?_, hQ⟩ <;> first | (exact Over.refl _) | (exact (Over.refl _).cons _) | (exact ((Over.refl _).cons _).cons _) | (exact (((Over.refl _).cons _).cons _).cons _) | (exact ((((Over.refl _).cons _).cons _).cons _).cons _) | exact Kept.refl _ | (exact (Kept.refl _).set (by simp only [ABlk.bd, AV.bd, AV.bdL, and_self])) | (simp only [AE.bd, AV.bd, AV.bdL, and_self]; done)

theorem eltSame (c d : Elt) (m : AM) (Q : AE → AM → Prop) (hQ : Q (.ret (B (decide (c = d)))) m) : ACalls Tryz.prog 91 [Elt.enc c, Elt.enc d] m Q := by
  refine ACalls.fin ?_
  rw [show decide (c = d) = (decide (c.kind = d.kind) && (decide (c.nin = d.nin) && (decide (c.nout = d.nout) && (decide (c.curves = d.curves) && (decide (c.rows = d.rows) && (decide (c.offset = d.offset) && (decide (c.grid = d.grid) && decide (c.prog = d.prog)))))))) by
    rw [← Bool.decide_and, ← Bool.decide_and, ← Bool.decide_and, ← Bool.decide_and, ← Bool.decide_and, ← Bool.decide_and, ← Bool.decide_and]
    refine decide_eq_decide.2 ?_
    cases c; cases d
    simp only [Elt.mk.injEq]
    constructor
    · rintro ⟨a1, a2, a3, a4, a5, a6, a7, a8⟩; exact ⟨a1, a7, a8, a2, a3, a4, a5, a6⟩
    · rintro ⟨a1, a7, a8, a2, a3, a4, a5, a6⟩; exact ⟨a1, a2, a3, a4, a5, a6, a7, a8⟩] at hQ
  refine acalls_of_body Tryz.func91 (by rfl) (by rfl) (Nat.le_of_ble_eq_true rfl) ?_
  simp -dsimp (disch := omega) only [go_sem, Tryz.f91]
  by_cases h1 : c.kind = d.kind
  rotate_left
  · rw [decide_eq_false h1] at hQ
    simp -dsimp (disch := omega) only [go_sem, h1]
    refine ⟨_, _, .ret (.refl _), ?_, ?_, ?_, hQ⟩ <;> first | (exact Over.refl _) | (exact (Over.refl _).cons _) | (exact ((Over.refl _).cons _).cons _) | (exact (((Over.refl _).cons _).cons _).cons _) | (exact ((((Over.refl _).cons _).cons _).cons _).cons _) | exact Kept.refl _ | (exact (Kept.refl _).set (by simp only [ABlk.bd, AV.bd, AV.bdL, and_self])) | (simp only [AE.bd, AV.bd, AV.bdL, and_self]; done)
  by_cases h2 : c.nin = d.nin
  rotate_left
  · rw [decide_eq_true h1, decide_eq_false h2] at hQ
    simp -dsimp (disch := omega) only [go_sem, h1, h2]
    refine ⟨_, _, .ret (.refl _), ?_, ?_, ?_, hQ⟩ <;> first | (exact Over.refl _) | (exact (Over.refl _).cons _) | (exact ((Over.refl _).cons _).cons _) | (exact (((Over.refl _).cons _).cons _).cons _) | (exact ((((Over.refl _).cons _).cons _).cons _).cons _) | exact Kept.refl _ | (exact (Kept.refl _).set (by simp only [ABlk.bd, AV.bd, AV.bdL, and_self])) | (simp only [AE.bd, AV.bd, AV.bdL, and_self]; done)
  by_cases h3 : c.nout = d.nout
  rotate_left
  · rw [decide_eq_true h1, decide_eq_true h2, decide_eq_false h3] at hQ
    simp -dsimp (disch := omega) only [go_sem, h1, h2, h3]
    refine ⟨_, _, .ret (.refl _), ?_, ?_, ?_, hQ⟩ <;> first | (exact Over.refl _) | (exact (Over.refl _).cons _) | (exact ((Over.refl _).cons _).cons _) | (exact (((Over.refl _).cons _).cons _).cons _) | (exact ((((Over.refl _).cons _).cons _).cons _).cons _) | exact Kept.refl _ | (exact (Kept.refl _).set (by simp only [ABlk.bd, AV.bd, AV.bdL, and_self])) | (simp only [AE.bd, AV.bd, AV.bdL, and_self]; done)
  rw [decide_eq_true h1, decide_eq_true h2, decide_eq_true h3] at hQ
  simp -dsimp (disch := omega) only [go_sem, h1, h2, h3]
  refine eqf126 127 _ _ _ (fun u v m Q hq => curSame u v m Q hq) _ ?_
  by_cases h4 : c.curves = d.curves
  rotate_left
  · rw [decide_eq_false h4] at hQ ⊢
    simp -dsimp (disch := omega) only [go_sem]
    refine ⟨_, _, .ret (.refl _), ?_, ?_, ?_, hQ⟩ <;> first | (exact Over.refl _) | (exact (Over.refl _).cons _) | (exact ((Over.refl _).cons _).cons _) | (exact (((Over.refl _).cons _).cons _).cons _) | (exact ((((Over.refl _).cons _).cons _).cons _).cons _) | exact Kept.refl _ | (exact (Kept.refl _).set (by simp only [ABlk.bd, AV.bd, AV.bdL, and_self])) | (simp only [AE.bd, AV.bd, AV.bdL, and_self]; done)
  rw [decide_eq_true h4] at hQ ⊢
  simp -dsimp (disch := omega) only [go_sem]
  refine eqf128 129 _ _ _ (fun u v m Q hq => rowSame u v m Q hq) _ ?_
  by_cases h5 : c.rows = d.rows
  rotate_left
  · rw [decide_eq_false h5] at hQ ⊢
    simp -dsimp (disch := omega) only [go_sem]
    refine ⟨_, _, .ret (.refl _), ?_, ?_, ?_, hQ⟩ <;> first | (exact Over.refl _) | (exact (Over.refl _).cons _) | (exact ((Over.refl _).cons _).cons _) | (exact (((Over.refl _).cons _).cons _).cons _) | (exact ((((Over.refl _).cons _).cons _).cons _).cons _) | exact Kept.refl _ | (exact (Kept.refl _).set (by simp only [ABlk.bd, AV.bd, AV.bdL, and_self])) | (simp only [AE.bd, AV.bd, AV.bdL, and_self]; done)
  rw [decide_eq_true h5] at hQ ⊢
  simp -dsimp (disch := omega) only [go_sem]
  refine eq45 _ _ _ _ ?_
  by_cases h6 : c.offset = d.offset
  rotate_left
  · rw [decide_eq_false h6] at hQ ⊢
    simp -dsimp (disch := omega) only [go_sem]
    refine ⟨_, _, .ret (.refl _), ?_, ?_, ?_, hQ⟩ <;> first | (exact Over.refl _) | (exact (Over.refl _).cons _) | (exact ((Over.refl _).cons _).cons _) | (exact (((Over.refl _).cons _).cons _).cons _) | (exact ((((Over.refl _).cons _).cons _).cons _).cons _) | exact Kept.refl _ | (exact (Kept.refl _).set (by simp only [ABlk.bd, AV.bd, AV.bdL, and_self])) | (simp only [AE.bd, AV.bd, AV.bdL, and_self]; done)
  rw [decide_eq_true h6] at hQ ⊢
  simp -dsimp (disch := omega) only [go_sem]
  refine gridSame c.grid d.grid _ _ ?_
  by_cases h7 : c.grid = d.grid
  rotate_left
  · rw [decide_eq_false h7] at hQ ⊢
    simp -dsimp (disch := omega) only [go_sem]
    refine ⟨_, _, .ret (.refl _), ?_, ?_, ?_, hQ⟩ <;> first | (exact Over.refl _) | (exact (Over.refl _).cons _) | (exact ((Over.refl _).cons _).cons _) | (exact (((Over.refl _).cons _).cons _).cons _) | (exact ((((Over.refl _).cons _).cons _).cons _).cons _) | exact Kept.refl _ | (exact (Kept.refl _).set (by simp only [ABlk.bd, AV.bd, AV.bdL, and_self])) | (simp only [AE.bd, AV.bd, AV.bdL, and_self]; done)
  rw [decide_eq_true h7] at hQ ⊢
  simp -dsimp (disch := omega) only [go_sem]
  refine eq131 _ _ _ _ ?_
  simp -dsimp (disch := omega) only [go_sem]
  refine ⟨_, _, .ret (.refl _), ?_, ?_, ?_, hQ⟩ <;> first | (exact Over.refl _) | (exact (Over.refl _).cons _) | (exact ((Over.refl _).cons _).cons _) | (exact (((Over.refl _).cons _).cons _).cons _) | (exact ((((Over.refl _).cons _).cons _).cons _).cons _) | exact Kept.refl _ | (exact (Kept.refl _).set (by simp only [ABlk.bd, AV.bd, AV.bdL, and_self])) | (simp only [AE.bd, AV.bd, AV.bdL, and_self]; done)

theorem chnSame (c d : Chn) (m : AM) (Q : AE → AM → Prop) (hQ : Q (.ret (B (decide (c = d)))) m) : ACalls Tryz.prog 46 [Chn.enc c, Chn.enc d] m Q := by
  refine ACalls.fin ?_
  rw [show decide (c = d) = (decide (c.nin = d.nin) && decide (c.elts = d.elts)) by cases c; cases d; simp [Bool.decide_and]] at hQ
  refine acalls_of_body Tryz.func46 (by rfl) (by rfl) (Nat.le_of_ble_eq_true rfl) ?_
  simp -dsimp (disch := omega) only [go_sem, Tryz.f46]
  by_cases h1 : c.nin = d.nin
  rotate_left
  · rw [decide_eq_false h1] at hQ
    simp -dsimp (disch := omega) only [go_sem, h1]
    refine ⟨_, _, .ret (.refl _), ?_, ?_, ?_, hQ⟩ <;> first | (exact Over.refl _) | (exact (Over.refl _).cons _) | (exact ((Over.refl _).cons _).cons _) | (exact (((Over.refl _).cons _).cons _).cons _) | (exact ((((Over.refl _).cons _).cons _).cons _).cons _) | exact Kept.refl _ | (exact (Kept.refl _).set (by simp only [ABlk.bd, AV.bd, AV.bdL, and_self])) | (simp only [AE.bd, AV.bd, AV.bdL, and_self]; done)
  rw [decide_eq_true h1] at hQ
  simp -dsimp (disch := omega) only [go_sem, h1]
  refine eqf90 91 _ _ _ (fun u v m Q hq => eltSame u v m Q hq) _ ?_
  simp -dsimp (disch := omega) only [go_sem]
  refine ⟨_, _, .ret (.refl _), ?_, ?_, ?_, hQ⟩ <;> first | (exact Over.refl _) | (exact (Over.refl _).cons _) | (exact ((Over.refl _).cons _).cons _) | (exact (((Over.refl _).cons _).cons _).cons _) | (exact ((((Over.refl _).cons _).cons _).cons _).cons _) | exact Kept.refl _ | (exact (Kept.refl _).set (by simp only [ABlk.bd, AV.bd, AV.bdL, and_self])) | (simp only [AE.bd, AV.bd, AV.bdL, and_self]; done)

theorem beqL (a b : List UInt8) : (a == b) = decide (a = b) := by by_cases h : a = b <;> simp [h]
theorem tagSame (c d : Tg) (m : AM) (Q : AE → AM → Prop) (hQ : Q (.ret (B (decide (c = d)))) m) : ACalls Tryz.prog 17 [Tg.enc c, Tg.enc d] m Q := by
  refine ACalls.fin ?_
  rw [show decide (c = d) = ((c.sign == d.sign) && (decide (c.kind = d.kind) && ((c.text == d.text) && (decide (c.numbers = d.numbers) && decide (c.chain = d.chain))))) by cases c; cases d; simp [Bool.decide_and, beqL]] at hQ
  refine acalls_of_body Tryz.func17 (by rfl) (by rfl) (Nat.le_of_ble_eq_true rfl) ?_
  simp -dsimp (disch := omega) only [go_sem, Tryz.f17]
  cases h1 : c.sign == d.sign
  · rw [h1] at hQ
    simp -dsimp (disch := omega) only [go_sem, h1]
    refine ⟨_, _, .ret (.refl _), ?_, ?_, ?_, hQ⟩ <;> first | (exact Over.refl _) | (exact (Over.refl _).cons _) | (exact ((Over.refl _).cons _).cons _) | (exact (((Over.refl _).cons _).cons _).cons _) | (exact ((((Over.refl _).cons _).cons _).cons _).cons _) | exact Kept.refl _ | (exact (Kept.refl _).set (by simp only [ABlk.bd, AV.bd, AV.bdL, and_self])) | (simp only [AE.bd, AV.bd, AV.bdL, and_self]; done)
  rw [h1] at hQ
  by_cases h2 : c.kind = d.kind
  rotate_left
  · rw [decide_eq_false h2] at hQ
    simp -dsimp (disch := omega) only [go_sem, h1, h2]
    refine ⟨_, _, .ret (.refl _), ?_, ?_, ?_, hQ⟩ <;> first | (exact Over.refl _) | (exact (Over.refl _).cons _) | (exact ((Over.refl _).cons _).cons _) | (exact (((Over.refl _).cons _).cons _).cons _) | (exact ((((Over.refl _).cons _).cons _).cons _).cons _) | exact Kept.refl _ | (exact (Kept.refl _).set (by simp only [ABlk.bd, AV.bd, AV.bdL, and_self])) | (simp only [AE.bd, AV.bd, AV.bdL, and_self]; done)
  rw [decide_eq_true h2] at hQ
  cases h3 : c.text == d.text
  · rw [h3] at hQ
    simp -dsimp (disch := omega) only [go_sem, h1, h2, h3]
    refine ⟨_, _, .ret (.refl _), ?_, ?_, ?_, hQ⟩ <;> first | (exact Over.refl _) | (exact (Over.refl _).cons _) | (exact ((Over.refl _).cons _).cons _) | (exact (((Over.refl _).cons _).cons _).cons _) | (exact ((((Over.refl _).cons _).cons _).cons _).cons _) | exact Kept.refl _ | (exact (Kept.refl _).set (by simp only [ABlk.bd, AV.bd, AV.bdL, and_self])) | (simp only [AE.bd, AV.bd, AV.bdL, and_self]; done)
  rw [h3] at hQ
  simp -dsimp (disch := omega) only [go_sem, h1, h2, h3]
  refine eq45 _ _ _ _ ?_
  by_cases h4 : c.numbers = d.numbers
  rotate_left
  · rw [decide_eq_false h4] at hQ ⊢
    simp -dsimp (disch := omega) only [go_sem]
    refine ⟨_, _, .ret (.refl _), ?_, ?_, ?_, hQ⟩ <;> first | (exact Over.refl _) | (exact (Over.refl _).cons _) | (exact ((Over.refl _).cons _).cons _) | (exact (((Over.refl _).cons _).cons _).cons _) | (exact ((((Over.refl _).cons _).cons _).cons _).cons _) | exact Kept.refl _ | (exact (Kept.refl _).set (by simp only [ABlk.bd, AV.bd, AV.bdL, and_self])) | (simp only [AE.bd, AV.bd, AV.bdL, and_self]; done)
  rw [decide_eq_true h4] at hQ ⊢
  simp -dsimp (disch := omega) only [go_sem]
  refine chnSame c.chain d.chain _ _ ?_
  simp -dsimp (disch := omega) only [go_sem]
  refine ⟨_, _, .ret (.refl _), ?_, ?_, ?_, hQ⟩ <;> first | (exact Over.refl _) | (exact (Over.refl _).cons _) | (exact ((Over.refl _).cons _).cons _) | (exact (((Over.refl _).cons _).cons _).cons _) | (exact ((((Over.refl _).cons _).cons _).cons _).cons _) | exact Kept.refl _ | (exact (Kept.refl _).set (by simp only [ABlk.bd, AV.bd, AV.bdL, and_self])) | (simp only [AE.bd, AV.bd, AV.bdL, and_self]; done)
end Go.Proofs.YtbdefaebbicfjaaGreat
