/- Steps of programs, segments, and the choice of a reader. -/
import Derived.Test.YtbdefaebbicfjaaGreatK4
set_option linter.all false
namespace Go.Proofs.YtbdefaebbicfjaaGreat
open Go Go.Ab Go.RowKit
set_option maxHeartbeats 400000
set_option maxRecDepth 10000

def opR (s : List UInt8) (a : Int) : RR POp := (u8R s a).bind fun c a1 => (s32R s a1).bind fun g a2 => .ok ⟨c, g⟩ a2

theorem op (s : List UInt8) (a : Int) (nr : Nat) (m : AM) (hr : m.get nr = some (rdr s a)) (ha : a ≤ 9223372036854775807) (Q : AE → AM → Prop) (hQ : RQ s nr m POp.enc Q (opR s a)) : ACalls Tryz.prog 152 [.ptr nr 0] m Q := by
  refine ACalls.fin ?_
  have hlt := AM.get_lt _ _ _ hr
  refine acalls_of_body Tryz.func152 (by rfl) (by rfl) (Nat.le_of_ble_eq_true rfl) ?_
  simp -dsimp (disch := omega) only [go_sem, Tryz.f152, hr]
  unfold opR at hQ
  refine u8 s a nr _ (by simp -dsimp (disch := omega) only [go_sem, hr, get_set_same _ hr]) (by omega) _ ?_
  rcases hu : u8R s a with ⟨c, a1⟩ | ⟨w, e, a1⟩
  rotate_left
  · rw [hu] at hQ
    simp only [RQ, RR.bind] at hQ ⊢
    simp -dsimp (disch := omega) only [go_sem]
    refine ⟨_, _, .pan (.refl _), ?_, ?_, ?_, hQ⟩ <;> first | (exact Over.refl _) | (exact (Over.refl _).cons _) | (exact ((Over.refl _).cons _).cons _) | (exact (((Over.refl _).cons _).cons _).cons _) | (exact ((((Over.refl _).cons _).cons _).cons _).cons _) | exact Kept.refl _ | (exact (Kept.refl _).set (by simp only [ABlk.bd, AV.bd, AV.bdL, and_self])) | (simp only [AE.bd, AV.bd, AV.bdL, and_self]; done)
  rw [hu] at hQ
  intro h0 h1
  try simp only [RR.bind] at hQ
  simp -dsimp (disch := omega) only [go_sem]
  refine s32 s a1 nr _ (by simp -dsimp (disch := omega) only [go_sem, hr, get_set_same _ hr]) (by omega) _ ?_
  rcases hu : s32R s a1 with ⟨g, a2⟩ | ⟨w, e, a2⟩
  rotate_left
  · rw [hu] at hQ
    simp only [RQ, RR.bind] at hQ ⊢
    simp -dsimp (disch := omega) only [go_sem]
    refine ⟨_, _, .pan (.refl _), ?_, ?_, ?_, hQ⟩ <;> first | (exact Over.refl _) | (exact (Over.refl _).cons _) | (exact ((Over.refl _).cons _).cons _) | (exact (((Over.refl _).cons _).cons _).cons _) | (exact ((((Over.refl _).cons _).cons _).cons _).cons _) | exact Kept.refl _ | (exact (Kept.refl _).set (by simp only [ABlk.bd, AV.bd, AV.bdL, and_self])) | (simp only [AE.bd, AV.bd, AV.bdL, and_self]; done)
  rw [hu] at hQ
  intro h0 h1
  try simp only [RR.bind] at hQ
  simp -dsimp (disch := omega) only [go_sem]
  refine ⟨_, _, .ret (.refl _), ?_, ?_, ?_, hQ h0 h1⟩ <;> first | (exact Over.refl _) | (exact (Over.refl _).cons _) | (exact ((Over.refl _).cons _).cons _) | (exact (((Over.refl _).cons _).cons _).cons _) | (exact ((((Over.refl _).cons _).cons _).cons _).cons _) | exact Kept.refl _ | (exact (Kept.refl _).set (by simp only [ABlk.bd, AV.bd, AV.bdL, and_self])) | (simp only [AE.bd, AV.bd, AV.bdL, and_self]; done)

def segR (s : List UInt8) (a : Int) : RR Seg := (s32R s a).bind fun x1 a1 => (s32R s a1).bind fun x2 a2 => (s32R s a2).bind fun x3 a3 => (u8R s a3).bind fun x4 a4 => (u8R s a4).bind fun x5 a5 => (s32R s a5).bind fun x6 a6 => .ok ⟨x1, x2, x3, x4, x5, x6⟩ a6

theorem segment (s : List UInt8) (a : Int) (nr : Nat) (m : AM) (hr : m.get nr = some (rdr s a)) (ha : a ≤ 9223372036854775807) (Q : AE → AM → Prop) (hQ : RQ s nr m Seg.enc Q (segR s a)) : ACalls Tryz.prog 181 [.ptr nr 0] m Q := by
  refine ACalls.fin ?_
  have hlt := AM.get_lt _ _ _ hr
  refine acalls_of_body Tryz.func181 (by rfl) (by rfl) (Nat.le_of_ble_eq_true rfl) ?_
  simp -dsimp (disch := omega) only [go_sem, Tryz.f181, hr]
  unfold segR at hQ
  refine s32 s a nr _ (by simp -dsimp (disch := omega) only [go_sem, hr, get_set_same _ hr]) (by omega) _ ?_
  rcases hu : s32R s a with ⟨x1, a1⟩ | ⟨w, e, a1⟩
  rotate_left
  · rw [hu] at hQ
    simp only [RQ, RR.bind] at hQ ⊢
    simp -dsimp (disch := omega) only [go_sem]
    refine ⟨_, _, .pan (.refl _), ?_, ?_, ?_, hQ⟩ <;> first | (exact Over.refl _) | (exact (Over.refl _).cons _) | (exact ((Over.refl _).cons _).cons _) | (exact (((Over.refl _).cons _).cons _).cons _) | (exact ((((Over.refl _).cons _).cons _).cons _).cons _) | exact Kept.refl _ | (exact (Kept.refl _).set (by simp only [ABlk.bd, AV.bd, AV.bdL, and_self])) | (simp only [AE.bd, AV.bd, AV.bdL, and_self]; done)
  rw [hu] at hQ
  intro h0 h1
  try simp only [RR.bind] at hQ
  simp -dsimp (disch := omega) only [go_sem]
  refine s32 s a1 nr _ (by simp -dsimp (disch := omega) only [go_sem, hr, get_set_same _ hr]) (by omega) _ ?_
  rcases hu : s32R s a1 with ⟨x2, a2⟩ | ⟨w, e, a2⟩
  rotate_left
  · rw [hu] at hQ
    simp only [RQ, RR.bind] at hQ ⊢
    simp -dsimp (disch := omega) only [go_sem]
    refine ⟨_, _, .pan (.refl _), ?_, ?_, ?_, hQ⟩ <;> first | (exact Over.refl _) | (exact (Over.refl _).cons _) | (exact ((Over.refl _).cons _).cons _) | (exact (((Over.refl _).cons _).cons _).cons _) | (exact ((((Over.refl _).cons _).cons _).cons _).cons _) | exact Kept.refl _ | (exact (Kept.refl _).set (by simp only [ABlk.bd, AV.bd, AV.bdL, and_self])) | (simp only [AE.bd, AV.bd, AV.bdL, and_self]; done)
  rw [hu] at hQ
  intro h0 h1
  try simp only [RR.bind] at hQ
  simp -dsimp (disch := omega) only [go_sem]
  refine s32 s a2 nr _ (by simp -dsimp (disch := omega) only [go_sem, hr, get_set_same _ hr]) (by omega) _ ?_
  rcases hu : s32R s a2 with ⟨x3, a3⟩ | ⟨w, e, a3⟩
  rotate_left
  · rw [hu] at hQ
    simp only [RQ, RR.bind] at hQ ⊢
    simp -dsimp (disch := omega) only [go_sem]
    refine ⟨_, _, .pan (.refl _), ?_, ?_, ?_, hQ⟩ <;> first | (exact Over.refl _) | (exact (Over.refl _).cons _) | (exact ((Over.refl _).cons _).cons _) | (exact (((Over.refl _).cons _).cons _).cons _) | (exact ((((Over.refl _).cons _).cons _).cons _).cons _) | exact Kept.refl _ | (exact (Kept.refl _).set (by simp only [ABlk.bd, AV.bd, AV.bdL, and_self])) | (simp only [AE.bd, AV.bd, AV.bdL, and_self]; done)
  rw [hu] at hQ
  intro h0 h1
  try simp only [RR.bind] at hQ
  simp -dsimp (disch := omega) only [go_sem]
  refine u8 s a3 nr _ (by simp -dsimp (disch := omega) only [go_sem, hr, get_set_same _ hr]) (by omega) _ ?_
  rcases hu : u8R s a3 with ⟨x4, a4⟩ | ⟨w, e, a4⟩
  rotate_left
  · rw [hu] at hQ
    simp only [RQ, RR.bind] at hQ ⊢
    simp -dsimp (disch := omega) only [go_sem]
    refine ⟨_, _, .pan (.refl _), ?_, ?_, ?_, hQ⟩ <;> first | (exact Over.refl _) | (exact (Over.refl _).cons _) | (exact ((Over.refl _).cons _).cons _) | (exact (((Over.refl _).cons _).cons _).cons _) | (exact ((((Over.refl _).cons _).cons _).cons _).cons _) | exact Kept.refl _ | (exact (Kept.refl _).set (by simp only [ABlk.bd, AV.bd, AV.bdL, and_self])) | (simp only [AE.bd, AV.bd, AV.bdL, and_self]; done)
  rw [hu] at hQ
  intro h0 h1
  try simp only [RR.bind] at hQ
  simp -dsimp (disch := omega) only [go_sem]
  refine u8 s a4 nr _ (by simp -dsimp (disch := omega) only [go_sem, hr, get_set_same _ hr]) (by omega) _ ?_
  rcases hu : u8R s a4 with ⟨x5, a5⟩ | ⟨w, e, a5⟩
  rotate_left
  · rw [hu] at hQ
    simp only [RQ, RR.bind] at hQ ⊢
    simp -dsimp (disch := omega) only [go_sem]
    refine ⟨_, _, .pan (.refl _), ?_, ?_, ?_, hQ⟩ <;> first | (exact Over.refl _) | (exact (Over.refl _).cons _) | (exact ((Over.refl _).cons _).cons _) | (exact (((Over.refl _).cons _).cons _).cons _) | (exact ((((Over.refl _).cons _).cons _).cons _).cons _) | exact Kept.refl _ | (exact (Kept.refl _).set (by simp only [ABlk.bd, AV.bd, AV.bdL, and_self])) | (simp only [AE.bd, AV.bd, AV.bdL, and_self]; done)
  rw [hu] at hQ
  intro h0 h1
  try simp only [RR.bind] at hQ
  simp -dsimp (disch := omega) only [go_sem]
  refine s32 s a5 nr _ (by simp -dsimp (disch := omega) only [go_sem, hr, get_set_same _ hr]) (by omega) _ ?_
  rcases hu : s32R s a5 with ⟨x6, a6⟩ | ⟨w, e, a6⟩
  rotate_left
  · rw [hu] at hQ
    simp only [RQ, RR.bind] at hQ ⊢
    simp -dsimp (disch := omega) only [go_sem]
    refine ⟨_, _, .pan (.refl _), ?_, ?_, ?_, hQ⟩ <;> first | (exact Over.refl _) | (exact (Over.refl _).cons _) | (exact ((Over.refl _).cons _).cons _) | (exact (((Over.refl _).cons _).cons _).cons _) | (exact ((((Over.refl _).cons _).cons _).cons _).cons _) | exact Kept.refl _ | (exact (Kept.refl _).set (by simp only [ABlk.bd, AV.bd, AV.bdL, and_self])) | (simp only [AE.bd, AV.bd, AV.bdL, and_self]; done)
  rw [hu] at hQ
  intro h0 h1
  try simp only [RR.bind] at hQ
  simp -dsimp (disch := omega) only [go_sem]
  refine ⟨_, _, .ret (.refl _), ?_, ?_, ?_, hQ h0 h1⟩ <;> first | (exact Over.refl _) | (exact (Over.refl _).cons _) | (exact ((Over.refl _).cons _).cons _) | (exact (((Over.refl _).cons _).cons _).cons _) | (exact ((((Over.refl _).cons _).cons _).cons _).cons _) | exact Kept.refl _ | (exact (Kept.refl _).set (by simp only [ABlk.bd, AV.bd, AV.bdL, and_self])) | (simp only [AE.bd, AV.bd, AV.bdL, and_self]; done)

/-- A kind, and its reader: the map holds the kinds 'es'. -/
theorem choose (es : List (Int × AV)) (nm : Nat) (s : List UInt8) (a : Int) (nr : Nat) (m : AM) (hr : m.get nr = some (rdr s a)) (hm : m.get nm = some (.map es)) (hne : nm ≠ nr) (ha : a ≤ 9223372036854775807) (Q : AE → AM → Prop)
    (hQ : match u8R s a with
      | .bad w e a1 => Q (.pan (flt w e)) (m.set nr (some (rdr s a1)))
      | .ok k a1 => match aFind k es with
        | some v => 0 ≤ a1 → a1 ≤ 65536 → Q (.ret (.tup [I k, v])) (m.set nr (some (rdr s a1)))
        | none => Q (.pan (flt a 5)) (m.set nr (some (rdr s a1)))) : ACalls Tryz.prog 61 [.ptr nr 0, .mp nm] m Q := by
  have hlt := AM.get_lt _ _ _ hr
  refine acalls_of_body Tryz.func61 (by rfl) (by rfl) (Nat.le_of_ble_eq_true rfl) ?_
  simp -dsimp (disch := omega) only [go_sem, Tryz.f61, hr]
  refine u8 s a nr _ hr ha _ ?_
  rcases hu : u8R s a with ⟨k, a1⟩ | ⟨w, e, a1⟩
  rotate_left
  · rw [hu] at hQ
    simp only [RQ] at hQ ⊢
    simp -dsimp (disch := omega) only [go_sem]
    exact hQ
  rw [hu] at hQ
  intro h0 h1
  simp only [] at hQ
  have hm' : AM.get (AM.set m nr (some (rdr s a1))) nm = some (.map es) := by rw [AM.get_set_other _ _ _ _ hne]; exact hm
  cases hf : aFind k es with
  | some v =>
    rw [hf] at hQ
    simp -dsimp (disch := omega) only [go_sem, hm', hf]
    exact hQ h0 h1
  | none =>
    rw [hf] at hQ
    simp -dsimp (disch := omega) only [go_sem, hm', hf]
    exact hQ

end Go.Proofs.YtbdefaebbicfjaaGreat
