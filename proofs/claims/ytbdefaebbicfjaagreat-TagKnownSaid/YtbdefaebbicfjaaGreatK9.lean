/- The reader of curves. -/
import Derived.Test.YtbdefaebbicfjaaGreatK8
set_option linter.all false
namespace Go.Proofs.YtbdefaebbicfjaaGreat
open Go Go.Ab Go.RowKit
set_option maxHeartbeats 400000
set_option maxRecDepth 10000

def curveBody (k : Int) (s : List UInt8) (a a1 : Int) : RR Cur :=
  if k = 1 then .ok ⟨1, [], []⟩ a1 else if k = 2 then (tableR s a1).bind fun l a2 => .ok ⟨2, l, []⟩ a2 else if k = 3 then (segsR s a1).bind fun l a2 => .ok ⟨3, [], l⟩ a2 else .bad a 5 a1
def curveR (s : List UInt8) (a : Int) : RR Cur := (u8R s a).bind fun k a1 => (curveBody k s a a1).bind fun c a2 => if curveE c = 0 then .ok c a2 else .bad a (curveE c) a2

theorem curve1 (m : AM) (Q : AE → AM → Prop) (hQ : Q (.ret (.tup [])) m) : ACalls Tryz.prog 177 [] m Q := by
  refine acalls_of_body Tryz.func177 (by rfl) (by rfl) (Nat.le_of_ble_eq_true rfl) ?_
  simp -dsimp (disch := omega) only [go_sem, Tryz.f177]
  exact hQ

theorem curve (s : List UInt8) (a : Int) (h0 : 0 ≤ a) (h1 : a ≤ 65536) (nr : Nat) (m : AM) (hr : m.get nr = some (rdr s a)) (Q : AE → AM → Prop) (hQ : RQ s nr m Cur.enc Q (curveR s a)) : ACalls Tryz.prog 144 [.ptr nr 0] m Q := by
  refine ACalls.fin ?_
  have hlt := AM.get_lt _ _ _ hr
  unfold curveR at hQ
  refine acalls_of_body Tryz.func144 (by rfl) (by rfl) (Nat.le_of_ble_eq_true rfl) ?_
  simp -dsimp (disch := omega) only [go_sem, Tryz.f144, hr]
  refine choose [(1, AV.fn (Fn.func 177) [] []), (2, AV.fn (Fn.func 178) [] [AV.ptr m.length 0, AV.ptr (m.length + 1 + 1) 0]), (3, AV.fn (Fn.func 179) [] [AV.ptr m.length 0, AV.ptr (m.length + 1 + 1) 0])] (m.length + 1 + 1 + 1) s a nr _ (by simp -dsimp (disch := omega) only [go_sem, hr]) (by simp -dsimp (disch := omega) only [go_sem]) (by omega) (by omega) _ ?_
  rcases hu : u8R s a with ⟨k, a1⟩ | ⟨w, e, a1⟩
  rotate_left
  · rw [hu] at hQ
    simp only [RQ, RR.bind] at hQ ⊢
    simp -dsimp (disch := omega) only [go_sem]
    refine ⟨_, _, .pan (.refl _), ?_, ?_, ?_, hQ⟩ <;> first | (exact Over.refl _) | (exact (Over.refl _).cons _) | (exact ((Over.refl _).cons _).cons _) | (exact (((Over.refl _).cons _).cons _).cons _) | (exact ((((Over.refl _).cons _).cons _).cons _).cons _) | exact Kept.refl _ | (exact (Kept.refl _).set (by simp only [ABlk.bd, AV.bd, AV.bdL, and_self])) | (simp only [AE.bd, AV.bd, AV.bdL, and_self]; done)
  rw [hu] at hQ
  have p1 := u8R_pos hu
  simp only [RR.bind] at hQ ⊢
  by_cases k1 : k = 1
  · subst k1
    simp -dsimp (disch := omega) only [go_sem, hr]
    intro g0 g1
    refine curve1 _ _ ?_
    simp -dsimp (disch := omega) only [go_sem]
    simp only [curveBody, if_pos, RR.bind] at hQ
    by_cases hc : curveE ⟨1, [], []⟩ = 0
    · refine ADraw.of (es := []) (pn := none) (T := [⟨false, true, 0, 0, 0⟩, ⟨false, false, 0, 0, 0⟩, ⟨false, true, 0, 0, 0⟩, ⟨false, true, 0, 0, 0⟩, ⟨false, true, 0, 0, 0⟩]) mixed (by kernel_rfl) ?_
      simp -dsimp (disch := omega) only [go_sem, hr]
      refine wDCall.still (I (curveE ⟨1, [], []⟩)) (ACalls.args (.cons (.agg (.cons (.refl _) (.cons (.nilsl 1) (.cons (.nilsl 6) .nil)))) .nil) (curveCheck ⟨1, [], []⟩ _ _ ⟨rfl, rfl⟩)) ?_
      simp -dsimp (disch := omega) only [go_sem]
      refine wDCall.still (.tup []) (check _ _ _ _ _ (by rw [if_pos hc]; exact ⟨rfl, rfl⟩)) ?_
      simp -dsimp (disch := omega) only [go_sem]
      rw [hc] at hQ
      simp only [if_pos] at hQ
      refine ⟨_, _, .ret (.agg (.cons (.refl _) (.cons (.nilsl 1) (.cons (.nilsl 6) .nil)))), ?_, ?_, ?_, hQ g0 g1⟩
      · repeat (first | exact Over.refl _ | apply Over.cons)
      · exact (Kept.refl _).set (by simp only [ABlk.bd, AV.bd, AV.bdL, and_self])
      · simp only [AE.bd, AV.bd, AV.bdL, and_self]
    · exact absurd rfl hc
  by_cases k2 : k = 2
  · subst k2
    simp -dsimp (disch := omega) only [go_sem, hr]
    intro g0 g1
    refine curve2 2 (.d .nilsl) (.d .nilsl) m.length (m.length + 1 + 1) s a1 g0 g1 nr _ (by simp -dsimp (disch := omega) only [go_sem, get_set_same _ hr]) (by simp -dsimp (disch := omega) only [go_sem]) (by simp -dsimp (disch := omega) only [go_sem]) (by omega) (by omega) _ ?_
    simp only [curveBody, if_pos, if_neg, show ¬ (2 : Int) = 1 by omega, if_false, if_true] at hQ
    rcases ht : tableR s a1 with ⟨l, a2⟩ | ⟨w, e, a2⟩
    rotate_left
    · rw [ht] at hQ
      simp only [RQ, RR.bind] at hQ ⊢
      simp -dsimp (disch := omega) only [go_sem]
      refine ⟨_, _, .pan (.refl _), ?_, ?_, ?_, hQ⟩ <;> first | (exact Over.refl _) | (exact (Over.refl _).cons _) | (exact ((Over.refl _).cons _).cons _) | (exact (((Over.refl _).cons _).cons _).cons _) | (exact ((((Over.refl _).cons _).cons _).cons _).cons _) | exact Kept.refl _ | (exact (Kept.refl _).set (by simp only [ABlk.bd, AV.bd, AV.bdL, and_self])) | (simp only [AE.bd, AV.bd, AV.bdL, and_self]; done)
    rw [ht] at hQ
    simp only [RR.bind] at hQ ⊢
    intro g2 g3
    simp -dsimp (disch := omega) only [go_sem]
    by_cases hc : curveE ⟨2, l, []⟩ = 0
    · refine ADraw.of (es := []) (pn := none) (T := [⟨false, true, 0, 0, 0⟩, ⟨false, false, 0, 0, 0⟩, ⟨false, true, 0, 0, 0⟩, ⟨false, true, 0, 0, 0⟩, ⟨false, true, 0, 0, 0⟩]) mixed (by kernel_rfl) ?_
      simp -dsimp (disch := omega) only [go_sem, hr]
      refine wDCall.still (I (curveE ⟨2, l, []⟩)) (ACalls.args (.cons (.agg (.cons (.refl _) (.cons (.refl _) (.cons (.nilsl 6) .nil)))) .nil) (curveCheck ⟨2, l, []⟩ _ _ ⟨rfl, rfl⟩)) ?_
      simp -dsimp (disch := omega) only [go_sem]
      refine wDCall.still (.tup []) (check _ _ _ _ _ (by rw [if_pos hc]; exact ⟨rfl, rfl⟩)) ?_
      simp -dsimp (disch := omega) only [go_sem]
      rw [if_pos hc] at hQ
      refine ⟨_, _, .ret (.agg (.cons (.refl _) (.cons (.refl _) (.cons (.nilsl 6) .nil)))), ?_, ?_, ?_, hQ g2 g3⟩
      · repeat (first | exact Over.refl _ | apply Over.cons)
      · exact (Kept.refl _).set (by simp only [ABlk.bd, AV.bd, AV.bdL, and_self])
      · simp only [AE.bd, AV.bd, AV.bdL, and_self]
    · refine ADraw.of (es := []) (pn := some 4) (T := [⟨false, true, 0, 0, 0⟩, ⟨false, false, 0, 0, 0⟩, ⟨false, true, 0, 0, 0⟩, ⟨false, true, 0, 0, 0⟩, ⟨false, true, 0, 0, 1⟩]) mixed (by kernel_rfl) ?_
      simp -dsimp (disch := omega) only [go_sem, hr]
      refine wDCall.still (I (curveE ⟨2, l, []⟩)) (ACalls.args (.cons (.agg (.cons (.refl _) (.cons (.refl _) (.cons (.nilsl 6) .nil)))) .nil) (curveCheck ⟨2, l, []⟩ _ _ ⟨rfl, rfl⟩)) ?_
      simp -dsimp (disch := omega) only [go_sem]
      refine wDPan.of (flt a (curveE ⟨2, l, []⟩)) _ (check _ _ _ _ _ (by rw [if_neg hc]; exact ⟨rfl, rfl⟩)) ?_
      simp -dsimp (disch := omega) only [go_sem]
      rw [if_neg hc] at hQ
      intro fr
      refine ⟨_, _, .pan (.refl _), ?_, ?_, ?_, hQ⟩ <;> first | (exact Over.refl _) | (exact (Over.refl _).cons _) | (exact ((Over.refl _).cons _).cons _) | (exact (((Over.refl _).cons _).cons _).cons _) | (exact ((((Over.refl _).cons _).cons _).cons _).cons _) | exact Kept.refl _ | (exact (Kept.refl _).set (by simp only [ABlk.bd, AV.bd, AV.bdL, and_self])) | (simp only [AE.bd, AV.bd, AV.bdL, and_self]; done)
  by_cases k3 : k = 3
  · subst k3
    simp -dsimp (disch := omega) only [go_sem, hr]
    intro g0 g1
    refine curve3 3 (.d .nilsl) (.d .nilsl) m.length (m.length + 1 + 1) s a1 g0 g1 nr _ (by simp -dsimp (disch := omega) only [go_sem, get_set_same _ hr]) (by simp -dsimp (disch := omega) only [go_sem]) (by simp -dsimp (disch := omega) only [go_sem]) (by omega) (by omega) _ ?_
    simp only [curveBody, if_pos, if_neg, show ¬ (3 : Int) = 1 by omega, show ¬ (3 : Int) = 2 by omega, if_false, if_true] at hQ
    rcases ht : segsR s a1 with ⟨l, a2⟩ | ⟨w, e, a2⟩
    rotate_left
    · rw [ht] at hQ
      simp only [RQ, RR.bind] at hQ ⊢
      simp -dsimp (disch := omega) only [go_sem]
      refine ⟨_, _, .pan (.refl _), ?_, ?_, ?_, hQ⟩ <;> first | (exact Over.refl _) | (exact (Over.refl _).cons _) | (exact ((Over.refl _).cons _).cons _) | (exact (((Over.refl _).cons _).cons _).cons _) | (exact ((((Over.refl _).cons _).cons _).cons _).cons _) | exact Kept.refl _ | (exact (Kept.refl _).set (by simp only [ABlk.bd, AV.bd, AV.bdL, and_self])) | (simp only [AE.bd, AV.bd, AV.bdL, and_self]; done)
    rw [ht] at hQ
    simp only [RR.bind] at hQ ⊢
    intro g2 g3
    simp -dsimp (disch := omega) only [go_sem]
    by_cases hc : curveE ⟨3, [], l⟩ = 0
    · refine ADraw.of (es := []) (pn := none) (T := [⟨false, true, 0, 0, 0⟩, ⟨false, false, 0, 0, 0⟩, ⟨false, true, 0, 0, 0⟩, ⟨false, true, 0, 0, 0⟩, ⟨false, true, 0, 0, 0⟩]) mixed (by kernel_rfl) ?_
      simp -dsimp (disch := omega) only [go_sem, hr]
      refine wDCall.still (I (curveE ⟨3, [], l⟩)) (ACalls.args (.cons (.agg (.cons (.refl _) (.cons (.nilsl 1) (.cons (.refl _) .nil)))) .nil) (curveCheck ⟨3, [], l⟩ _ _ ⟨rfl, rfl⟩)) ?_
      simp -dsimp (disch := omega) only [go_sem]
      refine wDCall.still (.tup []) (check _ _ _ _ _ (by rw [if_pos hc]; exact ⟨rfl, rfl⟩)) ?_
      simp -dsimp (disch := omega) only [go_sem]
      rw [if_pos hc] at hQ
      refine ⟨_, _, .ret (.agg (.cons (.refl _) (.cons (.nilsl 1) (.cons (.refl _) .nil)))), ?_, ?_, ?_, hQ g2 g3⟩
      · repeat (first | exact Over.refl _ | apply Over.cons)
      · exact (Kept.refl _).set (by simp only [ABlk.bd, AV.bd, AV.bdL, and_self])
      · simp only [AE.bd, AV.bd, AV.bdL, and_self]
    · refine ADraw.of (es := []) (pn := some 4) (T := [⟨false, true, 0, 0, 0⟩, ⟨false, false, 0, 0, 0⟩, ⟨false, true, 0, 0, 0⟩, ⟨false, true, 0, 0, 0⟩, ⟨false, true, 0, 0, 1⟩]) mixed (by kernel_rfl) ?_
      simp -dsimp (disch := omega) only [go_sem, hr]
      refine wDCall.still (I (curveE ⟨3, [], l⟩)) (ACalls.args (.cons (.agg (.cons (.refl _) (.cons (.nilsl 1) (.cons (.refl _) .nil)))) .nil) (curveCheck ⟨3, [], l⟩ _ _ ⟨rfl, rfl⟩)) ?_
      simp -dsimp (disch := omega) only [go_sem]
      refine wDPan.of (flt a (curveE ⟨3, [], l⟩)) _ (check _ _ _ _ _ (by rw [if_neg hc]; exact ⟨rfl, rfl⟩)) ?_
      simp -dsimp (disch := omega) only [go_sem]
      rw [if_neg hc] at hQ
      intro fr
      refine ⟨_, _, .pan (.refl _), ?_, ?_, ?_, hQ⟩ <;> first | (exact Over.refl _) | (exact (Over.refl _).cons _) | (exact ((Over.refl _).cons _).cons _) | (exact (((Over.refl _).cons _).cons _).cons _) | (exact ((((Over.refl _).cons _).cons _).cons _).cons _) | exact Kept.refl _ | (exact (Kept.refl _).set (by simp only [ABlk.bd, AV.bd, AV.bdL, and_self])) | (simp only [AE.bd, AV.bd, AV.bdL, and_self]; done)
  · simp only [curveBody, if_neg k1, if_neg k2, if_neg k3, RR.bind] at hQ
    simp only [RQ] at hQ
    simp -dsimp (disch := omega) only [go_sem, k1, k2, k3]
    refine ⟨_, _, .pan (.refl _), ?_, ?_, ?_, hQ⟩ <;> first | (exact Over.refl _) | (exact (Over.refl _).cons _) | (exact ((Over.refl _).cons _).cons _) | (exact (((Over.refl _).cons _).cons _).cons _) | (exact ((((Over.refl _).cons _).cons _).cons _).cons _) | exact Kept.refl _ | (exact (Kept.refl _).set (by simp only [ABlk.bd, AV.bd, AV.bdL, and_self])) | (simp only [AE.bd, AV.bd, AV.bdL, and_self]; done)
end Go.Proofs.YtbdefaebbicfjaaGreat
