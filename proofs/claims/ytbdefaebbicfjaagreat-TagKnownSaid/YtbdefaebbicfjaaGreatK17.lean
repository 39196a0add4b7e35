/- The readers of elements and chains. -/
import Derived.Test.YtbdefaebbicfjaaGreatK16
set_option linter.all false
namespace Go.Proofs.YtbdefaebbicfjaaGreat
open Go Go.Ab Go.RowKit
set_option maxHeartbeats 400000
set_option maxRecDepth 10000

def eltBody (k : Int) (s : List UInt8) (a a1 : Int) : RR Elt :=
  if k = 1 then (curvesR s a1).bind fun l a2 => .ok ⟨1, l, [], [], ⟨[], 0, []⟩, [], 0, 0⟩ a2
  else if k = 2 then (rowsR s a1).bind fun l a2 => .ok ⟨2, [], l.1, l.2, ⟨[], 0, []⟩, [], 0, 0⟩ a2
  else if k = 3 then (gridR s a1).bind fun g a2 => .ok ⟨3, [], [], [], g, [], 0, 0⟩ a2
  else if k = 4 then (progR s a1).bind fun l a2 => .ok ⟨4, [], [], [], ⟨[], 0, []⟩, l.2.2, l.1, l.2.1⟩ a2
  else .bad a 5 a1
def eltR (s : List UInt8) (a : Int) : RR Elt := (u8R s a).bind fun k a1 => (eltBody k s a a1).bind fun x a2 => if eltE x = 0 then .ok x a2 else .bad a (eltE x) a2


theorem element (s : List UInt8) (a : Int) (h0 : 0 ≤ a) (h1 : a ≤ 65536) (nr : Nat) (m : AM) (hr : m.get nr = some (rdr s a)) (Q : AE → AM → Prop) (hQ : RQ s nr m Elt.enc Q (eltR s a)) : ACalls Tryz.prog 112 [.ptr nr 0] m Q := by
  refine ACalls.fin ?_
  have hlt := AM.get_lt _ _ _ hr
  unfold eltR at hQ
  refine acalls_of_body Tryz.func112 (by rfl) (by rfl) (Nat.le_of_ble_eq_true rfl) ?_
  simp -dsimp (disch := omega) only [go_sem, Tryz.f112, hr]
  refine choose [(1, AV.fn (Fn.func 142) [] [AV.ptr m.length 0, AV.ptr (m.length + 2) 0]), (2, AV.fn (Fn.func 145) [] [AV.ptr m.length 0, AV.ptr (m.length + 2) 0]), (3, AV.fn (Fn.func 148) [] [AV.ptr m.length 0, AV.ptr (m.length + 2) 0]), (4, AV.fn (Fn.func 150) [] [AV.ptr m.length 0, AV.ptr (m.length + 2) 0])] (m.length + 3) s a nr _ (by simp -dsimp (disch := omega) only [go_sem, hr]) (by simp -dsimp (disch := omega) only [go_sem]) (by omega) (by omega) _ ?_
  rcases hu : u8R s a with ⟨k, a1⟩ | ⟨w, e, a1⟩
  rotate_left
  · rw [hu] at hQ
    simp only [RQ, RR.bind] at hQ ⊢
    simp -dsimp (disch := omega) only [go_sem]
    refine ⟨_, _, .pan (.refl _), ?_, ?_, ?_, hQ⟩ <;> first | (exact Over.refl _) | (exact (Over.refl _).cons _) | (exact ((Over.refl _).cons _).cons _) | (exact (((Over.refl _).cons _).cons _).cons _) | (exact ((((Over.refl _).cons _).cons _).cons _).cons _) | exact Kept.refl _ | (exact (Kept.refl _).set (by simp only [ABlk.bd, AV.bd, AV.bdL, and_self])) | (simp only [AE.bd, AV.bd, AV.bdL, and_self]; done)
  rw [hu] at hQ
  have p1 := u8R_pos hu
  simp only [RR.bind] at hQ ⊢
  by_cases k1 : k = 1
  · subst k1
    simp -dsimp (disch := omega) only [go_sem, hr]
    intro g0 g1
    refine elt1 (Din 1) .nilsl .nilsl .nilsl .nilsl (Din 0) .nilsl .nilsl (Din 0) (Din 0) m.length (m.length + 2) s a1 g0 g1 nr _ (by simp -dsimp (disch := omega) only [go_sem, get_set_same _ hr]) (by simp -dsimp (disch := omega) only [go_sem]) (by simp -dsimp (disch := omega) only [go_sem]) (by omega) (by omega) _ ?_
    simp only [eltBody, if_pos] at hQ
    rcases ht : curvesR s a1 with ⟨l, a2⟩ | ⟨w, e, a2⟩
    rotate_left
    · rw [ht] at hQ
      simp only [RQ, RR.bind] at hQ ⊢
      simp -dsimp (disch := omega) only [go_sem]
      refine ⟨_, _, .pan (.refl _), ?_, ?_, ?_, hQ⟩ <;> first | (exact Over.refl _) | (exact (Over.refl _).cons _) | (exact ((Over.refl _).cons _).cons _) | (exact (((Over.refl _).cons _).cons _).cons _) | (exact ((((Over.refl _).cons _).cons _).cons _).cons _) | exact Kept.refl _ | (exact (Kept.refl _).set (by simp only [ABlk.bd, AV.bd, AV.bdL, and_self])) | (simp only [AE.bd, AV.bd, AV.bdL, and_self]; done)
    rw [ht] at hQ
    simp only [RR.bind] at hQ ⊢
    intro g2 g3
    simp -dsimp (disch := omega) only [go_sem]
    by_cases hc : eltE ⟨1, l, [], [], ⟨[], 0, []⟩, [], 0, 0⟩ = 0
    · refine ADraw.of (es := []) (pn := none) (T := [⟨false, true, 0, 0, 0⟩, ⟨false, false, 0, 0, 0⟩, ⟨false, true, 0, 0, 0⟩, ⟨false, true, 0, 0, 0⟩, ⟨false, true, 0, 0, 0⟩]) mixed (by kernel_rfl) ?_
      simp -dsimp (disch := omega) only [go_sem, hr]
      refine wDCall.still (I (eltE ⟨1, l, [], [], ⟨[], 0, []⟩, [], 0, 0⟩)) (ACalls.args (.cons (.agg (.cons (.refl _) (.cons (.refl _) (.cons (.nilsl 1) (.cons (.nilsl 1) (.cons (.nilsl 1) (.cons (.refl _) (.cons (.nilsl 1) (.cons (.nilsl 2) (.cons (.refl _) (.cons (.refl _) .nil))))))))))) .nil) (eltCheck ⟨1, l, [], [], ⟨[], 0, []⟩, [], 0, 0⟩ _ _ ⟨rfl, rfl⟩)) ?_
      simp -dsimp (disch := omega) only [go_sem]
      refine wDCall.still (.tup []) (check _ _ _ _ _ (by rw [if_pos hc]; exact ⟨rfl, rfl⟩)) ?_
      simp -dsimp (disch := omega) only [go_sem]
      rw [if_pos hc] at hQ
      refine ⟨_, _, .ret (.agg (.cons (.refl _) (.cons (.refl _) (.cons (.nilsl 1) (.cons (.nilsl 1) (.cons (.nilsl 1) (.cons (.refl _) (.cons (.nilsl 1) (.cons (.nilsl 2) (.cons (.refl _) (.cons (.refl _) .nil))))))))))), ?_, ?_, ?_, hQ g2 g3⟩
      · repeat (first | exact Over.refl _ | apply Over.cons)
      · exact (Kept.refl _).set (by simp only [ABlk.bd, AV.bd, AV.bdL, and_self])
      · simp only [AE.bd, AV.bd, AV.bdL, and_self]
    · refine ADraw.of (es := []) (pn := some 4) (T := [⟨false, true, 0, 0, 0⟩, ⟨false, false, 0, 0, 0⟩, ⟨false, true, 0, 0, 0⟩, ⟨false, true, 0, 0, 0⟩, ⟨false, true, 0, 0, 1⟩]) mixed (by kernel_rfl) ?_
      simp -dsimp (disch := omega) only [go_sem, hr]
      refine wDCall.still (I (eltE ⟨1, l, [], [], ⟨[], 0, []⟩, [], 0, 0⟩)) (ACalls.args (.cons (.agg (.cons (.refl _) (.cons (.refl _) (.cons (.nilsl 1) (.cons (.nilsl 1) (.cons (.nilsl 1) (.cons (.refl _) (.cons (.nilsl 1) (.cons (.nilsl 2) (.cons (.refl _) (.cons (.refl _) .nil))))))))))) .nil) (eltCheck ⟨1, l, [], [], ⟨[], 0, []⟩, [], 0, 0⟩ _ _ ⟨rfl, rfl⟩)) ?_
      simp -dsimp (disch := omega) only [go_sem]
      refine wDPan.of (flt a (eltE ⟨1, l, [], [], ⟨[], 0, []⟩, [], 0, 0⟩)) _ (check _ _ _ _ _ (by rw [if_neg hc]; exact ⟨rfl, rfl⟩)) ?_
      simp -dsimp (disch := omega) only [go_sem]
      rw [if_neg hc] at hQ
      intro fr
      refine ⟨_, _, .pan (.refl _), ?_, ?_, ?_, hQ⟩ <;> first | (exact Over.refl _) | (exact (Over.refl _).cons _) | (exact ((Over.refl _).cons _).cons _) | (exact (((Over.refl _).cons _).cons _).cons _) | (exact ((((Over.refl _).cons _).cons _).cons _).cons _) | exact Kept.refl _ | (exact (Kept.refl _).set (by simp only [ABlk.bd, AV.bd, AV.bdL, and_self])) | (simp only [AE.bd, AV.bd, AV.bdL, and_self]; done)
  by_cases k2 : k = 2
  · subst k2
    simp -dsimp (disch := omega) only [go_sem, hr]
    intro g0 g1
    refine elt2 (Din 2) .nilsl .nilsl .nilsl .nilsl (Din 0) .nilsl .nilsl (Din 0) (Din 0) m.length (m.length + 2) s a1 g0 g1 nr _ (by simp -dsimp (disch := omega) only [go_sem, get_set_same _ hr]) (by simp -dsimp (disch := omega) only [go_sem]) (by simp -dsimp (disch := omega) only [go_sem]) (by omega) (by omega) (by omega) _ ?_
    simp only [eltBody, if_pos, if_neg, if_true, if_false, show ¬ (2 : Int) = 1 by omega] at hQ
    rcases ht : rowsR s a1 with ⟨l, a2⟩ | ⟨w, e, a2⟩
    rotate_left
    · rw [ht] at hQ
      simp only [RQ, RR.bind] at hQ ⊢
      rintro m' (rfl | ⟨r, rfl⟩)
      · simp -dsimp (disch := omega) only [go_sem]
        refine ⟨_, _, .pan (.refl _), ?_, ?_, ?_, hQ⟩ <;> first | (exact Over.refl _) | (exact (Over.refl _).cons _) | (exact ((Over.refl _).cons _).cons _) | (exact (((Over.refl _).cons _).cons _).cons _) | (exact ((((Over.refl _).cons _).cons _).cons _).cons _) | exact Kept.refl _ | (exact (Kept.refl _).set (by simp only [ABlk.bd, AV.bd, AV.bdL, and_self])) | (simp only [AE.bd, AV.bd, AV.bdL, and_self]; done)
      · simp -dsimp (disch := omega) only [go_sem]
        refine ⟨_, _, .pan (.refl _), ?_, ?_, ?_, hQ⟩ <;> first | (exact Over.refl _) | (exact (Over.refl _).cons _) | (exact ((Over.refl _).cons _).cons _) | (exact (((Over.refl _).cons _).cons _).cons _) | (exact ((((Over.refl _).cons _).cons _).cons _).cons _) | exact Kept.refl _ | (exact (Kept.refl _).set (by simp only [ABlk.bd, AV.bd, AV.bdL, and_self])) | (simp only [AE.bd, AV.bd, AV.bdL, and_self]; done)
    rw [ht] at hQ
    simp only [RR.bind] at hQ ⊢
    intro g2 g3
    simp -dsimp (disch := omega) only [go_sem]
    by_cases hc : eltE ⟨2, [], l.1, l.2, ⟨[], 0, []⟩, [], 0, 0⟩ = 0
    · refine ADraw.of (es := []) (pn := none) (T := [⟨false, true, 0, 0, 0⟩, ⟨false, false, 0, 0, 0⟩, ⟨false, true, 0, 0, 0⟩, ⟨false, true, 0, 0, 0⟩, ⟨false, true, 0, 0, 0⟩]) mixed (by kernel_rfl) ?_
      simp -dsimp (disch := omega) only [go_sem, hr]
      refine wDCall.still (I (eltE ⟨2, [], l.1, l.2, ⟨[], 0, []⟩, [], 0, 0⟩)) (ACalls.args (.cons (.agg (.cons (.refl _) (.cons (.nilsl 3) (.cons (.refl _) (.cons (.refl _) (.cons (.nilsl 1) (.cons (.refl _) (.cons (.nilsl 1) (.cons (.nilsl 2) (.cons (.refl _) (.cons (.refl _) .nil))))))))))) .nil) (eltCheck ⟨2, [], l.1, l.2, ⟨[], 0, []⟩, [], 0, 0⟩ _ _ ⟨rfl, rfl⟩)) ?_
      simp -dsimp (disch := omega) only [go_sem]
      refine wDCall.still (.tup []) (check _ _ _ _ _ (by rw [if_pos hc]; exact ⟨rfl, rfl⟩)) ?_
      simp -dsimp (disch := omega) only [go_sem]
      rw [if_pos hc] at hQ
      refine ⟨_, _, .ret (.agg (.cons (.refl _) (.cons (.nilsl 3) (.cons (.refl _) (.cons (.refl _) (.cons (.nilsl 1) (.cons (.refl _) (.cons (.nilsl 1) (.cons (.nilsl 2) (.cons (.refl _) (.cons (.refl _) .nil))))))))))), ?_, ?_, ?_, hQ g2 g3⟩
      · repeat (first | exact Over.refl _ | apply Over.cons)
      · exact (Kept.refl _).set (by simp only [ABlk.bd, AV.bd, AV.bdL, and_self])
      · simp only [AE.bd, AV.bd, AV.bdL, and_self]
    · refine ADraw.of (es := []) (pn := some 4) (T := [⟨false, true, 0, 0, 0⟩, ⟨false, false, 0, 0, 0⟩, ⟨false, true, 0, 0, 0⟩, ⟨false, true, 0, 0, 0⟩, ⟨false, true, 0, 0, 1⟩]) mixed (by kernel_rfl) ?_
      simp -dsimp (disch := omega) only [go_sem, hr]
      refine wDCall.still (I (eltE ⟨2, [], l.1, l.2, ⟨[], 0, []⟩, [], 0, 0⟩)) (ACalls.args (.cons (.agg (.cons (.refl _) (.cons (.nilsl 3) (.cons (.refl _) (.cons (.refl _) (.cons (.nilsl 1) (.cons (.refl _) (.cons (.nilsl 1) (.cons (.nilsl 2) (.cons (.refl _) (.cons (.refl _) .nil))))))))))) .nil) (eltCheck ⟨2, [], l.1, l.2, ⟨[], 0, []⟩, [], 0, 0⟩ _ _ ⟨rfl, rfl⟩)) ?_
      simp -dsimp (disch := omega) only [go_sem]
      refine wDPan.of (flt a (eltE ⟨2, [], l.1, l.2, ⟨[], 0, []⟩, [], 0, 0⟩)) _ (check _ _ _ _ _ (by rw [if_neg hc]; exact ⟨rfl, rfl⟩)) ?_
      simp -dsimp (disch := omega) only [go_sem]
      rw [if_neg hc] at hQ
      intro fr
      refine ⟨_, _, .pan (.refl _), ?_, ?_, ?_, hQ⟩ <;> first | (exact Over.refl _) | (exact (Over.refl _).cons _) | (exact ((Over.refl _).cons _).cons _) | (exact (((Over.refl _).cons _).cons _).cons _) | (exact ((((Over.refl _).cons _).cons _).cons _).cons _) | exact Kept.refl _ | (exact (Kept.refl _).set (by simp only [ABlk.bd, AV.bd, AV.bdL, and_self])) | (simp only [AE.bd, AV.bd, AV.bdL, and_self]; done)
  by_cases k3 : k = 3
  · subst k3
    simp -dsimp (disch := omega) only [go_sem, hr]
    intro g0 g1
    refine elt3 (Din 3) .nilsl .nilsl .nilsl .nilsl (Din 0) .nilsl .nilsl (Din 0) (Din 0) m.length (m.length + 2) s a1 g0 g1 nr _ (by simp -dsimp (disch := omega) only [go_sem, get_set_same _ hr]) (by simp -dsimp (disch := omega) only [go_sem]) (by simp -dsimp (disch := omega) only [go_sem]) (by omega) (by omega) _ ?_
    simp only [eltBody, if_pos, if_neg, if_true, if_false, show ¬ (3 : Int) = 1 by omega, show ¬ (3 : Int) = 2 by omega] at hQ
    rcases ht : gridR s a1 with ⟨l, a2⟩ | ⟨w, e, a2⟩
    rotate_left
    · rw [ht] at hQ
      simp only [RQ, RR.bind] at hQ ⊢
      simp -dsimp (disch := omega) only [go_sem]
      refine ⟨_, _, .pan (.refl _), ?_, ?_, ?_, hQ⟩ <;> first | (exact Over.refl _) | (exact (Over.refl _).cons _) | (exact ((Over.refl _).cons _).cons _) | (exact (((Over.refl _).cons _).cons _).cons _) | (exact ((((Over.refl _).cons _).cons _).cons _).cons _) | exact Kept.refl _ | (exact (Kept.refl _).set (by simp only [ABlk.bd, AV.bd, AV.bdL, and_self])) | (simp only [AE.bd, AV.bd, AV.bdL, and_self]; done)
    rw [ht] at hQ
    simp only [RR.bind] at hQ ⊢
    intro g2 g3
    simp -dsimp (disch := omega) only [go_sem]
    by_cases hc : eltE ⟨3, [], [], [], l, [], 0, 0⟩ = 0
    · refine ADraw.of (es := []) (pn := none) (T := [⟨false, true, 0, 0, 0⟩, ⟨false, false, 0, 0, 0⟩, ⟨false, true, 0, 0, 0⟩, ⟨false, true, 0, 0, 0⟩, ⟨false, true, 0, 0, 0⟩]) mixed (by kernel_rfl) ?_
      simp -dsimp (disch := omega) only [go_sem, hr]
      refine wDCall.still (I (eltE ⟨3, [], [], [], l, [], 0, 0⟩)) (ACalls.args (.cons (.agg (.cons (.refl _) (.cons (.nilsl 3) (.cons (.nilsl 1) (.cons (.nilsl 1) (.cons (.refl _) (.cons (.refl _) (.cons (.refl _) (.cons (.nilsl 2) (.cons (.refl _) (.cons (.refl _) .nil))))))))))) .nil) (eltCheck ⟨3, [], [], [], l, [], 0, 0⟩ _ _ ⟨rfl, rfl⟩)) ?_
      simp -dsimp (disch := omega) only [go_sem]
      refine wDCall.still (.tup []) (check _ _ _ _ _ (by rw [if_pos hc]; exact ⟨rfl, rfl⟩)) ?_
      simp -dsimp (disch := omega) only [go_sem]
      rw [if_pos hc] at hQ
      refine ⟨_, _, .ret (.agg (.cons (.refl _) (.cons (.nilsl 3) (.cons (.nilsl 1) (.cons (.nilsl 1) (.cons (.refl _) (.cons (.refl _) (.cons (.refl _) (.cons (.nilsl 2) (.cons (.refl _) (.cons (.refl _) .nil))))))))))), ?_, ?_, ?_, hQ g2 g3⟩
      · repeat (first | exact Over.refl _ | apply Over.cons)
      · exact (Kept.refl _).set (by simp only [ABlk.bd, AV.bd, AV.bdL, and_self])
      · simp only [AE.bd, AV.bd, AV.bdL, and_self]
    · refine ADraw.of (es := []) (pn := some 4) (T := [⟨false, true, 0, 0, 0⟩, ⟨false, false, 0, 0, 0⟩, ⟨false, true, 0, 0, 0⟩, ⟨false, true, 0, 0, 0⟩, ⟨false, true, 0, 0, 1⟩]) mixed (by kernel_rfl) ?_
      simp -dsimp (disch := omega) only [go_sem, hr]
      refine wDCall.still (I (eltE ⟨3, [], [], [], l, [], 0, 0⟩)) (ACalls.args (.cons (.agg (.cons (.refl _) (.cons (.nilsl 3) (.cons (.nilsl 1) (.cons (.nilsl 1) (.cons (.refl _) (.cons (.refl _) (.cons (.refl _) (.cons (.nilsl 2) (.cons (.refl _) (.cons (.refl _) .nil))))))))))) .nil) (eltCheck ⟨3, [], [], [], l, [], 0, 0⟩ _ _ ⟨rfl, rfl⟩)) ?_
      simp -dsimp (disch := omega) only [go_sem]
      refine wDPan.of (flt a (eltE ⟨3, [], [], [], l, [], 0, 0⟩)) _ (check _ _ _ _ _ (by rw [if_neg hc]; exact ⟨rfl, rfl⟩)) ?_
      simp -dsimp (disch := omega) only [go_sem]
      rw [if_neg hc] at hQ
      intro fr
      refine ⟨_, _, .pan (.refl _), ?_, ?_, ?_, hQ⟩ <;> first | (exact Over.refl _) | (exact (Over.refl _).cons _) | (exact ((Over.refl _).cons _).cons _) | (exact (((Over.refl _).cons _).cons _).cons _) | (exact ((((Over.refl _).cons _).cons _).cons _).cons _) | exact Kept.refl _ | (exact (Kept.refl _).set (by simp only [ABlk.bd, AV.bd, AV.bdL, and_self])) | (simp only [AE.bd, AV.bd, AV.bdL, and_self]; done)
  by_cases k4 : k = 4
  · subst k4
    simp -dsimp (disch := omega) only [go_sem, hr]
    intro g0 g1
    refine elt4 (Din 4) .nilsl .nilsl .nilsl .nilsl (Din 0) .nilsl .nilsl (Din 0) (Din 0) m.length (m.length + 2) s a1 g0 g1 nr _ (by simp -dsimp (disch := omega) only [go_sem, get_set_same _ hr]) (by simp -dsimp (disch := omega) only [go_sem]) (by simp -dsimp (disch := omega) only [go_sem]) (by omega) (by omega) (by omega) _ ?_
    simp only [eltBody, if_pos, if_neg, if_true, if_false, show ¬ (4 : Int) = 1 by omega, show ¬ (4 : Int) = 2 by omega, show ¬ (4 : Int) = 3 by omega] at hQ
    rcases ht : progR s a1 with ⟨l, a2⟩ | ⟨w, e, a2⟩
    rotate_left
    · rw [ht] at hQ
      simp only [RQ, RR.bind] at hQ ⊢
      rintro m' (rfl | ⟨u, v, rfl⟩)
      · simp -dsimp (disch := omega) only [go_sem]
        refine ⟨_, _, .pan (.refl _), ?_, ?_, ?_, hQ⟩ <;> first | (exact Over.refl _) | (exact (Over.refl _).cons _) | (exact ((Over.refl _).cons _).cons _) | (exact (((Over.refl _).cons _).cons _).cons _) | (exact ((((Over.refl _).cons _).cons _).cons _).cons _) | exact Kept.refl _ | (exact (Kept.refl _).set (by simp only [ABlk.bd, AV.bd, AV.bdL, and_self])) | (simp only [AE.bd, AV.bd, AV.bdL, and_self]; done)
      · simp -dsimp (disch := omega) only [go_sem]
        refine ⟨_, _, .pan (.refl _), ?_, ?_, ?_, hQ⟩ <;> first | (exact Over.refl _) | (exact (Over.refl _).cons _) | (exact ((Over.refl _).cons _).cons _) | (exact (((Over.refl _).cons _).cons _).cons _) | (exact ((((Over.refl _).cons _).cons _).cons _).cons _) | exact Kept.refl _ | (exact (Kept.refl _).set (by simp only [ABlk.bd, AV.bd, AV.bdL, and_self])) | (simp only [AE.bd, AV.bd, AV.bdL, and_self]; done)
    rw [ht] at hQ
    simp only [RR.bind] at hQ ⊢
    intro g2 g3
    simp -dsimp (disch := omega) only [go_sem]
    by_cases hc : eltE ⟨4, [], [], [], ⟨[], 0, []⟩, l.2.2, l.1, l.2.1⟩ = 0
    · refine ADraw.of (es := []) (pn := none) (T := [⟨false, true, 0, 0, 0⟩, ⟨false, false, 0, 0, 0⟩, ⟨false, true, 0, 0, 0⟩, ⟨false, true, 0, 0, 0⟩, ⟨false, true, 0, 0, 0⟩]) mixed (by kernel_rfl) ?_
      simp -dsimp (disch := omega) only [go_sem, hr]
      refine wDCall.still (I (eltE ⟨4, [], [], [], ⟨[], 0, []⟩, l.2.2, l.1, l.2.1⟩)) (ACalls.args (.cons (.agg (.cons (.refl _) (.cons (.nilsl 3) (.cons (.nilsl 1) (.cons (.nilsl 1) (.cons (.nilsl 1) (.cons (.refl _) (.cons (.nilsl 1) (.cons (.refl _) (.cons (.refl _) (.cons (.refl _) .nil))))))))))) .nil) (eltCheck ⟨4, [], [], [], ⟨[], 0, []⟩, l.2.2, l.1, l.2.1⟩ _ _ ⟨rfl, rfl⟩)) ?_
      simp -dsimp (disch := omega) only [go_sem]
      refine wDCall.still (.tup []) (check _ _ _ _ _ (by rw [if_pos hc]; exact ⟨rfl, rfl⟩)) ?_
      simp -dsimp (disch := omega) only [go_sem]
      rw [if_pos hc] at hQ
      refine ⟨_, _, .ret (.agg (.cons (.refl _) (.cons (.nilsl 3) (.cons (.nilsl 1) (.cons (.nilsl 1) (.cons (.nilsl 1) (.cons (.refl _) (.cons (.nilsl 1) (.cons (.refl _) (.cons (.refl _) (.cons (.refl _) .nil))))))))))), ?_, ?_, ?_, hQ g2 g3⟩
      · repeat (first | exact Over.refl _ | apply Over.cons)
      · exact (Kept.refl _).set (by simp only [ABlk.bd, AV.bd, AV.bdL, and_self])
      · simp only [AE.bd, AV.bd, AV.bdL, and_self]
    · refine ADraw.of (es := []) (pn := some 4) (T := [⟨false, true, 0, 0, 0⟩, ⟨false, false, 0, 0, 0⟩, ⟨false, true, 0, 0, 0⟩, ⟨false, true, 0, 0, 0⟩, ⟨false, true, 0, 0, 1⟩]) mixed (by kernel_rfl) ?_
      simp -dsimp (disch := omega) only [go_sem, hr]
      refine wDCall.still (I (eltE ⟨4, [], [], [], ⟨[], 0, []⟩, l.2.2, l.1, l.2.1⟩)) (ACalls.args (.cons (.agg (.cons (.refl _) (.cons (.nilsl 3) (.cons (.nilsl 1) (.cons (.nilsl 1) (.cons (.nilsl 1) (.cons (.refl _) (.cons (.nilsl 1) (.cons (.refl _) (.cons (.refl _) (.cons (.refl _) .nil))))))))))) .nil) (eltCheck ⟨4, [], [], [], ⟨[], 0, []⟩, l.2.2, l.1, l.2.1⟩ _ _ ⟨rfl, rfl⟩)) ?_
      simp -dsimp (disch := omega) only [go_sem]
      refine wDPan.of (flt a (eltE ⟨4, [], [], [], ⟨[], 0, []⟩, l.2.2, l.1, l.2.1⟩)) _ (check _ _ _ _ _ (by rw [if_neg hc]; exact ⟨rfl, rfl⟩)) ?_
      simp -dsimp (disch := omega) only [go_sem]
      rw [if_neg hc] at hQ
      intro fr
      refine ⟨_, _, .pan (.refl _), ?_, ?_, ?_, hQ⟩ <;> first | (exact Over.refl _) | (exact (Over.refl _).cons _) | (exact ((Over.refl _).cons _).cons _) | (exact (((Over.refl _).cons _).cons _).cons _) | (exact ((((Over.refl _).cons _).cons _).cons _).cons _) | exact Kept.refl _ | (exact (Kept.refl _).set (by simp only [ABlk.bd, AV.bd, AV.bdL, and_self])) | (simp only [AE.bd, AV.bd, AV.bdL, and_self]; done)
  · simp only [eltBody, if_neg k1, if_neg k2, if_neg k3, if_neg k4, RR.bind] at hQ
    simp only [RQ] at hQ
    simp -dsimp (disch := omega) only [go_sem, k1, k2, k3, k4]
    refine ⟨_, _, .pan (.refl _), ?_, ?_, ?_, hQ⟩ <;> first | (exact Over.refl _) | (exact (Over.refl _).cons _) | (exact ((Over.refl _).cons _).cons _) | (exact (((Over.refl _).cons _).cons _).cons _) | (exact ((((Over.refl _).cons _).cons _).cons _).cons _) | exact Kept.refl _ | (exact (Kept.refl _).set (by simp only [ABlk.bd, AV.bd, AV.bdL, and_self])) | (simp only [AE.bd, AV.bd, AV.bdL, and_self]; done)

def chnR (s : List UInt8) (a : Int) : RR Chn := (u8R s a).bind fun nin a1 => (u8R s a1).bind fun n a2 => (listR eltR n s a2).bind fun l a3 => if chnE ⟨nin, l⟩ = 0 then .ok ⟨nin, l⟩ a3 else .bad a (chnE ⟨nin, l⟩) a3

theorem chain (s : List UInt8) (a : Int) (h0 : 0 ≤ a) (h1 : a ≤ 65536) (nr : Nat) (m : AM) (hr : m.get nr = some (rdr s a)) (Q : AE → AM → Prop) (hQ : RQ s nr m Chn.enc Q (chnR s a)) : ACalls Tryz.prog 69 [.ptr nr 0] m Q := by
  refine ACalls.fin ?_
  have hlt := AM.get_lt _ _ _ hr
  unfold chnR at hQ
  refine acalls_of_body Tryz.func69 (by rfl) (by rfl) (Nat.le_of_ble_eq_true rfl) ?_
  simp -dsimp (disch := omega) only [go_sem, Tryz.f69, hr]
  refine u8 s a nr _ (by simp -dsimp (disch := omega) only [go_sem, hr, get_set_same _ hr]) (by omega) _ ?_
  rcases hu : u8R s a with ⟨nin, a1⟩ | ⟨w, e, a1⟩
  rotate_left
  · rw [hu] at hQ
    simp only [RQ, RR.bind] at hQ ⊢
    simp -dsimp (disch := omega) only [go_sem]
    refine ⟨_, _, .pan (.refl _), ?_, ?_, ?_, hQ⟩ <;> first | (exact Over.refl _) | (exact (Over.refl _).cons _) | (exact ((Over.refl _).cons _).cons _) | (exact (((Over.refl _).cons _).cons _).cons _) | (exact ((((Over.refl _).cons _).cons _).cons _).cons _) | exact Kept.refl _ | (exact (Kept.refl _).set (by simp only [ABlk.bd, AV.bd, AV.bdL, and_self])) | (simp only [AE.bd, AV.bd, AV.bdL, and_self]; done)
  rw [hu] at hQ
  intro h0 h1
  try simp only [RR.bind] at hQ
  simp -dsimp (disch := omega) only [go_sem]
  have p1 := u8R_pos hu
  refine u8 s a1 nr _ (by simp -dsimp (disch := omega) only [go_sem, hr, get_set_same _ hr]) (by omega) _ ?_
  rcases hu : u8R s a1 with ⟨n, a2⟩ | ⟨w, e, a2⟩
  rotate_left
  · rw [hu] at hQ
    simp only [RQ, RR.bind] at hQ ⊢
    simp -dsimp (disch := omega) only [go_sem]
    refine ⟨_, _, .pan (.refl _), ?_, ?_, ?_, hQ⟩ <;> first | (exact Over.refl _) | (exact (Over.refl _).cons _) | (exact ((Over.refl _).cons _).cons _) | (exact (((Over.refl _).cons _).cons _).cons _) | (exact ((((Over.refl _).cons _).cons _).cons _).cons _) | exact Kept.refl _ | (exact (Kept.refl _).set (by simp only [ABlk.bd, AV.bd, AV.bdL, and_self])) | (simp only [AE.bd, AV.bd, AV.bdL, and_self]; done)
  rw [hu] at hQ
  intro h0 h1
  try simp only [RR.bind] at hQ
  simp -dsimp (disch := omega) only [go_sem]
  have p2 := u8R_pos hu
  have q2 := u8R_ok hu
  refine list111 eltR 112 [.ptr nr 0] [] n (by omega) s a2 p2.1 p2.2 nr _ (by simp -dsimp (disch := omega) only [go_sem, get_set_same _ hr]) (fun k a Q g0 g1 hq => element s a g0 g1 nr _ (by simp -dsimp (disch := omega) only [go_sem, get_set_same _ hr, AM.length_set]) Q hq) _ ?_
  rcases hv : listR eltR n s a2 with ⟨l, a3⟩ | ⟨w, e, a3⟩
  rotate_left
  · rw [hv] at hQ
    simp only [RQ, RR.bind] at hQ ⊢
    simp -dsimp (disch := omega) only [go_sem]
    refine ⟨_, _, .pan (.refl _), ?_, ?_, ?_, hQ⟩ <;> first | (exact Over.refl _) | (exact (Over.refl _).cons _) | (exact ((Over.refl _).cons _).cons _) | (exact (((Over.refl _).cons _).cons _).cons _) | (exact ((((Over.refl _).cons _).cons _).cons _).cons _) | exact Kept.refl _ | (exact (Kept.refl _).set (by simp only [ABlk.bd, AV.bd, AV.bdL, and_self])) | (simp only [AE.bd, AV.bd, AV.bdL, and_self]; done)
  rw [hv] at hQ
  simp only [RR.bind] at hQ
  intro g2 g3
  simp -dsimp (disch := omega) only [go_sem]
  refine chnCheck ⟨nin, l⟩ _ _ ?_
  simp -dsimp (disch := omega) only [go_sem]
  refine check _ _ _ _ _ ?_
  by_cases hc : chnE ⟨nin, l⟩ = 0
  · rw [if_pos hc] at hQ ⊢
    simp -dsimp (disch := omega) only [go_sem]
    refine ⟨_, _, .ret (.refl _), ?_, ?_, ?_, hQ g2 g3⟩ <;> first | (exact Over.refl _) | (exact (Over.refl _).cons _) | (exact ((Over.refl _).cons _).cons _) | (exact (((Over.refl _).cons _).cons _).cons _) | (exact ((((Over.refl _).cons _).cons _).cons _).cons _) | exact Kept.refl _ | (exact (Kept.refl _).set (by simp only [ABlk.bd, AV.bd, AV.bdL, and_self])) | (simp only [AE.bd, AV.bd, AV.bdL, and_self]; done)
  · rw [if_neg hc] at hQ ⊢
    simp -dsimp (disch := omega) only [go_sem]
    refine ⟨_, _, .pan (.refl _), ?_, ?_, ?_, hQ⟩ <;> first | (exact Over.refl _) | (exact (Over.refl _).cons _) | (exact ((Over.refl _).cons _).cons _) | (exact (((Over.refl _).cons _).cons _).cons _) | (exact ((((Over.refl _).cons _).cons _).cons _).cons _) | exact Kept.refl _ | (exact (Kept.refl _).set (by simp only [ABlk.bd, AV.bd, AV.bdL, and_self])) | (simp only [AE.bd, AV.bd, AV.bdL, and_self]; done)

def textR (s : List UInt8) (a : Int) : RR (List UInt8) := (u16R s a).bind fun n a1 => partR n s a1
def numsR (s : List UInt8) (a : Int) : RR (List Int) := (u8R s a).bind fun n a1 => listR s32R n s a1

theorem partR_pos {n : Int} {s : List UInt8} {a : Int} {t : List UInt8} {a1 : Int} (h : partR n s a = .ok t a1) : 0 ≤ a1 ∧ a1 ≤ 65536 := by
  unfold partR at h
  split at h
  · rename_i he
    cases h
    have := partE_ok he
    omega
  · cases h

theorem tag1 (c0 c1 c2 c3 c4 c5 : D) (b1 b4 : Nat) (s : List UInt8) (a : Int) (h0 : 0 ≤ a) (h1 : a ≤ 65536) (nr : Nat) (m : AM) (hr : m.get nr = some (rdr s a)) (hb1 : m.get b1 = some (.cells 88 [.ptr nr 0])) (hb4 : m.get b4 = some (.cells 41 [.d c0, .d c1, .d c2, .d c3, .d c4, .d c5]))
    (n1 : b1 ≠ nr) (n2 : b4 ≠ nr) (Q : AE → AM → Prop)
    (hQ : match textR s a with
      | .ok l a2 => 0 ≤ a2 → a2 ≤ 65536 → Q (.ret (.tup [])) (AM.set (AM.set m nr (some (rdr s a2))) b4 (some (.cells 41 [.d c0, .d c1, S l, .d c3, .d c4, .d c5])))
      | .bad w e a2 => Q (.pan (flt w e)) (AM.set m nr (some (rdr s a2)))) : ACalls Tryz.prog 62 [.ptr b1 0, .ptr b4 0] m Q := by
  have x1 : ∀ x, AM.get (AM.set m nr x) b1 = some (.cells 88 [.ptr nr 0]) := fun x => by rw [AM.get_set_other _ _ _ _ n1, hb1]
  have x4 : ∀ x, AM.get (AM.set m nr x) b4 = AM.get m b4 := fun x => AM.get_set_other _ _ _ _ n2
  have hlt := AM.get_lt _ _ _ hr
  unfold textR at hQ
  refine acalls_of_body Tryz.func62 (by rfl) (by rfl) (Nat.le_of_ble_eq_true rfl) ?_
  simp -dsimp (disch := omega) only [go_sem, Tryz.f62]
  rcases hu : u16R s a with ⟨n, a1⟩ | ⟨w, e, a1⟩
  · rw [hu] at hQ
    simp only [RR.bind] at hQ
    have p1 := u16R_pos hu
    rcases hv : partR n s a1 with ⟨l, a2⟩ | ⟨w, e, a2⟩
    · rw [hv] at hQ
      refine ADraw.of (es := [2,3]) (pn := none) (T := [⟨false, true, 0, 1, 0⟩, ⟨false, true, 0, 0, 0⟩, ⟨true, true, 0, 1, 0⟩, ⟨true, true, 1, 2, 0⟩, ⟨false, false, 2, 2, 0⟩, ⟨true, false, 2, 3, 0⟩]) mixed (by kernel_rfl) ?_
      simp -dsimp (disch := omega) only [go_sem, hb1]
      have p2 := partR_pos hv
      refine wDCall.turn (I n) (AM.set m nr (some (rdr s a1))) (u16 s a nr m hr (by omega) _ (by rw [hu]; exact fun _ _ => ⟨rfl, rfl⟩)) ?_
      simp -dsimp (disch := omega) only [go_sem, x1]
      refine wDCall.turn (S l) (AM.set m nr (some (rdr s a2))) (readPart n s a1 nr _ (get_set_same _ hr) (by omega) _ (by rw [hv]; exact fun _ _ => ⟨rfl, by rw [set_set]⟩)) ?_
      simp -dsimp (disch := omega) only [go_sem, x1, x4, hb4, hb1]
      exact hQ p2.1 p2.2
    · rw [hv] at hQ
      refine ADraw.of (es := [2,3]) (pn := some 3) (T := [⟨false, true, 0, 1, 0⟩, ⟨false, true, 0, 0, 0⟩, ⟨true, true, 0, 1, 0⟩, ⟨true, true, 1, 2, 1⟩, ⟨false, false, 2, 2, 2⟩, ⟨true, false, 2, 3, 2⟩]) mixed (by kernel_rfl) ?_
      simp -dsimp (disch := omega) only [go_sem, hb1]
      refine wDCall.turn (I n) (AM.set m nr (some (rdr s a1))) (u16 s a nr m hr (by omega) _ (by rw [hu]; exact fun _ _ => ⟨rfl, rfl⟩)) ?_
      simp -dsimp (disch := omega) only [go_sem, x1]
      refine wDPan.of (flt w e) (AM.set m nr (some (rdr s a2))) (readPart n s a1 nr _ (get_set_same _ hr) (by omega) _ (by rw [hv]; exact ⟨rfl, by rw [set_set]⟩)) ?_
      simp -dsimp (disch := omega) only [go_sem, x1, x4, hb4, hb1]
      exact fun _ => hQ
  · rw [hu] at hQ
    simp only [RR.bind] at hQ
    refine ADraw.of (es := [2,3]) (pn := some 2) (T := [⟨false, true, 0, 1, 0⟩, ⟨false, true, 0, 0, 0⟩, ⟨true, true, 0, 1, 1⟩, ⟨true, true, 1, 2, 2⟩, ⟨false, false, 2, 2, 2⟩, ⟨true, false, 2, 3, 2⟩]) mixed (by kernel_rfl) ?_
    simp -dsimp (disch := omega) only [go_sem, hb1]
    refine wDPan.of (flt w e) (AM.set m nr (some (rdr s a1))) (u16 s a nr m hr (by omega) _ (by rw [hu]; exact ⟨rfl, rfl⟩)) ?_
    simp -dsimp (disch := omega) only [go_sem, x1, hb1, List.getElem?_nil]
    exact fun _ => hQ

theorem tag2 (c0 c1 c2 c3 c4 c5 : D) (b1 b4 : Nat) (s : List UInt8) (a : Int) (h0 : 0 ≤ a) (h1 : a ≤ 65536) (nr : Nat) (m : AM) (hr : m.get nr = some (rdr s a)) (hb1 : m.get b1 = some (.cells 88 [.ptr nr 0])) (hb4 : m.get b4 = some (.cells 41 [.d c0, .d c1, .d c2, .d c3, .d c4, .d c5]))
    (n1 : b1 ≠ nr) (n2 : b4 ≠ nr) (Q : AE → AM → Prop)
    (hQ : match numsR s a with
      | .ok l a2 => 0 ≤ a2 → a2 ≤ 65536 → Q (.ret (.tup [])) (AM.set (AM.set m nr (some (rdr s a2))) b4 (some (.cells 41 [.d c0, .d c1, .d c2, .d (ints l), .d c4, .d c5])))
      | .bad w e a2 => Q (.pan (flt w e)) (AM.set m nr (some (rdr s a2)))) : ACalls Tryz.prog 64 [.ptr b1 0, .ptr b4 0] m Q := by
  have x1 : ∀ x, AM.get (AM.set m nr x) b1 = some (.cells 88 [.ptr nr 0]) := fun x => by rw [AM.get_set_other _ _ _ _ n1, hb1]
  have x4 : ∀ x, AM.get (AM.set m nr x) b4 = AM.get m b4 := fun x => AM.get_set_other _ _ _ _ n2
  have hlt := AM.get_lt _ _ _ hr
  unfold numsR at hQ
  refine acalls_of_body Tryz.func64 (by rfl) (by rfl) (Nat.le_of_ble_eq_true rfl) ?_
  simp -dsimp (disch := omega) only [go_sem, Tryz.f64]
  rcases hu : u8R s a with ⟨n, a1⟩ | ⟨w, e, a1⟩
  · rw [hu] at hQ
    simp only [RR.bind] at hQ
    have hn := u8R_ok hu
    have p1 := u8R_pos hu
    rcases hv : listR s32R n s a1 with ⟨l, a2⟩ | ⟨w, e, a2⟩
    · rw [hv] at hQ
      refine ADraw.of (es := [1,4]) (pn := none) (T := [⟨false, true, 0, 0, 0⟩, ⟨true, true, 0, 1, 0⟩, ⟨false, true, 0, 1, 0⟩, ⟨false, false, 0, 1, 0⟩, ⟨true, true, 1, 2, 0⟩, ⟨false, false, 2, 2, 0⟩, ⟨true, false, 2, 3, 0⟩]) mixed (by kernel_rfl) ?_
      simp -dsimp (disch := omega) only [go_sem, hb1]
      have p2 := listR_pos (fun _ _ _ h => s32R_pos h) p1 hv
      refine wDCall.turn (I n) (AM.set m nr (some (rdr s a1))) (u8 s a nr m hr (by omega) _ (by rw [hu]; exact fun _ _ => ⟨rfl, rfl⟩)) ?_
      simp -dsimp (disch := omega) only [go_sem, x1]
      refine wDCall.turn (.d (ints l)) (AM.set m nr (some (rdr s a2))) (list65 s32R 67 [.ptr nr 0] [] n (by omega) s a1 p1.1 p1.2 nr _ (get_set_same _ hr) (fun k a Q g0 g1 hq => s32 s a nr _ (by simp -dsimp (disch := omega) only [go_sem, get_set_same _ hr, AM.length_set]) (by omega) Q hq) _ (by rw [hv]; exact fun _ _ => ⟨rfl, by rw [set_set]⟩)) ?_
      simp -dsimp (disch := omega) only [go_sem, x1, x4, hb4, hb1]
      exact hQ p2.1 p2.2
    · rw [hv] at hQ
      refine ADraw.of (es := [1,4]) (pn := some 4) (T := [⟨false, true, 0, 0, 0⟩, ⟨true, true, 0, 1, 0⟩, ⟨false, true, 0, 1, 0⟩, ⟨false, false, 0, 1, 0⟩, ⟨true, true, 1, 2, 1⟩, ⟨false, false, 2, 2, 2⟩, ⟨true, false, 2, 3, 2⟩]) mixed (by kernel_rfl) ?_
      simp -dsimp (disch := omega) only [go_sem, hb1]
      refine wDCall.turn (I n) (AM.set m nr (some (rdr s a1))) (u8 s a nr m hr (by omega) _ (by rw [hu]; exact fun _ _ => ⟨rfl, rfl⟩)) ?_
      simp -dsimp (disch := omega) only [go_sem, x1]
      refine wDPan.of (flt w e) (AM.set m nr (some (rdr s a2))) (list65 s32R 67 [.ptr nr 0] [] n (by omega) s a1 p1.1 p1.2 nr _ (get_set_same _ hr) (fun k a Q g0 g1 hq => s32 s a nr _ (by simp -dsimp (disch := omega) only [go_sem, get_set_same _ hr, AM.length_set]) (by omega) Q hq) _ (by rw [hv]; exact ⟨rfl, by rw [set_set]⟩)) ?_
      simp -dsimp (disch := omega) only [go_sem, x1, x4, hb4, hb1]
      exact fun _ => hQ
  · rw [hu] at hQ
    simp only [RR.bind] at hQ
    refine ADraw.of (es := [1,4]) (pn := some 1) (T := [⟨false, true, 0, 0, 0⟩, ⟨true, true, 0, 1, 1⟩, ⟨false, true, 0, 1, 0⟩, ⟨false, false, 0, 1, 0⟩, ⟨true, true, 1, 2, 2⟩, ⟨false, false, 2, 2, 2⟩, ⟨true, false, 2, 3, 2⟩]) mixed (by kernel_rfl) ?_
    simp -dsimp (disch := omega) only [go_sem, hb1]
    refine wDPan.of (flt w e) (AM.set m nr (some (rdr s a1))) (u8 s a nr m hr (by omega) _ (by rw [hu]; exact ⟨rfl, rfl⟩)) ?_
    simp -dsimp (disch := omega) only [go_sem, x1, hb1, List.getElem?_nil]
    exact fun _ => hQ

theorem tag3 (c0 c1 c2 c3 c4 c5 : D) (b1 b4 : Nat) (s : List UInt8) (a : Int) (h0 : 0 ≤ a) (h1 : a ≤ 65536) (nr : Nat) (m : AM) (hr : m.get nr = some (rdr s a)) (hb1 : m.get b1 = some (.cells 88 [.ptr nr 0])) (hb4 : m.get b4 = some (.cells 41 [.d c0, .d c1, .d c2, .d c3, .d c4, .d c5]))
    (n1 : b1 ≠ nr) (n2 : b4 ≠ nr) (Q : AE → AM → Prop)
    (hQ : match chnR s a with
      | .ok c a2 => 0 ≤ a2 → a2 ≤ 65536 → Q (.ret (.tup [])) (AM.set (AM.set m nr (some (rdr s a2))) b4 (some (.cells 41 [.d c0, .d c1, .d c2, .d c3, I c.nin, .d (eltsD c.elts)])))
      | .bad w e a2 => Q (.pan (flt w e)) (AM.set m nr (some (rdr s a2)))) : ACalls Tryz.prog 68 [.ptr b1 0, .ptr b4 0] m Q := by
  have x4 : ∀ x, AM.get (AM.set m nr x) b4 = AM.get m b4 := fun x => AM.get_set_other _ _ _ _ n2
  have hlt := AM.get_lt _ _ _ hr
  refine acalls_of_body Tryz.func68 (by rfl) (by rfl) (Nat.le_of_ble_eq_true rfl) ?_
  simp -dsimp (disch := omega) only [go_sem, Tryz.f68, hb1]
  refine chain s a h0 h1 nr m hr _ ?_
  rcases hu : chnR s a with ⟨g, a1⟩ | ⟨w, e, a1⟩
  · rw [hu] at hQ
    intro g0 g1
    simp -dsimp (disch := omega) only [go_sem, x4, hb4]
    exact hQ g0 g1
  · rw [hu] at hQ
    simp only [RQ] at hQ ⊢
    simp -dsimp (disch := omega) only [go_sem]
    exact hQ

def tgBodyR (k : Int) (sign : List UInt8) (s : List UInt8) (a a1 : Int) : RR Tg :=
  if k = 1 then (textR s a1).bind fun t a2 => .ok ⟨sign, 1, t, [], ⟨0, []⟩⟩ a2
  else if k = 2 then (numsR s a1).bind fun l a2 => .ok ⟨sign, 2, [], l, ⟨0, []⟩⟩ a2
  else if k = 3 then (chnR s a1).bind fun c a2 => .ok ⟨sign, 3, [], [], c⟩ a2
  else .bad a 5 a1
def tgR (s : List UInt8) (a : Int) : RR Tg := (partR 4 s a).bind fun sign a1 => (u8R s a1).bind fun k a2 => (tgBodyR k sign s a1 a2).bind fun t a3 => if tgE t = 0 then .ok t a3 else .bad a (tgE t) a3

theorem tagRead (s : List UInt8) (a : Int) (h0 : 0 ≤ a) (h1 : a ≤ 65536) (nr : Nat) (m : AM) (hr : m.get nr = some (rdr s a)) (Q : AE → AM → Prop) (hQ : RQ s nr m Tg.enc Q (tgR s a)) : ACalls Tryz.prog 34 [.ptr nr 0] m Q := by
  refine ACalls.fin ?_
  have hlt := AM.get_lt _ _ _ hr
  unfold tgR at hQ
  refine acalls_of_body Tryz.func34 (by rfl) (by rfl) (Nat.le_of_ble_eq_true rfl) ?_
  simp -dsimp (disch := omega) only [go_sem, Tryz.f34, hr]
  refine readPart 4 s a nr _ (by simp -dsimp (disch := omega) only [go_sem, hr]) (by omega) _ ?_
  rcases hw : partR 4 s a with ⟨sign, aa⟩ | ⟨w, e, aa⟩
  rotate_left
  · rw [hw] at hQ
    simp only [RQ, RR.bind] at hQ ⊢
    simp -dsimp (disch := omega) only [go_sem]
    refine ⟨_, _, .pan (.refl _), ?_, ?_, ?_, hQ⟩ <;> first | (exact Over.refl _) | (exact (Over.refl _).cons _) | (exact ((Over.refl _).cons _).cons _) | (exact (((Over.refl _).cons _).cons _).cons _) | (exact ((((Over.refl _).cons _).cons _).cons _).cons _) | exact Kept.refl _ | (exact (Kept.refl _).set (by simp only [ABlk.bd, AV.bd, AV.bdL, and_self])) | (simp only [AE.bd, AV.bd, AV.bdL, and_self]; done)
  rw [hw] at hQ
  simp only [RR.bind] at hQ
  have pp := partR_pos hw
  intro _ _
  simp -dsimp (disch := omega) only [go_sem]
  refine choose [(1, AV.fn (Fn.func 62) [] [AV.ptr m.length 0, AV.ptr (m.length + 2) 0]), (2, AV.fn (Fn.func 64) [] [AV.ptr m.length 0, AV.ptr (m.length + 2) 0]), (3, AV.fn (Fn.func 68) [] [AV.ptr m.length 0, AV.ptr (m.length + 2) 0])] (m.length + 3) s aa nr _ (by simp -dsimp (disch := omega) only [go_sem, get_set_same _ hr]) (by simp -dsimp (disch := omega) only [go_sem]) (by omega) (by omega) _ ?_
  rcases hu : u8R s aa with ⟨k, a1⟩ | ⟨w, e, a1⟩
  rotate_left
  · rw [hu] at hQ
    simp only [RQ, RR.bind] at hQ ⊢
    simp -dsimp (disch := omega) only [go_sem]
    refine ⟨_, _, .pan (.refl _), ?_, ?_, ?_, hQ⟩ <;> first | (exact Over.refl _) | (exact (Over.refl _).cons _) | (exact ((Over.refl _).cons _).cons _) | (exact (((Over.refl _).cons _).cons _).cons _) | (exact ((((Over.refl _).cons _).cons _).cons _).cons _) | exact Kept.refl _ | (exact (Kept.refl _).set (by simp only [ABlk.bd, AV.bd, AV.bdL, and_self])) | (simp only [AE.bd, AV.bd, AV.bdL, and_self]; done)
  rw [hu] at hQ
  have p1 := u8R_pos hu
  simp only [RR.bind] at hQ ⊢
  by_cases k1 : k = 1
  · subst k1
    simp -dsimp (disch := omega) only [go_sem, hr]
    intro g0 g1
    refine tag1 (.str sign) (Din 1) (.str []) .nilsl (Din 0) .nilsl m.length (m.length + 2) s a1 g0 g1 nr _ (by simp -dsimp (disch := omega) only [go_sem, get_set_same _ hr]) (by simp -dsimp (disch := omega) only [go_sem]) (by simp -dsimp (disch := omega) only [go_sem]) (by omega) (by omega) _ ?_
    simp only [tgBodyR, if_pos, if_neg, if_true, if_false] at hQ
    rcases ht : textR s a1 with ⟨l, a2⟩ | ⟨w, e, a2⟩
    rotate_left
    · rw [ht] at hQ
      simp only [RQ, RR.bind] at hQ ⊢
      simp -dsimp (disch := omega) only [go_sem]
      refine ⟨_, _, .pan (.refl _), ?_, ?_, ?_, hQ⟩ <;> first | (exact Over.refl _) | (exact (Over.refl _).cons _) | (exact ((Over.refl _).cons _).cons _) | (exact (((Over.refl _).cons _).cons _).cons _) | (exact ((((Over.refl _).cons _).cons _).cons _).cons _) | exact Kept.refl _ | (exact (Kept.refl _).set (by simp only [ABlk.bd, AV.bd, AV.bdL, and_self])) | (simp only [AE.bd, AV.bd, AV.bdL, and_self]; done)
    rw [ht] at hQ
    simp only [RR.bind] at hQ ⊢
    intro g2 g3
    simp -dsimp (disch := omega) only [go_sem]
    by_cases hc : tgE ⟨sign, 1, l, [], ⟨0, []⟩⟩ = 0
    · refine ADraw.of (es := []) (pn := none) (T := [⟨false, true, 0, 0, 0⟩, ⟨false, false, 0, 0, 0⟩, ⟨false, true, 0, 0, 0⟩, ⟨false, true, 0, 0, 0⟩, ⟨false, true, 0, 0, 0⟩]) mixed (by kernel_rfl) ?_
      simp -dsimp (disch := omega) only [go_sem, hr]
      refine wDCall.still (I (tgE ⟨sign, 1, l, [], ⟨0, []⟩⟩)) (ACalls.args (.cons (.agg (.cons (.refl _) (.cons (.refl _) (.cons (.refl _) (.cons (.nilsl 1) (.cons (.refl _) (.cons (.nilsl 10) .nil))))))) .nil) (tagCheck ⟨sign, 1, l, [], ⟨0, []⟩⟩ _ _ ⟨rfl, rfl⟩)) ?_
      simp -dsimp (disch := omega) only [go_sem]
      refine wDCall.still (.tup []) (check _ _ _ _ _ (by rw [if_pos hc]; exact ⟨rfl, rfl⟩)) ?_
      simp -dsimp (disch := omega) only [go_sem]
      rw [if_pos hc] at hQ
      refine ⟨_, _, .ret (.agg (.cons (.refl _) (.cons (.refl _) (.cons (.refl _) (.cons (.nilsl 1) (.cons (.refl _) (.cons (.nilsl 10) .nil))))))), ?_, ?_, ?_, hQ g2 g3⟩
      · repeat (first | exact Over.refl _ | apply Over.cons)
      · exact (Kept.refl _).set (by simp only [ABlk.bd, AV.bd, AV.bdL, and_self])
      · simp only [AE.bd, AV.bd, AV.bdL, and_self]
    · refine ADraw.of (es := []) (pn := some 4) (T := [⟨false, true, 0, 0, 0⟩, ⟨false, false, 0, 0, 0⟩, ⟨false, true, 0, 0, 0⟩, ⟨false, true, 0, 0, 0⟩, ⟨false, true, 0, 0, 1⟩]) mixed (by kernel_rfl) ?_
      simp -dsimp (disch := omega) only [go_sem, hr]
      refine wDCall.still (I (tgE ⟨sign, 1, l, [], ⟨0, []⟩⟩)) (ACalls.args (.cons (.agg (.cons (.refl _) (.cons (.refl _) (.cons (.refl _) (.cons (.nilsl 1) (.cons (.refl _) (.cons (.nilsl 10) .nil))))))) .nil) (tagCheck ⟨sign, 1, l, [], ⟨0, []⟩⟩ _ _ ⟨rfl, rfl⟩)) ?_
      simp -dsimp (disch := omega) only [go_sem]
      refine wDPan.of (flt a (tgE ⟨sign, 1, l, [], ⟨0, []⟩⟩)) _ (check _ _ _ _ _ (by rw [if_neg hc]; exact ⟨rfl, rfl⟩)) ?_
      simp -dsimp (disch := omega) only [go_sem]
      rw [if_neg hc] at hQ
      intro fr
      refine ⟨_, _, .pan (.refl _), ?_, ?_, ?_, hQ⟩ <;> first | (exact Over.refl _) | (exact (Over.refl _).cons _) | (exact ((Over.refl _).cons _).cons _) | (exact (((Over.refl _).cons _).cons _).cons _) | (exact ((((Over.refl _).cons _).cons _).cons _).cons _) | exact Kept.refl _ | (exact (Kept.refl _).set (by simp only [ABlk.bd, AV.bd, AV.bdL, and_self])) | (simp only [AE.bd, AV.bd, AV.bdL, and_self]; done)
  by_cases k2 : k = 2
  · subst k2
    simp -dsimp (disch := omega) only [go_sem, hr]
    intro g0 g1
    refine tag2 (.str sign) (Din 2) (.str []) .nilsl (Din 0) .nilsl m.length (m.length + 2) s a1 g0 g1 nr _ (by simp -dsimp (disch := omega) only [go_sem, get_set_same _ hr]) (by simp -dsimp (disch := omega) only [go_sem]) (by simp -dsimp (disch := omega) only [go_sem]) (by omega) (by omega) _ ?_
    simp only [tgBodyR, if_pos, if_neg, if_true, if_false, show ¬ (2 : Int) = 1 by omega] at hQ
    rcases ht : numsR s a1 with ⟨l, a2⟩ | ⟨w, e, a2⟩
    rotate_left
    · rw [ht] at hQ
      simp only [RQ, RR.bind] at hQ ⊢
      simp -dsimp (disch := omega) only [go_sem]
      refine ⟨_, _, .pan (.refl _), ?_, ?_, ?_, hQ⟩ <;> first | (exact Over.refl _) | (exact (Over.refl _).cons _) | (exact ((Over.refl _).cons _).cons _) | (exact (((Over.refl _).cons _).cons _).cons _) | (exact ((((Over.refl _).cons _).cons _).cons _).cons _) | exact Kept.refl _ | (exact (Kept.refl _).set (by simp only [ABlk.bd, AV.bd, AV.bdL, and_self])) | (simp only [AE.bd, AV.bd, AV.bdL, and_self]; done)
    rw [ht] at hQ
    simp only [RR.bind] at hQ ⊢
    intro g2 g3
    simp -dsimp (disch := omega) only [go_sem]
    by_cases hc : tgE ⟨sign, 2, [], l, ⟨0, []⟩⟩ = 0
    · refine ADraw.of (es := []) (pn := none) (T := [⟨false, true, 0, 0, 0⟩, ⟨false, false, 0, 0, 0⟩, ⟨false, true, 0, 0, 0⟩, ⟨false, true, 0, 0, 0⟩, ⟨false, true, 0, 0, 0⟩]) mixed (by kernel_rfl) ?_
      simp -dsimp (disch := omega) only [go_sem, hr]
      refine wDCall.still (I (tgE ⟨sign, 2, [], l, ⟨0, []⟩⟩)) (ACalls.args (.cons (.agg (.cons (.refl _) (.cons (.refl _) (.cons (.refl _) (.cons (.refl _) (.cons (.refl _) (.cons (.nilsl 10) .nil))))))) .nil) (tagCheck ⟨sign, 2, [], l, ⟨0, []⟩⟩ _ _ ⟨rfl, rfl⟩)) ?_
      simp -dsimp (disch := omega) only [go_sem]
      refine wDCall.still (.tup []) (check _ _ _ _ _ (by rw [if_pos hc]; exact ⟨rfl, rfl⟩)) ?_
      simp -dsimp (disch := omega) only [go_sem]
      rw [if_pos hc] at hQ
      refine ⟨_, _, .ret (.agg (.cons (.refl _) (.cons (.refl _) (.cons (.refl _) (.cons (.refl _) (.cons (.refl _) (.cons (.nilsl 10) .nil))))))), ?_, ?_, ?_, hQ g2 g3⟩
      · repeat (first | exact Over.refl _ | apply Over.cons)
      · exact (Kept.refl _).set (by simp only [ABlk.bd, AV.bd, AV.bdL, and_self])
      · simp only [AE.bd, AV.bd, AV.bdL, and_self]
    · refine ADraw.of (es := []) (pn := some 4) (T := [⟨false, true, 0, 0, 0⟩, ⟨false, false, 0, 0, 0⟩, ⟨false, true, 0, 0, 0⟩, ⟨false, true, 0, 0, 0⟩, ⟨false, true, 0, 0, 1⟩]) mixed (by kernel_rfl) ?_
      simp -dsimp (disch := omega) only [go_sem, hr]
      refine wDCall.still (I (tgE ⟨sign, 2, [], l, ⟨0, []⟩⟩)) (ACalls.args (.cons (.agg (.cons (.refl _) (.cons (.refl _) (.cons (.refl _) (.cons (.refl _) (.cons (.refl _) (.cons (.nilsl 10) .nil))))))) .nil) (tagCheck ⟨sign, 2, [], l, ⟨0, []⟩⟩ _ _ ⟨rfl, rfl⟩)) ?_
      simp -dsimp (disch := omega) only [go_sem]
      refine wDPan.of (flt a (tgE ⟨sign, 2, [], l, ⟨0, []⟩⟩)) _ (check _ _ _ _ _ (by rw [if_neg hc]; exact ⟨rfl, rfl⟩)) ?_
      simp -dsimp (disch := omega) only [go_sem]
      rw [if_neg hc] at hQ
      intro fr
      refine ⟨_, _, .pan (.refl _), ?_, ?_, ?_, hQ⟩ <;> first | (exact Over.refl _) | (exact (Over.refl _).cons _) | (exact ((Over.refl _).cons _).cons _) | (exact (((Over.refl _).cons _).cons _).cons _) | (exact ((((Over.refl _).cons _).cons _).cons _).cons _) | exact Kept.refl _ | (exact (Kept.refl _).set (by simp only [ABlk.bd, AV.bd, AV.bdL, and_self])) | (simp only [AE.bd, AV.bd, AV.bdL, and_self]; done)
  by_cases k3 : k = 3
  · subst k3
    simp -dsimp (disch := omega) only [go_sem, hr]
    intro g0 g1
    refine tag3 (.str sign) (Din 3) (.str []) .nilsl (Din 0) .nilsl m.length (m.length + 2) s a1 g0 g1 nr _ (by simp -dsimp (disch := omega) only [go_sem, get_set_same _ hr]) (by simp -dsimp (disch := omega) only [go_sem]) (by simp -dsimp (disch := omega) only [go_sem]) (by omega) (by omega) _ ?_
    simp only [tgBodyR, if_pos, if_neg, if_true, if_false, show ¬ (3 : Int) = 1 by omega, show ¬ (3 : Int) = 2 by omega] at hQ
    rcases ht : chnR s a1 with ⟨l, a2⟩ | ⟨w, e, a2⟩
    rotate_left
    · rw [ht] at hQ
      simp only [RQ, RR.bind] at hQ ⊢
      simp -dsimp (disch := omega) only [go_sem]
      refine ⟨_, _, .pan (.refl _), ?_, ?_, ?_, hQ⟩ <;> first | (exact Over.refl _) | (exact (Over.refl _).cons _) | (exact ((Over.refl _).cons _).cons _) | (exact (((Over.refl _).cons _).cons _).cons _) | (exact ((((Over.refl _).cons _).cons _).cons _).cons _) | exact Kept.refl _ | (exact (Kept.refl _).set (by simp only [ABlk.bd, AV.bd, AV.bdL, and_self])) | (simp only [AE.bd, AV.bd, AV.bdL, and_self]; done)
    rw [ht] at hQ
    simp only [RR.bind] at hQ ⊢
    intro g2 g3
    simp -dsimp (disch := omega) only [go_sem]
    by_cases hc : tgE ⟨sign, 3, [], [], l⟩ = 0
    · refine ADraw.of (es := []) (pn := none) (T := [⟨false, true, 0, 0, 0⟩, ⟨false, false, 0, 0, 0⟩, ⟨false, true, 0, 0, 0⟩, ⟨false, true, 0, 0, 0⟩, ⟨false, true, 0, 0, 0⟩]) mixed (by kernel_rfl) ?_
      simp -dsimp (disch := omega) only [go_sem, hr]
      refine wDCall.still (I (tgE ⟨sign, 3, [], [], l⟩)) (ACalls.args (.cons (.agg (.cons (.refl _) (.cons (.refl _) (.cons (.refl _) (.cons (.nilsl 1) (.cons (.refl _) (.cons (.refl _) .nil))))))) .nil) (tagCheck ⟨sign, 3, [], [], l⟩ _ _ ⟨rfl, rfl⟩)) ?_
      simp -dsimp (disch := omega) only [go_sem]
      refine wDCall.still (.tup []) (check _ _ _ _ _ (by rw [if_pos hc]; exact ⟨rfl, rfl⟩)) ?_
      simp -dsimp (disch := omega) only [go_sem]
      rw [if_pos hc] at hQ
      refine ⟨_, _, .ret (.agg (.cons (.refl _) (.cons (.refl _) (.cons (.refl _) (.cons (.nilsl 1) (.cons (.refl _) (.cons (.refl _) .nil))))))), ?_, ?_, ?_, hQ g2 g3⟩
      · repeat (first | exact Over.refl _ | apply Over.cons)
      · exact (Kept.refl _).set (by simp only [ABlk.bd, AV.bd, AV.bdL, and_self])
      · simp only [AE.bd, AV.bd, AV.bdL, and_self]
    · refine ADraw.of (es := []) (pn := some 4) (T := [⟨false, true, 0, 0, 0⟩, ⟨false, false, 0, 0, 0⟩, ⟨false, true, 0, 0, 0⟩, ⟨false, true, 0, 0, 0⟩, ⟨false, true, 0, 0, 1⟩]) mixed (by kernel_rfl) ?_
      simp -dsimp (disch := omega) only [go_sem, hr]
      refine wDCall.still (I (tgE ⟨sign, 3, [], [], l⟩)) (ACalls.args (.cons (.agg (.cons (.refl _) (.cons (.refl _) (.cons (.refl _) (.cons (.nilsl 1) (.cons (.refl _) (.cons (.refl _) .nil))))))) .nil) (tagCheck ⟨sign, 3, [], [], l⟩ _ _ ⟨rfl, rfl⟩)) ?_
      simp -dsimp (disch := omega) only [go_sem]
      refine wDPan.of (flt a (tgE ⟨sign, 3, [], [], l⟩)) _ (check _ _ _ _ _ (by rw [if_neg hc]; exact ⟨rfl, rfl⟩)) ?_
      simp -dsimp (disch := omega) only [go_sem]
      rw [if_neg hc] at hQ
      intro fr
      refine ⟨_, _, .pan (.refl _), ?_, ?_, ?_, hQ⟩ <;> first | (exact Over.refl _) | (exact (Over.refl _).cons _) | (exact ((Over.refl _).cons _).cons _) | (exact (((Over.refl _).cons _).cons _).cons _) | (exact ((((Over.refl _).cons _).cons _).cons _).cons _) | exact Kept.refl _ | (exact (Kept.refl _).set (by simp only [ABlk.bd, AV.bd, AV.bdL, and_self])) | (simp only [AE.bd, AV.bd, AV.bdL, and_self]; done)
  · simp only [tgBodyR, if_neg k1, if_neg k2, if_neg k3, RR.bind] at hQ
    simp only [RQ] at hQ
    simp -dsimp (disch := omega) only [go_sem, k1, k2, k3]
    refine ⟨_, _, .pan (.refl _), ?_, ?_, ?_, hQ⟩ <;> first | (exact Over.refl _) | (exact (Over.refl _).cons _) | (exact ((Over.refl _).cons _).cons _) | (exact (((Over.refl _).cons _).cons _).cons _) | (exact ((((Over.refl _).cons _).cons _).cons _).cons _) | exact Kept.refl _ | (exact (Kept.refl _).set (by simp only [ABlk.bd, AV.bd, AV.bdL, and_self])) | (simp only [AE.bd, AV.bd, AV.bdL, and_self]; done)
end Go.Proofs.YtbdefaebbicfjaaGreat
