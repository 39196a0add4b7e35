/- Parse. -/
import Derived.Test.YtbdefaebbicfjaaGreatK17
set_option linter.all false
namespace Go.Proofs.YtbdefaebbicfjaaGreat
open Go Go.Ab Go.RowKit
set_option maxHeartbeats 400000
set_option maxRecDepth 10000

theorem parseD (b0 b1 b2 b3 : Nat) (h01 : b0 ≠ b1) (h02 : b0 ≠ b2) (h03 : b0 ≠ b3) (h12 : b1 ≠ b2) (h13 : b1 ≠ b3) (h23 : b2 ≠ b3) (v0 v1 v2 v3 v4 v5 v6 v7 v8 : AV) (m : AM)
    (g0 : m.get b0 = some (.cells 41 [v0, v1, v2, v3, v4, v5])) (g1 : m.get b1 = some (.cells 3 [v6])) (g2 : m.get b2 = some (.cells 3 [v7])) (g3 : m.get b3 = some (.cells 33 [v8])) (u : Option (Int × Int)) (Q : AM → Prop)
    (hQ : Q (match u with | some (w, e) => (((m.set b0 (some (.cells 41 [S [], I 0, S [], .d .nilsl, I 0, .d .nilsl]))).set b1 (some (.cells 3 [I 0]))).set b2 (some (.cells 3 [I w]))).set b3 (some (.cells 33 [I e])) | none => m)) :
    ADef Tryz.prog 33 [.ptr b0 0, .ptr b1 0, .ptr b2 0, .ptr b3 0] (u.map fun x => flt x.1 x.2) m Q := by
  refine ADef.cut ?_
  have l0 := AM.get_lt _ _ _ g0
  have l1 := AM.get_lt _ _ _ g1
  have l2 := AM.get_lt _ _ _ g2
  have l3 := AM.get_lt _ _ _ g3
  refine adef_of_body Tryz.func33 (by rfl) (by rfl) (by rfl) (Nat.le_of_ble_eq_true rfl) (Nat.le_of_ble_eq_true rfl) ?_
  cases u with
  | none =>
    simp -dsimp (disch := omega) only [go_sem, Tryz.f33, Option.map_none]
    exact ⟨m, Over.refl _, Kept.refl _, hQ⟩
  | some x =>
    obtain ⟨w, e⟩ := x
    have x1 : ∀ x, AM.get (AM.set m b0 x) b1 = some (.cells 3 [v6]) := fun x => by rw [AM.get_set_other _ _ _ _ h01.symm, g1]
    have x2 : ∀ x y, AM.get (AM.set (AM.set m b0 x) b1 y) b2 = some (.cells 3 [v7]) := fun x y => by rw [AM.get_set_other _ _ _ _ h12.symm, AM.get_set_other _ _ _ _ h02.symm, g2]
    have x3 : ∀ x y z, AM.get (AM.set (AM.set (AM.set m b0 x) b1 y) b2 z) b3 = some (.cells 33 [v8]) := fun x y z => by rw [AM.get_set_other _ _ _ _ h23.symm, AM.get_set_other _ _ _ _ h13.symm, AM.get_set_other _ _ _ _ h03.symm, g3]
    simp -dsimp (disch := omega) only [go_sem, Tryz.f33]
    refine ADraw.of (es := []) (pn := none) (T := [⟨false, false, 0, 0, 0⟩, ⟨false, false, 0, 2, 0⟩, ⟨false, true, 0, 2, 0⟩, ⟨false, false, 0, 3, 0⟩, ⟨false, true, 0, 3, 0⟩, ⟨true, false, 0, 1, 0⟩, ⟨true, false, 1, 2, 0⟩, ⟨true, false, 2, 3, 0⟩, ⟨true, false, 3, 4, 0⟩]) mixed (by kernel_rfl) ?_
    simp -dsimp (disch := omega) only [go_sem, g0, x1, x2, x3]
    exact ⟨_, (Over.refl _).cons _, ((((Kept.refl _).set (by simp only [frBd, preBd, ABlk.bd, AV.bd, AV.bdL, List.length_cons, List.length_nil, List.length_append, List.nil_append, List.cons_append, and_true, true_and] <;> (try omega))).set (by simp only [frBd, preBd, ABlk.bd, AV.bd, AV.bdL, List.length_cons, List.length_nil, List.length_append, List.nil_append, List.cons_append, and_true, true_and] <;> (try omega))).set (by simp only [frBd, preBd, ABlk.bd, AV.bd, AV.bdL, List.length_cons, List.length_nil, List.length_append, List.nil_append, List.cons_append, and_true, true_and] <;> (try omega))).set (by simp only [frBd, preBd, ABlk.bd, AV.bd, AV.bdL, List.length_cons, List.length_nil, List.length_append, List.nil_append, List.cons_append, and_true, true_and] <;> (try omega)), hQ⟩

def zeroT : Tg := ⟨[], 0, [], [], ⟨0, []⟩⟩
def parseF (s : List UInt8) (at_ : Int) : Tg × Int × Int × Int := if 32768 < (s.length : Int) then (zeroT, 0, 0, 3) else if at_ < 0 ∨ (s.length : Int) < at_ then (zeroT, 0, 0, 2) else match tgR s at_ with
  | .ok t a => (t, a, 0, 0)
  | .bad w e _ => (zeroT, 0, w, e)
abbrev parseV (r : Tg × Int × Int × Int) : AV := .tup [r.1.enc, I r.2.1, I r.2.2.1, I r.2.2.2]

theorem zeroLe : AVle (.agg [S [], I 0, S [], .d .nilsl, I 0, .d .nilsl]) zeroT.enc := .agg (.cons (.refl _) (.cons (.refl _) (.cons (.refl _) (.cons (.nilsl 1) (.cons (.refl _) (.cons (.nilsl 10) .nil))))))

theorem parse (s : List UInt8) (at_ : Int) (m : AM) (Q : AE → AM → Prop) (hQ : Q (.ret (parseV (parseF s at_))) m) : ACalls Tryz.prog 12 [S s, I at_] m Q := by
  refine ACalls.fin ?_
  unfold parseF at hQ
  refine acalls_of_bodyR Tryz.func12 (by rfl) (by rfl) (Nat.le_of_ble_eq_true rfl) ?_
  simp -dsimp (disch := omega) only [go_sem, Tryz.f12]
  by_cases c1 : 32768 < (s.length : Int)
  · rw [if_pos c1] at hQ
    simp -dsimp (disch := omega) only [go_sem, c1]
    refine ⟨_, m, .ret (.tup (.cons zeroLe (AVles.refl _))), ?_, Kept.refl _, ?_, hQ⟩
    · repeat (first | exact Over.refl _ | apply Over.cons)
    · simp only [AE.bd, AV.bd, AV.bdL, and_self]
  rw [if_neg c1] at hQ
  by_cases c2 : at_ < 0
  · rw [if_pos (.inl c2)] at hQ
    simp -dsimp (disch := omega) only [go_sem, c1, c2]
    refine ⟨_, m, .ret (.tup (.cons zeroLe (AVles.refl _))), ?_, Kept.refl _, ?_, hQ⟩
    · repeat (first | exact Over.refl _ | apply Over.cons)
    · simp only [AE.bd, AV.bd, AV.bdL, and_self]
  by_cases c3 : (s.length : Int) < at_
  · rw [if_pos (.inr c3)] at hQ
    simp -dsimp (disch := omega) only [go_sem, c1, c2, c3]
    refine ⟨_, m, .ret (.tup (.cons zeroLe (AVles.refl _))), ?_, Kept.refl _, ?_, hQ⟩
    · repeat (first | exact Over.refl _ | apply Over.cons)
    · simp only [AE.bd, AV.bd, AV.bdL, and_self]
  rw [if_neg (by omega)] at hQ
  simp -dsimp (disch := omega) only [go_sem, c1, c2, c3]
  refine tagRead s at_ (by omega) (by omega) (m.length + 4) _ (by simp -dsimp (disch := omega) only [go_sem]) _ ?_
  rcases hu : tgR s at_ with ⟨t, a1⟩ | ⟨w, e, a1⟩
  · rw [hu] at hQ
    intro g0 g1
    simp -dsimp (disch := omega) only [go_sem]
    refine ADraw.of (es := []) (pn := none) (T := [⟨false, true, 0, 0, 0⟩, ⟨false, false, 0, 1, 0⟩, ⟨false, false, 0, 1, 0⟩, ⟨false, false, 0, 1, 0⟩, ⟨false, true, 0, 1, 0⟩, ⟨true, false, 0, 1, 0⟩, ⟨true, false, 1, 2, 0⟩, ⟨true, false, 2, 3, 0⟩, ⟨true, false, 3, 4, 0⟩]) mixed (by kernel_rfl) ?_
    simp -dsimp (disch := omega) only [go_sem]
    refine parseD m.length (m.length + 1) (m.length + 2) (m.length + 3) (by omega) (by omega) (by omega) (by omega) (by omega) (by omega) _ _ _ _ _ _ _ _ _ _ (by simp -dsimp (disch := omega) only [go_sem]; rfl) (by simp -dsimp (disch := omega) only [go_sem]; rfl) (by simp -dsimp (disch := omega) only [go_sem]; rfl) (by simp -dsimp (disch := omega) only [go_sem]; rfl) none _ ?_
    simp -dsimp (disch := omega) only [go_sem]
    refine ⟨_, m, .ret (.refl _), ?_, Kept.refl _, ?_, hQ⟩
    · repeat (first | exact Over.refl _ | apply Over.cons)
    · simp only [AE.bd, AV.bd, AV.bdL, and_self]
  · rw [hu] at hQ
    simp only [RQ]
    simp -dsimp (disch := omega) only [go_sem]
    refine parseD m.length (m.length + 1) (m.length + 2) (m.length + 3) (by omega) (by omega) (by omega) (by omega) (by omega) (by omega) _ _ _ _ _ _ _ _ _ _ (by simp -dsimp (disch := omega) only [go_sem]; rfl) (by simp -dsimp (disch := omega) only [go_sem]; rfl) (by simp -dsimp (disch := omega) only [go_sem]; rfl) (by simp -dsimp (disch := omega) only [go_sem]; rfl) (some (w, e)) _ ?_
    simp -dsimp (disch := omega) only [go_sem]
    refine ⟨_, m, .ret (.tup (.cons zeroLe (AVles.refl _))), ?_, Kept.refl _, ?_, hQ⟩
    · repeat (first | exact Over.refl _ | apply Over.cons)
    · simp only [AE.bd, AV.bd, AV.bdL, and_self]
end Go.Proofs.YtbdefaebbicfjaaGreat
