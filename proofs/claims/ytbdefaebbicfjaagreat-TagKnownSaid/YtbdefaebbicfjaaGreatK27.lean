/- Slices that are repeated; a tag whose numbers are written later. -/
import Derived.Test.YtbdefaebbicfjaaGreatK26
import Derived.Test.YtbdefaebbicfjaaGreatA7
import Derived.Laws.Bits64b
set_option linter.all false
namespace Go.Proofs.YtbdefaebbicfjaaGreat
open Go Go.Ab Go.RowKit
set_option maxHeartbeats 400000
set_option maxRecDepth 10000

abbrev U64 (n : Int) : AV := .d (.int .u64 n)
theorem and32 (n : Nat) (h : n < 4294967296) : bits .and .u64 (n : Int) 4294967295 = n := by
  have := bits_and_u64_nat n 4294967295 (by omega) (by omega)
  rw [show ((4294967295 : Nat) : Int) = 4294967295 by rfl] at this
  rw [this, Nat.and_two_pow_sub_one_eq_mod n 32]
  rw [Nat.mod_eq_of_lt (by omega)]
theorem shr32 (n : Nat) (h : n < 4294967296) : (n : Int).fdiv 4294967296 = 0 := by
  rw [Int.fdiv_eq_ediv_of_nonneg _ (by omega)]
  omega
theorem wrapu (n : Nat) (h : n < 4294967296) : IntKind.u64.wrap (n : Int) = n := by
  rw [IntKind.wrap_u64]
  omega

theorem mul64 (a b : Nat) (ha : a < 4294967296) (hb : b < 4294967296) (h : a * b < 4294967296) (m : AM) (Q : AE → AM → Prop) (hQ : Q (.ret (.tup [U64 0, U64 (a * b : Nat)])) m) : ACalls Tryz.prog 93 [U64 a, U64 b] m Q := by
  refine ACalls.fin ?_
  refine acalls_of_body Tryz.func93 (by rfl) (by rfl) (Nat.le_of_ble_eq_true rfl) ?_
  have e1 := and32 a ha
  have e2 := and32 b hb
  have e3 := shr32 a ha
  have e4 := shr32 b hb
  have e5 : (a : Int) * (b : Int) = ((a * b : Nat) : Int) := by simp
  have e6 := wrapu (a * b) h
  have e7 := shr32 (a * b) h
  have e8 := and32 0 (by omega)
  have e9 := shr32 0 (by omega)
  have e10 := wrapu 0 (by omega)
  simp only [Int.ofNat_zero, Int.natCast_zero] at e8 e9 e10
  simp -dsimp (disch := omega) only [go_sem, Tryz.f93, e1, e2, e3, e4, e5, e6, e7, e8, e9, e10, Int.zero_mul, Int.mul_zero]
  refine ⟨_, _, .ret (.refl _), ?_, ?_, ?_, hQ⟩ <;> first | (exact Over.refl _) | (exact (Over.refl _).cons _) | (exact ((Over.refl _).cons _).cons _) | (exact (((Over.refl _).cons _).cons _).cons _) | (exact ((((Over.refl _).cons _).cons _).cons _).cons _) | exact Kept.refl _ | (exact (Kept.refl _).set (by simp only [ABlk.bd, AV.bd, AV.bdL, and_self])) | (simp only [AE.bd, AV.bd, AV.bdL, and_self]; done)

theorem mul (a b : Nat) (ha : a < 4294967296) (hb : b < 4294967296) (h : a * b < 4294967296) (m : AM) (Q : AE → AM → Prop) (hQ : Q (.ret (.tup [U64 0, U64 (a * b : Nat)])) m) : ACalls Tryz.prog 47 [U64 a, U64 b] m Q := by
  refine ACalls.fin ?_
  refine acalls_of_body Tryz.func47 (by rfl) (by rfl) (Nat.le_of_ble_eq_true rfl) ?_
  simp -dsimp (disch := omega) only [go_sem, Tryz.f47]
  refine mul64 a b ha hb h _ _ ?_
  have e10 := wrapu (a * b) h
  have e11 := wrapu 0 (by omega)
  simp only [Int.natCast_zero] at e11
  simp -dsimp (disch := omega) only [go_sem, e10, e11]
  refine ⟨_, _, .ret (.refl _), ?_, ?_, ?_, hQ⟩ <;> first | (exact Over.refl _) | (exact (Over.refl _).cons _) | (exact ((Over.refl _).cons _).cons _) | (exact (((Over.refl _).cons _).cons _).cons _) | (exact ((((Over.refl _).cons _).cons _).cons _).cons _) | exact Kept.refl _ | (exact (Kept.refl _).set (by simp only [ABlk.bd, AV.bd, AV.bdL, and_self])) | (simp only [AE.bd, AV.bd, AV.bdL, and_self]; done)

/-- Thirteen noughts. -/
theorem rep13 (m : AM) (Q : AE → AM → Prop) (hQ : Q (.ret (.d (ints (List.replicate 13 0)))) m) : ACalls Tryz.prog 24 [.d (ints [0]), I 13] m Q := by
  refine ACalls.fin ?_
  refine acalls_of_AW Tryz.func24 (by rfl) (by rfl) (Nat.le_of_ble_eq_true rfl) ?_
  refine AW.step ?_
  simp -dsimp (disch := omega) only [go_sem, Tryz.f24]
  refine AW.step ?_
  simp -dsimp (disch := omega) only [go_sem, Tryz.f24]
  refine AW.step ?_
  simp -dsimp (disch := omega) only [go_sem, Tryz.f24]
  refine mul 1 13 (by omega) (by omega) (by omega) _ _ ?_
  simp -dsimp (disch := omega) only [go_sem, Tryz.f24]
  refine AW.step ?_
  simp -dsimp (disch := omega) only [go_sem, Tryz.f24]
  refine AW.step ?_
  simp -dsimp (disch := omega) only [go_sem, Tryz.f24]
  have hz : (List.replicate 13 [AV.d (.int .i64 0)]).flatten = [AV.d (.int .i64 0), AV.d (.int .i64 0), AV.d (.int .i64 0), AV.d (.int .i64 0), AV.d (.int .i64 0), AV.d (.int .i64 0), AV.d (.int .i64 0), AV.d (.int .i64 0), AV.d (.int .i64 0), AV.d (.int .i64 0), AV.d (.int .i64 0), AV.d (.int .i64 0), AV.d (.int .i64 0)] := rfl
  refine AW.step ?_
  simp -dsimp (disch := omega) only [go_sem, Tryz.f24, hz, List.flatten_cons, List.flatten_nil, List.append_nil, List.all_cons, List.all_nil, AV.isCell, Bool.and_true, List.length_cons, List.length_nil, List.take_succ_cons, List.take_zero, List.take_nil, List.drop_succ_cons, List.drop_zero, List.cons_append, List.nil_append, Nat.min_eq_left, Nat.min_eq_right, Nat.mul_one, Nat.zero_mul, Nat.one_mul]
  refine AW.step ?_
  simp -dsimp (disch := omega) only [go_sem, Tryz.f24]
  refine ALoop.unr 5 ?_
  simp -dsimp (disch := omega) only [go_sem, Tryz.f24, List.flatten_cons, List.flatten_nil, List.append_nil, List.all_cons, List.all_nil, AV.isCell, Bool.and_true, List.length_cons, List.length_nil, List.take_succ_cons, List.take_zero, List.take_nil, List.drop_succ_cons, List.drop_zero, List.cons_append, List.nil_append, Nat.min_eq_left, Nat.min_eq_right, Nat.mul_one, Nat.zero_mul, Nat.one_mul]
  refine ADraw.of (es := []) (pn := none) (T := [⟨false, false, 0, 1, 0⟩, ⟨false, false, 0, 0, 0⟩, ⟨false, false, 0, 0, 0⟩, ⟨false, false, 0, 0, 0⟩, ⟨false, false, 0, 0, 0⟩, ⟨false, false, 0, 0, 0⟩, ⟨false, false, 0, 0, 0⟩, ⟨true, false, 0, 1, 0⟩, ⟨false, false, 1, 1, 0⟩, ⟨false, false, 1, 1, 0⟩]) mixed (by kernel_rfl) ?_
  simp -dsimp (disch := omega) only [go_sem, Tryz.f24, List.flatten_cons, List.flatten_nil, List.append_nil, List.all_cons, List.all_nil, AV.isCell, Bool.and_true, List.length_cons, List.length_nil, List.take_succ_cons, List.take_zero, List.take_nil, List.drop_succ_cons, List.drop_zero, List.cons_append, List.nil_append, Nat.min_eq_left, Nat.min_eq_right, Nat.mul_one, Nat.zero_mul, Nat.one_mul]
  refine ADraw.of (es := []) (pn := none) (T := [⟨false, false, 0, 1, 0⟩, ⟨false, false, 0, 0, 0⟩, ⟨false, false, 0, 0, 0⟩, ⟨false, false, 0, 0, 0⟩, ⟨false, false, 0, 0, 0⟩, ⟨false, false, 0, 0, 0⟩, ⟨false, false, 0, 0, 0⟩, ⟨true, false, 0, 1, 0⟩, ⟨false, false, 1, 1, 0⟩, ⟨false, false, 1, 1, 0⟩]) mixed (by kernel_rfl) ?_
  simp -dsimp (disch := omega) only [go_sem, Tryz.f24, List.flatten_cons, List.flatten_nil, List.append_nil, List.all_cons, List.all_nil, AV.isCell, Bool.and_true, List.length_cons, List.length_nil, List.take_succ_cons, List.take_zero, List.take_nil, List.drop_succ_cons, List.drop_zero, List.cons_append, List.nil_append, Nat.min_eq_left, Nat.min_eq_right, Nat.mul_one, Nat.zero_mul, Nat.one_mul]
  refine ADraw.of (es := []) (pn := none) (T := [⟨false, false, 0, 1, 0⟩, ⟨false, false, 0, 0, 0⟩, ⟨false, false, 0, 0, 0⟩, ⟨false, false, 0, 0, 0⟩, ⟨false, false, 0, 0, 0⟩, ⟨false, false, 0, 0, 0⟩, ⟨false, false, 0, 0, 0⟩, ⟨true, false, 0, 1, 0⟩, ⟨false, false, 1, 1, 0⟩, ⟨false, false, 1, 1, 0⟩]) mixed (by kernel_rfl) ?_
  simp -dsimp (disch := omega) only [go_sem, Tryz.f24, List.flatten_cons, List.flatten_nil, List.append_nil, List.all_cons, List.all_nil, AV.isCell, Bool.and_true, List.length_cons, List.length_nil, List.take_succ_cons, List.take_zero, List.take_nil, List.drop_succ_cons, List.drop_zero, List.cons_append, List.nil_append, Nat.min_eq_left, Nat.min_eq_right, Nat.mul_one, Nat.zero_mul, Nat.one_mul]
  refine ADraw.of (es := []) (pn := none) (T := [⟨false, false, 0, 1, 0⟩, ⟨false, false, 0, 0, 0⟩, ⟨false, false, 0, 0, 0⟩, ⟨false, false, 0, 0, 0⟩, ⟨false, false, 0, 0, 0⟩, ⟨false, false, 0, 0, 0⟩, ⟨false, false, 0, 0, 0⟩, ⟨true, false, 0, 1, 0⟩, ⟨false, false, 1, 1, 0⟩, ⟨false, false, 1, 1, 0⟩]) mixed (by kernel_rfl) ?_
  simp -dsimp (disch := omega) only [go_sem, Tryz.f24, List.flatten_cons, List.flatten_nil, List.append_nil, List.all_cons, List.all_nil, AV.isCell, Bool.and_true, List.length_cons, List.length_nil, List.take_succ_cons, List.take_zero, List.take_nil, List.drop_succ_cons, List.drop_zero, List.cons_append, List.nil_append, Nat.min_eq_left, Nat.min_eq_right, Nat.mul_one, Nat.zero_mul, Nat.one_mul]
  refine AW.weak (Weak.freeze (off := 0) (len := 13) (cap := 13) 7 m.length 1 (List.replicate 13 [.int .i64 0]) (by simp -dsimp (disch := omega) only [go_sem]) (by simp -dsimp (disch := omega) only [go_sem]; rfl) (by rfl) (by rfl) (by decide) (by omega) (by decide)) ?_
  refine awpC_ok _ _ _ _ ?_
  simp -dsimp (disch := omega) only [go_sem, Tryz.f24]
  refine ⟨_, _, .ret (.refl _), ?_, ?_, ?_, hQ⟩ <;> first | (exact Over.refl _) | (exact (Over.refl _).cons _) | (exact ((Over.refl _).cons _).cons _) | (exact (((Over.refl _).cons _).cons _).cons _) | (exact ((((Over.refl _).cons _).cons _).cons _).cons _) | exact Kept.refl _ | (exact (Kept.refl _).set (by simp only [ABlk.bd, AV.bd, AV.bdL, and_self])) | (simp only [AE.bd, AV.bd, AV.bdL, and_self]; done)
/-- Four inputs. -/
theorem rep4 (m : AM) (Q : AE → AM → Prop) (hQ : Q (.ret (.d (.sl 2 (List.replicate 4 [Din 1, Din 0])))) m) : ACalls Tryz.prog 25 [.d (.sl 2 [[Din 1, Din 0]]), I 4] m Q := by
  refine ACalls.fin ?_
  refine acalls_of_AW Tryz.func25 (by rfl) (by rfl) (Nat.le_of_ble_eq_true rfl) ?_
  refine AW.step ?_
  simp -dsimp (disch := omega) only [go_sem, Tryz.f25]
  refine AW.step ?_
  simp -dsimp (disch := omega) only [go_sem, Tryz.f25]
  refine AW.step ?_
  simp -dsimp (disch := omega) only [go_sem, Tryz.f25]
  refine mul 1 4 (by omega) (by omega) (by omega) _ _ ?_
  simp -dsimp (disch := omega) only [go_sem, Tryz.f25]
  refine AW.step ?_
  simp -dsimp (disch := omega) only [go_sem, Tryz.f25]
  refine AW.step ?_
  simp -dsimp (disch := omega) only [go_sem, Tryz.f25]
  have hz : (List.replicate 4 [AV.d (.int .i64 0), AV.d (.int .i64 0)]).flatten = [AV.d (.int .i64 0), AV.d (.int .i64 0), AV.d (.int .i64 0), AV.d (.int .i64 0), AV.d (.int .i64 0), AV.d (.int .i64 0), AV.d (.int .i64 0), AV.d (.int .i64 0)] := rfl
  refine AW.step ?_
  simp -dsimp (disch := omega) only [go_sem, Tryz.f25, hz, List.flatten_cons, List.flatten_nil, List.append_nil, List.all_cons, List.all_nil, AV.isCell, Bool.and_true, List.length_cons, List.length_nil, List.take_succ_cons, List.take_zero, List.take_nil, List.drop_succ_cons, List.drop_zero, List.cons_append, List.nil_append, Nat.min_eq_left, Nat.min_eq_right, Nat.mul_one, Nat.zero_mul, Nat.one_mul]
  refine AW.step ?_
  simp -dsimp (disch := omega) only [go_sem, Tryz.f25]
  refine ALoop.unr 3 ?_
  simp -dsimp (disch := omega) only [go_sem, Tryz.f25, List.flatten_cons, List.flatten_nil, List.append_nil, List.all_cons, List.all_nil, AV.isCell, Bool.and_true, List.length_cons, List.length_nil, List.take_succ_cons, List.take_zero, List.take_nil, List.drop_succ_cons, List.drop_zero, List.cons_append, List.nil_append, Nat.min_eq_left, Nat.min_eq_right, Nat.mul_one, Nat.zero_mul, Nat.one_mul]
  refine ADraw.of (es := []) (pn := none) (T := [⟨false, false, 0, 1, 0⟩, ⟨false, false, 0, 0, 0⟩, ⟨false, false, 0, 0, 0⟩, ⟨false, false, 0, 0, 0⟩, ⟨false, false, 0, 0, 0⟩, ⟨false, false, 0, 0, 0⟩, ⟨false, false, 0, 0, 0⟩, ⟨true, false, 0, 1, 0⟩, ⟨false, false, 1, 1, 0⟩, ⟨false, false, 1, 1, 0⟩]) mixed (by kernel_rfl) ?_
  simp -dsimp (disch := omega) only [go_sem, Tryz.f25, List.flatten_cons, List.flatten_nil, List.append_nil, List.all_cons, List.all_nil, AV.isCell, Bool.and_true, List.length_cons, List.length_nil, List.take_succ_cons, List.take_zero, List.take_nil, List.drop_succ_cons, List.drop_zero, List.cons_append, List.nil_append, Nat.min_eq_left, Nat.min_eq_right, Nat.mul_one, Nat.zero_mul, Nat.one_mul]
  refine ADraw.of (es := []) (pn := none) (T := [⟨false, false, 0, 1, 0⟩, ⟨false, false, 0, 0, 0⟩, ⟨false, false, 0, 0, 0⟩, ⟨false, false, 0, 0, 0⟩, ⟨false, false, 0, 0, 0⟩, ⟨false, false, 0, 0, 0⟩, ⟨false, false, 0, 0, 0⟩, ⟨true, false, 0, 1, 0⟩, ⟨false, false, 1, 1, 0⟩, ⟨false, false, 1, 1, 0⟩]) mixed (by kernel_rfl) ?_
  simp -dsimp (disch := omega) only [go_sem, Tryz.f25, List.flatten_cons, List.flatten_nil, List.append_nil, List.all_cons, List.all_nil, AV.isCell, Bool.and_true, List.length_cons, List.length_nil, List.take_succ_cons, List.take_zero, List.take_nil, List.drop_succ_cons, List.drop_zero, List.cons_append, List.nil_append, Nat.min_eq_left, Nat.min_eq_right, Nat.mul_one, Nat.zero_mul, Nat.one_mul]
  refine AW.weak (Weak.freeze (off := 0) (len := 4) (cap := 4) 7 m.length 2 (List.replicate 4 [.int .i64 1, .int .i64 0]) (by simp -dsimp (disch := omega) only [go_sem]) (by simp -dsimp (disch := omega) only [go_sem]; rfl) (by rfl) (by rfl) (by decide) (by omega) (by decide)) ?_
  refine awpC_ok _ _ _ _ ?_
  simp -dsimp (disch := omega) only [go_sem, Tryz.f25]
  refine ⟨_, _, .ret (.refl _), ?_, ?_, ?_, hQ⟩ <;> first | (exact Over.refl _) | (exact (Over.refl _).cons _) | (exact ((Over.refl _).cons _).cons _) | (exact (((Over.refl _).cons _).cons _).cons _) | (exact ((((Over.refl _).cons _).cons _).cons _).cons _) | exact Kept.refl _ | (exact (Kept.refl _).set (by simp only [ABlk.bd, AV.bd, AV.bdL, and_self])) | (simp only [AE.bd, AV.bd, AV.bdL, and_self]; done)

/-- The tag's numbers are to be written. -/
def pairL1 (k : Nat) : List AV := [S [97, 98, 99, 49], I 2, S [], .lsl k 0 2 2, I 0, .d .nilsl]
theorem pairL (m : AM) (Q : AE → AM → Prop)
    (hQ : Q (.ret (.agg (pairL1 (m.length + 1)))) (some (.cells 3 [I 1, I (-1)]) :: some (.cells 41 (pairL1 (m.length + 1))) :: m)) : ACalls Tryz.prog 22 [] m Q := by
  refine acalls_of_bodyL Tryz.func22 (by rfl) (by rfl) (Nat.le_of_ble_eq_true rfl) (Nat.le_of_ble_eq_true rfl) ?_
  have hz : (List.replicate 2 [AV.d (.int .i64 0)]).flatten = [AV.d (.int .i64 0), AV.d (.int .i64 0)] := rfl
  simp -dsimp (disch := omega) only [go_sem, Tryz.f22, hz, List.flatten_cons, List.flatten_nil, List.append_nil, List.all_cons, List.all_nil, AV.isCell, Bool.and_true, List.length_cons, List.length_nil, List.take_succ_cons, List.take_zero, List.take_nil, List.drop_succ_cons, List.drop_zero, List.cons_append, List.nil_append, Nat.min_eq_left, Nat.min_eq_right, Nat.mul_one, Nat.zero_mul, Nat.one_mul]
  exact hQ

end Go.Proofs.YtbdefaebbicfjaaGreat
