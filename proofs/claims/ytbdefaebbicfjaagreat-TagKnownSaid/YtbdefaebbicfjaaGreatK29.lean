/- The examples of the chapter: chains of one element. -/
import Derived.Test.YtbdefaebbicfjaaGreatK28
set_option linter.all false
namespace Go.Proofs.YtbdefaebbicfjaaGreat
open Go Go.Ab Go.RowKit
set_option maxHeartbeats 400000
set_option maxRecDepth 10000

/-! ### nil slices inside data, by reckoning -/
mutual
def dle : D → D → Bool
  | .int k n, .int k' n' => decide (k = k') && decide (n = n')
  | .bool b, .bool b' => b == b'
  | .str s, .str s' => s == s'
  | .nilsl, .nilsl => true
  | .nilsl, .sl _ r => r.isEmpty
  | .sl sz r, .sl sz' r' => decide (sz = sz') && dleR r r'
  | _, _ => false
def dleL : List D → List D → Bool
  | [], [] => true
  | x :: l, y :: l' => dle x y && dleL l l'
  | _, _ => false
def dleR : List (List D) → List (List D) → Bool
  | [], [] => true
  | x :: l, y :: l' => dleL x y && dleR l l'
  | _, _ => false
end
mutual
theorem dle_ok : ∀ (x y : D), dle x y = true → DLe x y
  | .int k n, y, h => by
    cases y <;> simp [dle] at h
    obtain ⟨rfl, rfl⟩ := h
    exact .refl _
  | .bool b, y, h => by
    cases y <;> simp [dle] at h
    subst h
    exact .refl _
  | .str s, y, h => by
    cases y <;> simp [dle] at h
    subst h
    exact .refl _
  | .nilsl, y, h => by
    cases y <;> simp [dle] at h
    · exact .refl _
    · subst h
      exact .nilsl _
  | .sl sz r, y, h => by
    cases y <;> simp [dle] at h
    obtain ⟨rfl, h⟩ := h
    exact .sl _ (dleR_ok r _ h)
  | .cst v, y, h => by
    cases y <;> simp [dle] at h
theorem dleL_ok : ∀ (x y : List D), dleL x y = true → DLeL x y
  | [], y, h => by
    cases y <;> simp [dleL] at h
    exact .nil
  | x :: l, y, h => by
    cases y <;> simp [dleL] at h
    exact .cons (dle_ok x _ h.1) (dleL_ok l _ h.2)
theorem dleR_ok : ∀ (x y : List (List D)), dleR x y = true → DLeR x y
  | [], y, h => by
    cases y <;> simp [dleR] at h
    exact .nil
  | x :: l, y, h => by
    cases y <;> simp [dleR] at h
    exact .cons (dleL_ok x _ h.1) (dleR_ok l _ h.2)
end

theorem AW.every {P : Program} {nt : Nat} {c : Code} {aa : AA} {m : AM} {Q : AX → AA → AM → Prop} (h : ∀ M, AW P nt c aa M Q) : AW P nt c aa m Q := h m
theorem zrows (n : Nat) (z : D) : ((List.replicate n [AV.d z]).flatten.drop 0).take (n * 1) = (List.replicate n [z]).flatten.map AV.d := by
  rw [List.drop_zero, List.take_of_length_le (by simp), List.map_flatten, List.map_replicate]
  rfl

def chainT (x : List Elt) : Tg := ⟨[102, 119, 100, 48], 3, [], [], ⟨1, x⟩⟩
theorem chainOf (d : D) (x : List Elt) (h : dle d (eltsD x) = true) (m : AM) (Q : AE → AM → Prop) (hQ : Q (.ret (chainT x).enc) m) : ACalls Tryz.prog 18 [.d d] m Q := by
  refine ACalls.args (.cons (AVle.ofD (dle_ok _ _ h)) .nil) ?_
  refine ACalls.fin ?_
  refine acalls_of_body Tryz.func18 (by rfl) (by rfl) (Nat.le_of_ble_eq_true rfl) ?_
  simp -dsimp (disch := omega) only [go_sem, Tryz.f18]
  refine ⟨_, m, .ret (.agg (.cons (.refl _) (.cons (.refl _) (.cons (.refl _) (.cons (.nilsl 1) (.cons (.refl _) (.cons (.refl _) .nil))))))), ?_, Kept.refl _, ?_, hQ⟩
  · repeat (first | exact Over.refl _ | apply Over.cons)
  · simp only [AE.bd, AV.bd, AV.bdL, and_self]

def noGrd : Grd := ⟨[], 0, []⟩
def tableX : Elt := ⟨1, [⟨2, [1, 65535], []⟩], [], [], noGrd, [], 0, 0⟩
def formulaX : Elt := ⟨1, [⟨3, [], [⟨1000000, 1, -1, 2, 3, 256⟩]⟩], [], [], noGrd, [], 0, 0⟩
def matrixX : Elt := ⟨2, [], [[5], [-2]], [0, 7], noGrd, [], 0, 0⟩
def gridX : Elt := ⟨3, [], [], [], ⟨[2], 1, [3, 1027]⟩, [], 0, 0⟩
def runX : Elt := ⟨4, [], [], [], noGrd, [⟨1, 0⟩, ⟨2, -3⟩, ⟨3, 0⟩], 1, 1⟩

def bigX : Elt := ⟨3, [], [], [], ⟨[8, 8, 8, 8], 1, List.replicate 4096 0⟩, [], 0, 0⟩
def moreX : Elt := ⟨4, [], [], [], noGrd, [⟨1, 0⟩, ⟨1, 0⟩, ⟨1, 0⟩, ⟨1, 0⟩], 1, 4⟩
def largeT : Tg := chainT [moreX, bigX, moreX, bigX, moreX, bigX, moreX, bigX]
theorem large_check : tgE largeT = 0 := by kernel_rfl
theorem large_bytes : bytesF largeT = ([], 3) := by kernel_rfl
def longT : Tg := ⟨hiT.sign, hiT.kind, Lib.repeatL [97] 201, hiT.numbers, hiT.chain⟩
def wideT : Tg := ⟨pairT.sign, pairT.kind, pairT.text, List.replicate 13 0, pairT.chain⟩
def lowT : Tg := ⟨[97, 98, 99, 49], 2, [], [-2147483649, -1], ⟨0, []⟩⟩
def highT : Tg := ⟨[97, 98, 99, 49], 2, [], [2147483648, -1], ⟨0, []⟩⟩
theorem many (n : Nat) (h : 32768 < n) (a : Int) : parseF (Lib.repeatL [97] n) a = (zeroT, 0, 0, 3) := by
  unfold parseF
  rw [if_pos (by rw [Lib.repeatL_length]; simp; omega)]

set_option maxHeartbeats 4000000 in
theorem known (m : AM) : ACalls Tryz.prog 6 [] m fun x _ => x = .ret (B true) := by
  refine acalls_of_AW Tryz.func6 (by rfl) (by rfl) (Nat.le_of_ble_eq_true rfl) ?_
  refine AW.step ?_
  simp -dsimp (disch := omega) only [go_sem, Tryz.f6]
  refine AW.step ?_
  simp -dsimp (disch := omega) only [go_sem, Tryz.f6]
  refine wakes _ _ ?_
  simp -dsimp (disch := omega) only [go_sem, Tryz.f6]
  refine AW.step ?_
  simp -dsimp (disch := omega) only [go_sem, Tryz.f6]
  refine AW.step ?_
  simp -dsimp (disch := omega) only [go_sem, Tryz.f6]
  refine AW.step ?_
  simp -dsimp (disch := omega) only [go_sem, Tryz.f6]
  refine AW.step ?_
  simp -dsimp (disch := omega) only [go_sem, Tryz.f6]
  refine AW.step ?_
  simp -dsimp (disch := omega) only [go_sem, Tryz.f6]
  refine AW.step ?_
  simp -dsimp (disch := omega) only [go_sem, Tryz.f6]
  refine AW.step ?_
  simp -dsimp (disch := omega) only [go_sem, Tryz.f6]
  refine chainOf _ [tableX] (by kernel_rfl) _ _ ?_
  simp -dsimp (disch := omega) only [go_sem, Tryz.f6]
  refine written _ _ (by kernel_rfl) (by kernel_rfl) _ _ ?_
  simp -dsimp (disch := omega) only [go_sem, Tryz.f6]
  refine chainOf _ [formulaX] (by kernel_rfl) _ _ ?_
  simp -dsimp (disch := omega) only [go_sem, Tryz.f6]
  refine written _ _ (by kernel_rfl) (by kernel_rfl) _ _ ?_
  simp -dsimp (disch := omega) only [go_sem, Tryz.f6]
  refine chainOf _ [matrixX] (by kernel_rfl) _ _ ?_
  simp -dsimp (disch := omega) only [go_sem, Tryz.f6]
  refine written _ _ (by kernel_rfl) (by kernel_rfl) _ _ ?_
  simp -dsimp (disch := omega) only [go_sem, Tryz.f6]
  refine chainOf _ [gridX] (by kernel_rfl) _ _ ?_
  simp -dsimp (disch := omega) only [go_sem, Tryz.f6]
  refine written _ _ (by kernel_rfl) (by kernel_rfl) _ _ ?_
  simp -dsimp (disch := omega) only [go_sem, Tryz.f6]
  refine chainOf _ [runX] (by kernel_rfl) _ _ ?_
  simp -dsimp (disch := omega) only [go_sem, Tryz.f6]
  refine written _ _ (by kernel_rfl) (by kernel_rfl) _ _ ?_
  simp -dsimp (disch := omega) only [go_sem, Tryz.f6]
  refine chainOf _ [] (by kernel_rfl) _ _ ?_
  simp -dsimp (disch := omega) only [go_sem, Tryz.f6]
  refine written _ _ (by kernel_rfl) (by kernel_rfl) _ _ ?_
  simp -dsimp (disch := omega) only [go_sem, Tryz.f6]
  refine AW.weak (Weak.of (fr' := [(1, .fn (.func 18) [] [])]) ?_ (mLe.refl _)) ?_
  · (simp only [frLe]; repeat' apply And.intro) <;> first | trivial | exact ⟨_, rfl, .refl _⟩
  refine AW.step ?_
  simp -dsimp (disch := omega) only [go_sem, Tryz.f6]
  refine ALoop.unr 18 ?_
  simp -dsimp (disch := omega) only [go_sem, Tryz.f6, List.getD_cons_zero, List.getD_cons_succ, List.map_cons, List.map_nil, List.take_succ_cons, List.take_zero, List.drop_zero]
  refine refused _ _ _ (by kernel_rfl) _ _ ?_
  simp -dsimp (disch := omega) only [go_sem, Tryz.f6, List.getD_cons_zero, List.getD_cons_succ, List.map_cons, List.map_nil, List.take_succ_cons, List.take_zero, List.drop_zero]
  refine refused _ _ _ (by kernel_rfl) _ _ ?_
  simp -dsimp (disch := omega) only [go_sem, Tryz.f6, List.getD_cons_zero, List.getD_cons_succ, List.map_cons, List.map_nil, List.take_succ_cons, List.take_zero, List.drop_zero]
  refine refused _ _ _ (by kernel_rfl) _ _ ?_
  simp -dsimp (disch := omega) only [go_sem, Tryz.f6, List.getD_cons_zero, List.getD_cons_succ, List.map_cons, List.map_nil, List.take_succ_cons, List.take_zero, List.drop_zero]
  refine refused _ _ _ (by kernel_rfl) _ _ ?_
  simp -dsimp (disch := omega) only [go_sem, Tryz.f6, List.getD_cons_zero, List.getD_cons_succ, List.map_cons, List.map_nil, List.take_succ_cons, List.take_zero, List.drop_zero]
  refine refused _ _ _ (by kernel_rfl) _ _ ?_
  simp -dsimp (disch := omega) only [go_sem, Tryz.f6, List.getD_cons_zero, List.getD_cons_succ, List.map_cons, List.map_nil, List.take_succ_cons, List.take_zero, List.drop_zero]
  refine refused _ _ _ (by kernel_rfl) _ _ ?_
  simp -dsimp (disch := omega) only [go_sem, Tryz.f6, List.getD_cons_zero, List.getD_cons_succ, List.map_cons, List.map_nil, List.take_succ_cons, List.take_zero, List.drop_zero]
  refine refused _ _ _ (by kernel_rfl) _ _ ?_
  simp -dsimp (disch := omega) only [go_sem, Tryz.f6, List.getD_cons_zero, List.getD_cons_succ, List.map_cons, List.map_nil, List.take_succ_cons, List.take_zero, List.drop_zero]
  refine refused _ _ _ (by kernel_rfl) _ _ ?_
  simp -dsimp (disch := omega) only [go_sem, Tryz.f6, List.getD_cons_zero, List.getD_cons_succ, List.map_cons, List.map_nil, List.take_succ_cons, List.take_zero, List.drop_zero]
  refine refused _ _ _ (by kernel_rfl) _ _ ?_
  simp -dsimp (disch := omega) only [go_sem, Tryz.f6, List.getD_cons_zero, List.getD_cons_succ, List.map_cons, List.map_nil, List.take_succ_cons, List.take_zero, List.drop_zero]
  refine refused _ _ _ (by kernel_rfl) _ _ ?_
  simp -dsimp (disch := omega) only [go_sem, Tryz.f6, List.getD_cons_zero, List.getD_cons_succ, List.map_cons, List.map_nil, List.take_succ_cons, List.take_zero, List.drop_zero]
  refine refused _ _ _ (by kernel_rfl) _ _ ?_
  simp -dsimp (disch := omega) only [go_sem, Tryz.f6, List.getD_cons_zero, List.getD_cons_succ, List.map_cons, List.map_nil, List.take_succ_cons, List.take_zero, List.drop_zero]
  refine refused _ _ _ (by kernel_rfl) _ _ ?_
  simp -dsimp (disch := omega) only [go_sem, Tryz.f6, List.getD_cons_zero, List.getD_cons_succ, List.map_cons, List.map_nil, List.take_succ_cons, List.take_zero, List.drop_zero]
  refine refused _ _ _ (by kernel_rfl) _ _ ?_
  simp -dsimp (disch := omega) only [go_sem, Tryz.f6, List.getD_cons_zero, List.getD_cons_succ, List.map_cons, List.map_nil, List.take_succ_cons, List.take_zero, List.drop_zero]
  refine refused _ _ _ (by kernel_rfl) _ _ ?_
  simp -dsimp (disch := omega) only [go_sem, Tryz.f6, List.getD_cons_zero, List.getD_cons_succ, List.map_cons, List.map_nil, List.take_succ_cons, List.take_zero, List.drop_zero]
  refine refused _ _ _ (by kernel_rfl) _ _ ?_
  simp -dsimp (disch := omega) only [go_sem, Tryz.f6, List.getD_cons_zero, List.getD_cons_succ, List.map_cons, List.map_nil, List.take_succ_cons, List.take_zero, List.drop_zero]
  refine refused _ _ _ (by kernel_rfl) _ _ ?_
  simp -dsimp (disch := omega) only [go_sem, Tryz.f6, List.getD_cons_zero, List.getD_cons_succ, List.map_cons, List.map_nil, List.take_succ_cons, List.take_zero, List.drop_zero]
  refine refused _ _ _ (by kernel_rfl) _ _ ?_
  simp -dsimp (disch := omega) only [go_sem, Tryz.f6, List.getD_cons_zero, List.getD_cons_succ, List.map_cons, List.map_nil, List.take_succ_cons, List.take_zero, List.drop_zero]
  refine AW.weak (Weak.of (fr' := [(1, .fn (.func 18) [] [])]) ?_ (mLe.refl _)) ?_
  · (simp only [frLe]; repeat' apply And.intro) <;> first | trivial | exact ⟨_, rfl, .refl _⟩
  refine AW.every fun M => ?_
  refine AW.step ?_
  simp -dsimp (disch := omega) only [go_sem, Tryz.f6]
  refine hi _ _ ?_
  simp -dsimp (disch := omega) only [go_sem, Tryz.f6]
  refine pair _ _ ?_
  simp -dsimp (disch := omega) only [go_sem, Tryz.f6]
  refine AW.step ?_
  simp -dsimp (disch := omega) only [go_sem, Tryz.f6]
  refine strRepeat _ 201 (by decide) (by decide) _ _ ?_
  simp -dsimp (disch := omega) only [go_sem, Tryz.f6]
  refine rep13 _ _ ?_
  simp -dsimp (disch := omega) only [go_sem, Tryz.f6]
  refine AW.step ?_
  simp -dsimp (disch := omega) only [go_sem, Tryz.f6]
  have hg := Weak.freezeCell (fr := [(1, .fn (.func 18) [] []), (9, .ptr M.length 0), (10, .ptr (M.length + 1) 0), (11, .ptr (M.length + 3) 0)]) (ds := []) (m := some (.cells 60 [.d (ints [8, 8, 8, 8]), I 1, .lsl (M.length + 2) 0 4096 4096]) :: some (.cells 3 (List.replicate 4096 [AV.d (.int .i64 0)]).flatten) :: some (.cells 41 [S pairT.sign, I pairT.kind, S pairT.text, .d (ints (List.replicate 13 0)), I pairT.chain.nin, .d (eltsD pairT.chain.elts)]) :: some (.cells 41 [S hiT.sign, I hiT.kind, S (Lib.repeatL [97] 201), .d (ints hiT.numbers), I hiT.chain.nin, .d (eltsD hiT.chain.elts)]) :: M)
    (T := 60) (ty := 3) (cc := [.d (ints [8, 8, 8, 8]), I 1, .lsl (M.length + 2) 0 4096 4096]) (off := 0) (len := 4096) (cap := 4096) (M.length + 3) 2 (M.length + 2) 1 (List.replicate 4096 [.int .i64 0]) (by simp -dsimp (disch := omega) only [go_sem]) rfl (by simp -dsimp (disch := omega) only [go_sem]) (by omega) (zrows _ _) (List.length_replicate ..) (fun r hr => by rw [List.eq_of_mem_replicate hr]; rfl) (by omega) (by decide)
  simp -dsimp (disch := omega) only [go_sem, List.set_cons_succ, List.set_cons_zero] at hg
  refine AW.weak ((Weak.of ?_ (mLe.refl _)).trans hg) ?_
  · (simp only [frLe]; repeat' apply And.intro) <;> first | trivial | exact ⟨_, rfl, .refl _⟩
  refine AW.step ?_
  simp -dsimp (disch := omega) only [go_sem, Tryz.f6]
  refine rep4 _ _ ?_
  simp -dsimp (disch := omega) only [go_sem, Tryz.f6]
  refine AW.step ?_
  simp -dsimp (disch := omega) only [go_sem, Tryz.f6]
  refine chainOf _ [moreX, bigX, moreX, bigX, moreX, bigX, moreX, bigX] (by kernel_rfl) _ _ ?_
  simp -dsimp (disch := omega) only [go_sem, Tryz.f6]
  refine AW.step ?_
  simp -dsimp (disch := omega) only [go_sem, Tryz.f6]
  refine bytes largeT _ _ ?_
  rw [large_bytes]
  simp -dsimp (disch := omega) only [go_sem, Tryz.f6]
  refine AW.step ?_
  simp -dsimp (disch := omega) only [go_sem, Tryz.f6]
  refine bytes longT _ _ ?_
  rw [show bytesF longT = ([], 150) by kernel_rfl]
  simp -dsimp (disch := omega) only [go_sem, Tryz.f6]
  refine AW.step ?_
  simp -dsimp (disch := omega) only [go_sem, Tryz.f6]
  refine strRepeat _ 32769 (by decide) (by decide) _ _ ?_
  simp -dsimp (disch := omega) only [go_sem, Tryz.f6]
  refine parse _ _ _ _ ?_
  rw [many 32769 (by omega)]
  simp -dsimp (disch := omega) only [go_sem, Tryz.f6]
  refine AW.step ?_
  simp -dsimp (disch := omega) only [go_sem, Tryz.f6]
  refine parse _ _ _ _ ?_
  rw [show parseF [] (-1) = (zeroT, 0, 0, 2) by kernel_rfl]
  simp -dsimp (disch := omega) only [go_sem, Tryz.f6]
  refine AW.step ?_
  simp -dsimp (disch := omega) only [go_sem, Tryz.f6]
  refine pairL _ _ ?_
  simp -dsimp (disch := omega) only [go_sem, Tryz.f6]
  refine pairL _ _ ?_
  simp -dsimp (disch := omega) only [go_sem, Tryz.f6, pairL1, List.length_cons, List.length_nil, List.all_cons, List.all_nil, AV.isCell, Bool.and_true, List.take_succ_cons, List.take_zero, List.take_nil, List.drop_succ_cons, List.drop_zero, List.cons_append, List.nil_append, List.append_nil, List.set_cons_succ, List.set_cons_zero]
  refine AW.step ?_
  simp -dsimp (disch := omega) only [go_sem, Tryz.f6, pairL1, List.length_cons, List.length_nil, List.all_cons, List.all_nil, AV.isCell, Bool.and_true, List.take_succ_cons, List.take_zero, List.take_nil, List.drop_succ_cons, List.drop_zero, List.cons_append, List.nil_append, List.append_nil, List.set_cons_succ, List.set_cons_zero]
  refine ADraw.of (es := []) (pn := none) (T := [⟨false, false, 0, 0, 0⟩, ⟨false, true, 0, 0, 0⟩, ⟨false, false, 0, 1, 0⟩, ⟨false, true, 0, 1, 0⟩, ⟨false, false, 0, 0, 0⟩, ⟨true, false, 0, 1, 0⟩, ⟨false, false, 1, 1, 0⟩, ⟨true, false, 1, 2, 0⟩]) mixed (by kernel_rfl) ?_
  simp -dsimp (disch := omega) only [go_sem, Tryz.f6, pairL1, List.length_cons, List.length_nil, List.all_cons, List.all_nil, AV.isCell, Bool.and_true, List.take_succ_cons, List.take_zero, List.take_nil, List.drop_succ_cons, List.drop_zero, List.cons_append, List.nil_append, List.append_nil, List.set_cons_succ, List.set_cons_zero]
  refine AW.weak (Weak.freezeCell (T := 41) (ty := 3) (cc := [S [97, 98, 99, 49], I 2, S [], .lsl (M.length + 1 + 1 + 1 + 1 + 1 + 1 + 1 + 1 + 1) 0 2 2, I 0, .d .nilsl]) (cs := [I (-2147483649), I (-1)]) (off := 0) (len := 2) (cap := 2) (M.length + 1 + 1 + 1 + 1 + 1 + 1 + 1 + 1 + 1 + 1 + 1 + 1) 3 (M.length + 1 + 1 + 1 + 1 + 1 + 1 + 1 + 1 + 1) 1 [[.int .i64 (-2147483649)], [.int .i64 (-1)]] (by simp -dsimp (disch := omega) only [go_sem]) rfl (by simp -dsimp (disch := omega) only [go_sem]) (by omega) rfl rfl (by simp) (by omega) (by decide)) ?_
  refine AW.weak (Weak.freezeCell (T := 41) (ty := 3) (cc := [S [97, 98, 99, 49], I 2, S [], .lsl (M.length + 1 + 1 + 1 + 1 + 1 + 1 + 1 + 1 + 1 + 1 + 1) 0 2 2, I 0, .d .nilsl]) (cs := [I 2147483648, I (-1)]) (off := 0) (len := 2) (cap := 2) (M.length + 1 + 1 + 1 + 1 + 1 + 1 + 1 + 1 + 1 + 1 + 1 + 1 + 1) 3 (M.length + 1 + 1 + 1 + 1 + 1 + 1 + 1 + 1 + 1 + 1 + 1) 1 [[.int .i64 2147483648], [.int .i64 (-1)]] (by simp -dsimp (disch := omega) only [go_sem]) rfl (by simp -dsimp (disch := omega) only [go_sem]) (by omega) rfl rfl (by simp) (by omega) (by decide)) ?_
  refine AW.weak (Weak.of (fr' := [(13, .ptr (M.length + 1 + 1 + 1 + 1 + 1) 0), (15, I 3), (17, I 150), (10, .ptr (M.length + 1) 0), (26, .ptr (M.length + 1 + 1 + 1 + 1 + 1 + 1 + 1 + 1 + 1 + 1 + 1 + 1) 0), (27, .ptr (M.length + 1 + 1 + 1 + 1 + 1 + 1 + 1 + 1 + 1 + 1 + 1 + 1 + 1) 0), (20, I 0), (21, I 3), (24, I 0), (25, I 2)]) ?_ (mLe.refl _)) ?_
  · (simp only [frLe]; repeat' apply And.intro) <;> first | trivial | exact ⟨_, rfl, .refl _⟩
  refine awpC_ok _ _ _ _ ?_
  simp -dsimp (maxSteps := 4000000) (disch := omega) only [go_sem, Tryz.f6, List.set_cons_succ, List.set_cons_zero]
  refine tagCheck largeT _ _ ?_
  rw [large_check]
  simp -dsimp (maxSteps := 4000000) (disch := omega) only [go_sem, Tryz.f6]
  refine tagCheck wideT _ _ ?_
  rw [show tgE wideT = 150 by kernel_rfl]
  simp -dsimp (maxSteps := 4000000) (disch := omega) only [go_sem, Tryz.f6]
  refine ACalls.args (.cons (.agg (.cons (.refl _) (.cons (.refl _) (.cons (.refl _) (.cons (.refl _) (.cons (.refl _) (.cons (.nilsl 10) .nil))))))) .nil) (tagCheck lowT _ _ ?_)
  rw [show tgE lowT = 150 by kernel_rfl]
  simp -dsimp (maxSteps := 4000000) (disch := omega) only [go_sem, Tryz.f6]
  refine ACalls.args (.cons (.agg (.cons (.refl _) (.cons (.refl _) (.cons (.refl _) (.cons (.refl _) (.cons (.refl _) (.cons (.nilsl 10) .nil))))))) .nil) (tagCheck highT _ _ ?_)
  rw [show tgE highT = 150 by kernel_rfl]
  simp -dsimp (maxSteps := 4000000) (disch := omega) only [go_sem, Tryz.f6]

end Go.Proofs.YtbdefaebbicfjaaGreat
