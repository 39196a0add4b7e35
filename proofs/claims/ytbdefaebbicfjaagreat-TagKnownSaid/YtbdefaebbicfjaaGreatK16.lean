/- The reader of elements: its closures. -/
import Derived.Test.YtbdefaebbicfjaaGreatK15
set_option linter.all false
namespace Go.Proofs.YtbdefaebbicfjaaGreat
open Go Go.Ab Go.RowKit
set_option maxHeartbeats 400000
set_option maxRecDepth 10000

theorem curveR_pos {s : List UInt8} {a : Int} {c : Cur} {a1 : Int} (h : curveR s a = .ok c a1) : 0 ≤ a1 ∧ a1 ≤ 65536 := by
  unfold curveR at h
  obtain ⟨k, b, h1, h⟩ := bind_ok h
  obtain ⟨c', b', h2, h⟩ := bind_ok h
  split at h
  · cases h
    unfold curveBody at h2
    have p := u8R_pos h1
    split at h2
    · cases h2; exact p
    split at h2
    · obtain ⟨l, b2, h3, h4⟩ := bind_ok h2
      cases h4
      unfold tableR at h3
      obtain ⟨n, b3, h5, h6⟩ := bind_ok h3
      exact listR_pos (fun _ _ _ h => u16R_pos h) (u8R_pos h5) h6
    split at h2
    · obtain ⟨l, b2, h3, h4⟩ := bind_ok h2
      cases h4
      unfold segsR at h3
      obtain ⟨n, b3, h5, h6⟩ := bind_ok h3
      exact listR_pos (fun _ _ _ h => segR_pos h) (u8R_pos h5) h6
    · cases h2
  · cases h
theorem opR_pos {s : List UInt8} {a : Int} {c : POp} {a1 : Int} (h : opR s a = .ok c a1) : 0 ≤ a1 ∧ a1 ≤ 65536 := by
  unfold opR at h
  obtain ⟨k, b, h1, h⟩ := bind_ok h
  obtain ⟨k2, b2, h2, h⟩ := bind_ok h
  cases h
  exact s32R_pos h2

/-- Two writes, the first anew. -/
theorem set_swap {n k : Nat} (h : n ≠ k) (m : AM) (x y z : Option ABlk) : AM.set (AM.set (AM.set m n x) k y) n z = AM.set (AM.set m n z) k y := by
  rw [set_comm h.symm y z, set_set]

def curvesR (s : List UInt8) (a : Int) : RR (List Cur) := (u8R s a).bind fun n a1 => listR curveR n s a1

theorem elt1 (c0 c1 c2 c3 c4 c5 c6 c7 c8 c9 : D) (b1 b4 : Nat) (s : List UInt8) (a : Int) (h0 : 0 ≤ a) (h1 : a ≤ 65536) (nr : Nat) (m : AM) (hr : m.get nr = some (rdr s a)) (hb1 : m.get b1 = some (.cells 88 [.ptr nr 0])) (hb4 : m.get b4 = some (.cells 63 [.d c0, .d c1, .d c2, .d c3, .d c4, .d c5, .d c6, .d c7, .d c8, .d c9]))
    (n1 : b1 ≠ nr) (n2 : b4 ≠ nr) (Q : AE → AM → Prop)
    (hQ : match curvesR s a with
      | .ok l a2 => 0 ≤ a2 → a2 ≤ 65536 → Q (.ret (.tup [])) (AM.set (AM.set m nr (some (rdr s a2))) b4 (some (.cells 63 [.d c0, .d (curvesD l), .d c2, .d c3, .d c4, .d c5, .d c6, .d c7, .d c8, .d c9])))
      | .bad w e a2 => Q (.pan (flt w e)) (AM.set m nr (some (rdr s a2)))) : ACalls Tryz.prog 142 [.ptr b1 0, .ptr b4 0] m Q := by
  have x1 : ∀ x, AM.get (AM.set m nr x) b1 = some (.cells 88 [.ptr nr 0]) := fun x => by rw [AM.get_set_other _ _ _ _ n1, hb1]
  have x4 : ∀ x, AM.get (AM.set m nr x) b4 = AM.get m b4 := fun x => AM.get_set_other _ _ _ _ n2
  have hlt := AM.get_lt _ _ _ hr
  unfold curvesR at hQ
  refine acalls_of_body Tryz.func142 (by rfl) (by rfl) (Nat.le_of_ble_eq_true rfl) ?_
  simp -dsimp (disch := omega) only [go_sem, Tryz.f142]
  rcases hu : u8R s a with ⟨n, a1⟩ | ⟨w, e, a1⟩
  · rw [hu] at hQ
    simp only [RR.bind] at hQ
    have hn := u8R_ok hu
    have p1 := u8R_pos hu
    rcases hv : listR curveR n s a1 with ⟨l, a2⟩ | ⟨w, e, a2⟩
    · rw [hv] at hQ
      refine ADraw.of (es := [1,4]) (pn := none) (T := [⟨false, true, 0, 0, 0⟩, ⟨true, true, 0, 1, 0⟩, ⟨false, true, 0, 1, 0⟩, ⟨false, false, 0, 1, 0⟩, ⟨true, true, 1, 2, 0⟩, ⟨false, false, 2, 2, 0⟩, ⟨true, false, 2, 3, 0⟩]) mixed (by kernel_rfl) ?_
      simp -dsimp (disch := omega) only [go_sem, hb1]
      have p2 := listR_pos (fun _ _ _ h => curveR_pos h) p1 hv
      refine wDCall.turn (I n) (AM.set m nr (some (rdr s a1))) (u8 s a nr m hr (by omega) _ (by rw [hu]; exact fun _ _ => ⟨rfl, rfl⟩)) ?_
      simp -dsimp (disch := omega) only [go_sem, x1]
      refine wDCall.turn (.d (curvesD l)) (AM.set m nr (some (rdr s a2))) (list143 curveR 144 [.ptr nr 0] [] n (by omega) s a1 p1.1 p1.2 nr _ (get_set_same _ hr) (fun k a Q g0 g1 hq => curve s a g0 g1 nr _ (by simp -dsimp (disch := omega) only [go_sem, get_set_same _ hr, AM.length_set]) Q hq) _ (by rw [hv]; exact fun _ _ => ⟨rfl, by rw [set_set]⟩)) ?_
      simp -dsimp (disch := omega) only [go_sem, x1, x4, hb4, hb1]
      exact hQ p2.1 p2.2
    · rw [hv] at hQ
      refine ADraw.of (es := [1,4]) (pn := some 4) (T := [⟨false, true, 0, 0, 0⟩, ⟨true, true, 0, 1, 0⟩, ⟨false, true, 0, 1, 0⟩, ⟨false, false, 0, 1, 0⟩, ⟨true, true, 1, 2, 1⟩, ⟨false, false, 2, 2, 2⟩, ⟨true, false, 2, 3, 2⟩]) mixed (by kernel_rfl) ?_
      simp -dsimp (disch := omega) only [go_sem, hb1]
      refine wDCall.turn (I n) (AM.set m nr (some (rdr s a1))) (u8 s a nr m hr (by omega) _ (by rw [hu]; exact fun _ _ => ⟨rfl, rfl⟩)) ?_
      simp -dsimp (disch := omega) only [go_sem, x1]
      refine wDPan.of (flt w e) (AM.set m nr (some (rdr s a2))) (list143 curveR 144 [.ptr nr 0] [] n (by omega) s a1 p1.1 p1.2 nr _ (get_set_same _ hr) (fun k a Q g0 g1 hq => curve s a g0 g1 nr _ (by simp -dsimp (disch := omega) only [go_sem, get_set_same _ hr, AM.length_set]) Q hq) _ (by rw [hv]; exact ⟨rfl, by rw [set_set]⟩)) ?_
      simp -dsimp (disch := omega) only [go_sem, x1, x4, hb4, hb1]
      exact fun _ => hQ
  · rw [hu] at hQ
    simp only [RR.bind] at hQ
    refine ADraw.of (es := [1,4]) (pn := some 1) (T := [⟨false, true, 0, 0, 0⟩, ⟨true, true, 0, 1, 1⟩, ⟨false, true, 0, 1, 0⟩, ⟨false, false, 0, 1, 0⟩, ⟨true, true, 1, 2, 2⟩, ⟨false, false, 2, 2, 2⟩, ⟨true, false, 2, 3, 2⟩]) mixed (by kernel_rfl) ?_
    simp -dsimp (disch := omega) only [go_sem, hb1]
    refine wDPan.of (flt w e) (AM.set m nr (some (rdr s a1))) (u8 s a nr m hr (by omega) _ (by rw [hu]; exact ⟨rfl, rfl⟩)) ?_
    simp -dsimp (disch := omega) only [go_sem, x1, hb1, List.getElem?_nil]
    exact fun _ => hQ

theorem row147 (n : Int) (hn : n ≤ 65536) (b1 b3 : Nat) (s : List UInt8) (a : Int) (h0 : 0 ≤ a) (h1 : a ≤ 65536) (nr : Nat) (m : AM) (hr : m.get nr = some (rdr s a)) (hb1 : m.get b1 = some (.cells 88 [.ptr nr 0])) (hb3 : m.get b3 = some (.cells 3 [I n]))
    (Q : AE → AM → Prop) (hQ : RQ s nr m (fun l => .d (ints l)) Q (listR s32R n s a)) : ACalls Tryz.prog 147 [.ptr b3 0, .ptr b1 0] m Q := by
  have hlt := AM.get_lt _ _ _ hr
  refine acalls_of_body Tryz.func147 (by rfl) (by rfl) (Nat.le_of_ble_eq_true rfl) ?_
  simp -dsimp (disch := omega) only [go_sem, Tryz.f147, hb1, hb3]
  refine list65 s32R 67 [.ptr nr 0] [] n hn s a h0 h1 nr m hr (fun k a Q g0 g1 hq => s32 s a nr _ (by simp -dsimp (disch := omega) only [go_sem, get_set_same _ hr, AM.length_set]) (by omega) Q hq) _ ?_
  rcases hv : listR s32R n s a with ⟨l, a2⟩ | ⟨w, e, a2⟩
  · rw [hv] at hQ
    intro g0 g1
    simp -dsimp (disch := omega) only [go_sem]
    exact hQ g0 g1
  · rw [hv] at hQ
    simp only [RQ] at hQ ⊢
    simp -dsimp (disch := omega) only [go_sem]
    exact hQ

def rowsR (s : List UInt8) (a : Int) : RR (List (List Int) × List Int) := (u8R s a).bind fun k a1 => (u8R s a1).bind fun n a2 => (listR (listR s32R n) k s a2).bind fun rows a3 => (listR s32R k s a3).bind fun off a4 => .ok (rows, off) a4

theorem elt2 (c0 c1 c2 c3 c4 c5 c6 c7 c8 c9 : D) (b1 b4 : Nat) (s : List UInt8) (a : Int) (h0 : 0 ≤ a) (h1 : a ≤ 65536) (nr : Nat) (m : AM) (hr : m.get nr = some (rdr s a)) (hb1 : m.get b1 = some (.cells 88 [.ptr nr 0])) (hb4 : m.get b4 = some (.cells 63 [.d c0, .d c1, .d c2, .d c3, .d c4, .d c5, .d c6, .d c7, .d c8, .d c9]))
    (n1 : b1 ≠ nr) (n2 : b4 ≠ nr) (n3 : b1 ≠ b4) (Q : AE → AM → Prop)
    (hQ : match rowsR s a with
      | .ok l a2 => 0 ≤ a2 → a2 ≤ 65536 → Q (.ret (.tup [])) (AM.set (AM.set m nr (some (rdr s a2))) b4 (some (.cells 63 [.d c0, .d c1, .d (rowsD l.1), .d (ints l.2), .d c4, .d c5, .d c6, .d c7, .d c8, .d c9])))
      | .bad w e a2 => ∀ m', (m' = AM.set m nr (some (rdr s a2)) ∨ ∃ r, m' = AM.set (AM.set m nr (some (rdr s a2))) b4 (some (.cells 63 [.d c0, .d c1, .d (rowsD r), .d c3, .d c4, .d c5, .d c6, .d c7, .d c8, .d c9]))) → Q (.pan (flt w e)) m') : ACalls Tryz.prog 145 [.ptr b1 0, .ptr b4 0] m Q := by
  refine ACalls.fin ?_
  have x1 : ∀ x, AM.get (AM.set m nr x) b1 = some (.cells 88 [.ptr nr 0]) := fun x => by rw [AM.get_set_other _ _ _ _ n1, hb1]
  have x4 : ∀ x, AM.get (AM.set m nr x) b4 = AM.get m b4 := fun x => AM.get_set_other _ _ _ _ n2
  have y1 : ∀ x y, AM.get (AM.set (AM.set m nr x) b4 y) b1 = some (.cells 88 [.ptr nr 0]) := fun x y => by rw [AM.get_set_other _ _ _ _ n3, x1]
  have yr : ∀ x y, AM.get (AM.set (AM.set m nr x) b4 y) nr = x := fun x y => by rw [AM.get_set_other _ _ _ _ n2.symm, get_set_same _ hr]
  have y4 : ∀ x y, AM.get (AM.set (AM.set m nr x) b4 y) b4 = y := fun x y => get_set_same _ ((x4 x).trans hb4)
  have sw : ∀ x y z, AM.set (AM.set (AM.set m nr x) b4 y) nr z = AM.set (AM.set m nr z) b4 y := fun x y z => set_swap n2.symm m x y z
  have hlt := AM.get_lt _ _ _ hr
  have hlt1 := AM.get_lt _ _ _ hb1
  have hlt4 := AM.get_lt _ _ _ hb4
  unfold rowsR at hQ
  refine acalls_of_body Tryz.func145 (by rfl) (by rfl) (Nat.le_of_ble_eq_true rfl) ?_
  simp -dsimp (disch := omega) only [go_sem, Tryz.f145, hb1]
  refine u8 s a nr _ (by simp -dsimp (disch := omega) only [go_sem, hr]) (by omega) _ ?_
  rcases hu : u8R s a with ⟨k, a1⟩ | ⟨w, e, a1⟩
  rotate_left
  · rw [hu] at hQ
    replace hQ := hQ _ (.inl rfl)
    simp only [RQ, RR.bind] at hQ ⊢
    simp -dsimp (disch := omega) only [go_sem]
    refine ⟨_, _, .pan (.refl _), ?_, ?_, ?_, hQ⟩ <;> first | (exact Over.refl _) | (exact (Over.refl _).cons _) | (exact ((Over.refl _).cons _).cons _) | (exact (((Over.refl _).cons _).cons _).cons _) | (exact ((((Over.refl _).cons _).cons _).cons _).cons _) | exact Kept.refl _ | (exact (Kept.refl _).set (by simp only [ABlk.bd, AV.bd, AV.bdL, and_self])) | (simp only [AE.bd, AV.bd, AV.bdL, and_self]; done)
  rw [hu] at hQ
  have p1 := u8R_pos hu
  have q1 := u8R_ok hu
  intro _ _
  simp only [RR.bind] at hQ
  simp -dsimp (disch := omega) only [go_sem, x1]
  refine u8 s a1 nr _ (by simp -dsimp (disch := omega) only [go_sem, get_set_same _ hr]) (by omega) _ ?_
  rcases hu2 : u8R s a1 with ⟨n, a2⟩ | ⟨w, e, a2⟩
  rotate_left
  · rw [hu2] at hQ
    replace hQ := hQ _ (.inl rfl)
    simp only [RQ, RR.bind] at hQ ⊢
    simp -dsimp (disch := omega) only [go_sem]
    refine ⟨_, _, .pan (.refl _), ?_, ?_, ?_, hQ⟩ <;> first | (exact Over.refl _) | (exact (Over.refl _).cons _) | (exact ((Over.refl _).cons _).cons _) | (exact (((Over.refl _).cons _).cons _).cons _) | (exact ((((Over.refl _).cons _).cons _).cons _).cons _) | exact Kept.refl _ | (exact (Kept.refl _).set (by simp only [ABlk.bd, AV.bd, AV.bdL, and_self])) | (simp only [AE.bd, AV.bd, AV.bdL, and_self]; done)
  rw [hu2] at hQ
  have p2 := u8R_pos hu2
  have q2 := u8R_ok hu2
  intro _ _
  simp only [RR.bind] at hQ
  simp -dsimp (disch := omega) only [go_sem, x1]
  refine list146 (listR s32R n) 147 [] [.ptr m.length 0, .ptr b1 0] k (by omega) s a2 p2.1 p2.2 nr _ (by simp -dsimp (disch := omega) only [go_sem, get_set_same _ hr]) (fun k a Q g0 g1 hq => row147 n (by omega) b1 m.length s a g0 g1 nr _ (by simp -dsimp (disch := omega) only [go_sem, get_set_same _ hr, AM.length_set]) (by simp -dsimp (disch := omega) only [go_sem, x1, AM.length_set]) (by simp -dsimp (disch := omega) only [go_sem, AM.length_set]) Q hq) _ ?_
  rcases hu3 : listR (listR s32R n) k s a2 with ⟨rows, a3⟩ | ⟨w, e, a3⟩
  rotate_left
  · rw [hu3] at hQ
    replace hQ := hQ _ (.inl rfl)
    simp only [RQ, RR.bind] at hQ ⊢
    simp -dsimp (disch := omega) only [go_sem]
    refine ⟨_, _, .pan (.refl _), ?_, ?_, ?_, hQ⟩ <;> first | (exact Over.refl _) | (exact (Over.refl _).cons _) | (exact ((Over.refl _).cons _).cons _) | (exact (((Over.refl _).cons _).cons _).cons _) | (exact ((((Over.refl _).cons _).cons _).cons _).cons _) | exact Kept.refl _ | (exact (Kept.refl _).set (by simp only [ABlk.bd, AV.bd, AV.bdL, and_self])) | (simp only [AE.bd, AV.bd, AV.bdL, and_self]; done)
  rw [hu3] at hQ
  intro p3 p4
  simp only [RR.bind] at hQ
  simp -dsimp (disch := omega) only [go_sem, x1, x4, hb4, y1]
  refine list65 s32R 67 [.ptr nr 0] [] k (by omega) s a3 p3 p4 nr _ (by simp -dsimp (disch := omega) only [go_sem, yr]) (fun k a Q g0 g1 hq => s32 s a nr _ (by simp -dsimp (disch := omega) only [go_sem, yr, sw, AM.length_set]) (by omega) Q hq) _ ?_
  rcases hu4 : listR s32R k s a3 with ⟨off, a4⟩ | ⟨w, e, a4⟩
  rotate_left
  · rw [hu4] at hQ
    replace hQ := hQ _ (.inr ⟨rows, rfl⟩)
    simp only [RQ, RR.bind] at hQ ⊢
    simp -dsimp (disch := omega) only [go_sem, sw]
    refine ⟨_, _, .pan (.refl _), (Over.refl _).cons _, ((Kept.refl _).set (by simp only [frBd, preBd, ABlk.bd, AV.bd, AV.bdL, List.length_cons, List.length_nil, List.length_append, List.nil_append, List.cons_append, and_true, true_and] <;> (try omega))).set (by simp only [frBd, preBd, ABlk.bd, AV.bd, AV.bdL, List.length_cons, List.length_nil, List.length_append, List.nil_append, List.cons_append, and_true, true_and] <;> (try omega)), ?_, hQ⟩
    simp only [AE.bd, AV.bd, AV.bdL, and_self]
  rw [hu4] at hQ
  intro p5 p6
  simp -dsimp (disch := omega) only [go_sem, sw, y4]
  refine ⟨_, _, .ret (.refl _), (Over.refl _).cons _, ((Kept.refl _).set (by simp only [frBd, preBd, ABlk.bd, AV.bd, AV.bdL, List.length_cons, List.length_nil, List.length_append, List.nil_append, List.cons_append, and_true, true_and] <;> (try omega))).set (by simp only [frBd, preBd, ABlk.bd, AV.bd, AV.bdL, List.length_cons, List.length_nil, List.length_append, List.nil_append, List.cons_append, and_true, true_and] <;> (try omega)), ?_, hQ p5 p6⟩
  simp only [AE.bd, AV.bd, AV.bdL, and_self]

theorem elt3 (c0 c1 c2 c3 c4 c5 c6 c7 c8 c9 : D) (b1 b4 : Nat) (s : List UInt8) (a : Int) (h0 : 0 ≤ a) (h1 : a ≤ 65536) (nr : Nat) (m : AM) (hr : m.get nr = some (rdr s a)) (hb1 : m.get b1 = some (.cells 88 [.ptr nr 0])) (hb4 : m.get b4 = some (.cells 63 [.d c0, .d c1, .d c2, .d c3, .d c4, .d c5, .d c6, .d c7, .d c8, .d c9]))
    (n1 : b1 ≠ nr) (n2 : b4 ≠ nr) (Q : AE → AM → Prop)
    (hQ : match gridR s a with
      | .ok g a2 => 0 ≤ a2 → a2 ≤ 65536 → Q (.ret (.tup [])) (AM.set (AM.set m nr (some (rdr s a2))) b4 (some (.cells 63 [.d c0, .d c1, .d c2, .d c3, .d (ints g.size), I g.out, .d (ints g.data), .d c7, .d c8, .d c9])))
      | .bad w e a2 => Q (.pan (flt w e)) (AM.set m nr (some (rdr s a2)))) : ACalls Tryz.prog 148 [.ptr b1 0, .ptr b4 0] m Q := by
  have x4 : ∀ x, AM.get (AM.set m nr x) b4 = AM.get m b4 := fun x => AM.get_set_other _ _ _ _ n2
  have hlt := AM.get_lt _ _ _ hr
  refine acalls_of_body Tryz.func148 (by rfl) (by rfl) (Nat.le_of_ble_eq_true rfl) ?_
  simp -dsimp (disch := omega) only [go_sem, Tryz.f148, hb1]
  refine grid s a h0 h1 nr m hr _ ?_
  rcases hu : gridR s a with ⟨g, a1⟩ | ⟨w, e, a1⟩
  · rw [hu] at hQ
    intro g0 g1
    simp -dsimp (disch := omega) only [go_sem, x4, hb4]
    exact hQ g0 g1
  · rw [hu] at hQ
    simp only [RQ] at hQ ⊢
    simp -dsimp (disch := omega) only [go_sem]
    exact hQ

def progR (s : List UInt8) (a : Int) : RR (Int × Int × List POp) := (u8R s a).bind fun nin a1 => (u8R s a1).bind fun nout a2 => (u8R s a2).bind fun n a3 => (listR opR n s a3).bind fun p a4 => .ok (nin, nout, p) a4

theorem elt4 (c0 c1 c2 c3 c4 c5 c6 c7 c8 c9 : D) (b1 b4 : Nat) (s : List UInt8) (a : Int) (h0 : 0 ≤ a) (h1 : a ≤ 65536) (nr : Nat) (m : AM) (hr : m.get nr = some (rdr s a)) (hb1 : m.get b1 = some (.cells 88 [.ptr nr 0])) (hb4 : m.get b4 = some (.cells 63 [.d c0, .d c1, .d c2, .d c3, .d c4, .d c5, .d c6, .d c7, .d c8, .d c9]))
    (n1 : b1 ≠ nr) (n2 : b4 ≠ nr) (n3 : b1 ≠ b4) (Q : AE → AM → Prop)
    (hQ : match progR s a with
      | .ok l a2 => 0 ≤ a2 → a2 ≤ 65536 → Q (.ret (.tup [])) (AM.set (AM.set m nr (some (rdr s a2))) b4 (some (.cells 63 [.d c0, .d c1, .d c2, .d c3, .d c4, .d c5, .d c6, .d (progD l.2.2), I l.1, I l.2.1])))
      | .bad w e a2 => ∀ m', (m' = AM.set m nr (some (rdr s a2)) ∨ ∃ u v : D, m' = AM.set (AM.set m nr (some (rdr s a2))) b4 (some (.cells 63 [.d c0, .d c1, .d c2, .d c3, .d c4, .d c5, .d c6, .d c7, .d u, .d v]))) → Q (.pan (flt w e)) m') : ACalls Tryz.prog 150 [.ptr b1 0, .ptr b4 0] m Q := by
  have x1 : ∀ x, AM.get (AM.set m nr x) b1 = some (.cells 88 [.ptr nr 0]) := fun x => by rw [AM.get_set_other _ _ _ _ n1, hb1]
  have x4 : ∀ x, AM.get (AM.set m nr x) b4 = AM.get m b4 := fun x => AM.get_set_other _ _ _ _ n2
  have y1 : ∀ x y, AM.get (AM.set (AM.set m nr x) b4 y) b1 = some (.cells 88 [.ptr nr 0]) := fun x y => by rw [AM.get_set_other _ _ _ _ n3, x1]
  have yr : ∀ x y, AM.get (AM.set (AM.set m nr x) b4 y) nr = x := fun x y => by rw [AM.get_set_other _ _ _ _ n2.symm, get_set_same _ hr]
  have y4 : ∀ x y, AM.get (AM.set (AM.set m nr x) b4 y) b4 = y := fun x y => get_set_same _ ((x4 x).trans hb4)
  have sw : ∀ x y z, AM.set (AM.set (AM.set m nr x) b4 y) nr z = AM.set (AM.set m nr z) b4 y := fun x y z => set_swap n2.symm m x y z
  have hlt := AM.get_lt _ _ _ hr
  unfold progR at hQ
  refine acalls_of_body Tryz.func150 (by rfl) (by rfl) (Nat.le_of_ble_eq_true rfl) ?_
  simp -dsimp (disch := omega) only [go_sem, Tryz.f150, hb1]
  refine u8 s a nr _ hr (by omega) _ ?_
  rcases hu : u8R s a with ⟨nin, a1⟩ | ⟨w, e, a1⟩
  rotate_left
  · rw [hu] at hQ
    replace hQ := hQ _ (.inl rfl)
    simp only [RQ] at hQ ⊢
    simp -dsimp (disch := omega) only [go_sem]
    exact hQ
  rw [hu] at hQ
  have p1 := u8R_pos hu
  intro _ _
  simp only [RR.bind] at hQ
  simp -dsimp (disch := omega) only [go_sem, x1, x4, hb4, y1]
  refine u8 s a1 nr _ (by simp -dsimp (disch := omega) only [go_sem, yr]) (by omega) _ ?_
  rcases hu2 : u8R s a1 with ⟨nout, a2⟩ | ⟨w, e, a2⟩
  rotate_left
  · rw [hu2] at hQ
    replace hQ := hQ _ (.inr ⟨Din nin, c9, rfl⟩)
    simp only [RQ] at hQ ⊢
    simp -dsimp (disch := omega) only [go_sem, sw]
    exact hQ
  rw [hu2] at hQ
  have p2 := u8R_pos hu2
  intro _ _
  simp only [RR.bind] at hQ
  simp -dsimp (disch := omega) only [go_sem, sw, y1, y4]
  rcases hu3 : u8R s a2 with ⟨n, a3⟩ | ⟨w, e, a3⟩
  · rw [hu3] at hQ
    simp only [RR.bind] at hQ
    have p3 := u8R_pos hu3
    have hn := u8R_ok hu3
    rcases hv : listR opR n s a3 with ⟨l, a4⟩ | ⟨w, e, a4⟩
    · rw [hv] at hQ
      refine ADraw.of (es := [1,4]) (pn := none) (T := [⟨false, true, 0, 0, 0⟩, ⟨true, true, 0, 1, 0⟩, ⟨false, true, 0, 1, 0⟩, ⟨false, false, 0, 1, 0⟩, ⟨true, true, 1, 2, 0⟩, ⟨false, false, 2, 2, 0⟩, ⟨true, false, 2, 3, 0⟩]) mixed (by kernel_rfl) ?_
      simp -dsimp (disch := omega) only [go_sem, y1]
      have p4 := listR_pos (fun _ _ _ h => opR_pos h) p3 hv
      refine wDCall.turn (I n) _ (u8 s a2 nr _ (yr _ _) (by omega) _ (by rw [hu3]; exact fun _ _ => ⟨rfl, rfl⟩)) ?_
      simp -dsimp (disch := omega) only [go_sem, sw, y1]
      refine wDCall.turn (.d (progD l)) _ (list151 opR 152 [.ptr nr 0] [] n (by omega) s a3 p3.1 p3.2 nr _ (yr _ _) (fun k a Q g0 g1 hq => op s a nr _ (by simp -dsimp (disch := omega) only [go_sem, sw, yr, AM.length_set]) (by omega) Q hq) _ (by rw [hv]; exact fun _ _ => ⟨rfl, rfl⟩)) ?_
      simp -dsimp (disch := omega) only [go_sem, sw, y1, y4]
      exact hQ p4.1 p4.2
    · rw [hv] at hQ
      refine ADraw.of (es := [1,4]) (pn := some 4) (T := [⟨false, true, 0, 0, 0⟩, ⟨true, true, 0, 1, 0⟩, ⟨false, true, 0, 1, 0⟩, ⟨false, false, 0, 1, 0⟩, ⟨true, true, 1, 2, 1⟩, ⟨false, false, 2, 2, 2⟩, ⟨true, false, 2, 3, 2⟩]) mixed (by kernel_rfl) ?_
      simp -dsimp (disch := omega) only [go_sem, y1]
      refine wDCall.turn (I n) _ (u8 s a2 nr _ (yr _ _) (by omega) _ (by rw [hu3]; exact fun _ _ => ⟨rfl, rfl⟩)) ?_
      simp -dsimp (disch := omega) only [go_sem, sw, y1]
      refine wDPan.of (flt w e) _ (list151 opR 152 [.ptr nr 0] [] n (by omega) s a3 p3.1 p3.2 nr _ (yr _ _) (fun k a Q g0 g1 hq => op s a nr _ (by simp -dsimp (disch := omega) only [go_sem, sw, yr, AM.length_set]) (by omega) Q hq) _ (by rw [hv]; exact ⟨rfl, rfl⟩)) ?_
      simp -dsimp (disch := omega) only [go_sem, sw, y1, y4]
      replace hQ := hQ _ (.inr ⟨Din nin, Din nout, rfl⟩)
      exact fun _ => hQ
  · rw [hu3] at hQ
    replace hQ := hQ _ (.inr ⟨Din nin, Din nout, rfl⟩)
    refine ADraw.of (es := [1,4]) (pn := some 1) (T := [⟨false, true, 0, 0, 0⟩, ⟨true, true, 0, 1, 1⟩, ⟨false, true, 0, 1, 0⟩, ⟨false, false, 0, 1, 0⟩, ⟨true, true, 1, 2, 2⟩, ⟨false, false, 2, 2, 2⟩, ⟨true, false, 2, 3, 2⟩]) mixed (by kernel_rfl) ?_
    simp -dsimp (disch := omega) only [go_sem, y1]
    refine wDPan.of (flt w e) _ (u8 s a2 nr _ (yr _ _) (by omega) _ (by rw [hu3]; exact ⟨rfl, rfl⟩)) ?_
    simp -dsimp (disch := omega) only [go_sem, sw, y1, List.getElem?_nil]
    exact fun _ => hQ
end Go.Proofs.YtbdefaebbicfjaaGreat
