/- The reader of curves. -/
import Derived.Test.YtbdefaebbicfjaaGreatK7
set_option linter.all false
namespace Go.Proofs.YtbdefaebbicfjaaGreat
open Go Go.Ab Go.RowKit
set_option maxHeartbeats 400000
set_option maxRecDepth 10000

theorem numF_lt (l : List UInt8) : numF l < 256 ^ l.length := by
  have key : ∀ (l : List UInt8) (v : Nat), l.foldl (fun v b => v * 256 + b.toNat) v < (v + 1) * 256 ^ l.length := by
    intro l
    induction l with
    | nil => intro v; simp
    | cons b l ih =>
      intro v
      have h1 := ih (v * 256 + b.toNat)
      have h2 := u8_lt b
      rw [List.foldl_cons, List.length_cons, Nat.pow_succ]
      refine Nat.lt_of_lt_of_le h1 ?_
      rw [Nat.mul_comm (256 ^ l.length) 256, ← Nat.mul_assoc]
      exact Nat.mul_le_mul_right _ (by omega)
  have := key l 0
  simpa [numF] using this

theorem octF_le (s : List UInt8) (a : Int) (n : Nat) (hn : n = 1 ∨ n = 2) : octF s a n < 65536 := by
  unfold octF
  split
  · have h := numF_lt ((s.drop a.toNat).take n)
    have hl : ((s.drop a.toNat).take n).length ≤ n := by simp; omega
    have := Nat.pow_le_pow_right (show 0 < 256 by omega) hl
    rcases hn with rfl | rfl <;> omega
  · omega

theorem u8R_ok {s : List UInt8} {a n a1 : Int} (h : u8R s a = .ok n a1) : 0 ≤ n ∧ n ≤ 65536 := by
  unfold u8R at h
  split at h
  · cases h
    have := octF_le s a 1 (.inl rfl)
    omega
  · cases h

theorem u8R_pos {s : List UInt8} {a n a1 : Int} (h : u8R s a = .ok n a1) : 0 ≤ a1 ∧ a1 ≤ 65536 := by
  unfold u8R at h
  split at h
  · rename_i he
    cases h
    have := partE_ok he
    omega
  · cases h
theorem u16R_pos {s : List UInt8} {a n a1 : Int} (h : u16R s a = .ok n a1) : 0 ≤ a1 ∧ a1 ≤ 65536 := by
  unfold u16R at h
  split at h
  · rename_i he
    cases h
    have := partE_ok he
    omega
  · cases h
theorem s32R_pos {s : List UInt8} {a n a1 : Int} (h : s32R s a = .ok n a1) : 0 ≤ a1 ∧ a1 ≤ 65536 := by
  unfold s32R at h
  split at h
  · rename_i he
    cases h
    have := partE_ok he
    omega
  · cases h
theorem listR_pos {α : Type} {rd : List UInt8 → Int → RR α} {s : List UInt8} (hrd : ∀ a v a', rd s a = .ok v a' → 0 ≤ a' ∧ a' ≤ 65536) {n a : Int} {l : List α} {a2 : Int} (h0 : 0 ≤ a ∧ a ≤ 65536) (h : listR rd n s a = .ok l a2) : 0 ≤ a2 ∧ a2 ≤ 65536 := by
  unfold listR at h
  generalize n.toNat = k at h
  generalize ([] : List α) = acc at h
  induction k generalizing acc a with
  | zero => simp only [listGo] at h; cases h; exact h0
  | succ k ih =>
    simp only [listGo] at h
    rcases hr : rd s a with ⟨v, a'⟩ | ⟨w, e, a'⟩
    · rw [hr] at h
      exact ih (hrd _ _ _ hr) _ h
    · rw [hr] at h
      cases h

def tableR (s : List UInt8) (a : Int) : RR (List Int) := (u8R s a).bind fun n a1 => listR u16R n s a1

theorem curve2 (k : Int) (v1 v2 : AV) (b1 b4 : Nat) (s : List UInt8) (a : Int) (h0 : 0 ≤ a) (h1 : a ≤ 65536) (nr : Nat) (m : AM) (hr : m.get nr = some (rdr s a)) (hb1 : m.get b1 = some (.cells 88 [.ptr nr 0])) (hb4 : m.get b4 = some (.cells 56 [I k, v1, v2]))
    (n1 : b1 ≠ nr) (n2 : b4 ≠ nr) (Q : AE → AM → Prop)
    (hQ : match tableR s a with
      | .ok l a2 => 0 ≤ a2 → a2 ≤ 65536 → Q (.ret (.tup [])) (AM.set (AM.set m nr (some (rdr s a2))) b4 (some (.cells 56 [I k, .d (ints l), v2])))
      | .bad w e a2 => Q (.pan (flt w e)) (AM.set m nr (some (rdr s a2)))) : ACalls Tryz.prog 178 [.ptr b1 0, .ptr b4 0] m Q := by
  have x1 : ∀ x, AM.get (AM.set m nr x) b1 = some (.cells 88 [.ptr nr 0]) := fun x => by rw [AM.get_set_other _ _ _ _ n1, hb1]
  have x4 : ∀ x, AM.get (AM.set m nr x) b4 = some (.cells 56 [I k, v1, v2]) := fun x => by rw [AM.get_set_other _ _ _ _ n2, hb4]
  have hlt := AM.get_lt _ _ _ hr
  unfold tableR at hQ
  refine acalls_of_body Tryz.func178 (by rfl) (by rfl) (Nat.le_of_ble_eq_true rfl) ?_
  simp -dsimp (disch := omega) only [go_sem, Tryz.f178]
  rcases hu : u8R s a with ⟨n, a1⟩ | ⟨w, e, a1⟩
  · rw [hu] at hQ
    simp only [RR.bind] at hQ
    have hn := u8R_ok hu
    rcases hv : listR u16R n s a1 with ⟨l, a2⟩ | ⟨w, e, a2⟩
    · rw [hv] at hQ
      refine ADraw.of (es := [1,4]) (pn := none) (T := [⟨false, true, 0, 0, 0⟩, ⟨true, true, 0, 1, 0⟩, ⟨false, true, 0, 1, 0⟩, ⟨false, false, 0, 1, 0⟩, ⟨true, true, 1, 2, 0⟩, ⟨false, false, 2, 2, 0⟩, ⟨true, false, 2, 3, 0⟩]) mixed (by kernel_rfl) ?_
      simp -dsimp (disch := omega) only [go_sem, hb1]
      have p1 := u8R_pos hu
      have p2 := listR_pos (fun _ _ _ h => u16R_pos h) p1 hv
      refine wDCall.turn (I n) (AM.set m nr (some (rdr s a1))) (u8 s a nr m hr (by omega) _ (by rw [hu]; exact fun _ _ => ⟨rfl, rfl⟩)) ?_
      simp -dsimp (disch := omega) only [go_sem, x1]
      refine wDCall.turn (.d (ints l)) (AM.set m nr (some (rdr s a2))) (list65 u16R 63 [.ptr nr 0] [] n (by omega) s a1 p1.1 p1.2 nr _ (get_set_same _ hr) (fun k a Q g0 g1 hq => u16 s a nr _ (by simp -dsimp (disch := omega) only [go_sem, get_set_same _ hr, AM.length_set]) (by omega) Q hq) _ (by rw [hv]; exact fun _ _ => ⟨rfl, by rw [set_set]⟩)) ?_
      simp -dsimp (disch := omega) only [go_sem, x1, x4, hb1]
      exact hQ p2.1 p2.2
    · rw [hv] at hQ
      refine ADraw.of (es := [1,4]) (pn := some 4) (T := [⟨false, true, 0, 0, 0⟩, ⟨true, true, 0, 1, 0⟩, ⟨false, true, 0, 1, 0⟩, ⟨false, false, 0, 1, 0⟩, ⟨true, true, 1, 2, 1⟩, ⟨false, false, 2, 2, 2⟩, ⟨true, false, 2, 3, 2⟩]) mixed (by kernel_rfl) ?_
      simp -dsimp (disch := omega) only [go_sem, hb1]
      have p1 := u8R_pos hu
      refine wDCall.turn (I n) (AM.set m nr (some (rdr s a1))) (u8 s a nr m hr (by omega) _ (by rw [hu]; exact fun _ _ => ⟨rfl, rfl⟩)) ?_
      simp -dsimp (disch := omega) only [go_sem, x1]
      refine wDPan.of (flt w e) (AM.set m nr (some (rdr s a2))) (list65 u16R 63 [.ptr nr 0] [] n (by omega) s a1 p1.1 p1.2 nr _ (get_set_same _ hr) (fun k a Q g0 g1 hq => u16 s a nr _ (by simp -dsimp (disch := omega) only [go_sem, get_set_same _ hr, AM.length_set]) (by omega) Q hq) _ (by rw [hv]; exact ⟨rfl, by rw [set_set]⟩)) ?_
      simp -dsimp (disch := omega) only [go_sem, x1, x4, hb1]
      exact fun _ => hQ
  · rw [hu] at hQ
    simp only [RR.bind] at hQ
    refine ADraw.of (es := [1,4]) (pn := some 1) (T := [⟨false, true, 0, 0, 0⟩, ⟨true, true, 0, 1, 1⟩, ⟨false, true, 0, 1, 0⟩, ⟨false, false, 0, 1, 0⟩, ⟨true, true, 1, 2, 2⟩, ⟨false, false, 2, 2, 2⟩, ⟨true, false, 2, 3, 2⟩]) mixed (by kernel_rfl) ?_
    simp -dsimp (disch := omega) only [go_sem, hb1]
    refine wDPan.of (flt w e) (AM.set m nr (some (rdr s a1))) (u8 s a nr m hr (by omega) _ (by rw [hu]; exact ⟨rfl, rfl⟩)) ?_
    simp -dsimp (disch := omega) only [go_sem, x1, hb1, List.getElem?_nil]
    exact fun _ => hQ
theorem bind_ok {α β : Type} {r : RR α} {f : α → Int → RR β} {v : β} {a : Int} (h : r.bind f = .ok v a) : ∃ u b, r = .ok u b ∧ f u b = .ok v a := by
  cases r with
  | ok u b => exact ⟨u, b, rfl, h⟩
  | bad w e b => cases h
theorem segR_pos {s : List UInt8} {a : Int} {o : Seg} {a1 : Int} (h : segR s a = .ok o a1) : 0 ≤ a1 ∧ a1 ≤ 65536 := by
  unfold segR at h
  obtain ⟨_, _, _, h⟩ := bind_ok h
  obtain ⟨_, _, _, h⟩ := bind_ok h
  obtain ⟨_, _, _, h⟩ := bind_ok h
  obtain ⟨_, _, _, h⟩ := bind_ok h
  obtain ⟨_, _, _, h⟩ := bind_ok h
  obtain ⟨_, _, h1, h⟩ := bind_ok h
  cases h
  exact s32R_pos h1

def segsR (s : List UInt8) (a : Int) : RR (List Seg) := (u8R s a).bind fun n a1 => listR segR n s a1

theorem curve3 (k : Int) (v1 v2 : AV) (b1 b4 : Nat) (s : List UInt8) (a : Int) (h0 : 0 ≤ a) (h1 : a ≤ 65536) (nr : Nat) (m : AM) (hr : m.get nr = some (rdr s a)) (hb1 : m.get b1 = some (.cells 88 [.ptr nr 0])) (hb4 : m.get b4 = some (.cells 56 [I k, v1, v2]))
    (n1 : b1 ≠ nr) (n2 : b4 ≠ nr) (Q : AE → AM → Prop)
    (hQ : match segsR s a with
      | .ok l a2 => 0 ≤ a2 → a2 ≤ 65536 → Q (.ret (.tup [])) (AM.set (AM.set m nr (some (rdr s a2))) b4 (some (.cells 56 [I k, v1, .d (segsD l)])))
      | .bad w e a2 => Q (.pan (flt w e)) (AM.set m nr (some (rdr s a2)))) : ACalls Tryz.prog 179 [.ptr b1 0, .ptr b4 0] m Q := by
  have x1 : ∀ x, AM.get (AM.set m nr x) b1 = some (.cells 88 [.ptr nr 0]) := fun x => by rw [AM.get_set_other _ _ _ _ n1, hb1]
  have x4 : ∀ x, AM.get (AM.set m nr x) b4 = some (.cells 56 [I k, v1, v2]) := fun x => by rw [AM.get_set_other _ _ _ _ n2, hb4]
  have hlt := AM.get_lt _ _ _ hr
  unfold segsR at hQ
  refine acalls_of_body Tryz.func179 (by rfl) (by rfl) (Nat.le_of_ble_eq_true rfl) ?_
  simp -dsimp (disch := omega) only [go_sem, Tryz.f179]
  rcases hu : u8R s a with ⟨n, a1⟩ | ⟨w, e, a1⟩
  · rw [hu] at hQ
    simp only [RR.bind] at hQ
    have hn := u8R_ok hu
    rcases hv : listR segR n s a1 with ⟨l, a2⟩ | ⟨w, e, a2⟩
    · rw [hv] at hQ
      refine ADraw.of (es := [1,4]) (pn := none) (T := [⟨false, true, 0, 0, 0⟩, ⟨true, true, 0, 1, 0⟩, ⟨false, true, 0, 1, 0⟩, ⟨false, false, 0, 1, 0⟩, ⟨true, true, 1, 2, 0⟩, ⟨false, false, 2, 2, 0⟩, ⟨true, false, 2, 3, 0⟩]) mixed (by kernel_rfl) ?_
      simp -dsimp (disch := omega) only [go_sem, hb1]
      have p1 := u8R_pos hu
      have p2 := listR_pos (fun _ _ _ h => segR_pos h) p1 hv
      refine wDCall.turn (I n) (AM.set m nr (some (rdr s a1))) (u8 s a nr m hr (by omega) _ (by rw [hu]; exact fun _ _ => ⟨rfl, rfl⟩)) ?_
      simp -dsimp (disch := omega) only [go_sem, x1]
      refine wDCall.turn (.d (segsD l)) (AM.set m nr (some (rdr s a2))) (list180 segR 181 [.ptr nr 0] [] n (by omega) s a1 p1.1 p1.2 nr _ (get_set_same _ hr) (fun k a Q g0 g1 hq => segment s a nr _ (by simp -dsimp (disch := omega) only [go_sem, get_set_same _ hr, AM.length_set]) (by omega) Q hq) _ (by rw [hv]; exact fun _ _ => ⟨rfl, by rw [set_set]⟩)) ?_
      simp -dsimp (disch := omega) only [go_sem, x1, x4, hb1]
      exact hQ p2.1 p2.2
    · rw [hv] at hQ
      refine ADraw.of (es := [1,4]) (pn := some 4) (T := [⟨false, true, 0, 0, 0⟩, ⟨true, true, 0, 1, 0⟩, ⟨false, true, 0, 1, 0⟩, ⟨false, false, 0, 1, 0⟩, ⟨true, true, 1, 2, 1⟩, ⟨false, false, 2, 2, 2⟩, ⟨true, false, 2, 3, 2⟩]) mixed (by kernel_rfl) ?_
      simp -dsimp (disch := omega) only [go_sem, hb1]
      have p1 := u8R_pos hu
      refine wDCall.turn (I n) (AM.set m nr (some (rdr s a1))) (u8 s a nr m hr (by omega) _ (by rw [hu]; exact fun _ _ => ⟨rfl, rfl⟩)) ?_
      simp -dsimp (disch := omega) only [go_sem, x1]
      refine wDPan.of (flt w e) (AM.set m nr (some (rdr s a2))) (list180 segR 181 [.ptr nr 0] [] n (by omega) s a1 p1.1 p1.2 nr _ (get_set_same _ hr) (fun k a Q g0 g1 hq => segment s a nr _ (by simp -dsimp (disch := omega) only [go_sem, get_set_same _ hr, AM.length_set]) (by omega) Q hq) _ (by rw [hv]; exact ⟨rfl, by rw [set_set]⟩)) ?_
      simp -dsimp (disch := omega) only [go_sem, x1, x4, hb1]
      exact fun _ => hQ
  · rw [hu] at hQ
    simp only [RR.bind] at hQ
    refine ADraw.of (es := [1,4]) (pn := some 1) (T := [⟨false, true, 0, 0, 0⟩, ⟨true, true, 0, 1, 1⟩, ⟨false, true, 0, 1, 0⟩, ⟨false, false, 0, 1, 0⟩, ⟨true, true, 1, 2, 2⟩, ⟨false, false, 2, 2, 2⟩, ⟨true, false, 2, 3, 2⟩]) mixed (by kernel_rfl) ?_
    simp -dsimp (disch := omega) only [go_sem, hb1]
    refine wDPan.of (flt w e) (AM.set m nr (some (rdr s a1))) (u8 s a nr m hr (by omega) _ (by rw [hu]; exact ⟨rfl, rfl⟩)) ?_
    simp -dsimp (disch := omega) only [go_sem, x1, hb1, List.getElem?_nil]
    exact fun _ => hQ
end Go.Proofs.YtbdefaebbicfjaaGreat
