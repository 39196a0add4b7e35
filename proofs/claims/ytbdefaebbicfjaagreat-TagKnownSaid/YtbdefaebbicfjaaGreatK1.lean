/- The reader's small functions: what each computes. -/
import Derived.Test.YtbdefaebbicfjaaGreatF
set_option linter.all false
namespace Go.Proofs.YtbdefaebbicfjaaGreat
open Go Go.Ab Go.RowKit
set_option maxHeartbeats 400000

abbrev rdr (s : List UInt8) (a : Int) : ABlk := .cells 90 [S s, I a]
abbrev flt (w e : Int) : AV := .ifc 86 (.agg [I w, I e])

theorem check (r : AV) (b e : Int) (m : AM) (Q : AE → AM → Prop) (hQ : if e = 0 then Q (.ret (.tup [])) m else Q (.pan (flt b e)) m) : ACalls Tryz.prog 70 [r, I b, I e] m Q := by
  refine acalls_of_body Tryz.func70 (by rfl) (by rfl) (Nat.le_of_ble_eq_true rfl) ?_
  simp -dsimp (disch := omega) only [go_sem, Tryz.f70]
  by_cases h : e = 0
  · simp -dsimp (disch := omega) only [go_sem, h]
    simpa [h] using hQ
  · simp -dsimp (disch := omega) only [go_sem, h]
    simpa [h] using hQ

/-- The error of a part, and the part. -/
def partE (s : List UInt8) (i n : Int) : Int := if 65536 < (s.length : Int) then 3 else if i < 0 ∨ n < 0 then 2 else if (s.length : Int) < i ∨ (s.length : Int) - i < n then 70 else 0
def partF (s : List UInt8) (i n : Int) : AV := .tup [S (if partE s i n = 0 then (s.drop i.toNat).take n.toNat else []), I (partE s i n)]
theorem partE_ok {s : List UInt8} {i n : Int} (h : partE s i n = 0) : (s.length : Int) ≤ 65536 ∧ 0 ≤ i ∧ 0 ≤ n ∧ i + n ≤ s.length := by
  unfold partE at h
  split at h
  · cases h
  split at h
  · cases h
  split at h
  · cases h
  omega

theorem Part (s : List UInt8) (i n : Int) (hi : i ≤ 9223372036854775807) (m : AM) (Q : AE → AM → Prop) (hQ : Q (.ret (partF s i n)) m) : ACalls Tryz.prog 106 [S s, I i, I n] m Q := by
  refine acalls_of_body Tryz.func106 (by rfl) (by rfl) (Nat.le_of_ble_eq_true rfl) ?_
  unfold partF partE at hQ
  simp -dsimp (disch := omega) only [go_sem, Tryz.f106]
  refine Br.intro (fun h => ?_) (fun h => ?_)
  · simp -dsimp (disch := omega) only [go_sem]
    simpa [h] using hQ
  by_cases h1 : i < 0
  · simp -dsimp (disch := omega) only [go_sem]
    simpa [h, h1] using hQ
  by_cases h2 : n < 0
  · simp -dsimp (disch := omega) only [go_sem]
    simpa [h, h1, h2] using hQ
  by_cases h3 : (s.length : Int) < i
  · simp -dsimp (disch := omega) only [go_sem]
    simpa [h, h1, h2, h3] using hQ
  by_cases h4 : (s.length : Int) - i < n
  · simp -dsimp (disch := omega) only [go_sem]
    simpa [h, h1, h2, h3, h4] using hQ
  simp -dsimp (disch := omega) only [go_sem]
  have e : (i + n).toNat - i.toNat = n.toNat := by omega
  simpa [h, h1, h2, h3, h4, e] using hQ

theorem number (fid : Nat) (oct n e : Int) (s : List UInt8) (a : Int) (nr : Nat) (m : AM) (hr : m.get nr = some (rdr s a)) (hn : nr < m.length) (ha : e = 0 → 0 ≤ a + oct ∧ a + oct ≤ 9223372036854775807)
    (hread : ∀ Q : AE → AM → Prop, Q (.ret (.tup [I n, I e])) m → ACalls Tryz.prog fid [S s, I a] m Q)
    (Q : AE → AM → Prop) (hQ : if e = 0 then Q (.ret (I n)) (m.set nr (some (rdr s (a + oct)))) else Q (.pan (flt a e)) m) : ACalls Tryz.prog 107 [.ptr nr 0, .fn (.func fid) [] [], I oct] m Q := by
  refine acalls_of_body Tryz.func107 (by rfl) (by rfl) (Nat.le_of_ble_eq_true rfl) ?_
  simp -dsimp (disch := omega) only [go_sem, Tryz.f107]
  refine ADraw.of (es := []) (pn := none) (T := [⟨false, false, 0, 0, 0⟩, ⟨false, false, 0, 0, 0⟩, ⟨false, false, 0, 0, 0⟩, ⟨false, false, 0, 0, 0⟩, ⟨false, true, 0, 0, 0⟩, ⟨false, false, 0, 0, 0⟩, ⟨false, false, 0, 0, 0⟩, ⟨false, false, 0, 0, 0⟩, ⟨false, true, 0, 0, 0⟩, ⟨false, true, 0, 0, 0⟩, ⟨false, false, 0, 0, 0⟩, ⟨false, false, 0, 0, 0⟩, ⟨false, false, 0, 0, 0⟩, ⟨false, false, 0, 0, 0⟩, ⟨false, false, 0, 0, 0⟩]) mixed (by kernel_rfl) ?_
  simp -dsimp (disch := omega) only [go_sem, hr]
  refine wDCall.still _ (hread _ ⟨rfl, rfl⟩) ?_
  simp -dsimp (disch := omega) only [go_sem, hr]
  refine check _ _ _ _ _ ?_
  by_cases h : e = 0
  · rw [if_pos h] at hQ ⊢
    have ha := ha h
    simp -dsimp (disch := omega) only [go_sem, hr]
    exact hQ
  · rw [if_neg h] at hQ ⊢
    simp -dsimp (disch := omega) only [go_sem, hr]
    exact hQ

theorem part (n : Int) (s : List UInt8) (a : Int) (nr : Nat) (m : AM) (hr : m.get nr = some (rdr s a)) (hn : nr < m.length) (ha : a ≤ 9223372036854775807)
    (Q : AE → AM → Prop) (hQ : if (partE s a n) = 0 then Q (.ret (S ((s.drop a.toNat).take n.toNat))) (m.set nr (some (rdr s (a + n)))) else Q (.pan (flt a (partE s a n))) m) : ACalls Tryz.prog 60 [.ptr nr 0, I n] m Q := by
  refine acalls_of_body Tryz.func60 (by rfl) (by rfl) (Nat.le_of_ble_eq_true rfl) ?_
  simp -dsimp (disch := omega) only [go_sem, Tryz.f60]
  refine ADraw.of (es := []) (pn := none) (T := [⟨false, false, 0, 0, 0⟩, ⟨false, false, 0, 0, 0⟩, ⟨false, false, 0, 0, 0⟩, ⟨false, true, 0, 0, 0⟩, ⟨false, false, 0, 0, 0⟩, ⟨false, false, 0, 0, 0⟩, ⟨false, false, 0, 0, 0⟩, ⟨false, true, 0, 0, 0⟩, ⟨false, false, 0, 0, 0⟩, ⟨false, true, 0, 0, 0⟩, ⟨false, false, 0, 0, 0⟩, ⟨false, false, 0, 0, 0⟩, ⟨false, false, 0, 0, 0⟩, ⟨false, false, 0, 0, 0⟩, ⟨false, false, 0, 0, 0⟩]) mixed (by kernel_rfl) ?_
  simp -dsimp (disch := omega) only [go_sem, hr]
  refine wDCall.still _ (Part _ _ _ ha _ _ ⟨rfl, rfl⟩) ?_
  unfold partF
  simp -dsimp (disch := omega) only [go_sem, hr]
  refine check _ _ _ _ _ ?_
  by_cases h : partE s a n = 0
  · rw [if_pos h] at hQ ⊢
    simp -dsimp (disch := omega) only [go_sem, hr]
    have := partE_ok h
    simp -dsimp (disch := omega) only [go_sem]
    exact hQ
  · rw [if_neg h] at hQ ⊢
    simp -dsimp (disch := omega) only [go_sem, hr]
    exact hQ

end Go.Proofs.YtbdefaebbicfjaaGreat
