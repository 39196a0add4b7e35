/- The reader: what its functions read. -/
import Derived.Test.YtbdefaebbicfjaaGreatK2
set_option linter.all false
namespace Go.Proofs.YtbdefaebbicfjaaGreat
open Go Go.Ab Go.RowKit
set_option maxHeartbeats 400000
set_option maxRecDepth 10000

/-- What reading comes to: a thing and the offset behind it, or an error with its offset (and where the reader then stands). -/
inductive RR (α : Type) where
  | ok (v : α) (a : Int)
  | bad (w e a : Int)

def RR.bind {α β : Type} (r : RR α) (f : α → Int → RR β) : RR β := match r with
  | .ok v a => f v a
  | .bad w e a => .bad w e a

/-- What must hold for what is read. -/
def RQ {α : Type} (s : List UInt8) (nr : Nat) (m : AM) (enc : α → AV) (Q : AE → AM → Prop) : RR α → Prop
  | .ok v a => 0 ≤ a → a ≤ 65536 → Q (.ret (enc v)) (m.set nr (some (rdr s a)))
  | .bad w e a => Q (.pan (flt w e)) (m.set nr (some (rdr s a)))

theorem set_same {m : AM} {n : Nat} {x : ABlk} (h : m.get n = some x) : m.set n (some x) = m := by
  induction m with
  | nil => rfl
  | cons y t ih =>
    simp only [AM.get] at h
    simp only [set_cons]
    split at h
    · rename_i e; rw [if_pos e, h]
    · rename_i e; rw [if_neg e, ih h]

def u8R (s : List UInt8) (a : Int) : RR Int := if partE s a 1 = 0 then .ok (octF s a 1) (a + 1) else .bad a (partE s a 1) a
def u16R (s : List UInt8) (a : Int) : RR Int := if partE s a 2 = 0 then .ok (octF s a 2) (a + 2) else .bad a (partE s a 2) a
def s32R (s : List UInt8) (a : Int) : RR Int := if partE s a 4 = 0 then .ok (IntKind.i64.wrap (IntKind.i32.wrap (octF s a 4))) (a + 4) else .bad a (partE s a 4) a

theorem U8 (s : List UInt8) (a : Int) (ha : a ≤ 9223372036854775807) (m : AM) (Q : AE → AM → Prop) (hQ : Q (.ret (.tup [I (octF s a 1), I (partE s a 1)])) m) : ACalls Tryz.prog 109 [S s, I a] m Q := by
  refine acalls_of_body Tryz.func109 (by rfl) (by rfl) (Nat.le_of_ble_eq_true rfl) ?_
  simp -dsimp (disch := omega) only [go_sem, Tryz.f109]
  refine octets s a 1 (by omega) ha _ _ ?_
  simp -dsimp (disch := omega) only [go_sem]
  exact hQ
theorem U16 (s : List UInt8) (a : Int) (ha : a ≤ 9223372036854775807) (m : AM) (Q : AE → AM → Prop) (hQ : Q (.ret (.tup [I (octF s a 2), I (partE s a 2)])) m) : ACalls Tryz.prog 108 [S s, I a] m Q := by
  refine acalls_of_body Tryz.func108 (by rfl) (by rfl) (Nat.le_of_ble_eq_true rfl) ?_
  simp -dsimp (disch := omega) only [go_sem, Tryz.f108]
  refine octets s a 2 (by omega) ha _ _ ?_
  simp -dsimp (disch := omega) only [go_sem]
  exact hQ
theorem S32 (s : List UInt8) (a : Int) (ha : a ≤ 9223372036854775807) (m : AM) (Q : AE → AM → Prop) (hQ : Q (.ret (.tup [I (IntKind.i64.wrap (IntKind.i32.wrap (octF s a 4))), I (partE s a 4)])) m) : ACalls Tryz.prog 110 [S s, I a] m Q := by
  refine acalls_of_body Tryz.func110 (by rfl) (by rfl) (Nat.le_of_ble_eq_true rfl) ?_
  simp -dsimp (disch := omega) only [go_sem, Tryz.f110]
  refine octets s a 4 (by omega) ha _ _ ?_
  simp -dsimp (disch := omega) only [go_sem]
  exact hQ

theorem u8 (s : List UInt8) (a : Int) (nr : Nat) (m : AM) (hr : m.get nr = some (rdr s a)) (ha : a ≤ 9223372036854775807) (Q : AE → AM → Prop) (hQ : RQ s nr m I Q (u8R s a)) : ACalls Tryz.prog 66 [.ptr nr 0] m Q := by
  refine acalls_of_body Tryz.func66 (by rfl) (by rfl) (Nat.le_of_ble_eq_true rfl) ?_
  simp -dsimp (disch := omega) only [go_sem, Tryz.f66]
  refine number 109 1 (octF s a 1) (partE s a 1) s a nr m hr (AM.get_lt _ _ _ hr) (fun h => by have := partE_ok h; omega) (fun Q h => U8 s a ha m Q h) _ ?_
  unfold u8R at hQ
  split
  · rename_i h
    rw [if_pos h] at hQ
    have := partE_ok h
    simp -dsimp (disch := omega) only [go_sem]
    exact hQ (by omega) (by omega)
  · rename_i h
    rw [if_neg h, RQ, set_same hr] at hQ
    simp -dsimp (disch := omega) only [go_sem]
    exact hQ
theorem u16 (s : List UInt8) (a : Int) (nr : Nat) (m : AM) (hr : m.get nr = some (rdr s a)) (ha : a ≤ 9223372036854775807) (Q : AE → AM → Prop) (hQ : RQ s nr m I Q (u16R s a)) : ACalls Tryz.prog 63 [.ptr nr 0] m Q := by
  refine acalls_of_body Tryz.func63 (by rfl) (by rfl) (Nat.le_of_ble_eq_true rfl) ?_
  simp -dsimp (disch := omega) only [go_sem, Tryz.f63]
  refine number 108 2 (octF s a 2) (partE s a 2) s a nr m hr (AM.get_lt _ _ _ hr) (fun h => by have := partE_ok h; omega) (fun Q h => U16 s a ha m Q h) _ ?_
  unfold u16R at hQ
  split
  · rename_i h
    rw [if_pos h] at hQ
    have := partE_ok h
    simp -dsimp (disch := omega) only [go_sem]
    exact hQ (by omega) (by omega)
  · rename_i h
    rw [if_neg h, RQ, set_same hr] at hQ
    simp -dsimp (disch := omega) only [go_sem]
    exact hQ
theorem s32 (s : List UInt8) (a : Int) (nr : Nat) (m : AM) (hr : m.get nr = some (rdr s a)) (ha : a ≤ 9223372036854775807) (Q : AE → AM → Prop) (hQ : RQ s nr m I Q (s32R s a)) : ACalls Tryz.prog 67 [.ptr nr 0] m Q := by
  refine acalls_of_body Tryz.func67 (by rfl) (by rfl) (Nat.le_of_ble_eq_true rfl) ?_
  simp -dsimp (disch := omega) only [go_sem, Tryz.f67]
  refine number 110 4 (IntKind.i64.wrap (IntKind.i32.wrap (octF s a 4))) (partE s a 4) s a nr m hr (AM.get_lt _ _ _ hr) (fun h => by have := partE_ok h; omega) (fun Q h => S32 s a ha m Q h) _ ?_
  unfold s32R at hQ
  split
  · rename_i h
    rw [if_pos h] at hQ
    have := partE_ok h
    simp -dsimp (disch := omega) only [go_sem]
    exact hQ (by omega) (by omega)
  · rename_i h
    rw [if_neg h, RQ, set_same hr] at hQ
    simp -dsimp (disch := omega) only [go_sem]
    exact hQ

def partR (n : Int) (s : List UInt8) (a : Int) : RR (List UInt8) := if partE s a n = 0 then .ok ((s.drop a.toNat).take n.toNat) (a + n) else .bad a (partE s a n) a
theorem readPart (n : Int) (s : List UInt8) (a : Int) (nr : Nat) (m : AM) (hr : m.get nr = some (rdr s a)) (ha : a ≤ 9223372036854775807) (Q : AE → AM → Prop) (hQ : RQ s nr m S Q (partR n s a)) : ACalls Tryz.prog 60 [.ptr nr 0, I n] m Q := by
  refine part n s a nr m hr (AM.get_lt _ _ _ hr) ha Q ?_
  unfold partR at hQ
  split
  · rename_i h
    rw [if_pos h] at hQ
    have := partE_ok h
    exact hQ (by omega) (by omega)
  · rename_i h
    rw [if_neg h, RQ, set_same hr] at hQ
    exact hQ

/-- A number of one octet, from 'low' to 'high'. -/
def limR (low high : Int) (s : List UInt8) (a : Int) : RR Int := (u8R s a).bind fun n a1 => if n < low ∨ high < n then .bad a 5 a1 else .ok n a1

theorem limited (low high : Int) (s : List UInt8) (a : Int) (nr : Nat) (m : AM) (hr : m.get nr = some (rdr s a)) (ha : a ≤ 9223372036854775807) (Q : AE → AM → Prop) (hQ : RQ s nr m I Q (limR low high s a)) : ACalls Tryz.prog 183 [.ptr nr 0, I low, I high] m Q := by
  refine acalls_of_body Tryz.func183 (by rfl) (by rfl) (Nat.le_of_ble_eq_true rfl) ?_
  simp -dsimp (disch := omega) only [go_sem, Tryz.f183, hr]
  refine u8 s a nr m hr ha _ ?_
  unfold limR at hQ
  cases hu : u8R s a with
  | bad w e a1 =>
    rw [hu] at hQ
    simp only [RQ, RR.bind] at hQ ⊢
    simp -dsimp (disch := omega) only [go_sem]
    exact hQ
  | ok n a1 =>
    rw [hu] at hQ
    intro h0 h1
    simp only [RR.bind] at hQ
    by_cases c1 : n < low
    · rw [if_pos (.inl c1)] at hQ
      simp -dsimp (disch := omega) only [go_sem]
      exact hQ
    by_cases c2 : high < n
    · rw [if_pos (.inr c2)] at hQ
      simp -dsimp (disch := omega) only [go_sem]
      exact hQ
    · rw [if_neg (by omega)] at hQ
      simp -dsimp (disch := omega) only [go_sem]
      exact hQ h0 h1

end Go.Proofs.YtbdefaebbicfjaaGreat
