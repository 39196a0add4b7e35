/- Numbers of octets. -/
import Derived.Test.YtbdefaebbicfjaaGreatK1
set_option linter.all false
namespace Go.Proofs.YtbdefaebbicfjaaGreat
open Go Go.Ab Go.RowKit
set_option maxHeartbeats 400000
set_option maxRecDepth 10000

abbrev U (b : UInt8) : AV := .d (.int .u8 b.toNat)
def numF (l : List UInt8) : Nat := l.foldl (fun v b => v * 256 + b.toNat) 0

theorem or8n (v b : Nat) (hv : v < 2 ^ 54) (hb : b < 256) : bits .or .i64 ((v : Int) * 256) (b : Int) = ((v * 256 + b : Nat) : Int) := by
  have e1 : BitVec.ofInt 64 ((v : Int) * 256) = BitVec.ofNat 64 (v * 256) := by
    rw [show (v : Int) * 256 = ((v * 256 : Nat) : Int) by omega, BitVec.ofInt_natCast]
  have e2 : BitVec.ofInt 64 (b : Int) = BitVec.ofNat 64 b := BitVec.ofInt_natCast ..
  show IntKind.wrap .i64 ((BitVec.ofInt 64 ((v : Int) * 256) ||| BitVec.ofInt 64 (b : Int)).toNat : Int) = _
  rw [e1, e2, BitVec.toNat_or, BitVec.toNat_ofNat, BitVec.toNat_ofNat, Nat.mod_eq_of_lt (by omega), Nat.mod_eq_of_lt (by omega)]
  have : v * 256 ||| b = v * 256 + b := by
    have := Nat.shiftLeft_add_eq_or_of_lt (i := 8) (b := b) (by omega) v
    rw [Nat.shiftLeft_eq] at this
    simpa using this.symm
  rw [this]
  exact wrap64_in _ (by omega) (by omega)
theorem or8 (v b : Int) (h0 : 0 ≤ v) (hv : v < 18014398509481984) (h1 : 0 ≤ b) (hb : b < 256) : bits .or .i64 (v * 256) b = v * 256 + b := by
  have := or8n v.toNat b.toNat (by omega) (by omega)
  rw [show ((v.toNat : Nat) : Int) = v by omega, show ((b.toNat : Nat) : Int) = b by omega] at this
  rw [this]
  omega
theorem or8z (b : Int) (h1 : 0 ≤ b) (hb : b < 256) : bits .or .i64 0 b = b := by
  have := or8 0 b (by omega) (by omega) h1 hb
  simpa using this

theorem u8_lt (b : UInt8) : b.toNat < 256 := UInt8.toNat_lt b

theorem gathered1 (b0 b1 b2 b3 : UInt8) (m : AM) (Q : AE → AM → Prop) (hQ : Q (.ret (I (numF [b0]))) m) : ACalls Tryz.prog 176 [.agg [U b0, U b1, U b2, U b3], I 1] m Q := by
  refine ACalls.cut0 hQ (by simp only [AE.bd, AV.bd]) ?_
  refine acalls_of_body Tryz.func176 (by rfl) (by rfl) (Nat.le_of_ble_eq_true rfl) ?_
  simp -dsimp (disch := omega) only [go_sem, Tryz.f176]
  refine ALoop.unr 5 ?_
  have h0 := u8_lt b0
  have h1 := u8_lt b1
  have h2 := u8_lt b2
  have h3 := u8_lt b3
  simp -dsimp (disch := omega) only [go_sem, or8, or8z]
  refine ⟨by simp [numF], ?_⟩
  repeat (first | exact Over.refl _ | apply Over.cons)

theorem gathered2 (b0 b1 b2 b3 : UInt8) (m : AM) (Q : AE → AM → Prop) (hQ : Q (.ret (I (numF [b0, b1]))) m) : ACalls Tryz.prog 176 [.agg [U b0, U b1, U b2, U b3], I 2] m Q := by
  refine ACalls.cut0 hQ (by simp only [AE.bd, AV.bd]) ?_
  refine acalls_of_body Tryz.func176 (by rfl) (by rfl) (Nat.le_of_ble_eq_true rfl) ?_
  simp -dsimp (disch := omega) only [go_sem, Tryz.f176]
  refine ALoop.unr 5 ?_
  have h0 := u8_lt b0
  have h1 := u8_lt b1
  have h2 := u8_lt b2
  have h3 := u8_lt b3
  simp -dsimp (disch := omega) only [go_sem, or8, or8z]
  refine ⟨by simp [numF], ?_⟩
  repeat (first | exact Over.refl _ | apply Over.cons)

theorem gathered4 (b0 b1 b2 b3 : UInt8) (m : AM) (Q : AE → AM → Prop) (hQ : Q (.ret (I (numF [b0, b1, b2, b3]))) m) : ACalls Tryz.prog 176 [.agg [U b0, U b1, U b2, U b3], I 4] m Q := by
  refine ACalls.cut0 hQ (by simp only [AE.bd, AV.bd]) ?_
  refine acalls_of_body Tryz.func176 (by rfl) (by rfl) (Nat.le_of_ble_eq_true rfl) ?_
  simp -dsimp (disch := omega) only [go_sem, Tryz.f176]
  refine ALoop.unr 5 ?_
  have h0 := u8_lt b0
  have h1 := u8_lt b1
  have h2 := u8_lt b2
  have h3 := u8_lt b3
  simp -dsimp (disch := omega) only [go_sem, or8, or8z]
  refine ⟨by simp [numF], ?_⟩
  repeat (first | exact Over.refl _ | apply Over.cons)

/-- The error and the number of n octets. -/
def octF (s : List UInt8) (a : Int) (n : Nat) : Nat := if partE s a n = 0 then numF ((s.drop a.toNat).take n) else 0

theorem octets (s : List UInt8) (a : Int) (n : Nat) (h : n = 1 ∨ n = 2 ∨ n = 4) (ha : a ≤ 9223372036854775807) (m : AM) (Q : AE → AM → Prop) (hQ : Q (.ret (.tup [I (octF s a n), I (partE s a n)])) m) : ACalls Tryz.prog 141 [S s, I a, I n] m Q := by
  refine ACalls.cut0 hQ (by simp only [AE.bd, AV.bd, AV.bdL, and_self]) ?_
  refine acalls_of_body Tryz.func141 (by rfl) (by rfl) (Nat.le_of_ble_eq_true rfl) ?_
  simp -dsimp (disch := omega) only [go_sem, Tryz.f141]
  refine Part _ _ _ ha _ _ ?_
  unfold partF octF
  by_cases he : partE s a n = 0
  · obtain ⟨h1, h2, h3, h4⟩ := partE_ok he
    have hl : ((s.drop a.toNat).take n).length = n := by simp; omega
    rw [he, if_pos rfl, if_pos rfl, Int.toNat_natCast]
    generalize (s.drop a.toNat).take n = l at hl
    rcases h with rfl | rfl | rfl
    · obtain ⟨b0, rfl⟩ : ∃ b0, l = [b0] := List.length_eq_one_iff.1 hl
      simp -dsimp (disch := omega) only [go_sem]
      refine gathered1 b0 0 0 0 _ _ ?_
      simp -dsimp (disch := omega) only [go_sem]
      repeat (first | exact Over.refl _ | apply Over.cons)
    · obtain ⟨b0, b1, rfl⟩ : ∃ b0 b1, l = [b0, b1] := by
        match l, hl with
        | [b0, b1], _ => exact ⟨b0, b1, rfl⟩
      simp -dsimp (disch := omega) only [go_sem]
      refine gathered2 b0 b1 0 0 _ _ ?_
      simp -dsimp (disch := omega) only [go_sem]
      repeat (first | exact Over.refl _ | apply Over.cons)
    · obtain ⟨b0, b1, b2, b3, rfl⟩ : ∃ b0 b1 b2 b3, l = [b0, b1, b2, b3] := by
        match l, hl with
        | [b0, b1, b2, b3], _ => exact ⟨b0, b1, b2, b3, rfl⟩
      simp -dsimp (disch := omega) only [go_sem]
      refine gathered4 b0 b1 b2 b3 _ _ ?_
      simp -dsimp (disch := omega) only [go_sem]
      repeat (first | exact Over.refl _ | apply Over.cons)
  · simp -dsimp (disch := omega) only [go_sem, he]
    repeat (first | exact Over.refl _ | apply Over.cons)

end Go.Proofs.YtbdefaebbicfjaaGreat
