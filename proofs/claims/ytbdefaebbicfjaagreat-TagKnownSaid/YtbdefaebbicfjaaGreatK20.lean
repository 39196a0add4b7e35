/- The builder of strings; writers of numbers. -/
import Derived.Test.YtbdefaebbicfjaaGreatK19
import Derived.Laws.Externs
import Derived.Lib.Builder
set_option linter.all false
namespace Go.Proofs.YtbdefaebbicfjaaGreat
open Go Go.Ab Go.RowKit
set_option maxHeartbeats 400000
set_option maxRecDepth 10000

theorem noEscape (x : AV) (m : AM) (Q : AE → AM → Prop) (hQ : Q (.ret x) m) : ACalls Tryz.prog 132 [x] m Q := fun σ w vs hs hr => by
  obtain ⟨h1, h2⟩ := hr
  match vs, h1, h2 with
  | [v], _, h2 =>
    refine .inr ⟨v, w, ?_, _, σ, m, Ext.refl .., hs, .ret v x (h2 0 v x rfl rfl), hQ⟩
    rw [run_callFunc_extern Tryz.func132 (by kernel_rfl) (by kernel_rfl) (by kernel_rfl) (e := Extern.AbiNoEscape.same) (by kernel_rfl)]
    rfl

abbrev nilP : AV := .d (.cst (.pointer none))
theorem copyCheck (T b : Nat) (hT : T = 98 ∨ T = 100) (p v : AV) (hp : p = nilP ∨ p = .ptr b 0) (m : AM) (hb : m.get b = some (.cells T [p, v])) (Q : AE → AM → Prop) (hQ : Q (.ret (.tup [])) (m.set b (some (.cells T [.ptr b 0, v])))) : ACalls Tryz.prog 95 [.ptr b 0] m Q := by
  have hlt := AM.get_lt _ _ _ hb
  rcases hp with rfl | rfl
  · refine acalls_of_body Tryz.func95 (by rfl) (by rfl) (Nat.le_of_ble_eq_true rfl) ?_
    rcases hT with rfl | rfl
    · simp -dsimp (disch := omega) only [go_sem, Tryz.f95, hb]
      refine noEscape _ _ _ ?_
      simp -dsimp (disch := omega) only [go_sem, hb]
      exact hQ
    · simp -dsimp (disch := omega) only [go_sem, Tryz.f95, hb]
      refine noEscape _ _ _ ?_
      simp -dsimp (disch := omega) only [go_sem, hb]
      exact hQ
  · rw [set_same hb] at hQ
    refine acalls_of_body Tryz.func95 (by rfl) (by rfl) (Nat.le_of_ble_eq_true rfl) ?_
    simp -dsimp (disch := omega) only [go_sem, Tryz.f95, hb]
    exact hQ

/-- A builder that holds octets. -/
def wrote (T b nb : Nat) (s : List UInt8) (m : AM) : AM := (m.set nb (some (.grow 5 1 s.length))).set b (some (.cells T [.ptr b 0, .gsl nb 1 (octs s)]))

theorem writeString (T b nb : Nat) (hT : T = 98 ∨ T = 100) (p : AV) (hp : p = nilP ∨ p = .ptr b 0) (s t : List UInt8) (ht : t ≠ []) (hl : s.length + t.length ≤ 140737488355328) (m : AM) (hb : m.get b = some (.cells T [p, .gsl nb 1 (octs s)])) (hn : m.get nb = some (.grow 5 1 s.length)) (hne : b ≠ nb)
    (Q : AE → AM → Prop) (hQ : Q (.ret (.tup [I t.length, .d (.cst .nilIface)])) (wrote T b nb (s ++ t) m)) : ACalls Tryz.prog 50 [.ptr b 0, S t] m Q := by
  have hlt := AM.get_lt _ _ _ hb
  have hlt2 := AM.get_lt _ _ _ hn
  have hpos : 0 < t.length := List.length_pos_iff.2 ht
  have x1 : ∀ x, AM.get (AM.set m b x) nb = some (.grow 5 1 s.length) := fun x => by rw [AM.get_set_other _ _ _ _ hne.symm, hn]
  have x2 : ∀ x, AM.get (AM.set m b x) b = x := fun x => AM.get_set_same _ _ _ hlt
  have x3 : ∀ x y, AM.get (AM.set (AM.set m b x) nb y) b = x := fun x y => by rw [AM.get_set_other _ _ _ _ hne, x2]
  have x4 : ∀ x y z, AM.set (AM.set (AM.set m b x) nb y) b z = AM.set (AM.set m nb y) b z := fun x y z => by rw [set_comm hne, set_set]
  unfold wrote at hQ
  rw [List.length_append] at hQ
  refine acalls_of_body Tryz.func50 (by rfl) (by rfl) (Nat.le_of_ble_eq_true rfl) ?_
  simp -dsimp (disch := omega) only [go_sem, Tryz.f50]
  refine copyCheck T b hT p _ hp m hb _ ?_
  rcases hT with rfl | rfl
  · simp -dsimp (disch := omega) only [go_sem, x1, x2, x3]
    rw [x4]
    exact hQ
  · simp -dsimp (disch := omega) only [go_sem, x1, x2, x3]
    rw [x4]
    exact hQ

theorem bLen (T b nb : Nat) (hT : T = 98 ∨ T = 100) (p : AV) (s : List UInt8) (m : AM) (hb : m.get b = some (.cells T [p, .gsl nb 1 (octs s)])) (Q : AE → AM → Prop) (hQ : Q (.ret (I s.length)) m) : ACalls Tryz.prog 39 [.ptr b 0] m Q := by
  refine acalls_of_body Tryz.func39 (by rfl) (by rfl) (Nat.le_of_ble_eq_true rfl) ?_
  rcases hT with rfl | rfl
  · simp -dsimp (disch := omega) only [go_sem, Tryz.f39, hb]
    exact hQ
  · simp -dsimp (disch := omega) only [go_sem, Tryz.f39, hb]
    exact hQ

theorem bString (T b nb : Nat) (hT : T = 98 ∨ T = 100) (p : AV) (s : List UInt8) (hs : s ≠ []) (m : AM) (hb : m.get b = some (.cells T [p, .gsl nb 1 (octs s)])) (hn : m.get nb = some (.grow 5 1 s.length)) (hne : b ≠ nb) (Q : AE → AM → Prop) (hQ : Q (.ret (S s)) (m.set nb none)) : ACalls Tryz.prog 40 [.ptr b 0] m Q := by
  obtain ⟨c, s, rfl⟩ := List.exists_cons_of_ne_nil hs
  refine acalls_of_body Tryz.func40 (by rfl) (by rfl) (Nat.le_of_ble_eq_true rfl) ?_
  rcases hT with rfl | rfl
  · simp -dsimp (disch := omega) only [go_sem, Tryz.f40]
    refine ADraw.of (es := []) (pn := none) (T := [⟨false, false, 0, 0, 0⟩, ⟨false, false, 0, 0, 0⟩, ⟨false, false, 0, 0, 0⟩, ⟨false, true, 0, 0, 0⟩, ⟨false, false, 0, 0, 0⟩, ⟨false, false, 0, 0, 0⟩, ⟨false, false, 0, 0, 0⟩, ⟨false, false, 0, 0, 0⟩, ⟨false, true, 0, 0, 0⟩, ⟨false, false, 0, 0, 0⟩, ⟨true, false, 0, 1, 0⟩, ⟨false, false, 1, 1, 0⟩]) mixed (by kernel_rfl) ?_
    simp -dsimp (disch := omega) only [go_sem, hb, hn]
    exact hQ
  · simp -dsimp (disch := omega) only [go_sem, Tryz.f40]
    refine ADraw.of (es := []) (pn := none) (T := [⟨false, false, 0, 0, 0⟩, ⟨false, false, 0, 0, 0⟩, ⟨false, false, 0, 0, 0⟩, ⟨false, true, 0, 0, 0⟩, ⟨false, false, 0, 0, 0⟩, ⟨false, false, 0, 0, 0⟩, ⟨false, false, 0, 0, 0⟩, ⟨false, false, 0, 0, 0⟩, ⟨false, true, 0, 0, 0⟩, ⟨false, false, 0, 0, 0⟩, ⟨true, false, 0, 1, 0⟩, ⟨false, false, 1, 1, 0⟩]) mixed (by kernel_rfl) ?_
    simp -dsimp (disch := omega) only [go_sem, hb, hn]
    exact hQ

/-- The state of a writer: it has written octets. -/
structure Wr (b nb : Nat) (s : List UInt8) (m : AM) : Prop where
  hb : m.get b = some (.cells 100 [.ptr b 0, .gsl nb 1 (octs s)])
  hn : m.get nb = some (.grow 5 1 s.length)
  ne : b ≠ nb
theorem Wr.wrote {b nb : Nat} {s : List UInt8} {m : AM} (h : Wr b nb s m) (t : List UInt8) : Wr b nb t (wrote 100 b nb t m) := by
  have hlt := AM.get_lt _ _ _ h.hb
  have hlt2 := AM.get_lt _ _ _ h.hn
  unfold Proofs.YtbdefaebbicfjaaGreat.wrote
  exact ⟨AM.get_set_same _ _ _ (by rw [AM.length_set]; exact hlt), by rw [AM.get_set_other _ _ _ _ h.ne.symm, AM.get_set_same _ _ _ hlt2], h.ne⟩
theorem Wr.again {b nb : Nat} {s : List UInt8} {m : AM} (h : Wr b nb s m) (t u : List UInt8) : Proofs.YtbdefaebbicfjaaGreat.wrote 100 b nb u (Proofs.YtbdefaebbicfjaaGreat.wrote 100 b nb t m) = Proofs.YtbdefaebbicfjaaGreat.wrote 100 b nb u m := by
  unfold Proofs.YtbdefaebbicfjaaGreat.wrote
  rw [set_comm h.ne, set_set, set_set]
theorem Wr.same {b nb : Nat} {s : List UInt8} {m : AM} (h : Wr b nb s m) : Proofs.YtbdefaebbicfjaaGreat.wrote 100 b nb s m = m := by
  unfold Proofs.YtbdefaebbicfjaaGreat.wrote
  rw [set_same h.hn, set_same h.hb]
theorem Wr.other {b nb : Nat} {s : List UInt8} {m : AM} (h : Wr b nb s m) (t : List UInt8) {k : Nat} (h1 : k ≠ b) (h2 : k ≠ nb) : AM.get (Proofs.YtbdefaebbicfjaaGreat.wrote 100 b nb t m) k = AM.get m k := by
  unfold Proofs.YtbdefaebbicfjaaGreat.wrote
  rw [AM.get_set_other _ _ _ _ h1, AM.get_set_other _ _ _ _ h2]
theorem wrote_length (b nb : Nat) (t : List UInt8) (m : AM) : List.length (wrote 100 b nb t m) = List.length m := by
  unfold wrote
  rw [AM.length_set, AM.length_set]

/-- A function that writes the octets 'o'. -/
def Writes (f : Nat) (args : List AV) (b nb : Nat) (s : List UInt8) (m : AM) (o : List UInt8) : Prop := ∀ (Q : AE → AM → Prop), Q (.ret (.tup [])) (wrote 100 b nb (s ++ o) m) → ACalls Tryz.prog f args m Q

theorem octs4_len (n : Int) : (octs4 n).length = 4 := rfl
theorem wput (fid : Nat) (n : Int) (o : List UInt8) (ho : o ≠ []) (hf : ∀ (m : AM) (Q : AE → AM → Prop), Q (.ret (.tup [S o, I 0])) m → ACalls Tryz.prog fid [I n] m Q) (b nb : Nat) (s : List UInt8) (m : AM) (h : Wr b nb s m) (hl : s.length + o.length ≤ 140737488355328) :
    Writes 119 [.ptr b 0, .fn (.func fid) [] [], I n] b nb s m o := fun Q hQ => by
  refine acalls_of_body Tryz.func119 (by rfl) (by rfl) (Nat.le_of_ble_eq_true rfl) ?_
  simp -dsimp (disch := omega) only [go_sem, Tryz.f119]
  refine hf _ _ ?_
  simp -dsimp (disch := omega) only [go_sem]
  refine writeString 100 b nb (.inr rfl) _ (.inr rfl) s o ho hl m h.hb h.hn h.ne _ ?_
  simp -dsimp (disch := omega) only [go_sem]
  exact hQ

theorem putF_u8 {n : Int} (h : 0 ≤ n ∧ n ≤ 255) : putF n 0 255 = (putS n 1, 0) := by unfold putF; rw [if_pos h]; simp
theorem putF_u16 {n : Int} (h : 0 ≤ n ∧ n ≤ 65535) : putF n 0 65535 = (putS n 2, 0) := by unfold putF; rw [if_pos h]; simp
theorem putF_s32 {n : Int} (h : -2147483648 ≤ n ∧ n ≤ 2147483647) : putF n (-2147483648) 2147483647 = (putS n 4, 0) := by unfold putF; rw [if_pos h]; simp

theorem wu8 (n : Int) (hn : 0 ≤ n ∧ n ≤ 255) (b nb : Nat) (s : List UInt8) (m : AM) (h : Wr b nb s m) (hl : s.length + 1 ≤ 140737488355328) : Writes 79 [.ptr b 0, I n] b nb s m (putS n 1) := fun Q hQ => by
  refine acalls_of_body Tryz.func79 (by rfl) (by rfl) (Nat.le_of_ble_eq_true rfl) ?_
  simp -dsimp (disch := omega) only [go_sem, Tryz.f79]
  refine wput 120 n (putS n 1) (by simp [putS, octs4]) (fun m Q hq => PutU8 n m Q (by rw [putF_u8 hn]; exact hq)) b nb s m h (by simpa [putS, octs4] using hl) _ ?_
  simp -dsimp (disch := omega) only [go_sem]
  exact hQ
theorem wu16 (n : Int) (hn : 0 ≤ n ∧ n ≤ 65535) (b nb : Nat) (s : List UInt8) (m : AM) (h : Wr b nb s m) (hl : s.length + 2 ≤ 140737488355328) : Writes 81 [.ptr b 0, I n] b nb s m (putS n 2) := fun Q hQ => by
  refine acalls_of_body Tryz.func81 (by rfl) (by rfl) (Nat.le_of_ble_eq_true rfl) ?_
  simp -dsimp (disch := omega) only [go_sem, Tryz.f81]
  refine wput 121 n (putS n 2) (by simp [putS, octs4]) (fun m Q hq => PutU16 n m Q (by rw [putF_u16 hn]; exact hq)) b nb s m h (by simpa [putS, octs4] using hl) _ ?_
  simp -dsimp (disch := omega) only [go_sem]
  exact hQ
theorem ws32 (n : Int) (hn : -2147483648 ≤ n ∧ n ≤ 2147483647) (b nb : Nat) (s : List UInt8) (m : AM) (h : Wr b nb s m) (hl : s.length + 4 ≤ 140737488355328) : Writes 84 [.ptr b 0, I n] b nb s m (putS n 4) := fun Q hQ => by
  refine acalls_of_body Tryz.func84 (by rfl) (by rfl) (Nat.le_of_ble_eq_true rfl) ?_
  simp -dsimp (disch := omega) only [go_sem, Tryz.f84]
  refine wput 122 n (putS n 4) (by simp [putS, octs4]) (fun m Q hq => PutS32 n m Q (by rw [putF_s32 hn]; exact hq)) b nb s m h (by simpa [putS, octs4] using hl) _ ?_
  simp -dsimp (disch := omega) only [go_sem]
  exact hQ
end Go.Proofs.YtbdefaebbicfjaaGreat
