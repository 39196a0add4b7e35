/- The reader of grids. -/
import Derived.Test.YtbdefaebbicfjaaGreatK10
set_option linter.all false
namespace Go.Proofs.YtbdefaebbicfjaaGreat
open Go Go.Ab Go.RowKit
set_option maxHeartbeats 400000
set_option maxRecDepth 10000

theorem grid1 (b : Nat) (s : List UInt8) (a : Int) (nr : Nat) (m : AM) (hr : m.get nr = some (rdr s a)) (hb : m.get b = some (.cells 88 [.ptr nr 0])) (ha : a ≤ 9223372036854775807) (Q : AE → AM → Prop) (hQ : RQ s nr m I Q (limR 2 9 s a)) : ACalls Tryz.prog 184 [.ptr b 0] m Q := by
  refine acalls_of_body Tryz.func184 (by rfl) (by rfl) (Nat.le_of_ble_eq_true rfl) ?_
  simp -dsimp (disch := omega) only [go_sem, Tryz.f184, hb]
  refine limited 2 9 s a nr m hr ha _ ?_
  rcases hu : limR 2 9 s a with ⟨n, a1⟩ | ⟨w, e, a1⟩
  · rw [hu] at hQ
    intro g0 g1
    simp -dsimp (disch := omega) only [go_sem]
    exact hQ g0 g1
  · rw [hu] at hQ
    simp only [RQ] at hQ ⊢
    simp -dsimp (disch := omega) only [go_sem]
    exact hQ

def gridR (s : List UInt8) (a : Int) : RR Grd := (limR 1 4 s a).bind fun n a1 => (listR (limR 2 9) n s a1).bind fun size a2 => (limR 1 4 s a2).bind fun out a3 => (listR u16R (out * prodF size) s a3).bind fun data a4 => .ok ⟨size, out, data⟩ a4

theorem limR_ok {lo hi : Int} {s : List UInt8} {a n a1 : Int} (h : limR lo hi s a = .ok n a1) : (lo ≤ n ∧ n ≤ hi) ∧ 0 ≤ a1 ∧ a1 ≤ 65536 := by
  obtain ⟨u, b, h1, h2⟩ := bind_ok h
  split at h2
  · cases h2
  · cases h2
    exact ⟨by omega, u8R_pos h1⟩

theorem listR_spec {α : Type} {rd : List UInt8 → Int → RR α} {s : List UInt8} (p : α → Prop) (hrd : ∀ a v a', rd s a = .ok v a' → p v) {n a : Int} {l : List α} {a2 : Int} (h : listR rd n s a = .ok l a2) : l.length = n.toNat ∧ ∀ v ∈ l, p v := by
  unfold listR at h
  have key : ∀ (k : Nat) (acc : List α) (a : Int), (∀ v ∈ acc, p v) → listGo rd s k acc a = .ok l a2 → l.length = acc.length + k ∧ ∀ v ∈ l, p v := by
    intro k
    induction k with
    | zero => intro acc a ha h; simp only [listGo] at h; cases h; exact ⟨rfl, ha⟩
    | succ k ih =>
      intro acc a ha h
      simp only [listGo] at h
      obtain ⟨v, a', h1, h2⟩ := bind_ok h
      obtain ⟨e1, e2⟩ := ih _ _ (fun u hu => by
        rcases List.mem_append.1 hu with hu | hu
        · exact ha u hu
        · rw [List.mem_singleton] at hu; subst hu; exact hrd _ _ _ h1) h2
      exact ⟨by rw [e1, List.length_append]; simp; omega, e2⟩
  have := key _ _ _ (by simp) h
  simpa using this

theorem grid (s : List UInt8) (a : Int) (h0 : 0 ≤ a) (h1 : a ≤ 65536) (nr : Nat) (m : AM) (hr : m.get nr = some (rdr s a)) (Q : AE → AM → Prop) (hQ : RQ s nr m Grd.enc Q (gridR s a)) : ACalls Tryz.prog 149 [.ptr nr 0] m Q := by
  refine ACalls.fin ?_
  have hlt := AM.get_lt _ _ _ hr
  unfold gridR at hQ
  refine acalls_of_body Tryz.func149 (by rfl) (by rfl) (Nat.le_of_ble_eq_true rfl) ?_
  simp -dsimp (disch := omega) only [go_sem, Tryz.f149, hr]
  refine limited 1 4 s a nr _ (by simp -dsimp (disch := omega) only [go_sem, hr, get_set_same _ hr]) (by omega) _ ?_
  rcases hu : limR 1 4 s a with ⟨n, a1⟩ | ⟨w, e, a1⟩
  rotate_left
  · rw [hu] at hQ
    simp only [RQ, RR.bind] at hQ ⊢
    simp -dsimp (disch := omega) only [go_sem]
    refine ⟨_, _, .pan (.refl _), ?_, ?_, ?_, hQ⟩ <;> first | (exact Over.refl _) | (exact (Over.refl _).cons _) | (exact ((Over.refl _).cons _).cons _) | (exact (((Over.refl _).cons _).cons _).cons _) | (exact ((((Over.refl _).cons _).cons _).cons _).cons _) | exact Kept.refl _ | (exact (Kept.refl _).set (by simp only [ABlk.bd, AV.bd, AV.bdL, and_self])) | (simp only [AE.bd, AV.bd, AV.bdL, and_self]; done)
  rw [hu] at hQ
  intro h0 h1
  try simp only [RR.bind] at hQ
  simp -dsimp (disch := omega) only [go_sem]
  have q1 := limR_ok hu
  refine list65 (limR 2 9) 184 [] [.ptr m.length 0] n (by omega) s a1 q1.2.1 q1.2.2 nr _ (by simp -dsimp (disch := omega) only [go_sem, get_set_same _ hr]) (fun k a Q g0 g1 hq => grid1 m.length s a nr _ (by simp -dsimp (disch := omega) only [go_sem, get_set_same _ hr, AM.length_set]) (by simp -dsimp (disch := omega) only [go_sem, AM.length_set]) (by omega) Q hq) _ ?_
  rcases hu2 : listR (limR 2 9) n s a1 with ⟨size, a2⟩ | ⟨w, e, a2⟩
  rotate_left
  · rw [hu2] at hQ
    simp only [RQ, RR.bind] at hQ ⊢
    simp -dsimp (disch := omega) only [go_sem]
    refine ⟨_, _, .pan (.refl _), ?_, ?_, ?_, hQ⟩ <;> first | (exact Over.refl _) | (exact (Over.refl _).cons _) | (exact ((Over.refl _).cons _).cons _) | (exact (((Over.refl _).cons _).cons _).cons _) | (exact ((((Over.refl _).cons _).cons _).cons _).cons _) | exact Kept.refl _ | (exact (Kept.refl _).set (by simp only [ABlk.bd, AV.bd, AV.bdL, and_self])) | (simp only [AE.bd, AV.bd, AV.bdL, and_self]; done)
  rw [hu2] at hQ
  intro p0 p1
  simp only [RR.bind] at hQ
  simp -dsimp (disch := omega) only [go_sem]
  refine limited 1 4 s a2 nr _ (by simp -dsimp (disch := omega) only [go_sem, hr, get_set_same _ hr]) (by omega) _ ?_
  rcases hu : limR 1 4 s a2 with ⟨out, a3⟩ | ⟨w, e, a3⟩
  rotate_left
  · rw [hu] at hQ
    simp only [RQ, RR.bind] at hQ ⊢
    simp -dsimp (disch := omega) only [go_sem]
    refine ⟨_, _, .pan (.refl _), ?_, ?_, ?_, hQ⟩ <;> first | (exact Over.refl _) | (exact (Over.refl _).cons _) | (exact ((Over.refl _).cons _).cons _) | (exact (((Over.refl _).cons _).cons _).cons _) | (exact ((((Over.refl _).cons _).cons _).cons _).cons _) | exact Kept.refl _ | (exact (Kept.refl _).set (by simp only [ABlk.bd, AV.bd, AV.bdL, and_self])) | (simp only [AE.bd, AV.bd, AV.bdL, and_self]; done)
  rw [hu] at hQ
  intro h0 h1
  try simp only [RR.bind] at hQ
  simp -dsimp (disch := omega) only [go_sem]
  have q2 := listR_spec (fun v => 2 ≤ v ∧ v ≤ 9) (fun _ _ _ h => (limR_ok h).1) hu2
  have q3 := limR_ok hu
  have hsz : size.length ≤ 4 := by omega
  refine AW.loop (ι := Nat) (fun i => i ≤ size.length ∧ 1 ≤ prodF (size.take i) ∧ prodF (size.take i) ≤ 9 ^ i) (fun i => [(20, I i), (19, I size.length), (18, .d (ints size)), (4, I (out * prodF (size.take i))), (3, .ptr (m.length + 1 + 1) 0), (2, .ptr (m.length + 1) 0), (1, .ptr m.length 0)]) (fun _ => _) (fun i => size.length - i) [] ⟨0, ⟨by simp, by simp [prodF], by simp [prodF]⟩, Weak.of ?_ (mLe.refl _)⟩ ?_
  · rw [show out * prodF (size.take 0) = out by simp [prodF]]
    (simp only [frLe]; repeat' apply And.intro) <;> first | trivial | exact ⟨_, rfl, .refl _⟩
  · rintro i ⟨g1, g2, g3⟩
    simp -dsimp (disch := omega) only [go_sem]
    refine Br.intro (fun h => ?_) (fun h => ?_)
    · obtain ⟨v, hvi⟩ : ∃ v, size[i]? = some v := ⟨_, List.getElem?_eq_getElem (by omega)⟩
      have hb := q2.2 v (List.mem_of_getElem? hvi)
      have q4 := limR_ok (lo := 1) (hi := 4) (s := s) (a := a2) (n := out) (a1 := a3) (by assumption)
      have hp : (9 : Int) ^ i ≤ 9 ^ 3 := by
        have : i = 0 ∨ i = 1 ∨ i = 2 ∨ i = 3 := by omega
        rcases this with rfl | rfl | rfl | rfl <;> decide
      have h1 : prodF (size.take i) * v ≤ 9 ^ i * 9 := Int.mul_le_mul g3 hb.2 (by omega) (by omega)
      have h2 : 1 * 1 ≤ prodF (size.take i) * v := Int.mul_le_mul g2 (by omega) (by omega) (by omega)
      have h3 : out * prodF (size.take i) * v ≤ 4 * (9 ^ i * 9) := by rw [Int.mul_assoc]; exact Int.mul_le_mul q4.1.2 h1 (by omega) (by omega)
      have h4 : 1 * (1 * 1) ≤ out * prodF (size.take i) * v := by rw [Int.mul_assoc]; exact Int.mul_le_mul q4.1.1 h2 (by omega) (by omega)
      simp -dsimp (disch := omega) only [go_sem, List.getD_eq_getElem?_getD, List.getElem?_map, Option.getD_some, hvi]
      refine ⟨i + 1, ⟨by omega, ?_, ?_⟩, by omega, Weak.of ?_ (mLe.refl _)⟩
      · rw [prodF_take hvi]; omega
      · rw [prodF_take hvi, Int.pow_succ]; exact h1
      · rw [prodF_take hvi, ← Int.mul_assoc]
        (simp only [frLe]; repeat' apply And.intro) <;> first | trivial | exact ⟨_, rfl, .refl _⟩
    · obtain rfl : i = size.length := by omega
      rw [List.take_length] at g2 g3 ⊢
      have q4 := limR_ok (lo := 1) (hi := 4) (s := s) (a := a2) (n := out) (a1 := a3) (by assumption)
      have hpl := prodF_le size hsz q2.2
      have h3 : out * prodF size ≤ 4 * 6561 := Int.mul_le_mul q4.1.2 hpl.1 (by omega) (by omega)
      simp -dsimp (disch := omega) only [go_sem]
      refine list65 u16R 63 [.ptr nr 0] [] (out * prodF size) (by omega) s a3 q4.2.1 q4.2.2 nr _ (by simp -dsimp (disch := omega) only [go_sem, get_set_same _ hr]) (fun k a Q g0 g1 hq => u16 s a nr _ (by simp -dsimp (disch := omega) only [go_sem, get_set_same _ hr, AM.length_set]) (by omega) Q hq) _ ?_
      rcases hu4 : listR u16R (out * prodF size) s a3 with ⟨data, a4⟩ | ⟨w, e, a4⟩
      rotate_left
      · rw [hu4] at hQ
        simp only [RQ] at hQ ⊢
        simp -dsimp (disch := omega) only [go_sem]
        refine ⟨_, _, .pan (.refl _), ?_, ?_, ?_, hQ⟩ <;> first | (exact Over.refl _) | (exact (Over.refl _).cons _) | (exact ((Over.refl _).cons _).cons _) | (exact (((Over.refl _).cons _).cons _).cons _) | (exact ((((Over.refl _).cons _).cons _).cons _).cons _) | exact Kept.refl _ | (exact (Kept.refl _).set (by simp only [ABlk.bd, AV.bd, AV.bdL, and_self])) | (simp only [AE.bd, AV.bd, AV.bdL, and_self]; done)
      rw [hu4] at hQ
      intro t0 t1
      simp -dsimp (disch := omega) only [go_sem]
      refine ⟨_, _, .ret (.refl _), ?_, ?_, ?_, hQ t0 t1⟩ <;> first | (exact Over.refl _) | (exact (Over.refl _).cons _) | (exact ((Over.refl _).cons _).cons _) | (exact (((Over.refl _).cons _).cons _).cons _) | (exact ((((Over.refl _).cons _).cons _).cons _).cons _) | exact Kept.refl _ | (exact (Kept.refl _).set (by simp only [ABlk.bd, AV.bd, AV.bdL, and_self])) | (simp only [AE.bd, AV.bd, AV.bdL, and_self]; done)
end Go.Proofs.YtbdefaebbicfjaaGreat
