/- Writers of lists and curves. -/
import Derived.Test.YtbdefaebbicfjaaGreatK20
set_option linter.all false
namespace Go.Proofs.YtbdefaebbicfjaaGreat
open Go Go.Ab Go.RowKit
set_option maxHeartbeats 400000
set_option maxRecDepth 10000

theorem Wr.cons {b nb : Nat} {s : List UInt8} {m : AM} (x : Option ABlk) (h : Wr b nb s m) : Wr b nb s (x :: m) := by
  have h1 := AM.get_lt _ _ _ h.hb
  have h2 := AM.get_lt _ _ _ h.hn
  exact ⟨by rw [get_cons, if_neg (by omega)]; exact h.hb, by rw [get_cons, if_neg (by omega)]; exact h.hn, h.ne⟩
theorem Wr.kept {b nb : Nat} {s : List UInt8} {m : AM} (h : Wr b nb s m) (t : List UInt8) : Kept m (Proofs.YtbdefaebbicfjaaGreat.wrote 100 b nb t m) := by
  have h1 := AM.get_lt _ _ _ h.hb
  have h2 := AM.get_lt _ _ _ h.hn
  unfold Proofs.YtbdefaebbicfjaaGreat.wrote
  refine ((Kept.refl m).set (by simp only [ABlk.bd])).set ?_
  simp only [ABlk.bd, AV.bdL, AV.bd, and_true, AM.length_set]
  exact ⟨h1, h2⟩
theorem wrote_cons {b nb : Nat} {s : List UInt8} {m : AM} (x : Option ABlk) (h1 : b < List.length m) (h2 : nb < List.length m) : wrote 100 b nb s (x :: m) = x :: wrote 100 b nb s m := by
  unfold wrote
  rw [set_cons, if_neg (by omega), set_cons, AM.length_set, if_neg (by omega)]
theorem wrote_again {b nb : Nat} {s t : List UInt8} {m : AM} (h : b ≠ nb) : wrote 100 b nb s (wrote 100 b nb t m) = wrote 100 b nb s m := by
  unfold wrote
  rw [set_comm h, set_set, set_set]
theorem get_wrote {b nb : Nat} {s : List UInt8} {m : AM} {k : Nat} (h1 : k ≠ b) (h2 : k ≠ nb) : AM.get (wrote 100 b nb s m) k = AM.get m k := by
  unfold wrote
  rw [AM.get_set_other _ _ _ _ h1, AM.get_set_other _ _ _ _ h2]
theorem flat_take {α β : Type} {l : List α} {i : Nat} {v : α} (f : α → List β) (h : l[i]? = some v) : (l.take (i + 1)).flatMap f = (l.take i).flatMap f ++ f v := by
  rw [List.take_add_one, h, List.flatMap_append]
  simp
theorem flat_le {α β : Type} (l : List α) (i : Nat) (f : α → List β) : ((l.take i).flatMap f).length ≤ (l.flatMap f).length := by
  conv => rhs; rw [← List.take_append_drop i l, List.flatMap_append, List.length_append]
  omega
attribute [go_sem] wrote_length wrote_again wrote_cons

theorem wnums (f : Int → List UInt8) (fid : Nat) (l : List Int) (b nb : Nat) (s : List UInt8) (m : AM) (h : Wr b nb s m) (hlen : l.length ≤ 140737488355328) (hl : s.length + (l.flatMap f).length ≤ 140737488355328)
    (hf : ∀ n ∈ l, ∀ s, s.length + (f n).length ≤ 140737488355328 → ∀ m, Wr b nb s m → Writes fid [.ptr b 0, I n] b nb s m (f n)) : Writes 83 [.ptr b 0, .d (ints l), .fn (.func fid) [] []] b nb s m (l.flatMap f) := fun Q hQ => by
  have hne := h.ne
  refine acalls_of_body Tryz.func83 (by rfl) (by rfl) (Nat.le_of_ble_eq_true rfl) ?_
  simp -dsimp (disch := omega) only [go_sem, Tryz.f83]
  refine AW.loop (ι := Nat) (fun i => i ≤ l.length) (fun i => [(10, I i), (9, I l.length), (8, .d (ints l)), (2, .fn (.func fid) [] []), (0, .ptr b 0)]) (fun i => wrote 100 b nb (s ++ (l.take i).flatMap f) m) (fun i => l.length - i) [] ⟨0, by simp, ?_⟩ ?_
  · rw [show (l.take 0).flatMap f = [] by simp, List.append_nil, h.same]
    refine Weak.of ?_ (mLe.refl _)
    (simp only [frLe]; repeat' apply And.intro) <;> first | trivial | exact ⟨_, rfl, .refl _⟩
  · rintro i g1
    simp -dsimp (disch := omega) only [go_sem]
    refine Br.intro (fun h2 => ?_) (fun h2 => ?_)
    · obtain ⟨v, hv⟩ : ∃ v, l[i]? = some v := ⟨_, List.getElem?_eq_getElem (by omega)⟩
      have e := flat_take f hv
      have le := flat_le l (i + 1) f
      rw [e, List.length_append] at le
      simp -dsimp (disch := omega) only [go_sem, List.getD_eq_getElem?_getD, List.getElem?_map, Option.getD_some, hv]
      refine hf v (List.mem_of_getElem? hv) _ (by rw [List.length_append]; omega) _ (h.wrote _) _ ?_
      simp -dsimp (disch := omega) only [go_sem]
      refine ⟨i + 1, by omega, by omega, ?_⟩
      rw [e, ← List.append_assoc]
      refine Weak.of ?_ (mLe.refl _)
      (simp only [frLe]; repeat' apply And.intro) <;> first | trivial | exact ⟨_, rfl, .refl _⟩
    · obtain rfl : i = l.length := by omega
      rw [List.take_length]
      simp -dsimp (disch := omega) only [go_sem]
      exact hQ

abbrev w8 (n : Int) : List UInt8 := putS n 1
abbrev w16 (n : Int) : List UInt8 := putS n 2
abbrev w32 (n : Int) : List UInt8 := putS n 4
theorem w8_len (n : Int) : (putS n 1).length = 1 := rfl
theorem w16_len (n : Int) : (putS n 2).length = 2 := rfl
theorem w32_len (n : Int) : (putS n 4).length = 4 := rfl

theorem tab_range {l : List Int} (h : tabOk l = true) : (2 ≤ (l.length : Int) ∧ (l.length : Int) ≤ 17) ∧ ∀ v ∈ l, 0 ≤ v ∧ v ≤ 65535 := by
  simp only [tabOk, Bool.and_eq_true, decide_eq_true_eq, List.all_eq_true] at h
  exact ⟨by omega, h.2⟩

theorem segs_from {l : List Seg} (h : segsOk l = true) : ∀ (i : Nat) (o : Seg), l[i]? = some o → segOk (from_ l i) o = true ∧ 0 ≤ from_ l i := by
  have h' : ∀ (i : Nat) (o : Seg), l[i]? = some o → segOk (from_ l i) o = true := fun i o ho => by
    have := List.all_eq_true.1 h i (List.mem_range.2 (List.getElem?_eq_some_iff.1 ho).1)
    rw [ho] at this
    exact this
  intro i
  induction i with
  | zero => exact fun o ho => ⟨h' 0 o ho, by simp [from_]⟩
  | succ i ih =>
    intro o ho
    refine ⟨h' _ o ho, ?_⟩
    obtain ⟨v, hv⟩ : ∃ v, l[i]? = some v := ⟨_, List.getElem?_eq_getElem (by have := (List.getElem?_eq_some_iff.1 ho).1; omega)⟩
    obtain ⟨q1, q2⟩ := ih v hv
    have e1 : from_ l (i + 1) = v.till := by simp [from_, hv]
    rw [e1]
    simp only [segOk, Bool.and_eq_true, decide_eq_true_eq] at q1
    omega
theorem segs_range {l : List Seg} (h : segsFine l = true) : (1 ≤ l.length ∧ l.length ≤ 4) ∧ ∀ o ∈ l, ((0 ≤ o.till ∧ o.till ≤ 1000000) ∧ (-100000000 ≤ o.mul ∧ o.mul ≤ 100000000) ∧ (-100000000 ≤ o.add ∧ o.add ≤ 100000000)) ∧ ((1 ≤ o.num ∧ o.num ≤ 36) ∧ (1 ≤ o.den ∧ o.den ≤ 12)) ∧ (-100000000 ≤ o.off ∧ o.off ≤ 100000000) := by
  simp only [segsFine, Bool.and_eq_true, decide_eq_true_eq] at h
  refine ⟨h.1.1, fun o ho => ?_⟩
  obtain ⟨i, hi⟩ := List.mem_iff_getElem?.1 ho
  obtain ⟨q1, q2⟩ := segs_from h.1.2 i o hi
  simp only [segOk, Bool.and_eq_true, decide_eq_true_eq] at q1
  omega

/-- What a closure of a writer holds: the writer, and the thing. -/
structure Env (b nb bw bc : Nat) (T : Nat) (cs : List AV) (s : List UInt8) (m : AM) : Prop where
  wr : Wr b nb s m
  hw : m.get bw = some (.cells 95 [.ptr b 0])
  hc : m.get bc = some (.cells T cs)
  n1 : bw ≠ b
  n2 : bw ≠ nb
  n3 : bc ≠ b
  n4 : bc ≠ nb

theorem cur2 (c : Cur) (ht : tabOk c.table = true) (b nb bw bc : Nat) (s : List UInt8) (m : AM) (h : Env b nb bw bc 56 [I c.kind, .d (ints c.table), .d (segsD c.segs)] s m) (hl : s.length + (w8 c.table.length ++ c.table.flatMap w16).length ≤ 140737488355328) : Writes 192 [.ptr bw 0, .ptr bc 0] b nb s m (w8 c.table.length ++ c.table.flatMap w16) := fun Q hQ => by
  have hne := h.wr.ne
  have hw := h.hw
  have hc := h.hc
  have n1 := h.n1
  have n2 := h.n2
  have n3 := h.n3
  have n4 := h.n4
  have hr := tab_range ht
  rw [List.length_append, w8_len] at hl
  refine acalls_of_body Tryz.func192 (by rfl) (by rfl) (Nat.le_of_ble_eq_true rfl) ?_
  simp -dsimp (disch := omega) only [go_sem, Tryz.f192, hw, hc]
  refine wu8 _ (by omega) b nb s m h.wr (by omega) _ ?_
  simp -dsimp (disch := omega) only [go_sem, get_wrote, hw, hc]
  refine wnums w16 81 c.table b nb _ _ (h.wr.wrote _) (by omega) (by rw [List.length_append, w8_len]; omega) (fun n hn s hs m h => wu16 n (hr.2 n hn) b nb s m h hs) _ ?_
  simp -dsimp (disch := omega) only [go_sem]
  rw [List.append_assoc]
  exact hQ

theorem Wr.kept2 {b nb : Nat} {s : List UInt8} {m : AM} (h : Wr b nb s m) (t u : List UInt8) : Kept (Proofs.YtbdefaebbicfjaaGreat.wrote 100 b nb t m) (Proofs.YtbdefaebbicfjaaGreat.wrote 100 b nb u m) := by
  have := (h.wrote t).kept u
  rwa [wrote_again h.ne] at this

def segOut (o : Seg) : List UInt8 := [o.till, o.mul, o.add].flatMap w32 ++ ([o.num, o.den].flatMap w8 ++ w32 o.off)
theorem segOut_len (o : Seg) : (segOut o).length = 18 := rfl

theorem cur3 (c : Cur) (ht : segsFine c.segs = true) (b nb bw bc : Nat) (s : List UInt8) (m : AM) (h : Env b nb bw bc 56 [I c.kind, .d (ints c.table), .d (segsD c.segs)] s m) (hl : s.length + (w8 c.segs.length ++ c.segs.flatMap segOut).length ≤ 140737488355328) : Writes 193 [.ptr bw 0, .ptr bc 0] b nb s m (w8 c.segs.length ++ c.segs.flatMap segOut) := fun Q hQ => by
  refine ACalls.fin ?_
  have hne := h.wr.ne
  have hw := h.hw
  have hc := h.hc
  have n1 := h.n1
  have n2 := h.n2
  have n3 := h.n3
  have n4 := h.n4
  have hr := segs_range ht
  have hlb := AM.get_lt _ _ _ h.wr.hb
  have hln := AM.get_lt _ _ _ h.wr.hn
  have hlw := AM.get_lt _ _ _ hw
  have hlc := AM.get_lt _ _ _ hc
  rw [List.length_append, w8_len] at hl
  refine acalls_of_body Tryz.func193 (by rfl) (by rfl) (Nat.le_of_ble_eq_true rfl) ?_
  simp -dsimp (disch := omega) only [go_sem, Tryz.f193, hw, hc]
  refine wu8 _ (by omega) b nb s m h.wr (by omega) _ ?_
  simp -dsimp (disch := omega) only [go_sem, get_wrote, hw, hc]
  refine AW.loopB (ι := Nat) (fun i => i ≤ c.segs.length) (fun i => [(12, I i), (11, I c.segs.length), (10, .d (segsD c.segs)), (0, .ptr bw 0)]) (fun i => wrote 100 b nb (s ++ putS c.segs.length 1 ++ (c.segs.take i).flatMap segOut) m) (fun i => c.segs.length - i) [] ⟨0, by simp, ?_⟩ ?_
  · rw [show (c.segs.take 0).flatMap segOut = [] by simp, List.append_nil]
    refine Weak.of ?_ (mLe.refl _)
    (simp only [frLe]; repeat' apply And.intro) <;> first | trivial | exact ⟨_, rfl, .refl _⟩
  · rintro i g1
    simp -dsimp (disch := omega) only [go_sem]
    refine Br.intro (fun h2 => ?_) (fun h2 => ?_)
    · obtain ⟨v, hv⟩ : ∃ v, c.segs[i]? = some v := ⟨_, List.getElem?_eq_getElem (by omega)⟩
      have e := flat_take segOut hv
      have le := flat_le c.segs (i + 1) segOut
      rw [e, List.length_append, segOut_len] at le
      have hvr := hr.2 v (List.mem_of_getElem? hv)
      have hsl : (s ++ putS c.segs.length 1 ++ (c.segs.take i).flatMap segOut).length + 18 ≤ 140737488355328 := by
        rw [List.length_append, List.length_append, w8_len]
        omega
      generalize hS : s ++ putS c.segs.length 1 ++ (c.segs.take i).flatMap segOut = S at hsl
      simp -dsimp (disch := first | omega | (simp only [List.length_cons, AM.length_set, wrote_length]; omega)) only [go_sem, List.getD_eq_getElem?_getD, List.getElem?_map, Option.getD_some, hv, get_wrote, hw]
      refine wnums w32 84 [v.till, v.mul, v.add] b nb _ _ (Wr.cons _ (h.wr.wrote _)) (by simp) (by simp [w32_len]; omega) (fun n hn s hs m h => ws32 n (by simp at hn; omega) b nb s m h hs) _ ?_
      simp -dsimp (disch := first | omega | (simp only [List.length_cons, AM.length_set, wrote_length]; omega)) only [go_sem, get_wrote, hw]
      refine wnums w8 79 [v.num, v.den] b nb _ _ (Wr.cons _ (h.wr.wrote _)) (by simp) (by simp [w32_len, w8_len]; omega) (fun n hn s hs m h => wu8 n (by simp at hn; omega) b nb s m h hs) _ ?_
      simp -dsimp (disch := first | omega | (simp only [List.length_cons, AM.length_set, wrote_length]; omega)) only [go_sem, get_wrote, hw]
      refine ws32 v.off (by omega) b nb _ _ (Wr.cons _ (h.wr.wrote _)) (by simp [w32_len, w8_len]; omega) _ ?_
      simp -dsimp (disch := first | omega | (simp only [List.length_cons, AM.length_set, wrote_length]; omega)) only [go_sem]
      refine ⟨i + 1, by omega, by omega, ?_⟩
      rw [e, ← List.append_assoc, hS]
      refine WeakB.cut ?_ ?_ (h.wr.kept2 _ _) ?_
      · (simp only [frLe]; repeat' apply And.intro) <;> first | trivial | exact ⟨_, rfl, .refl _⟩
      · unfold segOut
        rw [← List.append_assoc, ← List.append_assoc]
        exact (Over.refl _).cons _
      · simp only [frBd, AV.bd, and_true, true_and, wrote_length]
        exact hlw
    · obtain rfl : i = c.segs.length := by omega
      rw [List.take_length]
      rw [← List.append_assoc] at hQ
      simp -dsimp (disch := omega) only [go_sem]
      refine ⟨_, _, .ret (.refl _), Over.refl _, h.wr.kept _, ?_, hQ⟩
      simp only [AE.bd, AV.bd, AV.bdL, and_self]

def curOut (c : Cur) : List UInt8 := w8 c.kind ++ (if c.kind = 2 then w8 c.table.length ++ c.table.flatMap w16 else if c.kind = 3 then w8 c.segs.length ++ c.segs.flatMap segOut else [])

theorem cur_kind {c : Cur} (h : curveE c = 0) : (c.kind = 1) ∨ (c.kind = 2 ∧ tabOk c.table = true) ∨ (c.kind = 3 ∧ segsFine c.segs = true) := by
  unfold curveE at h
  split at h
  · rename_i h1
    unfold curveFine at h1
    split at h1
    · exact .inl ‹_›
    · split at h1
      · simp only [Bool.and_eq_true] at h1
        exact .inr (.inl ⟨‹_›, h1.1⟩)
      · split at h1
        · simp only [Bool.and_eq_true] at h1
          exact .inr (.inr ⟨‹_›, h1.2⟩)
        · simp at h1
  · simp at h

theorem wcur1 (m : AM) (Q : AE → AM → Prop) (hQ : Q (.ret (.tup [])) m) : ACalls Tryz.prog 191 [] m Q := by
  refine acalls_of_body Tryz.func191 (by rfl) (by rfl) (Nat.le_of_ble_eq_true rfl) ?_
  simp -dsimp (disch := omega) only [go_sem, Tryz.f191]
  exact hQ

theorem wcur (c : Cur) (hv : curveE c = 0) (b nb : Nat) (s : List UInt8) (m : AM) (h : Wr b nb s m) (hl : s.length + (curOut c).length ≤ 140737488355328) : Writes 158 [.ptr b 0, Cur.enc c] b nb s m (curOut c) := fun Q hQ => by
  refine ACalls.fin ?_
  have hne := h.ne
  have hlb := AM.get_lt _ _ _ h.hb
  have hln := AM.get_lt _ _ _ h.hn
  have hk := cur_kind hv
  unfold curOut at hQ hl
  rw [List.length_append, w8_len] at hl
  refine acalls_of_body Tryz.func158 (by rfl) (by rfl) (Nat.le_of_ble_eq_true rfl) ?_
  simp -dsimp (disch := omega) only [go_sem, Tryz.f158]
  refine wu8 c.kind (by omega) b nb s _ ((h.cons _).cons _) (by omega) _ ?_
  simp -dsimp (disch := first | omega | (simp only [List.length_cons, AM.length_set, wrote_length]; omega)) only [go_sem]
  rcases hk with k | ⟨k, ht⟩ | ⟨k, ht⟩
  · rw [if_neg (by omega), if_neg (by omega), List.append_nil] at hQ
    simp -dsimp (disch := first | omega | (simp only [List.length_cons, AM.length_set, wrote_length]; omega)) only [go_sem, k]
    refine wcur1 _ _ ?_
    simp -dsimp (disch := first | omega | (simp only [List.length_cons, AM.length_set, wrote_length]; omega)) only [go_sem]
    rw [k] at hQ
    refine ⟨_, _, .ret (.refl _), ?_, h.kept _, ?_, hQ⟩
    · repeat (first | exact Over.refl _ | apply Over.cons)
    · simp only [AE.bd, AV.bd, AV.bdL, and_self]
  · rw [if_pos k] at hQ hl
    simp -dsimp (disch := first | omega | (simp only [List.length_cons, AM.length_set, wrote_length]; omega)) only [go_sem, k]
    refine cur2 c ht b nb m.length (m.length + 1) _ _ ⟨(((h.wrote _).cons _).cons _).cons _, by simp -dsimp (disch := first | omega | (simp only [List.length_cons, AM.length_set, wrote_length]; omega)) only [go_sem], by simp -dsimp (disch := first | omega | (simp only [List.length_cons, AM.length_set, wrote_length]; omega)) only [go_sem, k], by omega, by omega, by omega, by omega⟩ (by rw [List.length_append, w8_len]; omega) _ ?_
    simp -dsimp (disch := first | omega | (simp only [List.length_cons, AM.length_set, wrote_length]; omega)) only [go_sem]
    rw [k, ← List.append_assoc] at hQ
    refine ⟨_, _, .ret (.refl _), ?_, h.kept _, ?_, hQ⟩
    · repeat (first | exact Over.refl _ | apply Over.cons)
    · simp only [AE.bd, AV.bd, AV.bdL, and_self]
  · rw [if_neg (by omega), if_pos k] at hQ hl
    simp -dsimp (disch := first | omega | (simp only [List.length_cons, AM.length_set, wrote_length]; omega)) only [go_sem, k]
    refine cur3 c ht b nb m.length (m.length + 1) _ _ ⟨(((h.wrote _).cons _).cons _).cons _, by simp -dsimp (disch := first | omega | (simp only [List.length_cons, AM.length_set, wrote_length]; omega)) only [go_sem], by simp -dsimp (disch := first | omega | (simp only [List.length_cons, AM.length_set, wrote_length]; omega)) only [go_sem, k], by omega, by omega, by omega, by omega⟩ (by rw [List.length_append, w8_len]; omega) _ ?_
    simp -dsimp (disch := first | omega | (simp only [List.length_cons, AM.length_set, wrote_length]; omega)) only [go_sem]
    rw [k, ← List.append_assoc] at hQ
    refine ⟨_, _, .ret (.refl _), ?_, h.kept _, ?_, hQ⟩
    · repeat (first | exact Over.refl _ | apply Over.cons)
    · simp only [AE.bd, AV.bd, AV.bdL, and_self]
end Go.Proofs.YtbdefaebbicfjaaGreat
