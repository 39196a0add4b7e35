/- Bytes of tags. -/
import Derived.Test.YtbdefaebbicfjaaGreatK22
set_option linter.all false
namespace Go.Proofs.YtbdefaebbicfjaaGreat
open Go Go.Ab Go.RowKit
set_option maxHeartbeats 400000
set_option maxRecDepth 10000

theorem tg_kind {t : Tg} (h : tgE t = 0) : (t.sign.length = 4) ∧ ((t.kind = 1 ∧ textFine t.text = true) ∨ (t.kind = 2 ∧ numsFine t.numbers = true) ∨ (t.kind = 3 ∧ chnE t.chain = 0)) := by
  unfold tgE at h
  split at h
  · rename_i h1
    simp only [Bool.and_eq_true] at h1
    obtain ⟨h1, h2⟩ := h1
    refine ⟨by simp only [signFine, Bool.and_eq_true, decide_eq_true_eq] at h2; omega, ?_⟩
    unfold tgBody at h1
    split at h1
    · simp only [Bool.and_eq_true] at h1
      exact .inl ⟨‹_›, h1.2.2⟩
    · split at h1
      · simp only [Bool.and_eq_true] at h1
        exact .inr (.inl ⟨‹_›, h1.2.2⟩)
      · split at h1
        · simp only [Bool.and_eq_true, decide_eq_true_eq] at h1
          exact .inr (.inr ⟨‹_›, h1.2.2⟩)
        · simp at h1
  · simp at h

abbrev tgCells (t : Tg) : List AV := [S t.sign, I t.kind, S t.text, .d (ints t.numbers), I t.chain.nin, .d (eltsD t.chain.elts)]

theorem wtag1 (t : Tg) (hx : textFine t.text = true) (b nb bw bc : Nat) (s : List UInt8) (m : AM) (h : Env b nb bw bc 41 (tgCells t) s m) (hl : s.length + (w16 t.text.length ++ t.text).length ≤ 140737488355328) : Writes 80 [.ptr bw 0, .ptr bc 0] b nb s m (w16 t.text.length ++ t.text) := fun Q hQ => by
  have hne := h.wr.ne
  have hw := h.hw
  have hc := h.hc
  have n1 := h.n1
  have n2 := h.n2
  have n3 := h.n3
  have n4 := h.n4
  simp only [textFine, Bool.and_eq_true, decide_eq_true_eq] at hx
  simp only [List.length_append, w16_len] at hl
  simp only [← List.append_assoc] at hQ
  refine acalls_of_body Tryz.func80 (by rfl) (by rfl) (Nat.le_of_ble_eq_true rfl) ?_
  simp -dsimp (disch := omega) only [go_sem, Tryz.f80, hw, hc]
  refine wu16 _ (by omega) b nb s m h.wr (by omega) _ ?_
  simp -dsimp (disch := omega) only [go_sem]
  refine ADraw.of (es := [5]) (pn := none) (T := [⟨false, true, 0, 0, 0⟩, ⟨false, false, 0, 0, 0⟩, ⟨false, false, 0, 0, 0⟩, ⟨false, false, 0, 0, 0⟩, ⟨false, true, 0, 0, 0⟩, ⟨true, true, 0, 1, 0⟩]) mixed (by kernel_rfl) ?_
  simp -dsimp (disch := omega) only [go_sem, get_wrote, hw, hc]
  refine wDCall.turn (.tup [I t.text.length, .d (.cst .nilIface)]) _ (writeString 100 b nb (.inr rfl) _ (.inr rfl) _ t.text (by intro h; rw [h] at hx; simp at hx) (by simp only [List.length_append, w16_len]; omega) _ (h.wr.wrote _).hb (h.wr.wrote _).hn hne _ ⟨rfl, rfl⟩) ?_
  simp -dsimp (disch := omega) only [go_sem]
  exact hQ

theorem wtag2 (t : Tg) (hx : numsFine t.numbers = true) (b nb bw bc : Nat) (s : List UInt8) (m : AM) (h : Env b nb bw bc 41 (tgCells t) s m) (hl : s.length + (w8 t.numbers.length ++ t.numbers.flatMap w32).length ≤ 140737488355328) : Writes 82 [.ptr bw 0, .ptr bc 0] b nb s m (w8 t.numbers.length ++ t.numbers.flatMap w32) := fun Q hQ => by
  have hne := h.wr.ne
  have hw := h.hw
  have hc := h.hc
  have n1 := h.n1
  have n2 := h.n2
  have n3 := h.n3
  have n4 := h.n4
  simp only [numsFine, Bool.and_eq_true, decide_eq_true_eq, Bool.not_eq_true', List.any_eq_false, wideF] at hx
  simp only [List.length_append, w8_len] at hl
  simp only [← List.append_assoc] at hQ
  refine acalls_of_body Tryz.func82 (by rfl) (by rfl) (Nat.le_of_ble_eq_true rfl) ?_
  simp -dsimp (disch := omega) only [go_sem, Tryz.f82, hw, hc]
  refine wu8 _ (by omega) b nb s m h.wr (by omega) _ ?_
  simp -dsimp (disch := omega) only [go_sem, get_wrote, hw, hc]
  refine wnums w32 84 t.numbers b nb _ _ (h.wr.wrote _) (by omega) (by simp only [List.length_append, w8_len]; omega) (fun n hn s hs m h => ws32 n (by have := hx.2 n hn; omega) b nb s m h hs) _ ?_
  simp -dsimp (disch := omega) only [go_sem]
  exact hQ

theorem wtag3 (t : Tg) (hx : chnE t.chain = 0) (b nb bw bc : Nat) (s : List UInt8) (m : AM) (h : Env b nb bw bc 41 (tgCells t) s m) (hl : s.length + (chnOut t.chain).length ≤ 140737488355328) : Writes 85 [.ptr bw 0, .ptr bc 0] b nb s m (chnOut t.chain) := fun Q hQ => by
  have hw := h.hw
  have hc := h.hc
  refine acalls_of_body Tryz.func85 (by rfl) (by rfl) (Nat.le_of_ble_eq_true rfl) ?_
  simp -dsimp (disch := omega) only [go_sem, Tryz.f85, hw, hc]
  refine wchn t.chain hx b nb s m h.wr hl _ ?_
  simp -dsimp (disch := omega) only [go_sem]
  exact hQ

theorem Wr.fresh {b nb : Nat} {m : AM} (h1 : b < List.length m) (h2 : nb < List.length m) (hne : b ≠ nb) (s : List UInt8) : Wr b nb s (Proofs.YtbdefaebbicfjaaGreat.wrote 100 b nb s m) := by
  unfold Proofs.YtbdefaebbicfjaaGreat.wrote
  exact ⟨AM.get_set_same _ _ _ (by rw [AM.length_set]; exact h1), by rw [AM.get_set_other _ _ _ _ hne.symm, AM.get_set_same _ _ _ h2], hne⟩
theorem kept_wrote {b nb : Nat} {m : AM} (h1 : b < List.length m) (h2 : nb < List.length m) (s : List UInt8) : Kept m (wrote 100 b nb s m) := by
  unfold wrote
  refine ((Kept.refl m).set (by simp only [ABlk.bd])).set ?_
  simp only [ABlk.bd, AV.bdL, AV.bd, and_true, AM.length_set]
  exact ⟨h1, h2⟩

def tgOut (t : Tg) : List UInt8 := t.sign ++ (w8 t.kind ++ (if t.kind = 1 then w16 t.text.length ++ t.text else if t.kind = 2 then w8 t.numbers.length ++ t.numbers.flatMap w32 else chnOut t.chain))

theorem wtag (t : Tg) (hv : tgE t = 0) (b nb : Nat) (m : AM) (hb : m.get b = some (.cells 100 [nilP, .gsl nb 1 []])) (hn : m.get nb = some (.grow 5 1 0)) (hne : b ≠ nb) (hl : (tgOut t).length ≤ 140737488355328) (Q : AE → AM → Prop)
    (hQ : Q (.ret (.tup [])) (wrote 100 b nb (tgOut t) m)) : ACalls Tryz.prog 38 [.ptr b 0, Tg.enc t] m Q := by
  refine ACalls.fin ?_
  have hlb := AM.get_lt _ _ _ hb
  have hln := AM.get_lt _ _ _ hn
  obtain ⟨h4, hk⟩ := tg_kind hv
  unfold tgOut at hQ hl
  simp only [List.length_append, w8_len] at hl
  refine acalls_of_body Tryz.func38 (by rfl) (by rfl) (Nat.le_of_ble_eq_true rfl) ?_
  simp -dsimp (disch := omega) only [go_sem, Tryz.f38]
  refine ADraw.of (es := [5]) (pn := none) (T := [⟨false, true, 0, 0, 0⟩, ⟨false, false, 0, 0, 0⟩, ⟨false, false, 0, 0, 0⟩, ⟨false, false, 0, 0, 0⟩, ⟨false, true, 0, 0, 0⟩, ⟨true, true, 0, 1, 0⟩]) mixed (by kernel_rfl) ?_
  simp -dsimp (disch := omega) only [go_sem]
  refine wDCall.turn (.tup [I t.sign.length, .d (.cst .nilIface)]) _ (writeString 100 b nb (.inr rfl) nilP (.inl rfl) [] t.sign (by intro h; rw [h] at h4; simp at h4) (by simp; omega) _ (by simp -dsimp (disch := omega) only [go_sem, hb]; rfl) (by simp -dsimp (disch := omega) only [go_sem, hn]) hne _ ⟨rfl, rfl⟩) ?_
  simp -dsimp (disch := first | omega | (simp only [List.length_cons, AM.length_set, wrote_length]; omega)) only [go_sem]
  have h := fun s => Wr.fresh hlb hln hne s
  refine wu8 t.kind (by omega) b nb t.sign _ (((h _).cons _).cons _) (by omega) _ ?_
  simp -dsimp (disch := first | omega | (simp only [List.length_cons, AM.length_set, wrote_length]; omega)) only [go_sem]
  rcases hk with ⟨k, hx⟩ | ⟨k, hx⟩ | ⟨k, hx⟩
  · rw [if_pos k] at hQ hl
    simp -dsimp (disch := first | omega | (simp only [List.length_cons, AM.length_set, wrote_length]; omega)) only [go_sem, k]
    refine wtag1 t hx b nb m.length (m.length + 1) _ _ ⟨(((h _).cons _).cons _).cons _, by simp -dsimp (disch := first | omega | (simp only [List.length_cons, AM.length_set, wrote_length]; omega)) only [go_sem], by simp -dsimp (disch := first | omega | (simp only [List.length_cons, AM.length_set, wrote_length]; omega)) only [go_sem, k, tgCells], by omega, by omega, by omega, by omega⟩ (by simp only [List.length_append, w8_len, w16_len]; (try simp only [List.length_append, w8_len, w16_len] at hl); omega) _ ?_
    simp -dsimp (disch := first | omega | (simp only [List.length_cons, AM.length_set, wrote_length]; omega)) only [go_sem]
    rw [k] at hQ
    simp only [← List.append_assoc] at hQ ⊢
    refine ⟨_, _, .ret (.refl _), ?_, kept_wrote hlb hln _, ?_, hQ⟩
    · repeat (first | exact Over.refl _ | apply Over.cons)
    · simp only [AE.bd, AV.bd, AV.bdL, and_self]
  · rw [if_neg (show ¬ t.kind = 1 by omega), if_pos k] at hQ hl
    simp -dsimp (disch := first | omega | (simp only [List.length_cons, AM.length_set, wrote_length]; omega)) only [go_sem, k]
    refine wtag2 t hx b nb m.length (m.length + 1) _ _ ⟨(((h _).cons _).cons _).cons _, by simp -dsimp (disch := first | omega | (simp only [List.length_cons, AM.length_set, wrote_length]; omega)) only [go_sem], by simp -dsimp (disch := first | omega | (simp only [List.length_cons, AM.length_set, wrote_length]; omega)) only [go_sem, k, tgCells], by omega, by omega, by omega, by omega⟩ (by simp only [List.length_append, w8_len, w16_len]; (try simp only [List.length_append, w8_len, w16_len] at hl); omega) _ ?_
    simp -dsimp (disch := first | omega | (simp only [List.length_cons, AM.length_set, wrote_length]; omega)) only [go_sem]
    rw [k] at hQ
    simp only [← List.append_assoc] at hQ ⊢
    refine ⟨_, _, .ret (.refl _), ?_, kept_wrote hlb hln _, ?_, hQ⟩
    · repeat (first | exact Over.refl _ | apply Over.cons)
    · simp only [AE.bd, AV.bd, AV.bdL, and_self]
  · rw [if_neg (show ¬ t.kind = 1 by omega), if_neg (show ¬ t.kind = 2 by omega)] at hQ hl
    simp -dsimp (disch := first | omega | (simp only [List.length_cons, AM.length_set, wrote_length]; omega)) only [go_sem, k]
    refine wtag3 t hx b nb m.length (m.length + 1) _ _ ⟨(((h _).cons _).cons _).cons _, by simp -dsimp (disch := first | omega | (simp only [List.length_cons, AM.length_set, wrote_length]; omega)) only [go_sem], by simp -dsimp (disch := first | omega | (simp only [List.length_cons, AM.length_set, wrote_length]; omega)) only [go_sem, k, tgCells], by omega, by omega, by omega, by omega⟩ (by simp only [List.length_append, w8_len, w16_len]; (try simp only [List.length_append, w8_len, w16_len] at hl); omega) _ ?_
    simp -dsimp (disch := first | omega | (simp only [List.length_cons, AM.length_set, wrote_length]; omega)) only [go_sem]
    rw [k] at hQ
    simp only [← List.append_assoc] at hQ ⊢
    refine ⟨_, _, .ret (.refl _), ?_, kept_wrote hlb hln _, ?_, hQ⟩
    · repeat (first | exact Over.refl _ | apply Over.cons)
    · simp only [AE.bd, AV.bd, AV.bdL, and_self]

theorem flat_bound {α β : Type} (f : α → List β) (k : Nat) : ∀ (l : List α), (∀ x ∈ l, (f x).length ≤ k) → (l.flatMap f).length ≤ l.length * k
  | [], _ => by simp
  | x :: l, h => by
    have h1 := h x List.mem_cons_self
    have h2 := flat_bound f k l fun y hy => h y (List.mem_cons_of_mem _ hy)
    rw [List.flatMap_cons, List.length_append, List.length_cons, Nat.succ_mul]
    omega
theorem curOut_le {c : Cur} (h : curveE c = 0) : (curOut c).length ≤ 74 := by
  unfold curOut
  rw [List.length_append, w8_len]
  rcases cur_kind h with k | ⟨k, hx⟩ | ⟨k, hx⟩
  · rw [if_neg (by omega), if_neg (by omega)]; simp
  · rw [if_pos k, List.length_append, w8_len]
    have := tab_range hx
    have := flat_bound w16 2 c.table (fun _ _ => Nat.le_refl _)
    omega
  · rw [if_neg (by omega), if_pos k, List.length_append, w8_len]
    have := segs_range hx
    have := flat_bound segOut 18 c.segs (fun _ _ => Nat.le_refl _)
    omega
theorem eltOut_le {x : Elt} (h : eltE x = 0) : (eltOut x).length ≤ 10000 := by
  unfold eltOut
  rw [List.length_append, w8_len]
  rcases elt_kind h with ⟨k, hx⟩ | ⟨k, hx⟩ | ⟨k, hx⟩ | ⟨k, hx⟩
  · rw [if_pos k, List.length_append, w8_len]
    have h1 := curves_range hx
    have := flat_bound curOut 74 x.curves (fun c hc => curOut_le (h1.2 c hc))
    omega
  · rw [if_neg (by omega), if_pos k, List.length_append, List.length_append, List.length_append, w8_len, w8_len]
    have h1 := mat_range hx
    have h2 := flat_bound (fun r : List Int => r.flatMap w32) 16 x.rows (fun r hr => by
      have := flat_bound w32 4 r (fun _ _ => Nat.le_refl _)
      have := h1.2.2.2.1 r hr
      omega)
    have h3 := flat_bound w32 4 x.offset (fun _ _ => Nat.le_refl _)
    omega
  · rw [if_neg (by omega), if_neg (by omega), if_pos k, List.length_append, List.length_append, List.length_append, w8_len, w8_len]
    have h1 := grid_range hx
    have h2 := flat_bound w8 1 x.grid.size (fun _ _ => Nat.le_refl _)
    have h3 := flat_bound w16 2 x.grid.data (fun _ _ => Nat.le_refl _)
    omega
  · rw [if_neg (by omega), if_neg (by omega), if_neg (by omega), List.length_append, List.length_append, List.length_append, w8_len, w8_len, w8_len]
    have h1 := prog_range hx
    have h2 := flat_bound opOut 5 x.prog (fun _ _ => Nat.le_refl _)
    omega
theorem chnOut_le {c : Chn} (h : chnE c = 0) : (chnOut c).length ≤ 80002 := by
  unfold chnOut
  rw [List.length_append, List.length_append, w8_len, w8_len]
  have h1 := chn_range h
  have h2 := flat_bound eltOut 10000 c.elts (fun x hx => eltOut_le (h1.2.2 x hx))
  omega
/-- No tag takes more octets than that. -/
theorem tgOut_le' {t : Tg} (h : tgE t = 0) : (tgOut t).length ≤ 80007 := by
  obtain ⟨h4, hk⟩ := tg_kind h
  unfold tgOut
  rw [List.length_append, List.length_append, w8_len, h4]
  rcases hk with ⟨k, hx⟩ | ⟨k, hx⟩ | ⟨k, hx⟩
  · rw [if_pos k, List.length_append, w16_len]
    simp only [textFine, Bool.and_eq_true, decide_eq_true_eq] at hx
    omega
  · rw [if_neg (by omega), if_pos k, List.length_append, w8_len]
    simp only [numsFine, Bool.and_eq_true, decide_eq_true_eq] at hx
    have := flat_bound w32 4 t.numbers (fun _ _ => Nat.le_refl _)
    omega
  · rw [if_neg (by omega), if_neg (by omega)]
    have := chnOut_le hx
    omega
theorem tgOut_le {t : Tg} (h : tgE t = 0) : (tgOut t).length ≤ 140737488355328 := Nat.le_trans (tgOut_le' h) (by decide)

def bytesF (t : Tg) : List UInt8 × Int := if tgE t = 0 then (if 32768 < ((tgOut t).length : Int) then ([], 3) else (tgOut t, 0)) else ([], tgE t)

theorem bytes (t : Tg) (m : AM) (Q : AE → AM → Prop) (hQ : Q (.ret (.tup [S (bytesF t).1, I (bytesF t).2])) m) : ACalls Tryz.prog 15 [Tg.enc t] m Q := by
  refine ACalls.fin ?_
  unfold bytesF at hQ
  refine acalls_of_AW Tryz.func15 (by rfl) (by rfl) (Nat.le_of_ble_eq_true rfl) ?_
  refine AW.step ?_
  simp -dsimp (disch := omega) only [go_sem, Tryz.f15]
  refine AW.step ?_
  simp -dsimp (disch := omega) only [go_sem, Tryz.f15]
  refine tagCheck t _ _ ?_
  by_cases he : tgE t = 0
  rotate_left
  · rw [if_neg he] at hQ
    simp -dsimp (disch := omega) only [go_sem, Tryz.f15, he]
    refine ⟨_, _, .ret (.refl _), ?_, ?_, ?_, hQ⟩ <;> first | (exact Over.refl _) | (exact (Over.refl _).cons _) | (exact ((Over.refl _).cons _).cons _) | (exact (((Over.refl _).cons _).cons _).cons _) | (exact ((((Over.refl _).cons _).cons _).cons _).cons _) | exact Kept.refl _ | (exact (Kept.refl _).set (by simp only [ABlk.bd, AV.bd, AV.bdL, and_self])) | (simp only [AE.bd, AV.bd, AV.bdL, and_self]; done)
  rw [if_pos he] at hQ
  simp -dsimp (disch := omega) only [go_sem, Tryz.f15, he]
  refine AW.step ?_
  simp -dsimp (disch := omega) only [go_sem, Tryz.f15]
  have hg := Weak.growCell (fr := [(5, .ptr (m.length + 1) 0), (3, I 0), (2, S []), (1, .ptr m.length 0)]) (ds := []) (m := some (.cells 100 [nilP, .d .nilsl]) :: some (.cells 41 [S t.sign, I t.kind, S t.text, .d (ints t.numbers), I t.chain.nin, .d (eltsD t.chain.elts)]) :: m) (m.length + 1) 100 5 1 1 [nilP, .d .nilsl] (by simp -dsimp (disch := omega) only [go_sem]) rfl
  simp -dsimp (disch := omega) only [go_sem, List.set_cons_succ, List.set_cons_zero] at hg
  refine AW.weak ((Weak.of ?_ (mLe.refl _)).trans hg) ?_
  · (simp only [frLe]; repeat' apply And.intro) <;> first | trivial | exact ⟨_, rfl, .refl _⟩
  refine awpC_ok _ _ _ _ ?_
  simp -dsimp (disch := omega) only [go_sem, Tryz.f15]
  refine wtag t he (m.length + 1) (m.length + 2) _ (by simp -dsimp (disch := omega) only [go_sem]) (by simp -dsimp (disch := omega) only [go_sem]) (by omega) (tgOut_le he) _ ?_
  simp -dsimp (disch := omega) only [go_sem, Tryz.f15, wrote]
  refine bLen 100 (m.length + 1) (m.length + 2) (.inr rfl) _ (tgOut t) _ (by simp -dsimp (disch := omega) only [go_sem]; rfl) _ ?_
  simp -dsimp (disch := omega) only [go_sem, Tryz.f15]
  by_cases hl : 32768 < ((tgOut t).length : Int)
  · rw [if_pos hl] at hQ
    simp -dsimp (disch := omega) only [go_sem, Tryz.f15, hl]
    refine ⟨_, _, .ret (.refl _), ?_, ?_, ?_, hQ⟩ <;> first | (exact Over.refl _) | (exact (Over.refl _).cons _) | (exact ((Over.refl _).cons _).cons _) | (exact (((Over.refl _).cons _).cons _).cons _) | (exact ((((Over.refl _).cons _).cons _).cons _).cons _) | exact Kept.refl _ | (exact (Kept.refl _).set (by simp only [ABlk.bd, AV.bd, AV.bdL, and_self])) | (simp only [AE.bd, AV.bd, AV.bdL, and_self]; done)
  · rw [if_neg hl] at hQ
    simp -dsimp (disch := omega) only [go_sem, Tryz.f15, hl]
    refine bString 100 (m.length + 1) (m.length + 2) (.inr rfl) _ (tgOut t) (by unfold tgOut; have := (tg_kind he).1; intro h; have := congrArg List.length h; simp only [List.length_append, List.length_nil] at this; omega) _ (by simp -dsimp (disch := omega) only [go_sem]; rfl) (by simp -dsimp (disch := omega) only [go_sem]) (by omega) _ ?_
    simp -dsimp (disch := omega) only [go_sem, Tryz.f15]
    refine ⟨_, _, .ret (.refl _), ?_, ?_, ?_, hQ⟩ <;> first | (exact Over.refl _) | (exact (Over.refl _).cons _) | (exact ((Over.refl _).cons _).cons _) | (exact (((Over.refl _).cons _).cons _).cons _) | (exact ((((Over.refl _).cons _).cons _).cons _).cons _) | exact Kept.refl _ | (exact (Kept.refl _).set (by simp only [ABlk.bd, AV.bd, AV.bdL, and_self])) | (simp only [AE.bd, AV.bd, AV.bdL, and_self]; done)
end Go.Proofs.YtbdefaebbicfjaaGreat
