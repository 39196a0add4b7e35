/- Writers of elements and chains. -/
import Derived.Test.YtbdefaebbicfjaaGreatK21
set_option linter.all false
namespace Go.Proofs.YtbdefaebbicfjaaGreat
open Go Go.Ab Go.RowKit
set_option maxHeartbeats 400000
set_option maxRecDepth 10000

/-! ### what a valid element is -/
theorem grid_range {g : Grd} (h : gridE g = 0) : (1 ≤ (g.size.length : Int) ∧ (g.size.length : Int) ≤ 4) ∧ (1 ≤ g.out ∧ g.out ≤ 4) ∧ (∀ v ∈ g.size, 2 ≤ v ∧ v ≤ 9) ∧ ((g.data.length : Int) ≤ 4096 ∧ (g.data.length : Int) = g.out * prodF g.size) ∧ ∀ v ∈ g.data, 0 ≤ v ∧ v ≤ 65535 := by
  unfold gridE at h
  split at h
  · rename_i h1
    simp only [gridFine, Bool.and_eq_true, decide_eq_true_eq, List.all_eq_true] at h1
    exact ⟨h1.1.1.1.1.1, h1.1.1.1.1.2, h1.1.1.1.2, ⟨h1.1.1.2, by rw [h1.1.2, Int.mul_comm]⟩, h1.2⟩
  · simp at h
theorem mat_range {rows : List (List Int)} {off : List Int} (h : matFine rows off = true) : (1 ≤ (rows.length : Int) ∧ (rows.length : Int) ≤ 4) ∧ (off.length : Int) = rows.length ∧ (1 ≤ ((rows.getD 0 []).length : Int) ∧ ((rows.getD 0 []).length : Int) ≤ 4) ∧ (∀ r ∈ rows, (r.length : Int) = (rows.getD 0 []).length ∧ ∀ v ∈ r, -1000000000 ≤ v ∧ v ≤ 1000000000) ∧ ∀ v ∈ off, -1000000000 ≤ v ∧ v ≤ 1000000000 := by
  simp only [matFine, Bool.and_eq_true, decide_eq_true_eq, List.all_eq_true, Bool.not_eq_true', List.any_eq_false, farF] at h
  refine ⟨h.1.1, h.1.2, h.2.1.1, fun r hr => ⟨(h.2.1.2 r hr).1, fun v hv => ?_⟩, fun v hv => ?_⟩
  · have := (h.2.1.2 r hr).2 v hv
    omega
  · have := h.2.2 v hv
    omega
theorem curves_range {l : List Cur} (h : curvesFine l = true) : (1 ≤ (l.length : Int) ∧ (l.length : Int) ≤ 4) ∧ ∀ c ∈ l, curveE c = 0 := by
  simp only [curvesFine, Bool.and_eq_true, decide_eq_true_eq, Bool.not_eq_true', List.any_eq_false] at h
  refine ⟨h.1, fun c hc => ?_⟩
  have := h.2 c hc
  simpa using this
theorem argF_range {o : POp} {nin len : Int} (h : argF o nin len = true) (h1 : nin ≤ 4) (h2 : len ≤ 16) : -1000000000 ≤ o.arg ∧ o.arg ≤ 1000000000 := by
  unfold argF at h
  split at h
  · simp only [decide_eq_true_eq] at h; omega
  · split at h
    · simpa using h
    · split at h <;> simp only [decide_eq_true_eq] at h <;> omega
theorem takesF_known {c : Int} (h : (takesF c).2 = true) : 1 ≤ c ∧ c ≤ 12 := by
  unfold takesF at h
  split at h
  · omega
  · split at h
    · omega
    · split at h
      · omega
      · split at h
        · omega
        · simp at h
theorem survey_range {nin : Int} (h1 : nin ≤ 4) : ∀ (p : List POp) (len dep : Int), len ≤ 16 → (surveyGo nin p len dep).isSome = true → ∀ o ∈ p, (1 ≤ o.code ∧ o.code ≤ 12) ∧ (-1000000000 ≤ o.arg ∧ o.arg ≤ 1000000000)
  | [], _, _, _, _, o, ho => by simp at ho
  | q :: p, len, dep, hl, h, o, ho => by
    simp only [surveyGo] at h
    split at h
    · rename_i hc
      rcases List.mem_cons.1 ho with rfl | ho
      · exact ⟨takesF_known hc.1.1, argF_range hc.1.2.2 h1 hl⟩
      · exact survey_range h1 p _ _ hc.2 h o ho
    · simp at h
theorem prog_range {p : List POp} {nin nout : Int} (h : progE p nin nout = 0) : (1 ≤ nin ∧ nin ≤ 4) ∧ (1 ≤ nout ∧ nout ≤ 4) ∧ (p.length : Int) ≤ 40 ∧ ∀ o ∈ p, (1 ≤ o.code ∧ o.code ≤ 12) ∧ (-1000000000 ≤ o.arg ∧ o.arg ≤ 1000000000) := by
  unfold progE at h
  split at h
  · rename_i h1
    unfold surveyF at h1
    split at h1
    · rename_i hc
      refine ⟨⟨hc.1, hc.2.1⟩, ⟨hc.2.2.1, hc.2.2.2.1⟩, hc.2.2.2.2, survey_range hc.2.1 p 0 0 (by omega) ?_⟩
      cases hs : surveyGo nin p 0 0 with
      | none => rw [hs] at h1; simp at h1
      | some _ => rfl
    · simp at h1
  · simp at h
theorem elt_kind {x : Elt} (h : eltE x = 0) : (x.kind = 1 ∧ curvesFine x.curves = true) ∨ (x.kind = 2 ∧ matFine x.rows x.offset = true) ∨ (x.kind = 3 ∧ gridE x.grid = 0) ∨ (x.kind = 4 ∧ progE x.prog x.nin x.nout = 0) := by
  unfold eltE at h
  split at h
  · rename_i h1
    unfold eltFine at h1
    split at h1
    · simp only [Bool.and_eq_true] at h1
      exact .inl ⟨‹_›, h1.2.2.2⟩
    · split at h1
      · simp only [Bool.and_eq_true] at h1
        exact .inr (.inl ⟨‹_›, h1.2.2.2⟩)
      · split at h1
        · simp only [Bool.and_eq_true, decide_eq_true_eq] at h1
          exact .inr (.inr (.inl ⟨‹_›, h1.2.2.2⟩))
        · split at h1
          · simp only [Bool.and_eq_true, decide_eq_true_eq] at h1
            exact .inr (.inr (.inr ⟨‹_›, h1.2.2.2⟩))
          · simp at h1
  · simp at h

/-! ### the closures of the writer of elements -/
theorem welt1 (x : Elt) (hx : curvesFine x.curves = true) (b nb bw bc : Nat) (s : List UInt8) (m : AM) (h : Env b nb bw bc 63 [I x.kind, .d (curvesD x.curves), .d (rowsD x.rows), .d (ints x.offset), .d (ints x.grid.size), I x.grid.out, .d (ints x.grid.data), .d (progD x.prog), I x.nin, I x.nout] s m) (hl : s.length + (w8 x.curves.length ++ x.curves.flatMap curOut).length ≤ 140737488355328) : Writes 157 [.ptr bw 0, .ptr bc 0] b nb s m (w8 x.curves.length ++ x.curves.flatMap curOut) := fun Q hQ => by
  refine ACalls.fin ?_
  have hne := h.wr.ne
  have hw := h.hw
  have hc := h.hc
  have n1 := h.n1
  have n2 := h.n2
  have n3 := h.n3
  have n4 := h.n4
  have hlb := AM.get_lt _ _ _ h.wr.hb
  have hln := AM.get_lt _ _ _ h.wr.hn
  have hlw := AM.get_lt _ _ _ hw
  have hlc := AM.get_lt _ _ _ hc
  simp only [List.length_append, w8_len, w16_len, w32_len] at hl
  simp only [← List.append_assoc] at hQ
  have hr := curves_range hx
  refine acalls_of_body Tryz.func157 (by rfl) (by rfl) (Nat.le_of_ble_eq_true rfl) ?_
  simp -dsimp (disch := omega) only [go_sem, Tryz.f157, hw, hc]
  refine wu8 _ (by omega) b nb s m h.wr (by omega) _ ?_
  simp -dsimp (disch := omega) only [go_sem, get_wrote, hw, hc]
  refine AW.loopB (ι := Nat) (fun i => i ≤ x.curves.length) (fun i => [(12, I i), (11, I x.curves.length), (10, .d (curvesD x.curves)), (0, .ptr bw 0)]) (fun i => wrote 100 b nb (s ++ putS x.curves.length 1 ++ (x.curves.take i).flatMap curOut) m) (fun i => x.curves.length - i) [] ⟨0, by simp, ?_⟩ ?_
  · rw [show (x.curves.take 0).flatMap curOut = [] by simp, List.append_nil]
    refine Weak.of ?_ (mLe.refl _)
    (simp only [frLe]; repeat' apply And.intro) <;> first | trivial | exact ⟨_, rfl, .refl _⟩
  · rintro i g1
    simp -dsimp (disch := omega) only [go_sem]
    refine Br.intro (fun h2 => ?_) (fun h2 => ?_)
    · obtain ⟨v, hv⟩ : ∃ v, x.curves[i]? = some v := ⟨_, List.getElem?_eq_getElem (by omega)⟩
      have e := flat_take curOut hv
      have le := flat_le x.curves (i + 1) curOut
      rw [e, List.length_append] at le
      simp -dsimp (disch := first | omega | (simp only [List.length_cons, AM.length_set, wrote_length]; omega)) only [go_sem, List.getD_eq_getElem?_getD, List.getElem?_map, Option.getD_some, hv, get_wrote, hw]
      refine wcur v (hr.2 v (List.mem_of_getElem? hv)) b nb _ _ (Wr.cons _ (h.wr.wrote _)) (by simp only [List.length_append, w8_len]; omega) _ ?_
      simp -dsimp (disch := first | omega | (simp only [List.length_cons, AM.length_set, wrote_length]; omega)) only [go_sem]
      refine ⟨i + 1, by omega, by omega, ?_⟩
      rw [e, ← List.append_assoc]
      refine WeakB.cut ?_ ?_ (h.wr.kept2 _ _) ?_
      · (simp only [frLe]; repeat' apply And.intro) <;> first | trivial | exact ⟨_, rfl, .refl _⟩
      · exact (Over.refl _).cons _
      · simp only [frBd, AV.bd, and_true, true_and, wrote_length]
        exact hlw
    · obtain rfl : i = x.curves.length := by omega
      rw [List.take_length]
      simp -dsimp (disch := omega) only [go_sem]
      refine ⟨_, _, .ret (.refl _), Over.refl _, h.wr.kept _, ?_, hQ⟩
      simp only [AE.bd, AV.bd, AV.bdL, and_self]

theorem welt2 (x : Elt) (hx : matFine x.rows x.offset = true) (b nb bw bc : Nat) (s : List UInt8) (m : AM) (h : Env b nb bw bc 63 [I x.kind, .d (curvesD x.curves), .d (rowsD x.rows), .d (ints x.offset), .d (ints x.grid.size), I x.grid.out, .d (ints x.grid.data), .d (progD x.prog), I x.nin, I x.nout] s m) (hl : s.length + (w8 x.rows.length ++ (w8 (x.rows.getD 0 []).length ++ (x.rows.flatMap (fun r => r.flatMap w32) ++ x.offset.flatMap w32))).length ≤ 140737488355328) : Writes 159 [.ptr bw 0, .ptr bc 0] b nb s m (w8 x.rows.length ++ (w8 (x.rows.getD 0 []).length ++ (x.rows.flatMap (fun r => r.flatMap w32) ++ x.offset.flatMap w32))) := fun Q hQ => by
  refine ACalls.fin ?_
  have hne := h.wr.ne
  have hw := h.hw
  have hc := h.hc
  have n1 := h.n1
  have n2 := h.n2
  have n3 := h.n3
  have n4 := h.n4
  have hlb := AM.get_lt _ _ _ h.wr.hb
  have hln := AM.get_lt _ _ _ h.wr.hn
  have hlw := AM.get_lt _ _ _ hw
  have hlc := AM.get_lt _ _ _ hc
  simp only [List.length_append, w8_len, w16_len, w32_len] at hl
  simp only [← List.append_assoc] at hQ
  have hr := mat_range hx
  obtain ⟨r0, h0⟩ : ∃ r0, x.rows[0]? = some r0 := ⟨_, List.getElem?_eq_getElem (by omega)⟩
  have e0 : x.rows.getD 0 [] = r0 := by rw [List.getD_eq_getElem?_getD, h0]; rfl
  rw [e0] at hr hQ
  refine acalls_of_body Tryz.func159 (by rfl) (by rfl) (Nat.le_of_ble_eq_true rfl) ?_
  simp -dsimp (disch := omega) only [go_sem, Tryz.f159, hw, hc]
  refine wu8 _ (by omega) b nb s m h.wr (by omega) _ ?_
  simp -dsimp (disch := omega) only [go_sem]
  refine ADraw.of (es := [6]) (pn := none) (T := [⟨false, true, 0, 0, 0⟩, ⟨false, false, 0, 0, 0⟩, ⟨false, true, 0, 0, 0⟩, ⟨false, false, 0, 0, 0⟩, ⟨false, true, 0, 0, 0⟩, ⟨false, false, 0, 0, 0⟩, ⟨true, true, 0, 1, 0⟩]) mixed (by kernel_rfl) ?_
  simp -dsimp (disch := omega) only [go_sem, get_wrote, hw, hc, List.getD_eq_getElem?_getD, List.getElem?_map, Option.getD_some, h0]
  refine wDCall.turn (.tup []) _ (wu8 _ (by omega) b nb _ _ (h.wr.wrote _) (by simp only [List.length_append, w8_len]; omega) _ ⟨rfl, rfl⟩) ?_
  simp -dsimp (disch := omega) only [go_sem, get_wrote, hw, hc, List.getD_eq_getElem?_getD, List.getElem?_map, Option.getD_some, h0]
  refine AW.loop (ι := Nat) (fun i => i ≤ x.rows.length) (fun i => [(19, I i), (18, I x.rows.length), (17, .d (rowsD x.rows)), (0, .ptr bw 0), (1, .ptr bc 0)]) (fun i => wrote 100 b nb (s ++ putS x.rows.length 1 ++ putS r0.length 1 ++ (x.rows.take i).flatMap (fun r => r.flatMap w32)) m) (fun i => x.rows.length - i) [] ⟨0, by simp, ?_⟩ ?_
  · rw [show (x.rows.take 0).flatMap (fun r => r.flatMap w32) = [] by simp, List.append_nil]
    refine Weak.of ?_ (mLe.refl _)
    (simp only [frLe]; repeat' apply And.intro) <;> first | trivial | exact ⟨_, rfl, .refl _⟩
  · rintro i g1
    simp -dsimp (disch := omega) only [go_sem]
    refine Br.intro (fun h2 => ?_) (fun h2 => ?_)
    · obtain ⟨v, hv⟩ : ∃ v, x.rows[i]? = some v := ⟨_, List.getElem?_eq_getElem (by omega)⟩
      have e := flat_take (fun r : List Int => r.flatMap w32) hv
      have le := flat_le x.rows (i + 1) (fun r => r.flatMap w32)
      rw [e, List.length_append] at le
      have hvr := hr.2.2.2.1 v (List.mem_of_getElem? hv)
      simp -dsimp (disch := first | omega | (simp only [List.length_cons, AM.length_set, wrote_length]; omega)) only [go_sem, List.getD_eq_getElem?_getD, List.getElem?_map, Option.getD_some, hv, get_wrote, hw]
      refine wnums w32 84 v b nb _ _ (h.wr.wrote _) (by omega) (by simp only [List.length_append, w8_len]; omega) (fun n hn s hs m h => ws32 n (by have := hvr.2 n hn; omega) b nb s m h hs) _ ?_
      simp -dsimp (disch := first | omega | (simp only [List.length_cons, AM.length_set, wrote_length]; omega)) only [go_sem]
      refine ⟨i + 1, by omega, by omega, ?_⟩
      rw [e, ← List.append_assoc]
      refine Weak.of ?_ (mLe.refl _)
      (simp only [frLe]; repeat' apply And.intro) <;> first | trivial | exact ⟨_, rfl, .refl _⟩
    · obtain rfl : i = x.rows.length := by omega
      rw [List.take_length]
      simp -dsimp (disch := omega) only [go_sem, get_wrote, hw, hc]
      refine wnums w32 84 x.offset b nb _ _ (h.wr.wrote _) (by omega) (by simp only [List.length_append, w8_len]; omega) (fun n hn s hs m h => ws32 n (by have := hr.2.2.2.2 n hn; omega) b nb s m h hs) _ ?_
      simp -dsimp (disch := omega) only [go_sem]
      refine ⟨_, _, .ret (.refl _), Over.refl _, h.wr.kept _, ?_, hQ⟩
      simp only [AE.bd, AV.bd, AV.bdL, and_self]
theorem welt3 (x : Elt) (hx : gridE x.grid = 0) (b nb bw bc : Nat) (s : List UInt8) (m : AM) (h : Env b nb bw bc 63 [I x.kind, .d (curvesD x.curves), .d (rowsD x.rows), .d (ints x.offset), .d (ints x.grid.size), I x.grid.out, .d (ints x.grid.data), .d (progD x.prog), I x.nin, I x.nout] s m) (hl : s.length + (w8 x.grid.size.length ++ (x.grid.size.flatMap w8 ++ (w8 x.grid.out ++ x.grid.data.flatMap w16))).length ≤ 140737488355328) : Writes 160 [.ptr bw 0, .ptr bc 0] b nb s m (w8 x.grid.size.length ++ (x.grid.size.flatMap w8 ++ (w8 x.grid.out ++ x.grid.data.flatMap w16))) := fun Q hQ => by
  refine ACalls.fin ?_
  have hne := h.wr.ne
  have hw := h.hw
  have hc := h.hc
  have n1 := h.n1
  have n2 := h.n2
  have n3 := h.n3
  have n4 := h.n4
  have hlb := AM.get_lt _ _ _ h.wr.hb
  have hln := AM.get_lt _ _ _ h.wr.hn
  have hlw := AM.get_lt _ _ _ hw
  have hlc := AM.get_lt _ _ _ hc
  simp only [List.length_append, w8_len, w16_len, w32_len] at hl
  simp only [← List.append_assoc] at hQ
  have hr := grid_range hx
  refine acalls_of_body Tryz.func160 (by rfl) (by rfl) (Nat.le_of_ble_eq_true rfl) ?_
  simp -dsimp (disch := omega) only [go_sem, Tryz.f160, hw, hc]
  refine wu8 _ (by omega) b nb s m h.wr (by omega) _ ?_
  simp -dsimp (disch := omega) only [go_sem, get_wrote, hw, hc]
  refine wnums w8 79 x.grid.size b nb _ _ (h.wr.wrote _) (by omega) (by simp only [List.length_append, w8_len, w16_len, w32_len]; omega) (fun n hn s hs m h => wu8 n (by have := hr.2.2.1 n hn; omega) b nb s m h hs) _ ?_
  simp -dsimp (disch := omega) only [go_sem, get_wrote, hw, hc]
  refine wu8 _ (by omega) b nb _ _ (h.wr.wrote _) (by simp only [List.length_append, w8_len, w16_len, w32_len]; omega) _ ?_
  simp -dsimp (disch := omega) only [go_sem, get_wrote, hw, hc]
  refine wnums w16 81 x.grid.data b nb _ _ (h.wr.wrote _) (by omega) (by simp only [List.length_append, w8_len, w16_len, w32_len]; omega) (fun n hn s hs m h => wu16 n (hr.2.2.2.2 n hn) b nb s m h hs) _ ?_
  simp -dsimp (disch := omega) only [go_sem]
  refine ⟨_, _, .ret (.refl _), Over.refl _, h.wr.kept _, ?_, hQ⟩
  simp only [AE.bd, AV.bd, AV.bdL, and_self]

def opOut (o : POp) : List UInt8 := w8 o.code ++ w32 o.arg
theorem opOut_len (o : POp) : (opOut o).length = 5 := rfl
theorem welt4 (x : Elt) (hx : progE x.prog x.nin x.nout = 0) (b nb bw bc : Nat) (s : List UInt8) (m : AM) (h : Env b nb bw bc 63 [I x.kind, .d (curvesD x.curves), .d (rowsD x.rows), .d (ints x.offset), .d (ints x.grid.size), I x.grid.out, .d (ints x.grid.data), .d (progD x.prog), I x.nin, I x.nout] s m) (hl : s.length + (w8 x.nin ++ (w8 x.nout ++ (w8 x.prog.length ++ x.prog.flatMap opOut))).length ≤ 140737488355328) : Writes 161 [.ptr bw 0, .ptr bc 0] b nb s m (w8 x.nin ++ (w8 x.nout ++ (w8 x.prog.length ++ x.prog.flatMap opOut))) := fun Q hQ => by
  refine ACalls.fin ?_
  have hne := h.wr.ne
  have hw := h.hw
  have hc := h.hc
  have n1 := h.n1
  have n2 := h.n2
  have n3 := h.n3
  have n4 := h.n4
  have hlb := AM.get_lt _ _ _ h.wr.hb
  have hln := AM.get_lt _ _ _ h.wr.hn
  have hlw := AM.get_lt _ _ _ hw
  have hlc := AM.get_lt _ _ _ hc
  simp only [List.length_append, w8_len, w16_len, w32_len] at hl
  simp only [← List.append_assoc] at hQ
  have hr := prog_range hx
  refine acalls_of_body Tryz.func161 (by rfl) (by rfl) (Nat.le_of_ble_eq_true rfl) ?_
  simp -dsimp (disch := omega) only [go_sem, Tryz.f161, hw, hc]
  refine wu8 _ (by omega) b nb s m h.wr (by omega) _ ?_
  simp -dsimp (disch := omega) only [go_sem, get_wrote, hw, hc]
  refine wu8 _ (by omega) b nb _ _ (h.wr.wrote _) (by simp only [List.length_append, w8_len, w16_len, w32_len]; omega) _ ?_
  simp -dsimp (disch := omega) only [go_sem, get_wrote, hw, hc]
  refine wu8 _ (by omega) b nb _ _ (h.wr.wrote _) (by simp only [List.length_append, w8_len, w16_len, w32_len]; omega) _ ?_
  simp -dsimp (disch := omega) only [go_sem, get_wrote, hw, hc]
  refine AW.loopB (ι := Nat) (fun i => i ≤ x.prog.length) (fun i => [(20, I i), (19, I x.prog.length), (18, .d (progD x.prog)), (0, .ptr bw 0)]) (fun i => wrote 100 b nb (s ++ putS x.nin 1 ++ putS x.nout 1 ++ putS x.prog.length 1 ++ (x.prog.take i).flatMap opOut) m) (fun i => x.prog.length - i) [] ⟨0, by simp, ?_⟩ ?_
  · rw [show (x.prog.take 0).flatMap opOut = [] by simp, List.append_nil]
    refine Weak.of ?_ (mLe.refl _)
    (simp only [frLe]; repeat' apply And.intro) <;> first | trivial | exact ⟨_, rfl, .refl _⟩
  · rintro i g1
    simp -dsimp (disch := omega) only [go_sem]
    refine Br.intro (fun h2 => ?_) (fun h2 => ?_)
    · obtain ⟨v, hv⟩ : ∃ v, x.prog[i]? = some v := ⟨_, List.getElem?_eq_getElem (by omega)⟩
      have e := flat_take opOut hv
      have le := flat_le x.prog (i + 1) opOut
      rw [e, List.length_append, opOut_len] at le
      have hvr := hr.2.2.2 v (List.mem_of_getElem? hv)
      simp -dsimp (disch := first | omega | (simp only [List.length_cons, AM.length_set, wrote_length]; omega)) only [go_sem, List.getD_eq_getElem?_getD, List.getElem?_map, Option.getD_some, hv, get_wrote, hw]
      refine wu8 _ (by omega) b nb _ _ (Wr.cons _ (h.wr.wrote _)) (by simp only [List.length_append, w8_len, w16_len, w32_len]; omega) _ ?_
      simp -dsimp (disch := first | omega | (simp only [List.length_cons, AM.length_set, wrote_length]; omega)) only [go_sem, get_wrote, hw]
      refine ws32 _ (by omega) b nb _ _ (Wr.cons _ (h.wr.wrote _)) (by simp only [List.length_append, w8_len, w16_len, w32_len]; omega) _ ?_
      simp -dsimp (disch := first | omega | (simp only [List.length_cons, AM.length_set, wrote_length]; omega)) only [go_sem]
      refine ⟨i + 1, by omega, by omega, ?_⟩
      rw [e]
      unfold opOut
      simp only [← List.append_assoc]
      refine WeakB.cut ?_ ?_ (h.wr.kept2 _ _) ?_
      · (simp only [frLe]; repeat' apply And.intro) <;> first | trivial | exact ⟨_, rfl, .refl _⟩
      · exact (Over.refl _).cons _
      · simp only [frBd, AV.bd, and_true, true_and, wrote_length]
        exact hlw
    · obtain rfl : i = x.prog.length := by omega
      rw [List.take_length]
      simp -dsimp (disch := omega) only [go_sem]
      refine ⟨_, _, .ret (.refl _), Over.refl _, h.wr.kept _, ?_, hQ⟩
      simp only [AE.bd, AV.bd, AV.bdL, and_self]

def eltOut (x : Elt) : List UInt8 := w8 x.kind ++ (if x.kind = 1 then w8 x.curves.length ++ x.curves.flatMap curOut
  else if x.kind = 2 then w8 x.rows.length ++ (w8 (x.rows.getD 0 []).length ++ (x.rows.flatMap (fun r => r.flatMap w32) ++ x.offset.flatMap w32))
  else if x.kind = 3 then w8 x.grid.size.length ++ (x.grid.size.flatMap w8 ++ (w8 x.grid.out ++ x.grid.data.flatMap w16))
  else w8 x.nin ++ (w8 x.nout ++ (w8 x.prog.length ++ x.prog.flatMap opOut)))

theorem welt (x : Elt) (hv : eltE x = 0) (b nb : Nat) (s : List UInt8) (m : AM) (h : Wr b nb s m) (hl : s.length + (eltOut x).length ≤ 140737488355328) : Writes 123 [.ptr b 0, Elt.enc x] b nb s m (eltOut x) := fun Q hQ => by
  refine ACalls.fin ?_
  have hne := h.ne
  have hlb := AM.get_lt _ _ _ h.hb
  have hln := AM.get_lt _ _ _ h.hn
  have hk := elt_kind hv
  unfold eltOut at hQ hl
  rw [List.length_append, w8_len] at hl
  refine acalls_of_body Tryz.func123 (by rfl) (by rfl) (Nat.le_of_ble_eq_true rfl) ?_
  simp -dsimp (disch := omega) only [go_sem, Tryz.f123]
  refine wu8 x.kind (by omega) b nb s _ ((h.cons _).cons _) (by omega) _ ?_
  simp -dsimp (disch := first | omega | (simp only [List.length_cons, AM.length_set, wrote_length]; omega)) only [go_sem]
  rcases hk with ⟨k, hx⟩ | ⟨k, hx⟩ | ⟨k, hx⟩ | ⟨k, hx⟩
  · rw [if_pos k] at hQ hl
    simp -dsimp (disch := first | omega | (simp only [List.length_cons, AM.length_set, wrote_length]; omega)) only [go_sem, k]
    refine welt1 x hx b nb m.length (m.length + 1) _ _ ⟨(((h.wrote _).cons _).cons _).cons _, by simp -dsimp (disch := first | omega | (simp only [List.length_cons, AM.length_set, wrote_length]; omega)) only [go_sem], by simp -dsimp (disch := first | omega | (simp only [List.length_cons, AM.length_set, wrote_length]; omega)) only [go_sem, k], by omega, by omega, by omega, by omega⟩ (by rw [List.length_append, w8_len]; omega) _ ?_
    simp -dsimp (disch := first | omega | (simp only [List.length_cons, AM.length_set, wrote_length]; omega)) only [go_sem]
    rw [k, ← List.append_assoc] at hQ
    refine ⟨_, _, .ret (.refl _), ?_, h.kept _, ?_, hQ⟩
    · repeat (first | exact Over.refl _ | apply Over.cons)
    · simp only [AE.bd, AV.bd, AV.bdL, and_self]
  · rw [if_neg (show ¬ x.kind = 1 by omega), if_pos k] at hQ hl
    simp -dsimp (disch := first | omega | (simp only [List.length_cons, AM.length_set, wrote_length]; omega)) only [go_sem, k]
    refine welt2 x hx b nb m.length (m.length + 1) _ _ ⟨(((h.wrote _).cons _).cons _).cons _, by simp -dsimp (disch := first | omega | (simp only [List.length_cons, AM.length_set, wrote_length]; omega)) only [go_sem], by simp -dsimp (disch := first | omega | (simp only [List.length_cons, AM.length_set, wrote_length]; omega)) only [go_sem, k], by omega, by omega, by omega, by omega⟩ (by rw [List.length_append, w8_len]; omega) _ ?_
    simp -dsimp (disch := first | omega | (simp only [List.length_cons, AM.length_set, wrote_length]; omega)) only [go_sem]
    rw [k, ← List.append_assoc] at hQ
    refine ⟨_, _, .ret (.refl _), ?_, h.kept _, ?_, hQ⟩
    · repeat (first | exact Over.refl _ | apply Over.cons)
    · simp only [AE.bd, AV.bd, AV.bdL, and_self]
  · rw [if_neg (show ¬ x.kind = 1 by omega), if_neg (show ¬ x.kind = 2 by omega), if_pos k] at hQ hl
    simp -dsimp (disch := first | omega | (simp only [List.length_cons, AM.length_set, wrote_length]; omega)) only [go_sem, k]
    refine welt3 x hx b nb m.length (m.length + 1) _ _ ⟨(((h.wrote _).cons _).cons _).cons _, by simp -dsimp (disch := first | omega | (simp only [List.length_cons, AM.length_set, wrote_length]; omega)) only [go_sem], by simp -dsimp (disch := first | omega | (simp only [List.length_cons, AM.length_set, wrote_length]; omega)) only [go_sem, k], by omega, by omega, by omega, by omega⟩ (by rw [List.length_append, w8_len]; omega) _ ?_
    simp -dsimp (disch := first | omega | (simp only [List.length_cons, AM.length_set, wrote_length]; omega)) only [go_sem]
    rw [k, ← List.append_assoc] at hQ
    refine ⟨_, _, .ret (.refl _), ?_, h.kept _, ?_, hQ⟩
    · repeat (first | exact Over.refl _ | apply Over.cons)
    · simp only [AE.bd, AV.bd, AV.bdL, and_self]
  · rw [if_neg (show ¬ x.kind = 1 by omega), if_neg (show ¬ x.kind = 2 by omega), if_neg (show ¬ x.kind = 3 by omega)] at hQ hl
    simp -dsimp (disch := first | omega | (simp only [List.length_cons, AM.length_set, wrote_length]; omega)) only [go_sem, k]
    refine welt4 x hx b nb m.length (m.length + 1) _ _ ⟨(((h.wrote _).cons _).cons _).cons _, by simp -dsimp (disch := first | omega | (simp only [List.length_cons, AM.length_set, wrote_length]; omega)) only [go_sem], by simp -dsimp (disch := first | omega | (simp only [List.length_cons, AM.length_set, wrote_length]; omega)) only [go_sem, k], by omega, by omega, by omega, by omega⟩ (by rw [List.length_append, w8_len]; omega) _ ?_
    simp -dsimp (disch := first | omega | (simp only [List.length_cons, AM.length_set, wrote_length]; omega)) only [go_sem]
    rw [k, ← List.append_assoc] at hQ
    refine ⟨_, _, .ret (.refl _), ?_, h.kept _, ?_, hQ⟩
    · repeat (first | exact Over.refl _ | apply Over.cons)
    · simp only [AE.bd, AV.bd, AV.bdL, and_self]

def chnOut (c : Chn) : List UInt8 := w8 c.nin ++ (w8 c.elts.length ++ c.elts.flatMap eltOut)
theorem chn_range {c : Chn} (h : chnE c = 0) : (1 ≤ c.nin ∧ c.nin ≤ 4) ∧ (c.elts.length : Int) ≤ 8 ∧ ∀ x ∈ c.elts, eltE x = 0 := by
  unfold chnE at h
  split at h
  · rename_i h1
    simp only [chnFine, Bool.and_eq_true, decide_eq_true_eq, List.all_eq_true] at h1
    refine ⟨h1.1.1, h1.1.2, fun x hx => ?_⟩
    obtain ⟨i, hi⟩ := List.mem_iff_getElem?.1 hx
    have := h1.2 i (List.mem_range.2 (List.getElem?_eq_some_iff.1 hi).1)
    simp only [contC, hi, decide_eq_true_eq] at this
    exact this.1
  · simp at h

theorem wchn (c : Chn) (hv : chnE c = 0) (b nb : Nat) (s : List UInt8) (m : AM) (h : Wr b nb s m) (hl : s.length + (chnOut c).length ≤ 140737488355328) : Writes 86 [.ptr b 0, Chn.enc c] b nb s m (chnOut c) := fun Q hQ => by
  refine ACalls.fin ?_
  have hne := h.ne
  have hlb := AM.get_lt _ _ _ h.hb
  have hln := AM.get_lt _ _ _ h.hn
  have hr := chn_range hv
  unfold chnOut at hQ hl
  simp only [List.length_append, w8_len] at hl
  simp only [← List.append_assoc] at hQ
  refine acalls_of_body Tryz.func86 (by rfl) (by rfl) (Nat.le_of_ble_eq_true rfl) ?_
  simp -dsimp (disch := omega) only [go_sem, Tryz.f86]
  refine wu8 _ (by omega) b nb _ _ (h.cons _) (by omega) _ ?_
  simp -dsimp (disch := first | omega | (simp only [List.length_cons, AM.length_set, wrote_length]; omega)) only [go_sem]
  refine wu8 _ (by omega) b nb _ _ ((h.wrote _).cons _) (by simp only [List.length_append, w8_len, w16_len, w32_len]; omega) _ ?_
  simp -dsimp (disch := first | omega | (simp only [List.length_cons, AM.length_set, wrote_length]; omega)) only [go_sem]
  refine AW.loopB (ι := Nat) (fun i => i ≤ c.elts.length) (fun i => [(18, I i), (17, I c.elts.length), (16, .d (eltsD c.elts)), (0, .ptr b 0)]) (fun i => some (.cells 39 [I c.nin, .d (eltsD c.elts)]) :: wrote 100 b nb (s ++ putS c.nin 1 ++ putS c.elts.length 1 ++ (c.elts.take i).flatMap eltOut) m) (fun i => c.elts.length - i) [] ⟨0, by simp, ?_⟩ ?_
  · rw [show (c.elts.take 0).flatMap eltOut = [] by simp, List.append_nil]
    refine Weak.of ?_ (mLe.refl _)
    (simp only [frLe]; repeat' apply And.intro) <;> first | trivial | exact ⟨_, rfl, .refl _⟩
  · rintro i g1
    simp -dsimp (disch := omega) only [go_sem]
    refine Br.intro (fun h2 => ?_) (fun h2 => ?_)
    · obtain ⟨v, hv⟩ : ∃ v, c.elts[i]? = some v := ⟨_, List.getElem?_eq_getElem (by omega)⟩
      have e := flat_take eltOut hv
      have le := flat_le c.elts (i + 1) eltOut
      rw [e, List.length_append] at le
      simp -dsimp (disch := first | omega | (simp only [List.length_cons, AM.length_set, wrote_length]; omega)) only [go_sem, List.getD_eq_getElem?_getD, List.getElem?_map, Option.getD_some, hv]
      refine welt v (hr.2.2 v (List.mem_of_getElem? hv)) b nb _ _ (((h.wrote _).cons _).cons _) (by simp only [List.length_append, w8_len, w16_len, w32_len]; omega) _ ?_
      simp -dsimp (disch := first | omega | (simp only [List.length_cons, AM.length_set, wrote_length]; omega)) only [go_sem]
      refine ⟨i + 1, by omega, by omega, ?_⟩
      rw [e, ← List.append_assoc]
      refine WeakB.cut ?_ ?_ (kept_app (h.kept2 _ _) (by rw [wrote_length, wrote_length]) [_]) ?_
      · (simp only [frLe]; repeat' apply And.intro) <;> first | trivial | exact ⟨_, rfl, .refl _⟩
      · exact (Over.refl _).cons _
      · simp only [frBd, AV.bd, and_true, true_and, List.length_cons, wrote_length]
        omega
    · obtain rfl : i = c.elts.length := by omega
      rw [List.take_length]
      simp -dsimp (disch := omega) only [go_sem]
      refine ⟨_, _, .ret (.refl _), (Over.refl _).cons _, h.kept _, ?_, hQ⟩
      simp only [AE.bd, AV.bd, AV.bdL, and_self]
end Go.Proofs.YtbdefaebbicfjaaGreat
