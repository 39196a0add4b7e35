/- Curves: the pieces of a formula, and the check. -/
import Derived.Test.YtbdefaebbicfjaaGreatK6
set_option linter.all false
namespace Go.Proofs.YtbdefaebbicfjaaGreat
open Go Go.Ab Go.RowKit
set_option maxHeartbeats 400000
set_option maxRecDepth 10000

abbrev pieceV (o : Seg) (fr : Int) (first : Bool) : AV := .agg [I o.till, I o.mul, I o.add, I o.num, I o.den, I o.off, I fr, B first]
/-- Where the segment i begins. -/
def from_ (l : List Seg) (i : Nat) : Int := if i = 0 then 0 else ((l[i - 1]?).map (·.till)).getD 0
def segsOk (l : List Seg) : Bool := (List.range l.length).all fun i => ((l[i]?).map (segOk (from_ l i))).getD true

theorem set_comm {n k : Nat} (h : n ≠ k) (a b : Option ABlk) : ∀ (m : AM), AM.set (AM.set m n a) k b = AM.set (AM.set m k b) n a
  | [] => rfl
  | x :: t => by
    simp only [set_cons]
    by_cases h1 : n = t.length
    · by_cases h2 : k = t.length
      · omega
      · simp only [h1, if_true, set_cons, AM.length_set, if_neg h2]
    · by_cases h2 : k = t.length
      · simp only [h2, if_true, if_neg h1, set_cons, AM.length_set]
      · simp only [if_neg h1, if_neg h2, set_cons, AM.length_set, set_comm h a b t]

theorem kept_app {M Mb : AM} (hk : Kept M Mb) (hl : Mb.length = M.length) : ∀ (pre : AM), Kept (pre ++ M) (pre ++ Mb)
  | [] => hk
  | x :: pre => by
    have ih := kept_app hk hl pre
    refine ⟨by simp [hl], fun n y hy => ?_⟩
    have hy' : AM.get (x :: (pre ++ Mb)) n = some y := hy
    rw [get_cons] at hy'
    split at hy'
    · rename_i e
      left
      show AM.get (x :: (pre ++ M)) n = some y
      rw [get_cons, if_pos (by rw [e]; simp [hl]), hy']
    · rename_i e
      rcases ih.get n y hy' with h | h
      · left
        show AM.get (x :: (pre ++ M)) n = some y
        rw [get_cons, if_neg (by simpa [hl] using e), h]
      · exact .inr (ABlk.bd_mono (by simp) h)

theorem over_set {m : AM} : ∀ {M : AM}, Over m M → ∀ (k : Nat) (x : Option ABlk), m.length ≤ k → Over m (AM.set M k x) := by
  rintro M ⟨pre, rfl⟩ k x hk
  induction pre with
  | nil =>
    have key : ∀ (t : AM), t.length ≤ k → AM.set t k x = t := by
      intro t
      induction t with
      | nil => intro _; rfl
      | cons y t ih =>
        intro h
        rw [set_cons, if_neg (by simp at h; omega), ih (by simp at h; omega)]
    show Over m (AM.set m k x)
    rw [key m hk]
    exact Over.refl m
  | cons y pre ih =>
    show Over m (AM.set (y :: (pre ++ m)) k x)
    rw [set_cons]
    split
    · exact ⟨x :: pre, rfl⟩
    · exact ih.cons y

/-- All pieces are yielded, up to the first that isn't taken. -/
theorem pieces1 (c : Cur) (hlen : c.segs.length ≤ 4) (b n : Nat) (M Mb : AM) (hb : M.get b = some (.cells 56 [I c.kind, .d (ints c.table), .d (segsD c.segs)])) (hk : Kept M Mb)
    (hround : ∀ (i : Nat) (o : Seg) (pre : AM) (Qr : AE → AM → Prop), 0 ≤ from_ c.segs i ∧ from_ c.segs i ≤ 1000000 → c.segs[i]? = some o → (if segOk (from_ c.segs i) o = true then Qr (.ret (B true)) (pre ++ M) else Qr (.ret (B false)) (pre ++ Mb)) → ARound Tryz.prog n [pieceV o (from_ c.segs i) (decide (i = 0))] (pre ++ M) Qr)
    (hnM : n < M.length) (Q : AE → AM → Prop) (hQ : if segsOk c.segs = true then Q (.ret (.tup [])) M else Q (.ret (.tup [])) Mb) : ACalls Tryz.prog 220 [.yl n, .ptr b 0] M Q := by
  refine ACalls.fin ?_
  have hlt := AM.get_lt _ _ _ hb
  refine acalls_of_body Tryz.func220 (by rfl) (by rfl) (Nat.le_of_ble_eq_true rfl) ?_
  simp -dsimp (disch := omega) only [go_sem, Tryz.f220, hb]
  refine AW.loopB (ι := Nat) (fun i => i ≤ c.segs.length ∧ (0 ≤ from_ c.segs i ∧ from_ c.segs i ≤ 1000000) ∧ ∀ j o, j < i → c.segs[j]? = some o → segOk (from_ c.segs j) o = true) (fun i => [(0, .yl n), (1, .ptr b 0), (3, I (from_ c.segs i)), (7, .d (segsD c.segs)), (8, I c.segs.length), (9, I i)]) (fun _ => M) (fun i => c.segs.length - i) [] ⟨0, ⟨by simp, by simp [from_], by omega⟩, Weak.of ?_ (mLe.refl _)⟩ ?_
  · (simp only [frLe]; repeat' apply And.intro) <;> first | trivial | exact ⟨_, rfl, .refl _⟩
  · rintro i ⟨g1, g3, g2⟩
    simp -dsimp (disch := omega) only [go_sem]
    refine Br.intro (fun h => ?_) (fun h => ?_)
    · obtain ⟨o, ho⟩ : ∃ o, c.segs[i]? = some o := ⟨_, List.getElem?_eq_getElem (by omega)⟩
      simp -dsimp (disch := omega) only [go_sem, List.getD_eq_getElem?_getD, List.getElem?_map, Option.getD_some, ho]
      rw [show decide ((i : Int) = 0) = decide (i = 0) from decide_eq_decide.2 (by omega)]
      refine hround i o [_] _ g3 ho ?_
      by_cases hv : segOk (from_ c.segs i) o = true
      · rw [if_pos hv]
        simp -dsimp (disch := omega) only [go_sem]
        have e1 : from_ c.segs (i + 1) = o.till := by simp [from_, ho]
        have hv' := hv
        simp only [segOk, Bool.and_eq_true, decide_eq_true_eq] at hv'
        refine ⟨i + 1, ⟨by omega, by rw [e1]; omega, fun j u hj hu => ?_⟩, by omega, WeakB.cut ?_ ((Over.refl _).cons _) (Kept.refl _) ?_⟩
        · by_cases e : j = i
          · subst e
            rw [ho] at hu
            cases hu
            exact hv
          · exact g2 j u (by omega) hu
        · have e1 : from_ c.segs (i + 1) = o.till := by simp [from_, ho]
          rw [e1]
          (simp only [frLe]; repeat' apply And.intro) <;> first | trivial | exact ⟨_, rfl, .refl _⟩
        · simp only [frBd, AV.bd, and_true, true_and]
          exact ⟨hnM, hlt⟩
      · rw [if_neg hv]
        have hno : segsOk c.segs = false := by
          unfold segsOk
          rw [List.all_eq_false]
          exact ⟨i, List.mem_range.2 (by omega), by simpa [ho] using hv⟩
        rw [if_neg (by simp [hno])] at hQ
        simp -dsimp (disch := omega) only [go_sem]
        refine ⟨_, _, .ret (.refl _), (Over.refl _).cons _, hk, ?_, hQ⟩
        simp only [AE.bd, AV.bd, AV.bdL, and_self]
    · have hyes : segsOk c.segs = true := by
        unfold segsOk
        rw [List.all_eq_true]
        intro j hj
        rw [List.mem_range] at hj
        obtain ⟨o, ho⟩ : ∃ o, c.segs[j]? = some o := ⟨_, List.getElem?_eq_getElem hj⟩
        rw [ho]
        exact g2 j o (by omega) ho
      rw [if_pos hyes] at hQ
      simp -dsimp (disch := omega) only [go_sem]
      refine ⟨_, _, .ret (.refl _), Over.refl _, Kept.refl _, ?_, hQ⟩
      simp only [AE.bd, AV.bd, AV.bdL, and_self]

theorem pieces (c : Cur) (m : AM) (Q : AE → AM → Prop) (hQ : Q (.ret (.fn (.func 220) [] [.ptr m.length 0])) (some (.cells 56 [I c.kind, .d (ints c.table), .d (segsD c.segs)]) :: m)) : ACalls Tryz.prog 213 [Cur.enc c] m Q := by
  refine acalls_of_body Tryz.func213 (by rfl) (by rfl) (Nat.le_of_ble_eq_true rfl) ?_
  simp -dsimp (disch := omega) only [go_sem, Tryz.f213]
  exact hQ

theorem checkSegments (c : Cur) (m : AM) (Q : AE → AM → Prop) (hQ : Q (.ret (B (decide (1 ≤ c.segs.length ∧ c.segs.length ≤ 4) && segsOk c.segs && decide ((c.segs.getLast?.map (·.till)) = some 1000000)))) m) : ACalls Tryz.prog 200 [Cur.enc c] m Q := by
  refine ACalls.cut0 hQ (by simp only [AE.bd, AV.bd, AV.bdL, and_self]) ?_
  refine acalls_of_bodyM Tryz.func200 (by rfl) (by rfl) (Nat.le_of_ble_eq_true rfl) ?_
  simp -dsimp (disch := omega) only [go_sem, Tryz.f200]
  by_cases c1 : (c.segs.length : Int) < 1
  · simp -dsimp (disch := omega) only [go_sem, c1]
    rw [show decide (1 ≤ c.segs.length ∧ c.segs.length ≤ 4) = false by simp; omega, Bool.false_and, Bool.false_and]
    refine ⟨rfl, ?_⟩
    repeat (first | exact Over.refl _ | apply Over.cons)
  by_cases c2 : (4 : Int) < c.segs.length
  · simp -dsimp (disch := omega) only [go_sem, c1, c2]
    rw [show decide (1 ≤ c.segs.length ∧ c.segs.length ≤ 4) = false by simp; omega, Bool.false_and, Bool.false_and]
    refine ⟨rfl, ?_⟩
    repeat (first | exact Over.refl _ | apply Over.cons)
  simp -dsimp (disch := omega) only [go_sem, c1, c2]
  refine pieces c _ _ ?_
  simp -dsimp (disch := omega) only [go_sem]
  refine AW.range (fid := 220) (fs := []) (cs := [.ptr (m.length + 2) 0]) (by rfl) (by kernel_rfl) ?_
  intro r r1 r2 r3 r4 r5 r6
  simp only [List.length_cons, List.nil_append, List.cons_append]
  generalize hFR : ([(16, AV.fn (Fn.func 220) [] [AV.ptr (List.length m + 1 + 1) 0]), (15, _), (3, AV.ptr (List.length m + 1) 0), (14, _), (13, _), (12, _), (11, _), (10, _), (9, _), (8, _), (7, _), (6, _), (5, _), (2, _), (1, AV.ptr (List.length m) 0), (0, c.enc)] : List (Nat × AV)) = FR
  have q1 : fget FR 1 = some (.ptr m.length 0) := by subst hFR; rfl
  have q2 : fget FR 2 = some (B false) := by subst hFR; rfl
  have q3 : fget FR 3 = some (.ptr (m.length + 1) 0) := by subst hFR; rfl
  have q4 : frBd (m.length + 5) FR := by
    subst hFR
    simp only [frBd, AV.bd, AV.bdL, and_true, true_and]
    omega
  clear hFR
  generalize hM : (some (ABlk.loop r FR) :: _ : AM) = M
  have hMl : M.length = m.length + 5 := by subst hM; simp only [List.length_cons]
  have f4 : AM.get M (m.length + 4) = some (.loop r FR) := by subst hM; simp -dsimp (disch := omega) only [go_sem]
  have f3 : AM.get M (m.length + 3) = some .dfr := by subst hM; simp -dsimp (disch := omega) only [go_sem]
  have f2 : AM.get M (m.length + 2) = some (.cells 56 [I c.kind, .d (ints c.table), .d (segsD c.segs)]) := by subst hM; simp -dsimp (disch := omega) only [go_sem]
  have f1 : AM.get M (m.length + 1) = some (.cells 4 [B true]) := by subst hM; simp -dsimp (disch := omega) only [go_sem]
  have f0 : AM.get M m.length = some (.cells 56 [I c.kind, .d (ints c.table), .d (segsD c.segs)]) := by subst hM; simp -dsimp (disch := omega) only [go_sem]
  have hov : Over m M := by subst hM; repeat (first | exact Over.refl _ | apply Over.cons)
  refine pieces1 c (by omega) (m.length + 2) (m.length + 4) M (AM.set (AM.set M (m.length + 1) (some (.cells 4 [B false]))) (m.length + 4) (some (.loop { r with state := .done, pending := some (.exit 0) } FR))) f2 ?_ ?_ (by omega) _ ?_
  · refine ((Kept.refl M).set ?_).set ?_
    · simp only [ABlk.bd, AV.bd, AV.bdL, and_self]
    · intro s v hv
      rw [AM.length_set, hMl]
      exact frBd_get q4 s v hv
  · intro i o pre Qr hfr ho hv
    refine ARound.fin ?_
    have a4 := get_app M pre (m.length + 4) (by omega)
    have l1 : m.length + 1 < List.length M := by omega
    have l4 : m.length + 4 < List.length M := by omega
    have s4 := fun x => set_app M pre (m.length + 4) x l4
    refine ARound.of (nt := 34) (fr := FR) (ps := [17]) (a4.trans f4) r1 ⟨r3, r4, r5, r6⟩ rfl (by simp) (by rfl) (by rfl) ?_
    simp -dsimp (disch := omega) only [go_sem, q1, q2, q3, List.length_append, a4, f4]
    refine ⟨r, rfl, r1, ?_⟩
    simp -dsimp (disch := omega) only [go_sem, q1, q2, q3, List.length_append, a4, f4, s4]
    refine valid o _ ?_ ?_ _ _ _ ?_
    · omega
    · omega
    have g4 : ∀ X : AM, List.length X = List.length M → AM.get (pre ++ X) (m.length + 4) = AM.get X (m.length + 4) := fun X hX => get_app X pre _ (by omega)
    have t4 : ∀ (X : AM) x, List.length X = List.length M → AM.set (pre ++ X) (m.length + 4) x = pre ++ AM.set X (m.length + 4) x := fun X x hX => set_app X pre _ x (by omega)
    have t1 : ∀ (X : AM) x, List.length X = List.length M → AM.set (pre ++ X) (m.length + 1) x = pre ++ AM.set X (m.length + 1) x := fun X x hX => set_app X pre _ x (by omega)
    have g1 : ∀ X : AM, List.length X = List.length M → AM.get (pre ++ X) (m.length + 1) = AM.get X (m.length + 1) := fun X hX => get_app X pre _ (by omega)
    by_cases hs : segOk (from_ c.segs i) o = true
    · rw [if_pos hs] at hv
      simp -dsimp (disch := omega) only [go_sem, q1, q2, q3, hs, List.length_append, a4, f4]
      rw [g4 _ (AM.length_set ..)]
      simp -dsimp (disch := omega) only [go_sem, q1, q2, q3, hs, List.length_append, AM.get_set, f4]
      rw [t4 _ _ (AM.length_set ..), set_set, loop_back r1 r2, set_same f4]
      refine ⟨_, _, .ret (.refl _), (Over.refl _).cons _, Kept.refl _, ?_, hv⟩
      simp only [AE.bd, AV.bd, AV.bdL, and_self]
    · rw [if_neg hs] at hv
      have l5 := AM.length_set M (m.length + 4) (some (.loop { r with state := .busy } FR))
      have e1 : ∀ x, AM.get (pre ++ AM.set M (m.length + 4) x) (m.length + 1) = some (.cells 4 [B true]) := fun x => by
        rw [g1 _ (AM.length_set ..), AM.get_set_other _ _ _ _ (by omega), f1]
      have e2 : ∀ x y, AM.set (pre ++ AM.set M (m.length + 4) x) (m.length + 1) y = pre ++ AM.set (AM.set M (m.length + 4) x) (m.length + 1) y := fun x y => t1 _ _ (AM.length_set ..)
      simp -dsimp (disch := omega) only [go_sem, q1, q2, q3, hs, List.length_append, e1, e2]
      have l6 : ∀ x y, List.length (AM.set (AM.set M (m.length + 4) x) (m.length + 1) y) = List.length M := fun x y => by rw [AM.length_set, AM.length_set]
      have e3 : ∀ x y, AM.get (pre ++ AM.set (AM.set M (m.length + 4) x) (m.length + 1) y) (m.length + 4) = x := fun x y => by
        rw [g4 _ (l6 x y), AM.get_set_other _ _ _ _ (by omega), AM.get_set_same _ _ _ l4]
      rw [e3, wRE_loop]
      simp -dsimp (disch := omega) only [go_sem, hs, List.length_append]
      rw [t4 _ _ (l6 _ _), set_comm (by omega), set_set, set_comm (by omega)]
      refine ⟨_, _, .ret (.refl _), (Over.refl _).cons _, ?_, ?_, hv⟩
      · refine kept_app (((Kept.refl M).set ?_).set ?_) (by rw [AM.length_set, AM.length_set]) pre
        · simp only [ABlk.bd, AV.bd, AV.bdL, and_self]
        · intro s v hv
          rw [AM.length_set, hMl]
          exact frBd_get q4 s v hv
      · simp only [AE.bd, AV.bd, AV.bdL, and_self]
  · by_cases hs : segsOk c.segs = true
    · rw [if_pos hs]
      refine ⟨r, f4, by rw [r1]; simp, ?_⟩
      rw [r2]
      have x1 : ∀ x, AM.get (AM.set M (m.length + 4) x) (m.length + 1) = some (.cells 4 [B true]) := fun x => by rw [AM.get_set_other _ _ _ _ (by omega), f1]
      have x0 : ∀ x, AM.get (AM.set M (m.length + 4) x) m.length = some (.cells 56 [I c.kind, .d (ints c.table), .d (segsD c.segs)]) := fun x => by rw [AM.get_set_other _ _ _ _ (by omega), f0]
      have x3 : ∀ x, AM.get (AM.set M (m.length + 4) x) (m.length + 3) = some .dfr := fun x => by rw [AM.get_set_other _ _ _ _ (by omega), f3]
      obtain ⟨z, hz⟩ : ∃ z, c.segs[c.segs.length - 1]? = some z := ⟨_, List.getElem?_eq_getElem (by omega)⟩
      have ez : ((c.segs.length : Int) - 1).toNat = c.segs.length - 1 := by omega
      simp -dsimp (disch := omega) only [go_sem, q1, q2, q3, x1, x0, x3, List.getD_eq_getElem?_getD, List.getElem?_map, Option.getD_some, ez, hz]
      refine ⟨?_, over_set (over_set hov _ _ (by omega)) _ _ (by omega)⟩
      rw [List.getLast?_eq_getElem?, hz, hs]
      have c3 : 1 ≤ c.segs.length ∧ c.segs.length ≤ 4 := by omega
      simp [c3]
    · rw [if_neg hs]
      refine ⟨{ r with state := .done, pending := some (.exit 0) }, AM.get_set_same _ _ _ (by rw [AM.length_set]; omega), by simp, ?_⟩
      have x1 : ∀ x, AM.get (AM.set (AM.set M (m.length + 1) (some (.cells 4 [B false]))) (m.length + 4) x) (m.length + 1) = some (.cells 4 [B false]) := fun x => by rw [AM.get_set_other _ _ _ _ (by omega), AM.get_set_same _ _ _ (by omega)]
      have x3 : ∀ x y, AM.get (AM.set (AM.set M (m.length + 1) y) (m.length + 4) x) (m.length + 3) = some .dfr := fun x y => by rw [AM.get_set_other _ _ _ _ (by omega), AM.get_set_other _ _ _ _ (by omega), f3]
      simp -dsimp (disch := omega) only [go_sem, q1, q2, q3, x1, x3]
      refine ⟨?_, over_set (over_set (over_set hov _ _ (by omega)) _ _ (by omega)) _ _ (by omega)⟩
      simp [hs]

def segsFine (l : List Seg) : Bool := decide (1 ≤ l.length ∧ l.length ≤ 4) && segsOk l && decide ((l.getLast?.map (·.till)) = some 1000000)
def curveFine (c : Cur) : Bool := if c.kind = 1 then decide ((c.table.length : Int) = 0) && decide ((c.segs.length : Int) = 0) else if c.kind = 2 then tabOk c.table && decide ((c.segs.length : Int) = 0) else if c.kind = 3 then decide ((c.table.length : Int) = 0) && segsFine c.segs else false
def curveE (c : Cur) : Int := if curveFine c = true then 0 else 90

theorem curveCheck (c : Cur) (m : AM) (Q : AE → AM → Prop) (hQ : Q (.ret (I (curveE c))) m) : ACalls Tryz.prog 182 [Cur.enc c] m Q := by
  refine ACalls.cut0 hQ (by simp only [AE.bd, AV.bd, AV.bdL, and_self]) ?_
  unfold curveE curveFine
  refine acalls_of_body Tryz.func182 (by rfl) (by rfl) (Nat.le_of_ble_eq_true rfl) ?_
  simp -dsimp (disch := omega) only [go_sem, Tryz.f182]
  by_cases c1 : (c.table.length : Int) = 0 <;> by_cases c2 : (c.segs.length : Int) = 0 <;> by_cases k1 : c.kind = 1
  · simp -dsimp (disch := omega) only [go_sem, k1, c1, c2]
    first | exact (Over.refl _).cons _ | exact ⟨rfl, (Over.refl _).cons _⟩ | (refine ⟨by simp_all, ?_⟩; exact (Over.refl _).cons _)
  · by_cases k2 : c.kind = 2
    · simp -dsimp (disch := omega) only [go_sem, k2, c1, c2]
      refine checkTable _ _ _ ?_
      cases ht : tabOk c.table
      · simp -dsimp (disch := omega) only [go_sem, k2, c1, c2]
        first | exact (Over.refl _).cons _ | exact ⟨rfl, (Over.refl _).cons _⟩ | (refine ⟨by simp_all, ?_⟩; exact (Over.refl _).cons _)
      · simp -dsimp (disch := omega) only [go_sem, k2, c1, c2]
        first | exact (Over.refl _).cons _ | exact ⟨rfl, (Over.refl _).cons _⟩ | (refine ⟨by simp_all, ?_⟩; exact (Over.refl _).cons _)
    · by_cases k3 : c.kind = 3
      · simp -dsimp (disch := omega) only [go_sem, k3, c1, c2]
        refine checkSegments ⟨3, c.table, c.segs⟩ _ _ ?_
        cases ht : segsFine c.segs
        · unfold segsFine at ht
          simp -dsimp (disch := omega) only [go_sem, k3, c1, c2, ht]
          first | exact (Over.refl _).cons _ | exact ⟨rfl, (Over.refl _).cons _⟩ | (refine ⟨by simp_all, ?_⟩; exact (Over.refl _).cons _)
        · unfold segsFine at ht
          simp -dsimp (disch := omega) only [go_sem, k3, c1, c2, ht]
          first | exact (Over.refl _).cons _ | exact ⟨rfl, (Over.refl _).cons _⟩ | (refine ⟨by simp_all, ?_⟩; exact (Over.refl _).cons _)
      · simp -dsimp (disch := omega) only [go_sem, k1, k2, k3, c1, c2]
        first | exact (Over.refl _).cons _ | exact ⟨rfl, (Over.refl _).cons _⟩ | (refine ⟨by simp_all, ?_⟩; exact (Over.refl _).cons _)
  · simp -dsimp (disch := omega) only [go_sem, k1, c1, c2]
    first | exact (Over.refl _).cons _ | exact ⟨rfl, (Over.refl _).cons _⟩ | (refine ⟨by simp_all, ?_⟩; exact (Over.refl _).cons _)
  · by_cases k2 : c.kind = 2
    · simp -dsimp (disch := omega) only [go_sem, k2, c1, c2]
      refine checkTable _ _ _ ?_
      cases ht : tabOk c.table
      · simp -dsimp (disch := omega) only [go_sem, k2, c1, c2]
        first | exact (Over.refl _).cons _ | exact ⟨rfl, (Over.refl _).cons _⟩ | (refine ⟨by simp_all, ?_⟩; exact (Over.refl _).cons _)
      · simp -dsimp (disch := omega) only [go_sem, k2, c1, c2]
        first | exact (Over.refl _).cons _ | exact ⟨rfl, (Over.refl _).cons _⟩ | (refine ⟨by simp_all, ?_⟩; exact (Over.refl _).cons _)
    · by_cases k3 : c.kind = 3
      · simp -dsimp (disch := omega) only [go_sem, k3, c1, c2]
        refine checkSegments ⟨3, c.table, c.segs⟩ _ _ ?_
        cases ht : segsFine c.segs
        · unfold segsFine at ht
          simp -dsimp (disch := omega) only [go_sem, k3, c1, c2, ht]
          first | exact (Over.refl _).cons _ | exact ⟨rfl, (Over.refl _).cons _⟩ | (refine ⟨by simp_all, ?_⟩; exact (Over.refl _).cons _)
        · unfold segsFine at ht
          simp -dsimp (disch := omega) only [go_sem, k3, c1, c2, ht]
          first | exact (Over.refl _).cons _ | exact ⟨rfl, (Over.refl _).cons _⟩ | (refine ⟨by simp_all, ?_⟩; exact (Over.refl _).cons _)
      · simp -dsimp (disch := omega) only [go_sem, k1, k2, k3, c1, c2]
        first | exact (Over.refl _).cons _ | exact ⟨rfl, (Over.refl _).cons _⟩ | (refine ⟨by simp_all, ?_⟩; exact (Over.refl _).cons _)
  · simp -dsimp (disch := omega) only [go_sem, k1, c1, c2]
    first | exact (Over.refl _).cons _ | exact ⟨rfl, (Over.refl _).cons _⟩ | (refine ⟨by simp_all, ?_⟩; exact (Over.refl _).cons _)
  · by_cases k2 : c.kind = 2
    · simp -dsimp (disch := omega) only [go_sem, k2, c1, c2]
      refine checkTable _ _ _ ?_
      cases ht : tabOk c.table
      · simp -dsimp (disch := omega) only [go_sem, k2, c1, c2]
        first | exact (Over.refl _).cons _ | exact ⟨rfl, (Over.refl _).cons _⟩ | (refine ⟨by simp_all, ?_⟩; exact (Over.refl _).cons _)
      · simp -dsimp (disch := omega) only [go_sem, k2, c1, c2]
        first | exact (Over.refl _).cons _ | exact ⟨rfl, (Over.refl _).cons _⟩ | (refine ⟨by simp_all, ?_⟩; exact (Over.refl _).cons _)
    · by_cases k3 : c.kind = 3
      · simp -dsimp (disch := omega) only [go_sem, k3, c1, c2]
        first | exact (Over.refl _).cons _ | exact ⟨rfl, (Over.refl _).cons _⟩ | (refine ⟨by simp_all, ?_⟩; exact (Over.refl _).cons _)
      · simp -dsimp (disch := omega) only [go_sem, k1, k2, k3, c1, c2]
        first | exact (Over.refl _).cons _ | exact ⟨rfl, (Over.refl _).cons _⟩ | (refine ⟨by simp_all, ?_⟩; exact (Over.refl _).cons _)
  · simp -dsimp (disch := omega) only [go_sem, k1, c1, c2]
    first | exact (Over.refl _).cons _ | exact ⟨rfl, (Over.refl _).cons _⟩ | (refine ⟨by simp_all, ?_⟩; exact (Over.refl _).cons _)
  · by_cases k2 : c.kind = 2
    · simp -dsimp (disch := omega) only [go_sem, k2, c1, c2]
      refine checkTable _ _ _ ?_
      cases ht : tabOk c.table
      · simp -dsimp (disch := omega) only [go_sem, k2, c1, c2]
        first | exact (Over.refl _).cons _ | exact ⟨rfl, (Over.refl _).cons _⟩ | (refine ⟨by simp_all, ?_⟩; exact (Over.refl _).cons _)
      · simp -dsimp (disch := omega) only [go_sem, k2, c1, c2]
        first | exact (Over.refl _).cons _ | exact ⟨rfl, (Over.refl _).cons _⟩ | (refine ⟨by simp_all, ?_⟩; exact (Over.refl _).cons _)
    · by_cases k3 : c.kind = 3
      · simp -dsimp (disch := omega) only [go_sem, k3, c1, c2]
        first | exact (Over.refl _).cons _ | exact ⟨rfl, (Over.refl _).cons _⟩ | (refine ⟨by simp_all, ?_⟩; exact (Over.refl _).cons _)
      · simp -dsimp (disch := omega) only [go_sem, k1, k2, k3, c1, c2]
        first | exact (Over.refl _).cons _ | exact ⟨rfl, (Over.refl _).cons _⟩ | (refine ⟨by simp_all, ?_⟩; exact (Over.refl _).cons _)

end Go.Proofs.YtbdefaebbicfjaaGreat
