/- Chains: inputs, outputs, the check. -/
import Derived.Test.YtbdefaebbicfjaaGreatK13
set_option linter.all false
namespace Go.Proofs.YtbdefaebbicfjaaGreat
open Go Go.Ab Go.RowKit
set_option maxHeartbeats 400000
set_option maxRecDepth 10000

def insF (x : Elt) : Int := if x.kind = 1 then x.curves.length else if x.kind = 2 then (x.rows.getD 0 []).length else if x.kind = 3 then x.grid.size.length else x.nin
def outsF (x : Elt) : Int := if x.kind = 1 then x.curves.length else if x.kind = 2 then x.rows.length else if x.kind = 3 then x.grid.out else x.nout

theorem eltE_cases (x : Elt) : eltE x = 0 ∨ eltE x = 130 := by
  unfold eltE
  split <;> simp
theorem eltE_rows {x : Elt} (h : eltE x = 0) (hk : x.kind = 2) : 1 ≤ (x.rows.length : Int) := by
  unfold eltE at h
  split at h
  · rename_i h1
    simp only [eltFine, hk, Int.reduceEq, if_true, if_false, Bool.and_eq_true, matFine, decide_eq_true_eq] at h1
    exact h1.2.2.2.1.1.1
  · simp at h

theorem ins (x : Elt) (m : AM) (Q : AE → AM → Prop) (hQ : Q (.ret (if eltE x = 0 then .tup [I (insF x), I 0] else .tup [I 0, I (eltE x)])) m) : ACalls Tryz.prog 163 [Elt.enc x] m Q := by
  refine ACalls.fin ?_
  refine acalls_of_body Tryz.func163 (by rfl) (by rfl) (Nat.le_of_ble_eq_true rfl) ?_
  simp -dsimp (disch := omega) only [go_sem, Tryz.f163]
  refine eltCheck x _ _ ?_
  by_cases he : eltE x = 0
  · rw [if_pos he] at hQ
    unfold insF at hQ
    by_cases k1 : x.kind = 1
    · rw [if_pos k1] at hQ
      simp -dsimp (disch := omega) only [go_sem, he, k1]
      refine ⟨_, _, .ret (.refl _), ?_, ?_, ?_, hQ⟩ <;> first | (exact Over.refl _) | (exact (Over.refl _).cons _) | (exact ((Over.refl _).cons _).cons _) | (exact (((Over.refl _).cons _).cons _).cons _) | (exact ((((Over.refl _).cons _).cons _).cons _).cons _) | exact Kept.refl _ | (exact (Kept.refl _).set (by simp only [ABlk.bd, AV.bd, AV.bdL, and_self])) | (simp only [AE.bd, AV.bd, AV.bdL, and_self]; done)
    by_cases k2 : x.kind = 2
    · have hr := eltE_rows he k2
      rw [if_neg k1, if_pos k2] at hQ
      obtain ⟨r0, h0⟩ : ∃ r0, x.rows[0]? = some r0 := ⟨_, List.getElem?_eq_getElem (by omega)⟩
      rw [List.getD_eq_getElem?_getD, h0] at hQ
      simp -dsimp (disch := omega) only [go_sem, he, k2, List.getD_eq_getElem?_getD, List.getElem?_map, Option.getD_some, h0]
      refine ⟨_, _, .ret (.refl _), ?_, ?_, ?_, hQ⟩ <;> first | (exact Over.refl _) | (exact (Over.refl _).cons _) | (exact ((Over.refl _).cons _).cons _) | (exact (((Over.refl _).cons _).cons _).cons _) | (exact ((((Over.refl _).cons _).cons _).cons _).cons _) | exact Kept.refl _ | (exact (Kept.refl _).set (by simp only [ABlk.bd, AV.bd, AV.bdL, and_self])) | (simp only [AE.bd, AV.bd, AV.bdL, and_self]; done)
    rw [if_neg k1, if_neg k2] at hQ
    by_cases k3 : x.kind = 3
    · rw [if_pos k3] at hQ
      simp -dsimp (disch := omega) only [go_sem, he, k3]
      refine ⟨_, _, .ret (.refl _), ?_, ?_, ?_, hQ⟩ <;> first | (exact Over.refl _) | (exact (Over.refl _).cons _) | (exact ((Over.refl _).cons _).cons _) | (exact (((Over.refl _).cons _).cons _).cons _) | (exact ((((Over.refl _).cons _).cons _).cons _).cons _) | exact Kept.refl _ | (exact (Kept.refl _).set (by simp only [ABlk.bd, AV.bd, AV.bdL, and_self])) | (simp only [AE.bd, AV.bd, AV.bdL, and_self]; done)
    rw [if_neg k3] at hQ
    simp -dsimp (disch := omega) only [go_sem, he, k1, k2, k3]
    refine ⟨_, _, .ret (.refl _), ?_, ?_, ?_, hQ⟩ <;> first | (exact Over.refl _) | (exact (Over.refl _).cons _) | (exact ((Over.refl _).cons _).cons _) | (exact (((Over.refl _).cons _).cons _).cons _) | (exact ((((Over.refl _).cons _).cons _).cons _).cons _) | exact Kept.refl _ | (exact (Kept.refl _).set (by simp only [ABlk.bd, AV.bd, AV.bdL, and_self])) | (simp only [AE.bd, AV.bd, AV.bdL, and_self]; done)
  · rw [if_neg he] at hQ
    simp -dsimp (disch := omega) only [go_sem, he]
    refine ⟨_, _, .ret (.refl _), ?_, ?_, ?_, hQ⟩ <;> first | (exact Over.refl _) | (exact (Over.refl _).cons _) | (exact ((Over.refl _).cons _).cons _) | (exact (((Over.refl _).cons _).cons _).cons _) | (exact ((((Over.refl _).cons _).cons _).cons _).cons _) | exact Kept.refl _ | (exact (Kept.refl _).set (by simp only [ABlk.bd, AV.bd, AV.bdL, and_self])) | (simp only [AE.bd, AV.bd, AV.bdL, and_self]; done)

theorem outs (x : Elt) (m : AM) (Q : AE → AM → Prop) (hQ : Q (.ret (if eltE x = 0 then .tup [I (outsF x), I 0] else .tup [I 0, I (eltE x)])) m) : ACalls Tryz.prog 164 [Elt.enc x] m Q := by
  refine ACalls.fin ?_
  refine acalls_of_body Tryz.func164 (by rfl) (by rfl) (Nat.le_of_ble_eq_true rfl) ?_
  simp -dsimp (disch := omega) only [go_sem, Tryz.f164]
  refine eltCheck x _ _ ?_
  by_cases he : eltE x = 0
  · rw [if_pos he] at hQ
    unfold outsF at hQ
    by_cases k1 : x.kind = 1
    · rw [if_pos k1] at hQ
      simp -dsimp (disch := omega) only [go_sem, he, k1]
      refine ⟨_, _, .ret (.refl _), ?_, ?_, ?_, hQ⟩ <;> first | (exact Over.refl _) | (exact (Over.refl _).cons _) | (exact ((Over.refl _).cons _).cons _) | (exact (((Over.refl _).cons _).cons _).cons _) | (exact ((((Over.refl _).cons _).cons _).cons _).cons _) | exact Kept.refl _ | (exact (Kept.refl _).set (by simp only [ABlk.bd, AV.bd, AV.bdL, and_self])) | (simp only [AE.bd, AV.bd, AV.bdL, and_self]; done)
    by_cases k2 : x.kind = 2
    · rw [if_neg k1, if_pos k2] at hQ
      simp -dsimp (disch := omega) only [go_sem, he, k2]
      refine ⟨_, _, .ret (.refl _), ?_, ?_, ?_, hQ⟩ <;> first | (exact Over.refl _) | (exact (Over.refl _).cons _) | (exact ((Over.refl _).cons _).cons _) | (exact (((Over.refl _).cons _).cons _).cons _) | (exact ((((Over.refl _).cons _).cons _).cons _).cons _) | exact Kept.refl _ | (exact (Kept.refl _).set (by simp only [ABlk.bd, AV.bd, AV.bdL, and_self])) | (simp only [AE.bd, AV.bd, AV.bdL, and_self]; done)
    rw [if_neg k1, if_neg k2] at hQ
    by_cases k3 : x.kind = 3
    · rw [if_pos k3] at hQ
      simp -dsimp (disch := omega) only [go_sem, he, k3]
      refine ⟨_, _, .ret (.refl _), ?_, ?_, ?_, hQ⟩ <;> first | (exact Over.refl _) | (exact (Over.refl _).cons _) | (exact ((Over.refl _).cons _).cons _) | (exact (((Over.refl _).cons _).cons _).cons _) | (exact ((((Over.refl _).cons _).cons _).cons _).cons _) | exact Kept.refl _ | (exact (Kept.refl _).set (by simp only [ABlk.bd, AV.bd, AV.bdL, and_self])) | (simp only [AE.bd, AV.bd, AV.bdL, and_self]; done)
    rw [if_neg k3] at hQ
    simp -dsimp (disch := omega) only [go_sem, he, k1, k2, k3]
    refine ⟨_, _, .ret (.refl _), ?_, ?_, ?_, hQ⟩ <;> first | (exact Over.refl _) | (exact (Over.refl _).cons _) | (exact ((Over.refl _).cons _).cons _) | (exact (((Over.refl _).cons _).cons _).cons _) | (exact ((((Over.refl _).cons _).cons _).cons _).cons _) | exact Kept.refl _ | (exact (Kept.refl _).set (by simp only [ABlk.bd, AV.bd, AV.bdL, and_self])) | (simp only [AE.bd, AV.bd, AV.bdL, and_self]; done)
  · rw [if_neg he] at hQ
    simp -dsimp (disch := omega) only [go_sem, he]
    refine ⟨_, _, .ret (.refl _), ?_, ?_, ?_, hQ⟩ <;> first | (exact Over.refl _) | (exact (Over.refl _).cons _) | (exact ((Over.refl _).cons _).cons _) | (exact (((Over.refl _).cons _).cons _).cons _) | (exact ((((Over.refl _).cons _).cons _).cons _).cons _) | exact Kept.refl _ | (exact (Kept.refl _).set (by simp only [ABlk.bd, AV.bd, AV.bdL, and_self])) | (simp only [AE.bd, AV.bd, AV.bdL, and_self]; done)

/-- How many inputs the element i must have. -/
def insAt (c : Chn) : Nat → Int
  | 0 => c.nin
  | i + 1 => match c.elts[i]? with | some x => outsF x | none => 0

/-- The elements are yielded, up to the first that isn't taken. -/
theorem steps (c : Chn) (n L : Nat) (Mm Mb : Nat → AM) (cont : Nat → Bool) (hlen : c.elts.length ≤ 4611686018427387904)
    (hl : ∀ i, List.length (Mm i) = L) (hlb : ∀ i, List.length (Mb i) = L) (hk : ∀ i, Kept (Mm 0) (Mm i)) (hkb : ∀ i, Kept (Mm 0) (Mb i)) (hnM : n < L)
    (hcont : ∀ i x, c.elts[i]? = some x → cont i = true → eltE x = 0)
    (hround : ∀ (i : Nat) (x : Elt) (pre : AM) (Qr : AE → AM → Prop), c.elts[i]? = some x → (if cont i = true then Qr (.ret (B true)) (pre ++ Mm (i + 1)) else Qr (.ret (B false)) (pre ++ Mb i)) → ARound Tryz.prog n [I (insAt c i), Elt.enc x] (pre ++ Mm i) Qr)
    (Q : AE → AM → Prop) (hQ : (∀ i, i < c.elts.length → cont i = true) → Q (.ret (.tup [])) (Mm c.elts.length)) (hQb : ∀ i, i < c.elts.length → cont i = false → Q (.ret (.tup [])) (Mb i)) : ACalls Tryz.prog 162 [Chn.enc c, .yl n] (Mm 0) Q := by
  refine ACalls.fin ?_
  refine acalls_of_body Tryz.func162 (by rfl) (by rfl) (Nat.le_of_ble_eq_true rfl) ?_
  simp -dsimp (disch := omega) only [go_sem, Tryz.f162]
  refine AW.loopB (ι := Nat) (fun i => i ≤ c.elts.length ∧ ∀ j, j < i → cont j = true) (fun i => [(16, I i), (15, I c.elts.length), (14, .d (eltsD c.elts)), (4, I (insAt c i)), (1, .yl n)]) (fun i => some (.cells 185 [I c.nin, .d (eltsD c.elts)]) :: Mm i) (fun i => c.elts.length - i) _ ⟨0, ⟨by simp, by omega⟩, Weak.of ?_ (mLe.refl _)⟩ ?_
  · (simp only [frLe]; repeat' apply And.intro) <;> first | trivial | exact ⟨_, rfl, .refl _⟩
  · rintro i ⟨g1, g2⟩
    simp -dsimp (disch := omega) only [go_sem]
    refine Br.intro (fun h => ?_) (fun h => ?_)
    · obtain ⟨x, hx⟩ : ∃ x, c.elts[i]? = some x := ⟨_, List.getElem?_eq_getElem (by omega)⟩
      simp -dsimp (disch := omega) only [go_sem, List.getD_eq_getElem?_getD, List.getElem?_map, Option.getD_some, hx, hl]
      refine hround i x [_, _] _ hx ?_
      by_cases hc : cont i = true
      · rw [if_pos hc]
        have he := hcont i x hx hc
        simp -dsimp (disch := omega) only [go_sem, hl]
        refine outs x _ _ ?_
        rw [if_pos he]
        simp -dsimp (disch := omega) only [go_sem]
        refine ⟨i + 1, ⟨by omega, fun j hj => ?_⟩, by omega, WeakB.cut ?_ ((Over.refl _).cons _) (kept_app (hk _) (by rw [hl, hl]) [_]) ?_⟩
        · by_cases e : j = i
          · rw [e]; exact hc
          · exact g2 j (by omega)
        · have e : insAt c (i + 1) = outsF x := by simp only [insAt, hx]
          rw [e]
          (simp only [frLe]; repeat' apply And.intro) <;> first | trivial | exact ⟨_, rfl, .refl _⟩
        · simp only [frBd, AV.bd, and_true, true_and, List.length_cons, hl]
          omega
      · rw [if_neg hc]
        simp -dsimp (disch := omega) only [go_sem, hl]
        refine ⟨_, Mb i, .ret (.refl _), ((Over.refl _).cons _).cons _, hkb i, ?_, hQb i (by omega) (by simpa using hc)⟩
        simp only [AE.bd, AV.bd, AV.bdL, and_self]
    · obtain rfl : i = c.elts.length := by omega
      simp -dsimp (disch := omega) only [go_sem]
      refine ⟨_, _, .ret (.refl _), (Over.refl _).cons _, hk _, ?_, hQ g2⟩
      simp only [AE.bd, AV.bd, AV.bdL, and_self]

def contC (c : Chn) (i : Nat) : Bool := match c.elts[i]? with | some x => decide (eltE x = 0 ∧ insF x = insAt c i) | none => false
def chnFine (c : Chn) : Bool := decide ((1 ≤ c.nin ∧ c.nin ≤ 4) ∧ (c.elts.length : Int) ≤ 8) && (List.range c.elts.length).all (contC c)

theorem linkOuts (c : Chn) (m : AM) (Q : AE → AM → Prop) (hQ : Q (.ret (if chnFine c = true then .tup [I (insAt c c.elts.length), B true] else .tup [I 0, B false])) m) : ACalls Tryz.prog 125 [Chn.enc c] m Q := by
  refine ACalls.cut0 hQ (by split <;> simp only [AE.bd, AV.bd, AV.bdL, and_self]) ?_
  refine acalls_of_bodyM Tryz.func125 (by rfl) (by rfl) (Nat.le_of_ble_eq_true rfl) ?_
  simp -dsimp (disch := omega) only [go_sem, Tryz.f125]
  by_cases c1 : c.nin < 1
  · unfold chnFine
    simp -dsimp (disch := omega) only [go_sem, c1]
    repeat (first | exact Over.refl _ | apply Over.cons)
  by_cases c2 : 4 < c.nin
  · unfold chnFine
    simp -dsimp (disch := omega) only [go_sem, c1, c2]
    repeat (first | exact Over.refl _ | apply Over.cons)
  by_cases c3 : 8 < (c.elts.length : Int)
  · unfold chnFine
    simp -dsimp (disch := omega) only [go_sem, c1, c2, c3]
    repeat (first | exact Over.refl _ | apply Over.cons)
  simp -dsimp (disch := omega) only [go_sem, c1, c2, c3]
  refine AW.weak (aa' := ⟨[(31, .fn (.func 162) [Chn.enc c] []), (5, .ptr (m.length + 2) 0), (4, .ptr (m.length + 1) 0)], []⟩) (m' := some (.cells 4 [B true]) :: some (.cells 3 [I (insAt c 0)]) :: some (.cells 185 [I c.nin, .d (eltsD c.elts)]) :: m) (Weak.of ?_ (mLe.refl _)) ?_
  · (simp only [frLe]; repeat' apply And.intro) <;> first | trivial | exact ⟨_, rfl, .refl _⟩
  refine AW.range (fid := 162) (fs := [Chn.enc c]) (cs := []) (by rfl) (by kernel_rfl) ?_
  intro r r1 r2 r3 r4 r5 r6
  simp only [List.length_cons, List.nil_append, List.cons_append]
  generalize hFR : ([(31, .fn (.func 162) [Chn.enc c] []), (5, .ptr (m.length + 2) 0), (4, .ptr (m.length + 1) 0)] : List (Nat × AV)) = FR
  have q4 : fget FR 4 = some (.ptr (m.length + 1) 0) := by subst hFR; rfl
  have q5 : fget FR 5 = some (.ptr (m.length + 2) 0) := by subst hFR; rfl
  have q6 : frBd (m.length + 5) FR := by subst hFR; simp only [frBd, preBd, ABlk.bd, AV.bd, AV.bdL, List.length_cons, List.length_nil, List.length_append, List.nil_append, List.cons_append, and_true, true_and] <;> (try omega)
  clear hFR
  have hbd : ∀ (r : Loop) (b : Bool) (a : Int), preBd (5 + m.length) [some (.loop r FR), some .dfr, some (.cells 4 [B b]), some (.cells 3 [I a]), some (.cells 185 [I c.nin, .d (eltsD c.elts)])] := fun r b a =>
    ⟨fun s v hv => AV.bd_mono (by omega) (frBd_get q6 s v hv), trivial, by simp only [frBd, preBd, ABlk.bd, AV.bd, AV.bdL, List.length_cons, List.length_nil, List.length_append, List.nil_append, List.cons_append, and_true, true_and] <;> (try omega), by simp only [frBd, preBd, ABlk.bd, AV.bd, AV.bdL, List.length_cons, List.length_nil, List.length_append, List.nil_append, List.cons_append, and_true, true_and] <;> (try omega), by simp only [frBd, preBd, ABlk.bd, AV.bd, AV.bdL, List.length_cons, List.length_nil, List.length_append, List.nil_append, List.cons_append, and_true, true_and] <;> (try omega), trivial⟩
  have hK : ∀ (ra rb : Loop) (ba bb : Bool) (xa xb : Int), Kept (some (.loop ra FR) :: some .dfr :: some (.cells 4 [B ba]) :: some (.cells 3 [I xa]) :: some (.cells 185 [I c.nin, .d (eltsD c.elts)]) :: m) (some (.loop rb FR) :: some .dfr :: some (.cells 4 [B bb]) :: some (.cells 3 [I xb]) :: some (.cells 185 [I c.nin, .d (eltsD c.elts)]) :: m) := fun _ _ _ _ _ _ => Kept.pre (p := [_, _, _, _, _]) (p' := [_, _, _, _, _]) rfl (hbd _ _ _)
  refine steps c (m.length + 4) (m.length + 5) (fun i => some (.loop r FR) :: some .dfr :: some (.cells 4 [B true]) :: some (.cells 3 [I (insAt c i)]) :: some (.cells 185 [I c.nin, .d (eltsD c.elts)]) :: m)
    (fun i => some (.loop { r with state := .done, pending := some (.exit 0) } FR) :: some .dfr :: some (.cells 4 [B false]) :: some (.cells 3 [I (insAt c i)]) :: some (.cells 185 [I c.nin, .d (eltsD c.elts)]) :: m) (contC c) (by omega)
    (fun i => by simp only [List.length_cons]) (fun i => by simp only [List.length_cons]) (fun i => hK _ _ _ _ _ _) (fun i => hK _ _ _ _ _ _) (by omega) ?_ ?_ _ ?_ ?_
  · intro i x hx hc
    simp only [contC, hx, decide_eq_true_eq] at hc
    exact hc.1
  · intro i x pre Qr hx hv
    refine ARound.fin ?_
    refine ARound.of (nt := 55) (r := r) (fr := FR) (ps := [32, 33]) (by rw [get_app _ _ _ (by simp only [List.length_cons]; omega)]; simp -dsimp (disch := omega) only [go_sem]) r1 ⟨r3, r4, r5, r6⟩ rfl (by simp) (by rfl) (by rfl) ?_
    have ga := fun (M : AM) (n : Nat) (h : n < List.length M) => get_app M pre n h
    have sa := fun (M : AM) (n : Nat) (x : Option ABlk) (h : n < List.length M) => set_app M pre n x h
    simp -dsimp (disch := first | omega | (simp only [List.length_cons, AM.length_set, List.length_append]; omega)) only [go_sem, List.length_append, ga, sa, q4, q5]
    refine ⟨r, rfl, r1, ?_⟩
    refine ins x _ _ ?_
    have hc : contC c i = decide (eltE x = 0 ∧ insF x = insAt c i) := by simp only [contC, hx]
    rw [hc] at hv
    by_cases he : eltE x = 0
    · rw [if_pos he]
      by_cases hi : insF x = insAt c i
      · rw [if_pos (decide_eq_true ⟨he, hi⟩)] at hv
        simp -dsimp (disch := first | omega | (simp only [List.length_cons, AM.length_set, List.length_append]; omega)) only [go_sem, List.length_append, ga, sa, q4, q5, hi]
        refine outs x _ _ ?_
        rw [if_pos he]
        have e : insAt c (i + 1) = outsF x := by simp only [insAt, hx]
        simp -dsimp (disch := first | omega | (simp only [List.length_cons, AM.length_set, List.length_append]; omega)) only [go_sem, List.length_append, ga, sa, q4, q5]
        rw [loop_back r1 r2]
        rw [e] at hv
        refine ⟨_, _, .ret (.refl _), (Over.refl _).cons _, kept_app (hK _ _ _ _ _ _) (by simp only [List.length_cons]) pre, ?_, hv⟩
        simp only [AE.bd, AV.bd, AV.bdL, and_self]
      · rw [if_neg (by simp [hi])] at hv
        simp -dsimp (disch := first | omega | (simp only [List.length_cons, AM.length_set, List.length_append]; omega)) only [go_sem, List.length_append, ga, sa, q4, q5, hi]
        refine ⟨_, _, .ret (.refl _), (Over.refl _).cons _, kept_app (hK _ _ _ _ _ _) (by simp only [List.length_cons]) pre, ?_, hv⟩
        simp only [AE.bd, AV.bd, AV.bdL, and_self]
    · rw [if_neg he]
      rw [if_neg (by simp [he])] at hv
      simp -dsimp (disch := first | omega | (simp only [List.length_cons, AM.length_set, List.length_append]; omega)) only [go_sem, List.length_append, ga, sa, q4, q5, he]
      refine ⟨_, _, .ret (.refl _), (Over.refl _).cons _, kept_app (hK _ _ _ _ _ _) (by simp only [List.length_cons]) pre, ?_, hv⟩
      simp only [AE.bd, AV.bd, AV.bdL, and_self]
  · intro hall
    have hf : chnFine c = true := by
      unfold chnFine
      rw [decide_eq_true (by omega), Bool.true_and]
      exact List.all_eq_true.2 fun i hi => hall i (List.mem_range.1 hi)
    refine ⟨r, by simp -dsimp (disch := omega) only [go_sem], by rw [r1]; simp, ?_⟩
    rw [r2]
    simp -dsimp (disch := omega) only [go_sem, q4, q5, hf]
    repeat (first | exact Over.refl _ | apply Over.cons)
  · intro i hi hc
    have hf : chnFine c = false := by
      unfold chnFine
      rw [decide_eq_true (by omega), Bool.true_and]
      exact List.all_eq_false.2 ⟨i, List.mem_range.2 hi, by simp [hc]⟩
    refine ⟨{ r with state := .done, pending := some (.exit 0) }, by simp -dsimp (disch := omega) only [go_sem], by simp, ?_⟩
    simp -dsimp (disch := omega) only [go_sem, q4, q5, hf]
    repeat (first | exact Over.refl _ | apply Over.cons)

def chnE (c : Chn) : Int := if chnFine c = true then 0 else 140
theorem chnOuts (c : Chn) (m : AM) (Q : AE → AM → Prop) (hQ : Q (.ret (if chnFine c = true then .tup [I (insAt c c.elts.length), I 0] else .tup [I 0, I 140])) m) : ACalls Tryz.prog 89 [Chn.enc c] m Q := by
  refine ACalls.fin ?_
  refine acalls_of_body Tryz.func89 (by rfl) (by rfl) (Nat.le_of_ble_eq_true rfl) ?_
  simp -dsimp (disch := omega) only [go_sem, Tryz.f89]
  refine linkOuts c _ _ ?_
  by_cases h : chnFine c = true
  · rw [if_pos h] at hQ
    simp -dsimp (disch := omega) only [go_sem, h]
    refine ⟨_, _, .ret (.refl _), ?_, ?_, ?_, hQ⟩ <;> first | (exact Over.refl _) | (exact (Over.refl _).cons _) | (exact ((Over.refl _).cons _).cons _) | (exact (((Over.refl _).cons _).cons _).cons _) | (exact ((((Over.refl _).cons _).cons _).cons _).cons _) | exact Kept.refl _ | (exact (Kept.refl _).set (by simp only [ABlk.bd, AV.bd, AV.bdL, and_self])) | (simp only [AE.bd, AV.bd, AV.bdL, and_self]; done)
  · rw [if_neg h] at hQ
    simp -dsimp (disch := omega) only [go_sem, h]
    refine ⟨_, _, .ret (.refl _), ?_, ?_, ?_, hQ⟩ <;> first | (exact Over.refl _) | (exact (Over.refl _).cons _) | (exact ((Over.refl _).cons _).cons _) | (exact (((Over.refl _).cons _).cons _).cons _) | (exact ((((Over.refl _).cons _).cons _).cons _).cons _) | exact Kept.refl _ | (exact (Kept.refl _).set (by simp only [ABlk.bd, AV.bd, AV.bdL, and_self])) | (simp only [AE.bd, AV.bd, AV.bdL, and_self]; done)
theorem chnCheck (c : Chn) (m : AM) (Q : AE → AM → Prop) (hQ : Q (.ret (I (chnE c))) m) : ACalls Tryz.prog 43 [Chn.enc c] m Q := by
  refine ACalls.fin ?_
  unfold chnE at hQ
  refine acalls_of_body Tryz.func43 (by rfl) (by rfl) (Nat.le_of_ble_eq_true rfl) ?_
  simp -dsimp (disch := omega) only [go_sem, Tryz.f43]
  refine chnOuts c _ _ ?_
  by_cases h : chnFine c = true
  · rw [if_pos h] at hQ
    simp -dsimp (disch := omega) only [go_sem, h]
    refine ⟨_, _, .ret (.refl _), ?_, ?_, ?_, hQ⟩ <;> first | (exact Over.refl _) | (exact (Over.refl _).cons _) | (exact ((Over.refl _).cons _).cons _) | (exact (((Over.refl _).cons _).cons _).cons _) | (exact ((((Over.refl _).cons _).cons _).cons _).cons _) | exact Kept.refl _ | (exact (Kept.refl _).set (by simp only [ABlk.bd, AV.bd, AV.bdL, and_self])) | (simp only [AE.bd, AV.bd, AV.bdL, and_self]; done)
  · rw [if_neg h] at hQ
    simp -dsimp (disch := omega) only [go_sem, h]
    refine ⟨_, _, .ret (.refl _), ?_, ?_, ?_, hQ⟩ <;> first | (exact Over.refl _) | (exact (Over.refl _).cons _) | (exact ((Over.refl _).cons _).cons _) | (exact (((Over.refl _).cons _).cons _).cons _) | (exact ((((Over.refl _).cons _).cons _).cons _).cons _) | exact Kept.refl _ | (exact (Kept.refl _).set (by simp only [ABlk.bd, AV.bd, AV.bdL, and_self])) | (simp only [AE.bd, AV.bd, AV.bdL, and_self]; done)
end Go.Proofs.YtbdefaebbicfjaaGreat
