/- Programs: the check. -/
import Derived.Test.YtbdefaebbicfjaaGreatK11
set_option linter.all false
namespace Go.Proofs.YtbdefaebbicfjaaGreat
open Go Go.Ab Go.RowKit
set_option maxHeartbeats 400000
set_option maxRecDepth 10000

def takesF (c : Int) : Int × Bool := if c = 1 ∨ c = 2 ∨ c = 11 then (0, true) else if c = 8 ∨ c = 9 ∨ c = 12 then (1, true) else if c = 3 ∨ c = 4 ∨ c = 5 ∨ c = 6 ∨ c = 7 then (2, true) else if c = 10 then (3, true) else (0, false)
theorem takesF_range (c : Int) : 0 ≤ (takesF c).1 ∧ (takesF c).1 ≤ 3 := by
  unfold takesF
  repeat' split
  all_goals simp

theorem takes (c : Int) (m : AM) (Q : AE → AM → Prop) (hQ : Q (.ret (.tup [I (takesF c).1, B (takesF c).2])) m) : ACalls Tryz.prog 218 [I c] m Q := by
  refine acalls_of_body Tryz.func218 (by rfl) (by rfl) (Nat.le_of_ble_eq_true rfl) ?_
  simp -dsimp (disch := omega) only [go_sem, Tryz.f218]
  rcases (show c = 1 ∨ c = 2 ∨ c = 3 ∨ c = 4 ∨ c = 5 ∨ c = 6 ∨ c = 7 ∨ c = 8 ∨ c = 9 ∨ c = 10 ∨ c = 11 ∨ c = 12 ∨ (c < 1 ∨ 12 < c) by omega) with h | h | h | h | h | h | h | h | h | h | h | h | h
  all_goals first
    | (subst h; simp -dsimp (disch := omega) only [go_sem]; exact hQ)
    | skip
  have e : takesF c = (0, false) := by
    unfold takesF
    rw [if_neg (by omega), if_neg (by omega), if_neg (by omega), if_neg (by omega)]
  rw [e] at hQ
  simp -dsimp (disch := omega) only [go_sem]
  exact hQ

def argF (o : POp) (nin len : Int) : Bool := if o.code = 1 then decide (0 ≤ o.arg ∧ o.arg ≤ nin - 1) else if o.code = 2 then decide (-1000000000 ≤ o.arg ∧ o.arg ≤ 1000000000) else if o.code = 11 then decide (0 ≤ o.arg ∧ o.arg ≤ len - 1) else decide (0 ≤ o.arg ∧ o.arg ≤ 0)

theorem argument (o : POp) (nin len : Int) (h1 : 1 ≤ nin ∧ nin ≤ 4) (h2 : 0 ≤ len ∧ len ≤ 16) (m : AM) (Q : AE → AM → Prop) (hQ : Q (.ret (B (argF o nin len))) m) : ACalls Tryz.prog 219 [POp.enc o, I nin, I len] m Q := by
  refine ACalls.cut0 hQ (by simp only [AE.bd, AV.bd, AV.bdL, and_self]) ?_
  refine acalls_of_body Tryz.func219 (by rfl) (by rfl) (Nat.le_of_ble_eq_true rfl) ?_
  simp -dsimp (disch := omega) only [go_sem, Tryz.f219]
  unfold argF
  by_cases k1 : o.code = 1
  · simp -dsimp (disch := omega) only [go_sem, k1]
    by_cases h : 0 ≤ o.arg
    · simp -dsimp (disch := omega) only [go_sem, h]
      exact (Over.refl _).cons _
    · simp -dsimp (disch := omega) only [go_sem, h]
      exact (Over.refl _).cons _
  · by_cases k2 : o.code = 2
    · simp -dsimp (disch := omega) only [go_sem, k2]
      by_cases h : -1000000000 ≤ o.arg
      · simp -dsimp (disch := omega) only [go_sem, h]
        exact (Over.refl _).cons _
      · simp -dsimp (disch := omega) only [go_sem, h]
        exact (Over.refl _).cons _
    · by_cases k3 : o.code = 11
      · simp -dsimp (disch := omega) only [go_sem, k3]
        by_cases h : 0 ≤ o.arg
        · simp -dsimp (disch := omega) only [go_sem, h]
          exact (Over.refl _).cons _
        · simp -dsimp (disch := omega) only [go_sem, h]
          exact (Over.refl _).cons _
      · simp -dsimp (disch := omega) only [go_sem, k1, k2, k3]
        by_cases h : 0 ≤ o.arg
        · simp -dsimp (disch := omega) only [go_sem, h]
          exact (Over.refl _).cons _
        · simp -dsimp (disch := omega) only [go_sem, h]
          exact (Over.refl _).cons _

theorem need (b : Bool) (m : AM) (Q : AE → AM → Prop) (hQ : if b = true then Q (.ret (.tup [])) m else Q (.pan (.ifc 247 (.agg [I 120]))) m) : ACalls Tryz.prog 217 [B b] m Q := by
  refine acalls_of_body Tryz.func217 (by rfl) (by rfl) (Nat.le_of_ble_eq_true rfl) ?_
  simp -dsimp (disch := omega) only [go_sem, Tryz.f217]
  cases b
  · simp -dsimp (disch := omega) only [go_sem]
    simpa using hQ
  · simp -dsimp (disch := omega) only [go_sem]
    simpa using hQ

theorem surveyD (a b : Nat) (hab : a ≠ b) (v0 v1 : AV) (m : AM) (ha : m.get a = some (.cells 3 [v0])) (hb : m.get b = some (.cells 33 [v1])) (u : Option Int) (Q : AM → Prop)
    (hQ : Q (match u with | some e => (m.set a (some (.cells 3 [I 0]))).set b (some (.cells 33 [I e])) | none => m)) :
    ADef Tryz.prog 216 [.ptr a 0, .ptr b 0] (u.map fun e => .ifc 247 (.agg [I e])) m Q := by
  refine ADef.cut ?_
  have la := AM.get_lt _ _ _ ha
  have lb := AM.get_lt _ _ _ hb
  refine adef_of_body Tryz.func216 (by rfl) (by rfl) (by rfl) (Nat.le_of_ble_eq_true rfl) (Nat.le_of_ble_eq_true rfl) ?_
  cases u with
  | none =>
    simp -dsimp (disch := omega) only [go_sem, Tryz.f216, Option.map_none]
    exact ⟨m, (Over.refl _).cons _, Kept.refl _, hQ⟩
  | some e =>
    simp -dsimp (disch := omega) only [go_sem, Tryz.f216]
    refine ADraw.of (es := []) (pn := none) (T := [⟨false, false, 0, 1, 0⟩, ⟨false, true, 0, 1, 0⟩, ⟨true, false, 0, 1, 0⟩, ⟨true, false, 1, 2, 0⟩]) mixed (by kernel_rfl) ?_
    have xb : ∀ x, AM.get (AM.set m a x) b = some (.cells 33 [v1]) := fun x => by rw [AM.get_set_other _ _ _ _ (Ne.symm hab), hb]
    simp -dsimp (disch := omega) only [go_sem, ha, hb, xb]
    exact ⟨_, (Over.refl _).cons _, ((Kept.refl _).set (by simp only [ABlk.bd, AV.bd, AV.bdL, and_self])).set (by simp only [ABlk.bd, AV.bd, AV.bdL, and_self]), hQ⟩

def surveyGo (nin : Int) : List POp → Int → Int → Option (Int × Int)
  | [], len, dep => some (len, dep)
  | o :: p, len, dep => if ((takesF o.code).2 = true ∧ (takesF o.code).1 ≤ len ∧ argF o nin len = true) ∧ len + (1 - (takesF o.code).1) ≤ 16 then surveyGo nin p (len + (1 - (takesF o.code).1)) (if dep < len + (1 - (takesF o.code).1) then len + (1 - (takesF o.code).1) else dep) else none
def surveyF (p : List POp) (nin nout : Int) : Option Int := if 1 ≤ nin ∧ nin ≤ 4 ∧ 1 ≤ nout ∧ nout ≤ 4 ∧ (p.length : Int) ≤ 40 then (surveyGo nin p 0 0).bind fun x => if x.1 = nout then some x.2 else none else none
def surveyV : Option Int → AV
  | some d => .tup [I d, I 0]
  | none => .tup [I 0, I 120]

theorem surveyGo_step {nin : Int} {p : List POp} {i : Nat} {o : POp} (h : p[i]? = some o) (len dep : Int) : surveyGo nin (p.drop i) len dep = surveyGo nin (o :: p.drop (i + 1)) len dep := by
  obtain ⟨hlt, rfl⟩ := List.getElem?_eq_some_iff.1 h
  rw [List.drop_eq_getElem_cons hlt]

theorem survey (p : List POp) (nin nout : Int) (m : AM) (Q : AE → AM → Prop) (hQ : Q (.ret (surveyV (surveyF p nin nout))) m) : ACalls Tryz.prog 206 [.d (progD p), I nin, I nout] m Q := by
  refine ACalls.fin ?_
  refine acalls_of_bodyR Tryz.func206 (by rfl) (by rfl) (Nat.le_of_ble_eq_true rfl) ?_
  simp -dsimp (disch := omega) only [go_sem, Tryz.f206]
  unfold surveyF at hQ
  by_cases hc : 1 ≤ nin ∧ nin ≤ 4 ∧ 1 ≤ nout ∧ nout ≤ 4 ∧ (p.length : Int) ≤ 40
  rotate_left
  · rw [if_neg hc] at hQ
    by_cases c1 : 1 ≤ nin
    · by_cases c2 : nin ≤ 4
      · by_cases c3 : 1 ≤ nout
        · by_cases c4 : nout ≤ 4
          · have c5 : ¬ (p.length : Int) ≤ 40 := fun h => hc ⟨c1, c2, c3, c4, h⟩
            simp -dsimp (disch := omega) only [go_sem, c1, c2, c3, c4, c5]
            refine need false _ _ ?_
            simp -dsimp (disch := omega) only [go_sem]
            refine surveyD m.length (m.length + 1) (by omega) (I 0) (I 0) _ (by simp -dsimp (disch := omega) only [go_sem]) (by simp -dsimp (disch := omega) only [go_sem]) (some 120) _ ?_
            simp -dsimp (disch := omega) only [go_sem]
            refine ⟨_, _, .ret (.refl _), ?_, ?_, ?_, hQ⟩ <;> first | (exact Over.refl _) | (exact (Over.refl _).cons _) | (exact ((Over.refl _).cons _).cons _) | (exact (((Over.refl _).cons _).cons _).cons _) | (exact ((((Over.refl _).cons _).cons _).cons _).cons _) | exact Kept.refl _ | (exact (Kept.refl _).set (by simp only [ABlk.bd, AV.bd, AV.bdL, and_self])) | (simp only [AE.bd, AV.bd, AV.bdL, and_self]; done)
          · simp -dsimp (disch := omega) only [go_sem, c1, c2, c3, c4]
            refine need false _ _ ?_
            simp -dsimp (disch := omega) only [go_sem]
            refine surveyD m.length (m.length + 1) (by omega) (I 0) (I 0) _ (by simp -dsimp (disch := omega) only [go_sem]) (by simp -dsimp (disch := omega) only [go_sem]) (some 120) _ ?_
            simp -dsimp (disch := omega) only [go_sem]
            refine ⟨_, _, .ret (.refl _), ?_, ?_, ?_, hQ⟩ <;> first | (exact Over.refl _) | (exact (Over.refl _).cons _) | (exact ((Over.refl _).cons _).cons _) | (exact (((Over.refl _).cons _).cons _).cons _) | (exact ((((Over.refl _).cons _).cons _).cons _).cons _) | exact Kept.refl _ | (exact (Kept.refl _).set (by simp only [ABlk.bd, AV.bd, AV.bdL, and_self])) | (simp only [AE.bd, AV.bd, AV.bdL, and_self]; done)
        · simp -dsimp (disch := omega) only [go_sem, c1, c2, c3]
          refine need false _ _ ?_
          simp -dsimp (disch := omega) only [go_sem]
          refine surveyD m.length (m.length + 1) (by omega) (I 0) (I 0) _ (by simp -dsimp (disch := omega) only [go_sem]) (by simp -dsimp (disch := omega) only [go_sem]) (some 120) _ ?_
          simp -dsimp (disch := omega) only [go_sem]
          refine ⟨_, _, .ret (.refl _), ?_, ?_, ?_, hQ⟩ <;> first | (exact Over.refl _) | (exact (Over.refl _).cons _) | (exact ((Over.refl _).cons _).cons _) | (exact (((Over.refl _).cons _).cons _).cons _) | (exact ((((Over.refl _).cons _).cons _).cons _).cons _) | exact Kept.refl _ | (exact (Kept.refl _).set (by simp only [ABlk.bd, AV.bd, AV.bdL, and_self])) | (simp only [AE.bd, AV.bd, AV.bdL, and_self]; done)
      · simp -dsimp (disch := omega) only [go_sem, c1, c2]
        refine need false _ _ ?_
        simp -dsimp (disch := omega) only [go_sem]
        refine surveyD m.length (m.length + 1) (by omega) (I 0) (I 0) _ (by simp -dsimp (disch := omega) only [go_sem]) (by simp -dsimp (disch := omega) only [go_sem]) (some 120) _ ?_
        simp -dsimp (disch := omega) only [go_sem]
        refine ⟨_, _, .ret (.refl _), ?_, ?_, ?_, hQ⟩ <;> first | (exact Over.refl _) | (exact (Over.refl _).cons _) | (exact ((Over.refl _).cons _).cons _) | (exact (((Over.refl _).cons _).cons _).cons _) | (exact ((((Over.refl _).cons _).cons _).cons _).cons _) | exact Kept.refl _ | (exact (Kept.refl _).set (by simp only [ABlk.bd, AV.bd, AV.bdL, and_self])) | (simp only [AE.bd, AV.bd, AV.bdL, and_self]; done)
    · simp -dsimp (disch := omega) only [go_sem, c1]
      refine need false _ _ ?_
      simp -dsimp (disch := omega) only [go_sem]
      refine surveyD m.length (m.length + 1) (by omega) (I 0) (I 0) _ (by simp -dsimp (disch := omega) only [go_sem]) (by simp -dsimp (disch := omega) only [go_sem]) (some 120) _ ?_
      simp -dsimp (disch := omega) only [go_sem]
      refine ⟨_, _, .ret (.refl _), ?_, ?_, ?_, hQ⟩ <;> first | (exact Over.refl _) | (exact (Over.refl _).cons _) | (exact ((Over.refl _).cons _).cons _) | (exact (((Over.refl _).cons _).cons _).cons _) | (exact ((((Over.refl _).cons _).cons _).cons _).cons _) | exact Kept.refl _ | (exact (Kept.refl _).set (by simp only [ABlk.bd, AV.bd, AV.bdL, and_self])) | (simp only [AE.bd, AV.bd, AV.bdL, and_self]; done)
  rw [if_pos hc] at hQ
  obtain ⟨c1, c2, c3, c4, c5⟩ := hc
  simp -dsimp (disch := omega) only [go_sem, c1, c2, c3, c4, c5]
  refine need true _ _ ?_
  simp -dsimp (disch := omega) only [go_sem]
  refine AW.loopB (ι := Nat × Int × Int) (fun i => i.1 ≤ p.length ∧ (0 ≤ i.2.1 ∧ i.2.1 ≤ 16) ∧ surveyGo nin (p.drop i.1) i.2.1 i.2.2 = surveyGo nin p 0 0) (fun i => [(38, I i.1), (37, I p.length), (36, .d (progD p)), (9, I i.2.1), (8, .fn (.func 217) [] []), (7, .ptr (m.length + 1) 0), (6, .ptr m.length 0), (1, I nin), (2, I nout)]) (fun i => some (.cells 33 [I 0]) :: some (.cells 3 [I i.2.2]) :: m) (fun i => p.length - i.1) _ ⟨(0, 0, 0), ⟨by simp, by simp, rfl⟩, Weak.of ?_ (mLe.refl _)⟩ ?_
  · (simp only [frLe]; repeat' apply And.intro) <;> first | trivial | exact ⟨_, rfl, .refl _⟩
  · rintro ⟨i, len, dep⟩ ⟨g1, g2, g3⟩
    simp only [] at g1 g2 g3
    simp -dsimp (disch := omega) only [go_sem]
    refine Br.intro (fun h => ?_) (fun h => ?_)
    · obtain ⟨o, ho⟩ : ∃ o, p[i]? = some o := ⟨_, List.getElem?_eq_getElem (by omega)⟩
      rw [surveyGo_step ho, surveyGo] at g3
      have ht := takesF_range o.code
      simp -dsimp (disch := omega) only [go_sem, List.getD_eq_getElem?_getD, List.getElem?_map, Option.getD_some, ho]
      refine takes o.code _ _ ?_
      by_cases t1 : (takesF o.code).2 = true
      · by_cases t2 : (takesF o.code).1 ≤ len
        · simp -dsimp (disch := omega) only [go_sem, t1, t2]
          refine argument o nin len ⟨c1, c2⟩ g2 _ _ ?_
          by_cases t3 : argF o nin len = true
          · simp -dsimp (disch := omega) only [go_sem, t3]
            refine need true _ _ ?_
            simp -dsimp (disch := omega) only [go_sem]
            by_cases t4 : len + (1 - (takesF o.code).1) ≤ 16
            · simp -dsimp (disch := omega) only [go_sem, t4]
              refine need true _ _ ?_
              rw [if_pos ⟨⟨t1, t2, t3⟩, t4⟩] at g3
              simp -dsimp (disch := omega) only [go_sem]
              refine ⟨(i + 1, len + (1 - (takesF o.code).1), if dep < len + (1 - (takesF o.code).1) then len + (1 - (takesF o.code).1) else dep), ⟨by simp only []; omega, by simp only []; omega, g3⟩, by simp only []; omega, WeakB.cutD ?_ ((Over.refl _).cons _) (Kept.pre (p := [_, _]) (p' := [_, _]) rfl ?_) ?_ ?_⟩
              · (simp only [frLe]; repeat' apply And.intro) <;> first | trivial | exact ⟨_, rfl, .refl _⟩
              · simp only [frBd, preBd, ABlk.bd, AV.bd, AV.bdL, List.length_cons, List.length_nil, List.length_append, List.nil_append, List.cons_append, and_true, true_and] <;> (try omega)
              · simp only [frBd, preBd, ABlk.bd, AV.bd, AV.bdL, List.length_cons, List.length_nil, List.length_append, List.nil_append, List.cons_append, and_true, true_and] <;> (try omega)
              · simp only [frBd, preBd, ABlk.bd, AV.bd, AV.bdL, List.length_cons, List.length_nil, List.length_append, List.nil_append, List.cons_append, and_true, true_and] <;> (try omega)
            · rw [if_neg (fun h => t4 h.2)] at g3
              rw [← g3] at hQ
              simp -dsimp (disch := omega) only [go_sem, t4]
              refine need false _ _ ?_
              simp -dsimp (disch := omega) only [go_sem]
              refine surveyD m.length (m.length + 1) (by omega) (I dep) (I 0) _ (by simp -dsimp (disch := omega) only [go_sem]) (by simp -dsimp (disch := omega) only [go_sem]) (some 120) _ ?_
              simp -dsimp (disch := omega) only [go_sem]
              refine ⟨_, _, .ret (.refl _), ?_, ?_, ?_, hQ⟩ <;> first | (exact Over.refl _) | (exact (Over.refl _).cons _) | (exact ((Over.refl _).cons _).cons _) | (exact (((Over.refl _).cons _).cons _).cons _) | (exact ((((Over.refl _).cons _).cons _).cons _).cons _) | exact Kept.refl _ | (exact (Kept.refl _).set (by simp only [ABlk.bd, AV.bd, AV.bdL, and_self])) | (simp only [AE.bd, AV.bd, AV.bdL, and_self]; done)
          · rw [if_neg (fun h => t3 h.1.2.2)] at g3
            rw [← g3] at hQ
            simp -dsimp (disch := omega) only [go_sem, t3]
            refine need false _ _ ?_
            simp -dsimp (disch := omega) only [go_sem]
            refine surveyD m.length (m.length + 1) (by omega) (I dep) (I 0) _ (by simp -dsimp (disch := omega) only [go_sem]) (by simp -dsimp (disch := omega) only [go_sem]) (some 120) _ ?_
            simp -dsimp (disch := omega) only [go_sem]
            refine ⟨_, _, .ret (.refl _), ?_, ?_, ?_, hQ⟩ <;> first | (exact Over.refl _) | (exact (Over.refl _).cons _) | (exact ((Over.refl _).cons _).cons _) | (exact (((Over.refl _).cons _).cons _).cons _) | (exact ((((Over.refl _).cons _).cons _).cons _).cons _) | exact Kept.refl _ | (exact (Kept.refl _).set (by simp only [ABlk.bd, AV.bd, AV.bdL, and_self])) | (simp only [AE.bd, AV.bd, AV.bdL, and_self]; done)
        · rw [if_neg (fun h => t2 h.1.2.1)] at g3
          rw [← g3] at hQ
          simp -dsimp (disch := omega) only [go_sem, t1, t2]
          refine need false _ _ ?_
          simp -dsimp (disch := omega) only [go_sem]
          refine surveyD m.length (m.length + 1) (by omega) (I dep) (I 0) _ (by simp -dsimp (disch := omega) only [go_sem]) (by simp -dsimp (disch := omega) only [go_sem]) (some 120) _ ?_
          simp -dsimp (disch := omega) only [go_sem]
          refine ⟨_, _, .ret (.refl _), ?_, ?_, ?_, hQ⟩ <;> first | (exact Over.refl _) | (exact (Over.refl _).cons _) | (exact ((Over.refl _).cons _).cons _) | (exact (((Over.refl _).cons _).cons _).cons _) | (exact ((((Over.refl _).cons _).cons _).cons _).cons _) | exact Kept.refl _ | (exact (Kept.refl _).set (by simp only [ABlk.bd, AV.bd, AV.bdL, and_self])) | (simp only [AE.bd, AV.bd, AV.bdL, and_self]; done)
      · rw [if_neg (fun h => t1 h.1.1)] at g3
        rw [← g3] at hQ
        simp -dsimp (disch := omega) only [go_sem, t1]
        refine need false _ _ ?_
        simp -dsimp (disch := omega) only [go_sem]
        refine surveyD m.length (m.length + 1) (by omega) (I dep) (I 0) _ (by simp -dsimp (disch := omega) only [go_sem]) (by simp -dsimp (disch := omega) only [go_sem]) (some 120) _ ?_
        simp -dsimp (disch := omega) only [go_sem]
        refine ⟨_, _, .ret (.refl _), ?_, ?_, ?_, hQ⟩ <;> first | (exact Over.refl _) | (exact (Over.refl _).cons _) | (exact ((Over.refl _).cons _).cons _) | (exact (((Over.refl _).cons _).cons _).cons _) | (exact ((((Over.refl _).cons _).cons _).cons _).cons _) | exact Kept.refl _ | (exact (Kept.refl _).set (by simp only [ABlk.bd, AV.bd, AV.bdL, and_self])) | (simp only [AE.bd, AV.bd, AV.bdL, and_self]; done)
    · obtain rfl : i = p.length := by omega
      rw [List.drop_length, surveyGo] at g3
      rw [← g3] at hQ
      simp only [Option.bind_some] at hQ
      by_cases t5 : len = nout
      · rw [if_pos t5] at hQ
        simp -dsimp (disch := omega) only [go_sem, t5]
        refine need true _ _ ?_
        simp -dsimp (disch := omega) only [go_sem]
        refine surveyD m.length (m.length + 1) (by omega) (I dep) (I 0) _ (by simp -dsimp (disch := omega) only [go_sem]) (by simp -dsimp (disch := omega) only [go_sem]) none _ ?_
        simp -dsimp (disch := omega) only [go_sem]
        refine ⟨_, _, .ret (.refl _), ?_, ?_, ?_, hQ⟩ <;> first | (exact Over.refl _) | (exact (Over.refl _).cons _) | (exact ((Over.refl _).cons _).cons _) | (exact (((Over.refl _).cons _).cons _).cons _) | (exact ((((Over.refl _).cons _).cons _).cons _).cons _) | exact Kept.refl _ | (exact (Kept.refl _).set (by simp only [ABlk.bd, AV.bd, AV.bdL, and_self])) | (simp only [AE.bd, AV.bd, AV.bdL, and_self]; done)
      · rw [if_neg t5] at hQ
        simp -dsimp (disch := omega) only [go_sem, t5]
        refine need false _ _ ?_
        simp -dsimp (disch := omega) only [go_sem]
        refine surveyD m.length (m.length + 1) (by omega) (I dep) (I 0) _ (by simp -dsimp (disch := omega) only [go_sem]) (by simp -dsimp (disch := omega) only [go_sem]) (some 120) _ ?_
        simp -dsimp (disch := omega) only [go_sem]
        refine ⟨_, _, .ret (.refl _), ?_, ?_, ?_, hQ⟩ <;> first | (exact Over.refl _) | (exact (Over.refl _).cons _) | (exact ((Over.refl _).cons _).cons _) | (exact (((Over.refl _).cons _).cons _).cons _) | (exact ((((Over.refl _).cons _).cons _).cons _).cons _) | exact Kept.refl _ | (exact (Kept.refl _).set (by simp only [ABlk.bd, AV.bd, AV.bdL, and_self])) | (simp only [AE.bd, AV.bd, AV.bdL, and_self]; done)

def progE (p : List POp) (nin nout : Int) : Int := if (surveyF p nin nout).isSome = true then 0 else 120
theorem progCheck (p : List POp) (nin nout : Int) (m : AM) (Q : AE → AM → Prop) (hQ : Q (.ret (I (progE p nin nout))) m) : ACalls Tryz.prog 188 [.d (progD p), I nin, I nout] m Q := by
  refine acalls_of_body Tryz.func188 (by rfl) (by rfl) (Nat.le_of_ble_eq_true rfl) ?_
  simp -dsimp (disch := omega) only [go_sem, Tryz.f188]
  refine survey p nin nout _ _ ?_
  unfold progE at hQ
  cases h : surveyF p nin nout with
  | some d =>
    rw [h] at hQ
    simp -dsimp (disch := omega) only [go_sem, surveyV]
    exact hQ
  | none =>
    rw [h] at hQ
    simp -dsimp (disch := omega) only [go_sem, surveyV]
    exact hQ
end Go.Proofs.YtbdefaebbicfjaaGreat
