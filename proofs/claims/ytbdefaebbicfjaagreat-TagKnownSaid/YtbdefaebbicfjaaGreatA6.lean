/- Lemmas on an abstract memory that stands for the worlds of the model: no condition. -/
import Derived.Test.YtbdefaebbicfjaaGreatA5
import Derived.Recover
set_option linter.all false
/- What a call leaves behind that nobody holds is forgotten: the memory after it is what it was. -/
namespace Go.Ab
open Go.RowKit

mutual
/-- All names in a value are below 'k'. -/
def AV.bd (k : Nat) : AV → Prop
  | .d _ => True
  | .ptr n _ => n < k
  | .eptr _ _ => True
  | .lsl n _ _ _ => n < k
  | .gsl n _ _ => n < k
  | .fn _ fs cs => AV.bdL k fs ∧ AV.bdL k cs
  | .agg cs => AV.bdL k cs
  | .tup cs => AV.bdL k cs
  | .ifc _ v => v.bd k
  | .mp n => n < k
  | .yl n => n < k
  | .mrk n => n < k
  | .dptr n _ => n < k
def AV.bdL (k : Nat) : List AV → Prop
  | [] => True
  | v :: vs => v.bd k ∧ AV.bdL k vs
end

theorem bdL_get {k : Nat} : ∀ {l : List AV}, AV.bdL k l → ∀ (i : Nat) a, l[i]? = some a → a.bd k
  | [], _, i, a, h => by simp at h
  | x :: l, ⟨h1, h2⟩, i, a, h => by
    cases i with
    | zero => simp at h; subst h; exact h1
    | succ i => exact bdL_get h2 i a (by simpa using h)
theorem bdL_of {k : Nat} : ∀ {l : List AV}, (∀ (i : Nat) a, l[i]? = some a → a.bd k) → AV.bdL k l
  | [], _ => trivial
  | x :: l, h => ⟨h 0 x rfl, bdL_of fun i a hi => h (i + 1) a (by simpa using hi)⟩

def ABlk.bd (k : Nat) : ABlk → Prop
  | .cells _ cs => AV.bdL k cs
  | .grow _ _ _ => True
  | .map es => ∀ (i : Nat) (e : Int × AV), es[i]? = some e → e.2.bd k
  | .loop _ fr => ∀ s v, fget fr s = some v → v.bd k
  | .dfr => True

def AE.bd (k : Nat) : AE → Prop
  | .ret v => v.bd k
  | .pan v => v.bd k

theorem R.bd {σ : St} {m : AM} {w : World} {v : Value} {a : AV} (h : R σ m w v a) : a.bd m.length := by
  induction h with
  | d => simp only [AV.bd]
  | ptr n off hn => simpa only [AV.bd] using hn
  | eptr => simp only [AV.bd]
  | lsl n off len cap hn => simpa only [AV.bd] using hn
  | gsl v n sz rows hn => simpa only [AV.bd] using hn
  | fn f fs cs as bs hf hc hfs hcs ih1 ih2 =>
    simp only [AV.bd]
    constructor
    · refine bdL_of fun i a hi => ?_
      have hlt : i < fs.length := by rw [hf]; exact (List.getElem?_eq_some_iff.1 hi).1
      exact ih1 i fs[i] a (List.getElem?_eq_getElem hlt) hi
    · refine bdL_of fun i a hi => ?_
      have hlt : i < cs.length := by rw [hc]; exact (List.getElem?_eq_some_iff.1 hi).1
      exact ih2 i cs[i] a (List.getElem?_eq_getElem hlt) hi
  | agg vs as hl h ih =>
    simp only [AV.bd]
    refine bdL_of fun i a hi => ?_
    have hlt : i < vs.length := by rw [hl]; exact (List.getElem?_eq_some_iff.1 hi).1
    exact ih i vs[i] a (List.getElem?_eq_getElem hlt) hi
  | tup vs as hl h ih =>
    simp only [AV.bd]
    refine bdL_of fun i a hi => ?_
    have hlt : i < vs.length := by rw [hl]; exact (List.getElem?_eq_some_iff.1 hi).1
    exact ih i vs[i] a (List.getElem?_eq_getElem hlt) hi
  | ifc t v a h ih => simpa only [AV.bd] using ih
  | mp n hn => simpa only [AV.bd] using hn
  | yl n hn => simpa only [AV.bd] using hn
  | dptr n b o row hn => simpa only [AV.bd] using hn

theorem Rs.bd {σ : St} {m : AM} {w : World} {vs : List Value} {as : List AV} (h : Rs σ m w vs as) : AV.bdL m.length as :=
  bdL_of fun i a hi => by
    have hlt : i < vs.length := by rw [h.1]; exact (List.getElem?_eq_some_iff.1 hi).1
    exact (h.2 i vs[i] a (List.getElem?_eq_getElem hlt) hi).bd

theorem get_app (m : AM) : ∀ (pre : AM) (n : Nat), n < m.length → AM.get (pre ++ m) n = AM.get m n
  | [], _, _ => rfl
  | x :: pre, n, h => by
    show (if n = (pre ++ m).length then x else AM.get (pre ++ m) n) = _
    rw [if_neg (by simp; omega)]
    exact get_app m pre n h

theorem get_app_some {m pre : AM} {n : Nat} {x : ABlk} (h : AM.get m n = some x) : AM.get (pre ++ m) n = some x := by
  rw [get_app m pre n (AM.get_lt _ _ _ h)]; exact h

theorem Imm.cut {σ : St} {pre m : AM} {w : World} {b o : Nat} (h : Imm σ (pre ++ m) w b o) : Imm σ m w b o :=
  ⟨h.1, fun n x hn hb => h.2 n x (get_app_some hn) hb⟩

theorem R.cut {σ : St} {pre m : AM} {w : World} {v : Value} {a : AV} (h : R σ (pre ++ m) w v a) : a.bd m.length → R σ m w v a := by
  have hi : ∀ b o, Imm σ (pre ++ m) w b o → Imm σ m w b o ∧ w.cell? ⟨b, o, none⟩ = w.cell? ⟨b, o, none⟩ := fun b o h => ⟨h.cut, rfl⟩
  induction h with
  | d v x hd => exact fun _ => .d v x (hd.mono hi)
  | ptr n off hn => exact fun hb => .ptr n off (by simpa only [AV.bd] using hb)
  | eptr b o off row cv hc => exact fun _ => .eptr b o off row cv fun j x hj => ⟨(hc j x hj).1.cut, (hc j x hj).2.1, (hc j x hj).2.2.mono hi⟩
  | lsl n off len cap hn => exact fun hb => .lsl n off len cap (by simpa only [AV.bd] using hb)
  | gsl v n sz rows hn hd hg => exact fun hb => .gsl v n sz rows (by simpa only [AV.bd] using hb) (hd.mono hi) fun e sz' k hk => hg e sz' k (get_app_some hk)
  | fn f fs cs as bs hf hc hfs hcs ih1 ih2 =>
    intro hb
    simp only [AV.bd] at hb
    exact .fn f fs cs as bs hf hc (fun i v a h1 h2 => ih1 i v a h1 h2 (bdL_get hb.1 i a h2)) (fun i v a h1 h2 => ih2 i v a h1 h2 (bdL_get hb.2 i a h2))
  | agg vs as hl h ih =>
    intro hb
    simp only [AV.bd] at hb
    exact .agg vs as hl fun i v a h1 h2 => ih i v a h1 h2 (bdL_get hb i a h2)
  | tup vs as hl h ih =>
    intro hb
    simp only [AV.bd] at hb
    exact .tup vs as hl fun i v a h1 h2 => ih i v a h1 h2 (bdL_get hb i a h2)
  | ifc t v a h ih => exact fun hb => .ifc t v a (ih (by simpa only [AV.bd] using hb))
  | mp n hn => exact fun hb => .mp n (by simpa only [AV.bd] using hb)
  | yl n hn => exact fun hb => .yl n (by simpa only [AV.bd] using hb)
  | dptr n b o row hn hc hg => exact fun hb => .dptr n b o row (by simpa only [AV.bd] using hb) (fun j x hj => ⟨(hc j x hj).1.cut, (hc j x hj).2⟩) fun e sz k hk => hg e sz k (get_app_some hk)

/-- The blocks of 'm0' are those of 'm', or hold no name beyond. -/
structure Kept (m m0 : AM) : Prop where
  len : m.length ≤ m0.length
  get : ∀ n x, m0.get n = some x → m.get n = some x ∨ x.bd m0.length

theorem Kept.refl (m : AM) : Kept m m := ⟨Nat.le_refl _, fun _ _ h => .inl h⟩
theorem AV.bd_mono {k k' : Nat} (h : k ≤ k') : ∀ {a : AV}, a.bd k → a.bd k' := by
  have key : ∀ (a : AV), a.bd k → a.bd k' := by
    intro a
    refine AV.rec (motive_1 := fun a => a.bd k → a.bd k') (motive_2 := fun l => AV.bdL k l → AV.bdL k' l) ?_ ?_ ?_ ?_ ?_ ?_ ?_ ?_ ?_ ?_ ?_ ?_ ?_ ?_ ?_ a
    case refine_6 => intro f fs cs i1 i2 hb; simp only [AV.bd] at hb ⊢; exact ⟨i1 hb.1, i2 hb.2⟩
    case refine_7 => intro cs i1 hb; simp only [AV.bd] at hb ⊢; exact i1 hb
    case refine_8 => intro cs i1 hb; simp only [AV.bd] at hb ⊢; exact i1 hb
    case refine_9 => intro t v i1 hb; simp only [AV.bd] at hb ⊢; exact i1 hb
    case refine_14 => intro _; simp only [AV.bdL]
    case refine_15 => intro x l i1 i2 hb; simp only [AV.bdL] at hb ⊢; exact ⟨i1 hb.1, i2 hb.2⟩
    all_goals (intros; simp only [AV.bd] at *; try omega)
  exact fun {a} => key a
theorem AV.bdL_mono {k k' : Nat} (h : k ≤ k') {l : List AV} (hb : AV.bdL k l) : AV.bdL k' l := bdL_of fun i a hi => AV.bd_mono h (bdL_get hb i a hi)
theorem ABlk.bd_mono {k k' : Nat} (h : k ≤ k') {x : ABlk} (hb : x.bd k) : x.bd k' := by
  cases x with
  | cells t cs => exact AV.bdL_mono h hb
  | grow => trivial
  | map es => exact fun i e hi => AV.bd_mono h (hb i e hi)
  | loop r fr => exact fun s v hv => AV.bd_mono h (hb s v hv)
  | dfr => trivial

theorem Kept.push {m m0 : AM} {x : ABlk} (h : Kept m m0) (hx : x.bd (m0.length + 1)) : Kept m (some x :: m0) := by
  refine ⟨by have := h.len; simp; omega, fun n y hy => ?_⟩
  simp only [AM.get] at hy
  split at hy
  · cases hy; exact .inr hx
  · exact (h.get n y hy).imp_right fun hb => ABlk.bd_mono (by simp) hb

theorem Kept.set {m m0 : AM} {n : Nat} {x : ABlk} (h : Kept m m0) (hx : x.bd m0.length) : Kept m (m0.set n (some x)) := by
  refine ⟨by rw [AM.length_set]; exact h.len, fun k y hy => ?_⟩
  rw [AM.get_set] at hy
  rw [AM.length_set]
  split at hy
  · split at hy
    · cases hy; exact .inr hx
    · cases hy
  · exact h.get k y hy

theorem Kept.sim {σ σ' : St} {pre m m0 : AM} {w w' : World} (h : Kept m m0) (hs0 : Sim σ m w) (hs : Sim σ' (pre ++ m0) w') : Sim σ' m0 w' := by
  refine ⟨fun n x hx => ?_, fun n n' x x' b h1 h2 h3 h4 => hs.inj n n' x x' b (get_app_some h1) (get_app_some h2) h3 h4⟩
  have hok := hs.ok n x (get_app_some hx)
  have hbd : x.bd m0.length := by
    rcases h.get n x hx with hm | hb
    · have h0 := hs0.ok n x hm
      refine ABlk.bd_mono h.len ?_
      cases x with
      | cells t cs =>
        obtain ⟨_, vs, _, h2⟩ := h0
        exact h2.bd
      | grow => trivial
      | map es =>
        obtain ⟨entries, clock, _, h2, h3⟩ := h0
        intro i e hi
        have hlt : i < entries.toList.length := by rw [h2]; exact (List.getElem?_eq_some_iff.1 hi).1
        exact (h3 i entries.toList[i] e.1 e.2 (List.getElem?_eq_getElem hlt) hi).2.bd
      | loop r fr => exact fun s v hv => (h0.2 s v hv).bd
      | dfr => trivial
    · exact hb
  cases x with
  | cells t cs =>
    obtain ⟨h1, vs, h2, h3⟩ := hok
    exact ⟨h1, vs, h2, h3.1, fun i v a e1 e2 => (h3.2 i v a e1 e2).cut (bdL_get hbd i a e2)⟩
  | grow e sz k => exact hok
  | map es =>
    obtain ⟨entries, clock, h1, h2, h3⟩ := hok
    exact ⟨entries, clock, h1, h2, fun i e k a e1 e2 => ⟨(h3 i e k a e1 e2).1, (h3 i e k a e1 e2).2.cut (hbd i (k, a) e2)⟩⟩
  | loop r fr => exact ⟨hok.1, fun s v hv => (hok.2 s v hv).cut (hbd s v hv)⟩
  | dfr => exact hok

theorem ER.cut {σ : St} {pre m : AM} {w : World} {e : Ending} {x : AE} (h : ER σ (pre ++ m) w e x) (hb : x.bd m.length) : ER σ m w e x := by
  cases h with
  | ret v a hr => exact .ret v a (hr.cut hb)
  | pan v a hr => exact .pan v a (hr.cut hb)

/-- 'm1' lies over 'm0'. -/
def Over (m0 m1 : AM) : Prop := ∃ pre, m1 = pre ++ m0
theorem Over.refl (m : AM) : Over m m := ⟨[], rfl⟩
theorem Over.cons {m0 m1 : AM} (x : Option ABlk) (h : Over m0 m1) : Over m0 (x :: m1) := by
  obtain ⟨pre, rfl⟩ := h
  exact ⟨x :: pre, rfl⟩
theorem over_self (m : AM) : Over m m = True := eq_true (Over.refl m)
theorem over_cons {m0 m1 : AM} (x : Option ABlk) (h : Over m0 m1) : Over m0 (x :: m1) = True := eq_true (h.cons x)

theorem ACalls.cut {P : Program} {f : FuncId} {args : List AV} {m : AM} {Q : AE → AM → Prop} (h : ACalls P f args m fun x m' => ∃ m1, Over m1 m' ∧ Kept m m1 ∧ x.bd m1.length ∧ Q x m1) : ACalls P f args m Q :=
  fun σ w vs hs hr => (h σ w vs hs hr).mono fun e w' ⟨x, σ', m', h1, h2, h3, m1, ⟨pre, h4⟩, h5, h6, h7⟩ => by
    subst h4
    refine ⟨x, σ', m1, ⟨h1.os, h1.tape, h1.output, h1.size, h5.len, h1.rho, fun n hn e sz k hk => h1.gr n hn e sz k (get_app_some hk), fun b o hb => ?_, fun b hb hn => ?_⟩, h5.sim hs h2, h3.cut h6, h7⟩
    · obtain ⟨a1, a2⟩ := h1.imm b o hb
      exact ⟨a1.cut, a2⟩
    · obtain ⟨a1, a2⟩ := h1.old b hb hn
      exact ⟨fun n x hx => a1 n x (get_app_some hx), a2⟩

/-- The memory is as before: the usual case. -/
theorem ACalls.cut0 {P : Program} {f : FuncId} {args : List AV} {m : AM} {r : AE} {Q : AE → AM → Prop} (hq : Q r m) (hb : r.bd m.length) (h : ACalls P f args m fun x m' => x = r ∧ Over m m') : ACalls P f args m Q :=
  ACalls.cut (h.mono fun x m' ⟨e, ho⟩ => ⟨m, ho, .refl m, e ▸ hb, e ▸ hq⟩)

end Go.Ab

/- Loops that are unrolled; loops that leave blocks behind. -/
namespace Go.Ab
open Go.RowKit

/-- The rounds one after the other, at most 'n'. -/
def unr (P : Program) (nt : Nat) (c : Code) (Q : AX → AA → AM → Prop) : Nat → AA → AM → Prop
  | 0, _, _ => False
  | n + 1, aa, m => awpC P nt c aa m (AX.then (fun aa m => unr P nt c Q n aa m) Q)

theorem unr_round {P : Program} {nt : Nat} {c : Code} {Q : AX → AA → AM → Prop} : ∀ (n : Nat) (aa : AA) (m : AM), unr P nt c Q n aa m → ∀ ρ, (ρ = none ∨ noDef c = true) → ∀ σ w a, Sim σ m w → AR σ m w nt a aa → ∀ (b : Frame) (k : List Item) (cs : List Frame), b.roundOf = ρ →
    ∃ e a2 w2, Post σ m w nt Q e a2 w2 ∧ ArrivesIn (Machine.fenced P (WF ρ)) P (lone (b.atR a (.code c :: .inLoop c :: k)) cs w) b k cs e a2 w2
  | 0, _, _, h, _, _, _, _, _, _, _ => h.elim
  | n + 1, aa, m, h, ρ, hρ, σ, w, a, hs, ha => fun b k cs hro => by
    obtain ⟨e, a2, w2, hp, harr⟩ := awpC_ok _ _ _ _ h ρ hρ σ w a hs ha b (.inLoop c :: k) cs hro trivial (room_wide _)
    obtain ⟨x', σ'', m'', aa'', p1, p2, p3, p4, p5⟩ := hp
    cases p4 with
    | normal =>
      obtain ⟨e3, a3, w3, r1, r2⟩ := unr_round n _ _ p5 ρ hρ σ'' w2 a2 p2 p3 b k cs hro
      exact ⟨e3, a3, w3, r1.of_ext p1, .of_steps (StepsIn.trans harr (.one (fenced_calm trivial (room_wide (cs.length + 1 + 0)) rfl) stepR_inLoop)) r2⟩
    | exit id => exact ⟨_, a2, w2, ⟨_, σ'', m'', aa'', p1, p2, p3, .exit id, p5⟩, .pass (x := .inLoop c) rfl (fun _ _ => .inl (by simp)) harr⟩
    | goto l => exact ⟨_, a2, w2, ⟨_, σ'', m'', aa'', p1, p2, p3, .goto l, p5⟩, .pass (x := .inLoop c) rfl (fun _ _ => .inl (by simp)) harr⟩
    | ret => exact ⟨_, a2, w2, ⟨_, σ'', m'', aa'', p1, p2, p3, .ret, p5⟩, .pass (x := .inLoop c) rfl (fun _ _ => .inl (by simp)) harr⟩
    | pan v b' hr => exact ⟨_, a2, w2, ⟨_, σ'', m'', aa'', p1, p2, p3, .pan v b' hr, p5⟩, .pass (x := .inLoop c) rfl (fun _ _ => .inl (by simp)) harr⟩

theorem ALoop.unr {P : Program} {nt : Nat} {c : Code} {aa : AA} {m : AM} {Q : AX → AA → AM → Prop} (n : Nat) (h : Ab.unr P nt c Q n aa m) : ALoop P nt c aa m Q := by
  intro ρ hρ σ w a hs ha b k cs hro _ _
  obtain ⟨e, a2, w2, h1, h2⟩ := unr_round n aa m h ρ hρ σ w a hs ha b k cs hro
  exact ⟨e, a2, w2, h1, .of_steps (.one (fenced_calm trivial (room_wide (cs.length + 1 + 0)) rfl) stepR_loop) h2⟩

/-- What a frame and a memory may be taken for, over the memory 'm0' in which a loop began. -/
def WeakB (m0 : AM) (aa : AA) (m : AM) (aa' : AA) (m' : AM) : Prop := ∀ nt σ0 w0 σ w a, Sim σ0 m0 w0 → Ext σ0 m0 w0 σ m w → Sim σ m w → AR σ m w nt a aa → ∃ σ', Ext σ0 m0 w0 σ' m' w ∧ Sim σ' m' w ∧ AR σ' m' w nt a aa'

theorem Weak.b {m0 : AM} {aa aa' : AA} {m m' : AM} (h : Weak aa m aa' m') : WeakB m0 aa m aa' m' := fun nt σ0 w0 σ w a _ he hs ha => by
  obtain ⟨σ', h1, h2, h3⟩ := h nt σ w a hs ha
  exact ⟨σ', he.trans h1, h2, h3⟩
theorem WeakB.trans {m0 : AM} {a1 a2 a3 : AA} {m1 m2 m3 : AM} (h : WeakB m0 a1 m1 a2 m2) (k : WeakB m0 a2 m2 a3 m3) : WeakB m0 a1 m1 a3 m3 := fun nt σ0 w0 σ w a h0 he hs ha => by
  obtain ⟨σ1, e1, e2, e3⟩ := h nt σ0 w0 σ w a h0 he hs ha
  exact k nt σ0 w0 σ1 w a h0 e1 e2 e3

def frBd (k : Nat) : List (Nat × AV) → Prop
  | [] => True
  | (_, v) :: t => v.bd k ∧ frBd k t
theorem frBd_get {k : Nat} : ∀ {fr : List (Nat × AV)}, frBd k fr → ∀ s v, fget fr s = some v → v.bd k
  | (j, u) :: t, ⟨h1, h2⟩, s, v, h => by
    simp only [fget] at h
    split at h
    · cases h; exact h1
    · exact frBd_get h2 s v h

theorem Ext.cut {σ0 σ : St} {m0 pre m : AM} {w0 w : World} (h : Ext σ0 m0 w0 σ (pre ++ m) w) (hl : m0.length ≤ m.length) : Ext σ0 m0 w0 σ m w :=
  ⟨h.os, h.tape, h.output, h.size, hl, h.rho, fun n hn e sz k hk => h.gr n hn e sz k (get_app_some hk), fun b o hb => ⟨(h.imm b o hb).1.cut, (h.imm b o hb).2⟩, fun b hb hn => ⟨fun n x hx => (h.old b hb hn).1 n x (get_app_some hx), (h.old b hb hn).2⟩⟩

/-- Blocks that nobody holds any more are forgotten. -/
theorem WeakB.cut {m0 m m' : AM} {fr fr' : List (Nat × AV)} (hf : frLe fr fr') (ho : Over m' m) (hk : Kept m0 m') (hb : frBd m'.length fr') : WeakB m0 ⟨fr, []⟩ m ⟨fr', []⟩ m' := fun nt σ0 w0 σ w a h0 he hs ha => by
  obtain ⟨pre, rfl⟩ := ho
  refine ⟨σ, he.cut hk.len, hk.sim h0 hs, ha.size, fun s v hv => ?_, ha.dl, fun i d v h1 h2 => by simp at h2⟩
  obtain ⟨u, hu, hle⟩ := frLe_get hf s v hv
  exact (hle σ _ w _ (ha.fr s u hu)).cut (frBd_get hb s v hv)

theorem AW.loopB {P : Program} {nt : Nat} {c : Code} {aa : AA} {m : AM} {Q : AX → AA → AM → Prop} {ι : Type} (I : ι → Prop) (fr : ι → List (Nat × AV)) (mm : ι → AM) (μ : ι → Nat) (ds : List AV)
    (h0 : ∃ i, I i ∧ Weak aa m ⟨fr i, ds⟩ (mm i))
    (round : ∀ i, I i → awpC P nt c ⟨fr i, ds⟩ (mm i) (AX.then (fun aa' m' => ∃ i', I i' ∧ μ i' < μ i ∧ WeakB m aa' m' ⟨fr i', ds⟩ (mm i')) Q)) : ALoop P nt c aa m Q := by
  intro ρ hρ σ w a hs ha
  obtain ⟨i0, hI, hw⟩ := h0
  obtain ⟨σ1, e1, e2, e3⟩ := hw nt σ w a hs ha
  have key : ∀ (n : Nat) (i : ι) (σ' : St) (a' : Act) (w' : World), μ i = n → I i → Ext σ m w σ' (mm i) w' → Sim σ' (mm i) w' → AR σ' (mm i) w' nt a' ⟨fr i, ds⟩ → ∀ (b : Frame) (k : List Item) (cs : List Frame), b.roundOf = ρ →
      ∃ e a2 w2, Post σ m w nt Q e a2 w2 ∧ ArrivesIn (Machine.fenced P (WF ρ)) P (lone (b.atR a' (.code c :: .inLoop c :: k)) cs w') b k cs e a2 w2 := by
    intro n
    induction n using Nat.strongRecOn with
    | _ n ih =>
      intro i σ' a' w' hn hIi g1 g2 g3 b k cs hro
      obtain ⟨e, a2, w2, hp, harr⟩ := awpC_ok _ _ _ _ (round i hIi) ρ hρ σ' w' a' g2 g3 b (.inLoop c :: k) cs hro trivial (room_wide _)
      obtain ⟨x', σ'', m'', aa'', p1, p2, p3, p4, p5⟩ := hp
      cases p4 with
      | normal =>
        obtain ⟨i', hI', hlt, hwk⟩ := p5
        obtain ⟨σ3, q1, q2, q3⟩ := hwk nt σ w σ'' w2 a2 hs (g1.trans p1) p2 p3
        obtain ⟨e3', a3, w3, r1, r2⟩ := ih (μ i') (hn ▸ hlt) i' σ3 a2 w2 rfl hI' q1 q2 q3 b k cs hro
        exact ⟨e3', a3, w3, r1, .of_steps (StepsIn.trans harr (.one (fenced_calm trivial (room_wide (cs.length + 1 + 0)) rfl) stepR_inLoop)) r2⟩
      | exit id => exact ⟨_, a2, w2, ⟨_, σ'', m'', aa'', g1.trans p1, p2, p3, .exit id, p5⟩, .pass (x := .inLoop c) rfl (fun _ _ => .inl (by simp)) harr⟩
      | goto l => exact ⟨_, a2, w2, ⟨_, σ'', m'', aa'', g1.trans p1, p2, p3, .goto l, p5⟩, .pass (x := .inLoop c) rfl (fun _ _ => .inl (by simp)) harr⟩
      | ret => exact ⟨_, a2, w2, ⟨_, σ'', m'', aa'', g1.trans p1, p2, p3, .ret, p5⟩, .pass (x := .inLoop c) rfl (fun _ _ => .inl (by simp)) harr⟩
      | pan v b' hr => exact ⟨_, a2, w2, ⟨_, σ'', m'', aa'', g1.trans p1, p2, p3, .pan v b' hr, p5⟩, .pass (x := .inLoop c) rfl (fun _ _ => .inl (by simp)) harr⟩
  intro b k cs hro _ _
  obtain ⟨e, a2, w2, h1, h2⟩ := key _ i0 σ1 a w rfl hI e1 e2 e3 b k cs hro
  exact ⟨e, a2, w2, h1, .of_steps (.one (fenced_calm trivial (room_wide (cs.length + 1 + 0)) rfl) stepR_loop) h2⟩

/-- How a call may end: weakened, and without what nobody holds. -/
def Fin (m : AM) (Q : AE → AM → Prop) (x : AE) (m' : AM) : Prop := ∃ r m0, AEle x r ∧ Over m0 m' ∧ Kept m m0 ∧ r.bd m0.length ∧ Q r m0

theorem ACalls.fin {P : Program} {f : FuncId} {args : List AV} {m : AM} {Q : AE → AM → Prop} (h : ACalls P f args m (Fin m Q)) : ACalls P f args m Q :=
  ACalls.cut (ACalls.weak (h.mono fun x m' ⟨r, m0, h1, h2, h3, h4, h5⟩ => ⟨r, m', h1, mLe.refl m', m0, h2, h3, h4, h5⟩))

end Go.Ab

/- A range over a function: the rule, and the end of a function that holds one. -/
namespace Go.Ab
open Go.RowKit

theorem am_set_set (m : AM) (n : Nat) (b b' : Option ABlk) : AM.set (AM.set m n b) n b' = AM.set m n b' := by
  induction m with
  | nil => rfl
  | cons x t ih =>
    simp only [AM.set]
    split
    · simp [AM.set, *]
    · rename_i h
      simp only [AM.set, AM.length_set, if_neg h, ih]

/-- A live block that nobody reads any more is overwritten, and its name given up. -/
theorem Ext.put {σ : St} {m : AM} {w : World} {n : Nat} {x y : ABlk} (hn : m.get n = some x) (hx : ∀ e sz k, x ≠ .grow e sz k) (hy : ∀ e sz k, y ≠ .grow e sz k) (o : Obj) : Ext σ m w σ (m.set n (some y)) (w.putObj (σ.ρ n) o) :=
  Ext.write hn hx hy rfl rfl rfl World.putObj_size fun b hb => World.putObj_heap_other hb
theorem Sim.put {σ : St} {m : AM} {w : World} (hs : Sim σ m w) {n : Nat} {x y : ABlk} (hn : m.get n = some x) (hx : ∀ e sz k, x ≠ .grow e sz k) (hy : ∀ e sz k, y ≠ .grow e sz k) (o : Obj)
    (hok : BlkOK σ (m.set n (some y)) (w.putObj (σ.ρ n) o) n y) : Sim σ (m.set n (some y)) (w.putObj (σ.ρ n) o) :=
  Sim.write hs hn hx hy rfl rfl rfl World.putObj_size (fun b hb => World.putObj_heap_other hb) hok

theorem live_lt {σ : St} {m : AM} {w : World} (hs : Sim σ m w) {n : Nat} {x : ABlk} (hn : m.get n = some x) (hx : ∀ e sz k, x ≠ .grow e sz k) : σ.ρ n < w.heap.size :=
  blkOf_lt hs hn (blkOf_plain σ n hx)

/-- The record of a loop turns; its temporaries don't. -/
theorem loop_put {σ : St} {m : AM} {w : World} (hs : Sim σ m w) {n : Nat} {r : Loop} {fr : List (Nat × AV)} (hn : m.get n = some (.loop r fr)) (r' : Loop) (ht : r'.tmps = r.tmps) :
    Ext σ m w σ (m.set n (some (.loop r' fr))) (w.putObj (σ.ρ n) (.loop r')) ∧ Sim σ (m.set n (some (.loop r' fr))) (w.putObj (σ.ρ n) (.loop r')) := by
  have hE := Ext.put (σ := σ) (w := w) (y := .loop r' fr) hn (by intros; simp) (by intros; simp) (.loop r')
  refine ⟨hE, Sim.put hs hn (by intros; simp) (by intros; simp) _ ⟨World.putObj_heap_same (live_lt hs hn (by intros; simp)), fun s v hv => ?_⟩⟩
  rw [ht]
  exact ((hs.ok n _ hn).2 s v hv).mono hE

/-- Yield's arguments in the parameters, abstractly. -/
def putL : List Tmp → List AV → List (Nat × AV) → List (Nat × AV)
  | p :: ps, x :: xs, fr => putL ps xs ((p, x) :: fr)
  | _, _, fr => fr

/-- How a round ends. -/
def rndQ (n : Nat) (fr : List (Nat × AV)) (Q : AE → AM → Prop) : AX → AA → AM → Prop
  | .normal, _, M => ∃ r, M.get n = some (.loop r fr) ∧ Q (.ret (.d (.bool true))) (M.set n (some (.loop { r with state := .ready, pending := none } fr)))
  | .ret, _, M => ∃ r, M.get n = some (.loop r fr) ∧ Q (.ret (.d (.bool false))) (M.set n (some (.loop { r with state := .done, pending := some .ret } fr)))
  | .exit id, _, M => ∃ r, M.get n = some (.loop r fr) ∧ Q (.ret (.d (.bool false))) (M.set n (some (.loop { r with state := .done, pending := some (.exit id) } fr)))
  | .goto l, _, M => ∃ r, M.get n = some (.loop r fr) ∧ Q (.ret (.d (.bool false))) (M.set n (some (.loop { r with state := .done, pending := some (.goto l) } fr)))
  | .pan _, _, _ => False

theorem rndTmps_size (ps : List Tmp) (vs : List Value) : ∀ (t : Array Value), ((ps.zip vs).foldl (fun tmps (p : Tmp × Value) => tmps.setIfInBounds p.1 p.2) t).size = t.size := by
  induction ps generalizing vs with
  | nil => intro t; simp
  | cons p ps ih =>
    intro t
    cases vs with
    | nil => simp
    | cons v vs => rw [List.zip_cons_cons, List.foldl_cons, ih]; simp

theorem putL_ok {σ : St} {m : AM} {w : World} : ∀ (ps : List Tmp) (vs : List Value) (xs : List AV) (fr : List (Nat × AV)) (t : Array Value), Rs σ m w vs xs → vs.length = ps.length → (∀ p ∈ ps, p < t.size) →
    (∀ s v, fget fr s = some v → R σ m w (t.getD s undef) v) →
    ∀ s v, fget (putL ps xs fr) s = some v → R σ m w (((ps.zip vs).foldl (fun tmps (p : Tmp × Value) => tmps.setIfInBounds p.1 p.2) t).getD s undef) v
  | [], vs, xs, fr, t, hr, hl, hp, hf, s, v, hv => by
    cases xs <;> exact hf s v hv
  | p :: ps, [], xs, fr, t, hr, hl, hp, hf, s, v, hv => by simp at hl
  | p :: ps, c :: vs, [], fr, t, hr, hl, hp, hf, s, v, hv => by have := hr.1; simp at this
  | p :: ps, c :: vs, x :: xs, fr, t, hr, hl, hp, hf, s, v, hv => by
    rw [List.zip_cons_cons, List.foldl_cons]
    refine putL_ok ps vs xs ((p, x) :: fr) (t.setIfInBounds p c) ⟨by have := hr.1; simpa using this, fun i y z h1 h2 => hr.2 (i + 1) y z (by simpa using h1) (by simpa using h2)⟩ (by simpa using hl) (fun q hq => by simpa using hp q (List.mem_cons_of_mem _ hq)) (fun s v hv => ?_) s v hv
    simp only [fget] at hv
    have hpt := hp p List.mem_cons_self
    split at hv
    · rename_i e
      cases hv
      subst e
      have := hr.2 0 c x rfl rfl
      simpa [Array.getD_eq_getD_getElem?, hpt] using this
    · rename_i e
      have := hf s v hv
      simpa [Array.getD_eq_getD_getElem?, Array.getElem?_setIfInBounds_ne (Ne.symm e)] using this

/-- A round, by the walk of its body. -/
theorem ARound.of {P : Program} {nt n : Nat} {xs : List AV} {M : AM} {Q : AE → AM → Prop} {r : Loop} {fr : List (Nat × AV)} {ps : List Tmp} {assign body : Code} (hget : M.get n = some (.loop r fr)) (hst : r.state = .ready)
    (hr : r.params = ⟨ps⟩ ∧ r.assign = assign ∧ r.body = body ∧ r.tmps.size = nt) (hl : xs.length = ps.length) (hps : ∀ p ∈ ps, p < nt) (hda : noDef assign = true) (hdb : noDef body = true)
    (h : awpC P nt assign ⟨putL ps xs fr, []⟩ M (AX.then (fun aa1 M1 => ∃ r1, M1.get n = some (.loop r1 fr) ∧ r1.state = .ready ∧ awpC P nt body aa1 (M1.set n (some (.loop { r1 with state := .busy } fr))) (rndQ n fr Q)) (fun _ _ _ => False))) :
    ARound P n xs M Q := by
  intro σ w vs hs hvs
  obtain ⟨hp, rfl, rfl, hsz⟩ := hr
  have hok := hs.ok n _ hget
  have hlen : vs.length = r.params.size := by rw [hp, hvs.1, hl]; rfl
  refine ⟨r, hok.1, hlen, roundIn_of_wpIn trivial ?_⟩
  have htm : rndTmps r vs = (ps.zip vs).foldl (fun tmps (p : Tmp × Value) => tmps.setIfInBounds p.1 p.2) r.tmps := by
    unfold rndTmps
    rw [hp, ← Array.foldl_toList, Array.toList_zip]
  have ha : AR σ M w nt { tmps := rndTmps r vs, defers := [] } ⟨putL ps xs fr, []⟩ := by
    refine ⟨by rw [htm, rndTmps_size]; exact hsz, fun s v hv => ?_, rfl, by simp⟩
    rw [htm]
    exact putL_ok ps vs xs fr r.tmps hvs (by rw [hvs.1, hl]) (fun p hp => by rw [hsz]; exact hps p hp) hok.2 s v hv
  refine wpIn_mono (awpC_ok _ _ _ _ h (some (σ.ρ n)) (.inr hda) σ w _ hs ha) fun e a1 w1 hp1 => ?_
  obtain ⟨x, σ1, M1, aa1, e1, e2, e3, e4, e5⟩ := hp1
  cases e4 with
  | exit id => exact e5.elim
  | goto l => exact e5.elim
  | ret => exact e5.elim
  | pan v b hr => exact e5.elim
  | normal =>
    obtain ⟨r1, g1, g2, g3⟩ := e5
    have hnM : n < M.length := AM.get_lt _ _ _ hget
    have hρ1 : σ1.ρ n = σ.ρ n := e1.rho n hnM
    have hok1 := e2.ok n _ g1
    obtain ⟨p1, p2⟩ := loop_put e2 g1 { r1 with state := .busy } rfl
    refine ⟨_, run_beginRound (by rw [← hρ1]; exact hok1.1) g2, ?_⟩
    rw [← hρ1]
    refine wpIn_mono (awpC_ok _ _ _ _ g3 (some (σ1.ρ n)) (.inr hdb) σ1 _ a1 p2 (e3.mono p1)) fun e a2 w2 hp2 => ?_
    obtain ⟨x, σ2, M2, aa2, f1, f2, f3, f4, f5⟩ := hp2
    have hρ2 : σ2.ρ n = σ1.ρ n := f1.rho n (by rw [AM.length_set]; exact AM.get_lt _ _ _ g1)
    have fin : ∀ (jump : Option Code) (v : Bool), (∃ r2, M2.get n = some (.loop r2 fr) ∧ Q (.ret (.d (.bool v))) (M2.set n (some (.loop { r2 with state := if jump.isNone then .ready else .done, pending := jump } fr)))) → jump.isNone = v →
        ∃ u w', (Instr.endRound (σ1.ρ n) jump).run P w2 = .ok u w' ∧ ∃ x σ' m', Ext σ M w σ' m' w' ∧ Sim σ' m' w' ∧ ER σ' m' w' (.returned u) x ∧ Q x m' := by
      rintro jump v ⟨r2, q1, q2⟩ hv
      have hok2 := f2.ok n _ q1
      obtain ⟨s1, s2⟩ := loop_put f2 q1 { r2 with state := if jump.isNone then .ready else .done, pending := jump } rfl
      refine ⟨_, _, run_endRound jump (by rw [← hρ2]; exact hok2.1), ?_⟩
      rw [← hρ2]
      exact ⟨_, σ2, _, ((e1.trans p1).trans f1).trans s1, s2, .ret _ _ (.d _ _ (by rw [hv]; exact .bool v)), q2⟩
    cases f4 with
    | normal => exact fin none true f5 rfl
    | ret => exact fin (some .ret) false f5 rfl
    | exit id => exact fin (some (.exit id)) false f5 rfl
    | goto l => exact fin (some (.goto l)) false f5 rfl
    | pan v b hr => exact f5.elim

end Go.Ab

/- A range over a function: the statement; the end of a function that holds one. -/
namespace Go.Ab
open Go.RowKit

theorem AW.range {P : Program} {nt : Nat} {g : Operand} {ps : Array Tmp} {assign body : Code} {aa : AA} {m : AM} {Q : AX → AA → AM → Prop} {fid : FuncId} {fs cs : List AV} (hg : aa.look g = some (.fn (.func fid) fs cs)) (c1 : entersB P fid = true)
    (h : ∀ r : Loop, r.state = .ready → r.pending = none → r.params = ps → r.assign = assign → r.body = body → r.tmps.size = nt →
      ACalls P fid (fs ++ [.yl (m.length + 1)] ++ cs) (some (.loop r aa.fr) :: some .dfr :: m) (fun x m' => match x with
        | .ret _ => ∃ r', m'.get (m.length + 1) = some (.loop r' aa.fr) ∧ r'.state ≠ .busy ∧ (match r'.pending with
            | none => Q .normal ⟨aa.fr, .mrk m.length :: aa.ds⟩ (m'.set (m.length + 1) (some (.loop { r' with state := .exhausted } aa.fr)))
            | some c => awpC P nt c ⟨aa.fr, .mrk m.length :: aa.ds⟩ (m'.set (m.length + 1) (some (.loop { r' with state := .exhausted } aa.fr))) Q)
        | .pan v => Q (.pan v) ⟨aa.fr, .mrk m.length :: aa.ds⟩ m')) : AW P nt (.rangeFunc g ps assign body) aa m Q := by
  intro ρ hρ σ w a hs ha
  obtain rfl : ρ = none := hρ.resolve_right (by simp [noDef])
  refine wpIn_rangeFunc (F := WF none) fun fn _ => ?_
  -- the two blocks
  let r : Loop := { state := .ready, pending := none, fn, tmps := a.tmps, params := ps, assign, body, defers := w.heap.size }
  have eD := Ext.push hs (.deferred (some [])) .dfr (by intros; simp)
  have sD := Sim.push hs (.deferred (some [])) .dfr (by intros; simp) (by
    show (w.alloc (.deferred (some []))).heap[(σ.name m.length w.heap.size).ρ m.length]? = _
    simp only [St.name, if_pos]
    exact World.alloc_heap_new w _)
  generalize hσ1 : σ.name m.length w.heap.size = σ1 at eD sD
  have hw1 : (w.alloc (.deferred (some []))).heap.size = w.heap.size + 1 := World.size_alloc ..
  have eL := Ext.push sD (.loop r) (.loop r aa.fr) (by intros; simp)
  have hnew : (σ1.name (some ABlk.dfr :: m).length (w.alloc (.deferred (some []))).heap.size).ρ (m.length + 1) = w.heap.size + 1 := by
    simp only [St.name, List.length_cons, if_pos, hw1]
  have sL := Sim.push sD (.loop r) (.loop r aa.fr) (by intros; simp) (by
    refine ⟨?_, fun s v hv => ((ha.fr s v hv).mono eD).mono eL⟩
    show ((w.alloc (.deferred (some []))).alloc (.loop r)).heap[_]? = _
    simp only [St.name, if_pos]
    exact World.alloc_heap_new _ _)
  generalize hσ2 : σ1.name (some ABlk.dfr :: m).length (w.alloc (.deferred (some []))).heap.size = σ2 at eL sL hnew
  have hE := eD.trans eL
  have c2 := h r rfl rfl rfl rfl rfl ha.size
  -- the function
  have hgv := ha.look hg
  generalize hq : a.eval g = gv at hgv
  cases hgv
  rename_i fs' cs' hfl hfs hcl hcs
  have hcall := CallsX.calls c1 <| c2 σ2 _ (fs' ++ [.func (.yield (w.heap.size + 1)) ⟨[]⟩ ⟨[]⟩] ++ cs') sL (by
    refine ⟨by simp [hfl, hcl], fun i v b hv hb => ?_⟩
    by_cases h1 : i < fs.length
    · rw [List.append_assoc, List.getElem?_append_left (by omega)] at hv
      rw [List.append_assoc, List.getElem?_append_left h1] at hb
      exact (hfs i v b hv hb).mono hE
    · by_cases h2 : i < fs.length + 1
      · obtain rfl : i = fs.length := by omega
        rw [List.append_assoc, ← hfl, List.getElem?_append_right (Nat.le_refl _)] at hv
        rw [List.append_assoc, List.getElem?_append_right (Nat.le_refl _)] at hb
        simp at hv hb
        subst hv hb
        rw [← hnew]
        exact .yl _ (by simp)
      · rw [List.getElem?_append_right (by simp; omega)] at hv
        rw [List.getElem?_append_right (by simp; omega)] at hb
        simp only [List.length_append, List.length_cons, List.length_nil, hfl] at hv hb
        exact (hcs _ v b hv hb).mono hE)
  let W1 : World := (w.alloc (.deferred (some []))).alloc (.loop r)
  refine ⟨w.heap.size + 1, _, W1, { target := .fn (.func fid) ⟨cs'⟩, args := ⟨fs'⟩ ++ #[.func (.yield (w.heap.size + 1)) #[] #[]] }, W1, fid, ⟨fs' ++ [.func (.yield (w.heap.size + 1)) ⟨[]⟩ ⟨[]⟩] ++ cs'⟩, W1, run_enterLoop_outer (P := P) (w := w) fn a.tmps ps assign body, ?_, fun _ _ => trivial, ?_, (fun hd => by simp [WF, Fence.wide] at hd), ?_⟩
  · simp only [resolve, rangeCall, hq, Deferred.ofValue, pure_bind]
    have : Array.map a.eval #[Operand.const (Value.func (Fn.yield (w.heap.size + 1)) #[] #[])] = #[Value.func (Fn.yield (w.heap.size + 1)) #[] #[]] := by
      simp [Act.eval]
    rw [this]
    exact Sem.run_pure ..
  · simp only [invoke]
    have : (⟨fs'⟩ : Array Value) ++ #[.func (.yield (w.heap.size + 1)) #[] #[]] ++ ⟨cs'⟩ = ⟨fs' ++ [.func (.yield (w.heap.size + 1)) ⟨[]⟩ ⟨[]⟩] ++ cs'⟩ := by
      apply Array.ext'
      simp
    rw [this]
    exact run_callFunc c1 _ _
  · refine CallsIn.mono (F := Fence.wide) (callsIn_wide.2 hcall) fun e w3 ⟨x, σ3, m3, e1, e2, e3, e4⟩ => ?_
    have hlen : m.length + 1 < (some (ABlk.loop r aa.fr) :: some ABlk.dfr :: m).length := by simp
    have hρ3 : σ3.ρ (m.length + 1) = w.heap.size + 1 := (e1.rho _ hlen).trans hnew
    have hρd : σ3.ρ m.length = w.heap.size := by
      have h1 : σ3.ρ m.length = σ2.ρ m.length := e1.rho m.length (by simp; omega)
      have h2 : σ2.ρ m.length = σ1.ρ m.length := eL.rho m.length (by simp)
      have h3 : σ1.ρ m.length = w.heap.size := by rw [← hσ1]; simp [St.name]
      rw [h1, h2, h3]
    have har : ∀ {σ4 m4 w4}, Ext σ3 m3 w3 σ4 m4 w4 → AR σ4 m4 w4 nt { a with defers := [{ target := .collected w.heap.size, args := #[] }] ++ a.defers } ⟨aa.fr, .mrk m.length :: aa.ds⟩ := fun {σ4 m4 w4} h4 => by
      have hm := ha.mono ((hE.trans e1).trans h4)
      refine ⟨hm.size, hm.fr, by simp [ha.dl], fun i d v h1 h2 => ?_⟩
      cases i with
      | zero =>
        simp at h1 h2
        subst h1 h2
        have hl3 : m.length < m3.length := Nat.lt_of_lt_of_le (by simp only [List.length_cons]; omega) e1.len
        exact .inr ⟨m.length, rfl, Nat.lt_of_lt_of_le hl3 h4.len, by rw [h4.rho _ hl3, hρd]⟩
      | succ i => exact hm.ds i d v (by simpa using h1) (by simpa using h2)
    cases e3 with
    | pan cv v hr =>
      exact ⟨_, σ3, m3, _, hE.trans e1, e2, har (Ext.refl ..), .pan cv v hr, e4⟩
    | ret cv v hr =>
      obtain ⟨r', g1, g2, g3⟩ := e4
      have hok := e2.ok _ _ g1
      obtain ⟨p1, p2⟩ := loop_put e2 g1 { r' with state := .exhausted } rfl
      refine ⟨_, _, run_endLoop (by rw [← hρ3]; exact hok.1) g2, ?_⟩
      rw [← hρ3]
      generalize ({ r' with state := .exhausted } : Loop) = rx at p1 p2 g3 ⊢
      cases hp : r'.pending with
      | none =>
        rw [hp] at g3
        exact ⟨.normal, σ3, _, _, (hE.trans e1).trans p1, p2, har p1, .normal, g3⟩
      | some c =>
        rw [hp] at g3
        exact wp_post (ρ := none) ((hE.trans e1).trans p1) (awpC_ok _ _ _ _ g3 none (.inl rfl) σ3 _ _ p2 (har p1))

end Go.Ab

/- The end of a function that holds a range over a function: the marks among its deferred calls. -/
namespace Go.Ab
open Go.RowKit

/-- A live block is given up, whatever becomes of it. -/
theorem Ext.gone {σ : St} {m : AM} {w : World} {n : Nat} {x : ABlk} (hn : m.get n = some x) (hx : ∀ e sz k, x ≠ .grow e sz k) (o : Obj) : Ext σ m w σ (m.set n none) (w.putObj (σ.ρ n) o) := by
  have h1 := Ext.put (σ := σ) (w := w) (y := .dfr) hn hx (by intros; simp) o
  have h2 := Ext.drop σ (m.set n (some .dfr)) (w.putObj (σ.ρ n) o) n
  rw [am_set_set] at h2
  exact h1.trans h2

theorem Sim.gone {σ : St} {m : AM} {w : World} (hs : Sim σ m w) {n : Nat} {x : ABlk} (hn : m.get n = some x) (hx : ∀ e sz k, x ≠ .grow e sz k) (o : Obj) : Sim σ (m.set n none) (w.putObj (σ.ρ n) o) := by
  refine ⟨fun k z hk => ?_, (hs.drop n).inj⟩
  rw [AM.get_set] at hk
  split at hk
  · split at hk <;> cases hk
  · rename_i e
    refine BlkOK.mono_of (Ext.gone hn hx o) (AM.get_lt _ _ _ hk) (hs.ok k z hk) (fun b hb => World.putObj_heap_other fun e' => ?_) (fun _ _ _ _ => rfl)
    subst e'
    exact e (hs.inj k n z x _ hk hn hb (blkOf_plain σ n hx))

/-- The marks are come to, one after the other. -/
def mrks : List AV → AM → Option AM
  | [], m => some m
  | .mrk n :: ds, m => match m.get n with
    | some .dfr => mrks ds (m.set n none)
    | _ => none
  | _ :: _, _ => none

/-- How the body of a function must end, its deferred calls being marks alone. -/
def bodyQM (P : Program) (rs : List ResultVar) (Q : AE → AM → Prop) : AX → AA → AM → Prop
  | .normal, aa, m | .ret, aa, m => match mrks aa.ds m with
    | some m' => (match aRess P aa m' rs with | some vs => Q (.ret (aRet vs)) m' | none => False)
    | none => False
  | .pan v, aa, m => match mrks aa.ds m with
    | some m' => Q (.pan v) m'
    | none => False
  | _, _, _ => False

def marksOK (σ : St) (k : Nat) (defers : List Deferred) (ds : List AV) : Prop :=
  defers.length = ds.length ∧ ∀ (i : Nat) (d : Deferred) (n : Nat), defers[i]? = some d → ds[i]? = some (.mrk n) → n < k ∧ d = { target := .collected (σ.ρ n), args := #[] }

theorem AR.marks {σ : St} {m : AM} {w : World} {nt : Nat} {a : Act} {aa : AA} (h : AR σ m w nt a aa) : marksOK σ m.length a.defers aa.ds :=
  ⟨h.dl, fun i d n h1 h2 => by
    rcases h.ds i d _ h1 h2 with ⟨f, fs, cs, e, r⟩ | ⟨n', e1, e2, e3⟩
    · cases r
    · cases e1
      exact ⟨e2, e3⟩⟩

theorem leaves_marks {P : Program} {fn : Func} {tmps : Array Value} {R : Ending → World → Prop} {u : FrameMode} (hu : u ≠ .run) : ∀ (ds : List AV) (defers : List Deferred) (σ : St) (m : AM) (w : World) (m' : AM),
    Sim σ m w → marksOK σ m.length defers ds → mrks ds m = some m' → (∀ w', Ext σ m w σ m' w' → Sim σ m' w' → LeavesIn Fence.wide 0 P fn tmps R [] u w') → LeavesInM Fence.wide 0 P fn tmps R defers u w
  | [], defers, σ, m, w, m', hs, hd, hm, h => by
    obtain rfl : defers = [] := List.eq_nil_of_length_eq_zero hd.1
    cases hm
    exact h w (Ext.refl ..) hs
  | v :: ds, [], σ, m, w, m', hs, hd, hm, h => by
    have := hd.1
    simp at this
  | v :: ds, d :: defers, σ, m, w, m', hs, hd, hm, h => by
    cases v with
    | mrk n =>
      simp only [mrks] at hm
      split at hm
      · rename_i hget
        obtain ⟨h1, h2⟩ := hd.2 0 d n rfl rfl
        subst h2
        refine ⟨hu, .inl ⟨σ.ρ n, _, rfl, run_takeDeferred (hs.ok n _ hget), ?_⟩⟩
        have e1 := Ext.gone (σ := σ) (w := w) hget (by intros; simp) (.deferred none)
        refine leaves_marks hu ds defers σ _ _ m' (hs.gone hget (by intros; simp) _) ⟨by have := hd.1; simpa using this, fun i d k g1 g2 => ?_⟩ hm (fun w' g1 g2 => h w' (e1.trans g1) g2)
        have := hd.2 (i + 1) d k (by simpa using g1) (by simpa using g2)
        exact ⟨by rw [AM.length_set]; exact this.1, this.2⟩
      · cases hm
    | _ => simp [mrks] at hm

theorem acalls_of_bodyM {P : Program} {f : FuncId} {fn : Func} {c : Code} {args : List AV} {m : AM} {Q : AE → AM → Prop} (hf : P.funcs[f]? = some fn) (hname : (fn.name == "runtime.NumGoroutine") = false) (hb : fn.body = some c)
    (hn : args.length ≤ fn.ntmps) (h : awpC P fn.ntmps c ⟨frOf 0 args, []⟩ m (bodyQM P fn.results.toList Q)) : ACalls P f args m Q := by
  intro σ w vs hs hr
  refine .inl ⟨by simp [entersB, hf, hname, hb], ?_⟩
  have ha : AR σ m w fn.ntmps { tmps := ⟨vs⟩ ++ Array.replicate (fn.ntmps - (⟨vs⟩ : Array Value).size) undef, defers := [] } ⟨frOf 0 args, []⟩ := by
    refine ⟨by have := hr.1; simp; omega, fun s v hv => ?_, rfl, by simp⟩
    obtain ⟨_, h2⟩ := fget_frOf 0 args s v hv
    simp only [Nat.sub_zero] at h2
    have hlt : s < vs.length := by rw [hr.1]; exact (List.getElem?_eq_some_iff.1 h2).1
    have := hr.2 s vs[s] v (by simp [hlt]) h2
    simpa [Array.getD_eq_getD_getElem?, Array.getElem?_append, hlt] using this
  refine callsIn_wide (n := 0) |>.1 (callsIn_of_wp_marks (F := Fence.wide) hf hb trivial (wpIn_mono (awpC_ok _ _ _ _ h none (.inl rfl) σ w _ hs ha) fun e a' w' hp => ?_))
  obtain ⟨x, σ', m', aa', e1, e2, e3, e4, e5⟩ := hp
  have ret : bodyQM P fn.results.toList Q .ret aa' m' → LeavesInM Fence.wide 0 P fn a'.tmps (fun e w' => ∃ x σ' m', Ext σ m w σ' m' w' ∧ Sim σ' m' w' ∧ ER σ' m' w' e x ∧ Q x m') a'.defers .returning w' := fun q => by
    simp only [bodyQM] at q
    split at q
    · rename_i m2 hm2
      split at q
      · rename_i vs' hvs
        refine leaves_marks (by simp) aa'.ds a'.defers σ' m' w' m2 e2 e3.marks hm2 fun w2 g1 g2 => ?_
        obtain ⟨v, r1, r2⟩ := results_run g2 (e3.mono g1) hvs
        exact ⟨v, r1, _, σ', m2, e1.trans g1, g2, .ret v _ r2, q⟩
      · exact q.elim
    · exact q.elim
  cases e4 with
  | normal => exact ret e5
  | ret => exact ret e5
  | exit id => exact e5.elim
  | goto l => exact e5.elim
  | pan v b hr =>
    simp only [bodyQM] at e5
    split at e5
    · rename_i m2 hm2
      exact leaves_marks (by simp) aa'.ds a'.defers σ' m' w' m2 e2 e3.marks hm2 fun w2 g1 g2 => ⟨_, σ', m2, e1.trans g1, g2, .pan v b (hr.mono g1), e5⟩
    · exact e5.elim

theorem set_app (M : AM) : ∀ (pre : AM) (n : Nat) (x : Option ABlk), n < M.length → AM.set (pre ++ M) n x = pre ++ AM.set M n x
  | [], _, _, _ => rfl
  | y :: pre, n, x, h => by
    show (if n = (pre ++ M).length then x :: (pre ++ M) else y :: AM.set (pre ++ M) n x) = _
    rw [if_neg (by simp; omega), set_app M pre n x h]
    rfl

theorem fin_end {σ σ' : St} {m m' : AM} {w w' : World} {e : Ending} {x : AE} {Q : AE → AM → Prop} (hs : Sim σ m w) (h1 : Ext σ m w σ' m' w') (h2 : Sim σ' m' w') (h3 : ER σ' m' w' e x) (h : Fin m Q x m') :
    ∃ x σ' m', Ext σ m w σ' m' w' ∧ Sim σ' m' w' ∧ ER σ' m' w' e x ∧ Q x m' := by
  obtain ⟨r, m0, k1, ⟨pre, rfl⟩, k3, k4, k5⟩ := h
  refine ⟨r, σ', m0, h1.cut k3.len, k3.sim hs h2, ?_, k5⟩
  refine ER.cut (pre := pre) ?_ k4
  cases k1 with
  | ret hle => cases h3 with | ret v a hr => exact .ret v _ (hle _ _ _ _ hr)
  | pan hle => cases h3 with | pan v a hr => exact .pan v _ (hle _ _ _ _ hr)

theorem ARound.fin {P : Program} {n : Nat} {xs : List AV} {m : AM} {Q : AE → AM → Prop} (h : ARound P n xs m (Fin m Q)) : ARound P n xs m Q := fun σ w vs hs hr => by
  obtain ⟨r, h1, h2, h3⟩ := h σ w vs hs hr
  exact ⟨r, h1, h2, h3.mono fun e w' ⟨x, σ', m', e1, e2, e3, e4⟩ => fin_end hs e1 e2 e3 e4⟩

end Go.Ab

/- Deferred calls, and recover. -/
namespace Go.Ab
open Go.RowKit

/-- How a frame is on its way out: it returns, or a panic that nobody has recovered. -/
def modeOf : Option Value → FrameMode
  | none => .returning
  | some v => .panicking [{ v, recovered := false }]
/-- .. or that has been. -/
def modeRec : Option Value → FrameMode
  | some v => .panicking [{ v, recovered := true }]
  | none => .returning

def RVO (σ : St) (m : AM) (w : World) : Option Value → Option AV → Prop
  | none, none => True
  | some c, some a => R σ m w c a
  | _, _ => False

theorem RVO.mono {σ σ' : St} {m m' : AM} {w w' : World} (h : Ext σ m w σ' m' w') {cv : Option Value} {u : Option AV} (hr : RVO σ m w cv u) : RVO σ' m' w' cv u := by
  cases cv <;> cases u <;> first | exact hr | exact R.mono h hr

/-- A deferred call that recovers, and returns. -/
def ADef (P : Program) (f : FuncId) (args : List AV) (u : Option AV) (m : AM) (Q : AM → Prop) : Prop :=
  entersB P f = true ∧ ∀ σ w vs cv, Sim σ m w → Rs σ m w vs args → RVO σ m w cv u →
    CallsD P f ⟨vs⟩ (modeOf cv) w fun e u' w' => ∃ σ' m', (∃ v, e = .returned v) ∧ u' = modeRec cv ∧ Ext σ m w σ' m' w' ∧ Sim σ' m' w' ∧ Q m'

/-- What recover hands back. -/
def recV : Option AV → AV
  | some v => v
  | none => .d (.cst .nilIface)

/-- The end of a deferred function. -/
def bodyQD (Q : AM → Prop) : AX → AA → AM → Prop
  | .normal, aa, m | .ret, aa, m => aa.ds = [] ∧ Q m
  | _, _, _ => False

theorem recoverD_mode {c₀ : Frame} {cs : List Frame} {cv : Option Value} (h : c₀.mode = modeOf cv) : match cv with
    | some v => recoverD (c₀ :: cs) = some (v, { c₀ with mode := modeRec cv } :: cs)
    | none => recoverD (c₀ :: cs) = none := by
  cases cv with
  | none => simp [recoverD, h, modeOf]
  | some v => simp [recoverD, h, modeOf, modeRec]

theorem step_recover {P : Program} {b : Frame} {a : Act} {k : List Item} {cs cs' : List Frame} {w : World} {ops : Array Oper} {i : Nat} {rest : List Nat} {o : Oper} {v : Value} (ho : ops[i]? = some o)
    (hw : Region.wanted o (yielded ops a.tmps) = true) (hr : (execOp a.eval o).run P w = .ok .recover w) (hb : b.kind = .deferred) (hrec : recoverD cs = some (v, cs') ∨ (recoverD cs = none ∧ v = .nilIface ∧ cs' = cs)) :
    step P (lone (b.at a (.inRegion ops (i :: rest) :: k)) cs w) = .next (lone (b.at (a.put o.dst v) (.inRegion ops rest :: k)) cs' w) := by
  have hg := stepG_op (P := P) (b := b) (k := k) (cs := cs) (w := w) (rest := rest) ho hw
  have hfin : ∀ v, (b.at a (.inRegion ops (i :: rest) :: k)).finish v = b.at (a.put o.dst v) (.inRegion ops rest :: k) := by
    intro v; rw [Frame.finish_at, ho]; rfl
  have hk : (b.at a (.inRegion ops (i :: rest) :: k)).kind = .deferred := hb
  have htr := tryRecover_deferred hk cs
  refine step_lone_go ?_
  rw [hg, ← hfin]
  simp only [Frame.at] at htr ⊢
  rcases hrec with h | ⟨h, rfl, rfl⟩
  · simp [stepG.apply, hr, htr, h]
  · simp [stepG.apply, hr, htr, h]

theorem adef_of_body {P : Program} {f : FuncId} {fn : Func} {id d : Nat} {at_ : Array TypeId} {ty : TypeId} {pos : String} {after : Array Edge} {ops : List Oper} {rest : Code} {args : List AV} {u : Option AV} {m : AM} {Q : AM → Prop}
    (hf : P.funcs[f]? = some fn) (hname : (fn.name == "runtime.NumGoroutine") = false)
    (hb : fn.body = some (.seq (.region id ⟨{ dst := some d, op := .call { callee := .builtin .recover, args := #[], argTypes := at_ }, type := ty, pos := pos, after := after, guard := none } :: ops⟩ false) rest))
    (hres : fn.results = #[]) (hn : args.length ≤ fn.ntmps) (hd : d < fn.ntmps)
    (h : awpOps P fn.ntmps ⟨{ dst := some d, op := .call { callee := .builtin .recover, args := #[], argTypes := at_ }, type := ty, pos := pos, after := after, guard := none } :: ops⟩ ops ⟨(d, recV u) :: frOf 0 args, []⟩ m
      (fun aa m' => awpC P fn.ntmps rest aa m' (bodyQD Q)) (fun _ _ _ => False)) : ADef P f args u m Q := by
  refine ⟨by simp [entersB, hf, hname, hb], fun σ w vs cv hs hr hcv => ?_⟩
  refine callsD_of_wpS (fn := fn) hf hb fun c₀ cs hm => ?_
  generalize hall : (⟨{ dst := some d, op := .call { callee := .builtin .recover, args := #[], argTypes := at_ }, type := ty, pos := pos, after := after, guard := none } :: ops⟩ : Array Oper) = all at h
  generalize ha0 : ({ tmps := ⟨vs⟩ ++ Array.replicate (fn.ntmps - (⟨vs⟩ : Array Value).size) undef, defers := [] } : Act) = a0
  have ha : AR σ m w fn.ntmps a0 ⟨frOf 0 args, []⟩ := by
    subst ha0
    refine ⟨by have := hr.1; simp; omega, fun s v hv => ?_, rfl, by simp⟩
    obtain ⟨_, h2⟩ := fget_frOf 0 args s v hv
    simp only [Nat.sub_zero] at h2
    have hlt : s < vs.length := by rw [hr.1]; exact (List.getElem?_eq_some_iff.1 h2).1
    have := hr.2 s vs[s] v (by simp [hlt]) h2
    simpa [Array.getD_eq_getD_getElem?, Array.getElem?_append, hlt] using this
  intro b k hk hro
  -- what recover hands back
  obtain ⟨rv, hrv, hrR⟩ : ∃ rv, (recoverD (c₀ :: cs) = some (rv, { c₀ with mode := modeRec cv } :: cs) ∨ (recoverD (c₀ :: cs) = none ∧ rv = .nilIface ∧ { c₀ with mode := modeRec cv } :: cs = c₀ :: cs)) ∧ R σ m w rv (recV u) := by
    have h1 := recoverD_mode (cs := cs) hm
    cases cv with
    | none =>
      cases u with
      | some _ => exact hcv.elim
      | none =>
        have : ({ c₀ with mode := modeRec none } : Frame) = c₀ := by
          have : c₀.mode = modeRec none := hm
          rw [← this]
        exact ⟨.nilIface, .inr ⟨h1, rfl, by rw [this]⟩, .d _ _ (.cst _ rfl)⟩
    | some v =>
      cases u with
      | none => exact hcv.elim
      | some a => exact ⟨v, .inl h1, hcv⟩
  have hstep : step P (lone (b.at a0 (.inRegion all (List.range all.size) :: .code rest :: k)) (c₀ :: cs) w) = .next (lone (b.at (a0.put (some d) rv) (.inRegion all (List.range' 1 ops.length) :: .code rest :: k)) ({ c₀ with mode := modeRec cv } :: cs) w) := by
    subst hall
    have hrg : List.range (⟨{ dst := some d, op := .call { callee := .builtin .recover, args := #[], argTypes := at_ }, type := ty, pos := pos, after := after, guard := none } :: ops⟩ : Array Oper).size = 0 :: List.range' 1 ops.length := by
      show List.range (ops.length + 1) = _
      rw [List.range_eq_range', List.range'_succ]
    rw [hrg]
    exact step_recover (o := { dst := some d, op := .call { callee := .builtin .recover, args := #[], argTypes := at_ }, type := ty, pos := pos, after := after, guard := none }) (by simp) (by simp [Region.wanted]) (by
      simp [execOp, resolve, invoke, builtin]) hk hrv
  have hfb : b.fn = b.fn := rfl
  have h2 := awpOps_ok (P := P) (nt := fn.ntmps) (all := all) (σ0 := σ) (m0 := m) (w0 := w) (Q' := Exit.then (rest.wpIn (WF none) 0 P fun e a' w' => bodyPostS P fn c₀ cs (fun e u' w' => ∃ σ' m', (∃ v, e = .returned v) ∧ u' = modeRec cv ∧ Ext σ m w σ' m' w' ∧ Sim σ' m' w' ∧ Q m') e a' ({ c₀ with mode := modeRec cv } :: cs) w') (fun _ _ _ => False)) none (.inl rfl) (fun a' w' hp => by
      obtain ⟨σ', m', aa', e1, e2, e3, e4⟩ := hp
      refine wpIn_mono (awpC_ok _ _ _ _ e4 none (.inl rfl) σ' w' a' e2 e3) fun e a2 w2 hp => ?_
      obtain ⟨x, σ2, m2, aa2, f1, f2, f3, f4, f5⟩ := hp
      have fin : aa2.ds = [] ∧ Q m2 → bodyPostS P fn c₀ cs (fun e u' w' => ∃ σ' m', (∃ v, e = .returned v) ∧ u' = modeRec cv ∧ Ext σ m w σ' m' w' ∧ Sim σ' m' w' ∧ Q m') .ret a2 ({ c₀ with mode := modeRec cv } :: cs) w2 := fun ⟨g1, g2⟩ =>
        ⟨List.eq_nil_of_length_eq_zero (by rw [f3.dl, g1]; rfl), _, rfl, .tuple #[], by simp [results, hres], σ2, m2, ⟨_, rfl⟩, rfl, e1.trans f1, f2, g2⟩
      cases f4 with
      | normal => exact fin f5
      | ret => exact fin f5
      | exit id => exact f5.elim
      | goto l => exact f5.elim
      | pan v b hr => exact f5.elim) (fun ch a' w' hp => by
      obtain ⟨x, σ', m', aa', e1, e2, e3, e4, e5⟩ := hp
      exact e5.elim) ops 1 _ m (by subst hall; rfl) h σ w (a0.put (some d) rv) (Ext.refl ..) hs (ha.put (dst := some d) (fun _ e => by cases e; exact hd) hrR)
  obtain ⟨e, a1, w1, q1, r1⟩ := wp_opsIn _ _ _ h2 b (.code rest :: k) ({ c₀ with mode := modeRec cv } :: cs) hro trivial (room_wide _)
  have st0 : Steps P (lone (b.at a0 (.code (.seq (.region id all false) rest) :: k)) (c₀ :: cs) w) (lone (b.at (a0.put (some d) rv) (.inRegion all (List.range' 1 ops.length) :: .code rest :: k)) ({ c₀ with mode := modeRec cv } :: cs) w) :=
    .head step_seq (.head step_region (.one hstep))
  cases e with
  | normal =>
    obtain ⟨e2, a2, w2, q2, r2⟩ := q1 b k ({ c₀ with mode := modeRec cv } :: cs) hro trivial (room_wide _)
    rw [Frame.atR_of_none hro] at r2 r1
    have r1' := (arrivesIn_iff (fun _ _ => stepsIn_wide) hro).1 r1
    have r2' := (arrivesIn_iff (fun _ _ => stepsIn_wide) hro).1 r2
    exact ⟨e2, a2, _, w2, q2, .of_steps st0 (.of_steps r1' r2')⟩
  | _ => exact q1.elim

/-! ### a function with one deferred call -/
def retQ (P : Program) (rs : List ResultVar) (aa : AA) (Q : AE → AM → Prop) (m : AM) : Prop := match aRess P aa m rs with | some vs => Q (.ret (aRet vs)) m | none => False

def bodyQR (P : Program) (rs : List ResultVar) (Q : AE → AM → Prop) : AX → AA → AM → Prop
  | .normal, aa, m | .ret, aa, m => match aa.ds with
    | [] => retQ P rs aa Q m
    | [.fn (.func k) fs cs] => ADef P k (fs ++ cs) none m (retQ P rs aa Q)
    | _ => False
  | .pan v, aa, m => match aa.ds with
    | [] => Q (.pan v) m
    | [.fn (.func k) fs cs] => ADef P k (fs ++ cs) (some v) m (retQ P rs aa Q)
    | _ => False
  | _, _, _ => False

theorem leaves_one {P : Program} {fn : Func} {nt : Nat} {a : Act} {aa : AA} {σ0 σ : St} {m0 m : AM} {w0 w : World} {Q : AE → AM → Prop} {k : FuncId} {fs cs : List AV} {cv : Option Value} {u : Option AV} (e1 : Ext σ0 m0 w0 σ m w) (hs : Sim σ m w) (ha : AR σ m w nt a aa)
    (hd : aa.ds = [.fn (.func k) fs cs]) (hu : RVO σ m w cv u) (h : ADef P k (fs ++ cs) u m (retQ P fn.results.toList aa Q)) :
    Leaves P fn a.tmps (fun e w' => ∃ x σ' m', Ext σ0 m0 w0 σ' m' w' ∧ Sim σ' m' w' ∧ ER σ' m' w' e x ∧ Q x m') a.defers (modeOf cv) w := by
  obtain ⟨d, hds⟩ : ∃ d, a.defers = [d] := by
    have := ha.dl
    rw [hd] at this
    match a.defers, this with
    | [d], _ => exact ⟨d, rfl⟩
  rcases ha.ds 0 d _ (by rw [hds]; rfl) (by rw [hd]; rfl) with ⟨f, fs', cs', rfl, hR⟩ | ⟨n, e, _⟩
  rotate_left
  · cases e
  cases hR with
  | fn _ _ _ _ _ hf hc hfs hcs =>
  rw [hds]
  have hargs : Rs σ m w (fs' ++ cs') (fs ++ cs) := by
    refine ⟨by simp [hf, hc], fun i v x h1 h2 => ?_⟩
    by_cases hi : i < fs'.length
    · rw [List.getElem?_append_left hi] at h1
      rw [List.getElem?_append_left (by omega)] at h2
      exact hfs i v x h1 h2
    · rw [List.getElem?_append_right (by omega)] at h1
      rw [List.getElem?_append_right (by omega)] at h2
      rw [← hf] at h2
      exact hcs _ v x h1 h2
  have hset : settle (modeRec cv) = .returning := by cases cv <;> rfl
  refine leaves_cons (f := k) (args := ⟨fs' ++ cs'⟩) (by cases cv <;> simp [modeOf]) (by
    simp only [invoke]
    rw [run_callFunc h.1]
    simp) ((h.2 σ w _ cv hs hargs hu).mono fun e u' w' ⟨σ', m', ⟨v, he⟩, hu', g1, g2, g3⟩ => ?_)
  subst he hu'
  show Leaves P fn a.tmps _ [] (settle (modeRec cv)) w'
  rw [hset]
  unfold retQ at g3
  split at g3
  · rename_i vs' hvs
    obtain ⟨r, r1, r2⟩ := results_run g2 (ha.mono g1) hvs
    exact ⟨r, r1, _, σ', m', e1.trans g1, g2, .ret r _ r2, g3⟩
  · exact g3.elim

theorem acalls_of_bodyR {P : Program} {f : FuncId} {fn : Func} {c : Code} {args : List AV} {m : AM} {Q : AE → AM → Prop} (hf : P.funcs[f]? = some fn) (hname : (fn.name == "runtime.NumGoroutine") = false) (hb : fn.body = some c)
    (hn : args.length ≤ fn.ntmps) (h : awpC P fn.ntmps c ⟨frOf 0 args, []⟩ m (bodyQR P fn.results.toList Q)) : ACalls P f args m Q := by
  intro σ w vs hs hr
  refine .inl ⟨by simp [entersB, hf, hname, hb], ?_⟩
  have ha : AR σ m w fn.ntmps { tmps := ⟨vs⟩ ++ Array.replicate (fn.ntmps - (⟨vs⟩ : Array Value).size) undef, defers := [] } ⟨frOf 0 args, []⟩ := by
    refine ⟨by have := hr.1; simp; omega, fun s v hv => ?_, rfl, by simp⟩
    obtain ⟨_, h2⟩ := fget_frOf 0 args s v hv
    simp only [Nat.sub_zero] at h2
    have hlt : s < vs.length := by rw [hr.1]; exact (List.getElem?_eq_some_iff.1 h2).1
    have := hr.2 s vs[s] v (by simp [hlt]) h2
    simpa [Array.getD_eq_getD_getElem?, Array.getElem?_append, hlt] using this
  refine calls_of_wp_defers hf hb (wpIn_wide (n := 0) |>.1 (wpIn_mono (awpC_ok _ _ _ _ h none (.inl rfl) σ w _ hs ha) fun e a' w' hp => ?_))
  obtain ⟨x, σ', m', aa', e1, e2, e3, e4, e5⟩ := hp
  have ret : bodyQR P fn.results.toList Q .ret aa' m' → Leaves P fn a'.tmps (fun e w' => ∃ x σ' m', Ext σ m w σ' m' w' ∧ Sim σ' m' w' ∧ ER σ' m' w' e x ∧ Q x m') a'.defers .returning w' := fun q => by
    simp only [bodyQR] at q
    split at q
    · rename_i hds
      rw [show a'.defers = [] from List.eq_nil_of_length_eq_zero (by rw [e3.dl, hds]; rfl)]
      unfold retQ at q
      split at q
      · rename_i vs' hvs
        obtain ⟨v, r1, r2⟩ := results_run e2 e3 hvs
        exact ⟨v, r1, _, σ', m', e1, e2, .ret v _ r2, q⟩
      · exact q.elim
    · rename_i k fs cs hds
      exact leaves_one (cv := none) (u := none) e1 e2 e3 hds trivial q
    · exact q.elim
  cases e4 with
  | normal => exact ret e5
  | ret => exact ret e5
  | exit id => exact e5.elim
  | goto l => exact e5.elim
  | pan v b hr =>
    simp only [bodyQR] at e5
    show Leaves P fn a'.tmps _ a'.defers _ w'
    split at e5
    · rename_i hds
      rw [show a'.defers = [] from List.eq_nil_of_length_eq_zero (by rw [e3.dl, hds]; rfl)]
      exact ⟨_, σ', m', e1, e2, .pan v b hr, e5⟩
    · rename_i k fs cs hds
      exact leaves_one (cv := some v) (u := some b) e1 e2 e3 hds hr e5
    · exact e5.elim

theorem WeakB.cutD {m0 m m' : AM} {fr fr' : List (Nat × AV)} {ds : List AV} (hf : frLe fr fr') (ho : Over m' m) (hk : Kept m0 m') (hb : frBd m'.length fr') (hd : AV.bdL m'.length ds) : WeakB m0 ⟨fr, ds⟩ m ⟨fr', ds⟩ m' := fun nt σ0 w0 σ w a h0 he hs ha => by
  obtain ⟨pre, rfl⟩ := ho
  refine ⟨σ, he.cut hk.len, hk.sim h0 hs, ha.size, fun s v hv => ?_, ha.dl, fun i d v h1 h2 => ?_⟩
  · obtain ⟨u, hu, hle⟩ := frLe_get hf s v hv
    exact (hle σ _ w _ (ha.fr s u hu)).cut (frBd_get hb s v hv)
  · have hv := bdL_get hd i v h2
    rcases ha.ds i d v h1 h2 with ⟨f, fs, cs, e, r⟩ | ⟨n, e1, e2, e3⟩
    · exact .inl ⟨f, fs, cs, e, r.cut hv⟩
    · subst e1
      exact .inr ⟨n, rfl, by simpa only [AV.bd] using hv, e3⟩

/-- The blocks in front have turned. -/
def preBd (k : Nat) : AM → Prop
  | [] => True
  | some x :: t => x.bd k ∧ preBd k t
  | none :: t => preBd k t
theorem Kept.pre {m : AM} : ∀ {p p' : AM}, p'.length = p.length → preBd (p'.length + m.length) p' → Kept (p ++ m) (p' ++ m) := by
  intro p p' hl hb
  refine ⟨by simp [hl], fun n x hx => ?_⟩
  have key : ∀ (k : Nat) (p p' : AM), p'.length = p.length → preBd k p' → AM.get (p' ++ m) n = some x → AM.get (p ++ m) n = some x ∨ x.bd k := by
    intro k p
    induction p with
    | nil => intro p' hl hb h; cases p' with
      | nil => exact .inl h
      | cons => simp at hl
    | cons y p ih =>
      intro p' hl hb h
      cases p' with
      | nil => simp at hl
      | cons y' p' =>
        have hl' : p'.length = p.length := by simpa using hl
        simp only [List.cons_append, AM.get, List.length_append, hl'] at h ⊢
        split at h
        · rename_i e
          subst h
          simp only [preBd] at hb
          exact .inr hb.1
        · rename_i e
          rw [if_neg e]
          refine ih p' hl' ?_ h
          cases y' with
          | none => exact hb
          | some _ => exact hb.2
  rw [List.length_append]
  exact key _ p p' hl hb hx

/-- What a deferred call leaves behind that nobody holds is forgotten. -/
theorem ADef.cut {P : Program} {f : FuncId} {args : List AV} {u : Option AV} {m : AM} {Q : AM → Prop} (h : ADef P f args u m fun m' => ∃ m1, Over m1 m' ∧ Kept m m1 ∧ Q m1) : ADef P f args u m Q :=
  ⟨h.1, fun σ w vs cv hs hr hu => (h.2 σ w vs cv hs hr hu).mono fun e u' w' ⟨σ', m', a1, a2, h1, h2, m1, ⟨pre, h4⟩, h5, h7⟩ => by
    subst h4
    exact ⟨σ', m1, a1, a2, h1.cut h5.len, h5.sim hs h2, h7⟩⟩

end Go.Ab
