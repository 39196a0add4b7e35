/- Lemmas on an abstract memory that stands for the worlds of the model: no condition. -/
import Derived.Test.YtbdefaebbicfjaaGreatA3
import Derived.Scope
set_option linter.all false
/- The abstract walk: regions, statements, loops, the entry of a call. -/
namespace Go.Ab
open Go.RowKit

def gval (all : Array Oper) (aa : AA) (j : Nat) : Option Bool :=
  match ((all[j]?).bind (·.dst)).bind (fget aa.fr) with
  | some (.d (.bool b)) => some b
  | _ => none

theorem gval_ok {all : Array Oper} {σ : St} {m : AM} {w : World} {nt : Nat} {a : Act} {aa : AA} (ha : AR σ m w nt a aa) {j : Nat} {b : Bool} (h : gval all aa j = some b) : yielded all a.tmps j = some b := by
  unfold gval at h
  split at h
  · rename_i b' hb
    cases h
    obtain ⟨d, hd, hf⟩ := Option.bind_eq_some_iff.1 hb
    have hr := (ha.fr d _ hf).bool_inv
    have hlt : d < a.tmps.size := by
      rcases Nat.lt_or_ge d a.tmps.size with h | h
      · exact h
      · simp [Array.getD_eq_getD_getElem?, Array.getElem?_eq_none h, Go.undef] at hr
    have hq : a.tmps[d]? = some (.bool b) := by
      simp only [Array.getD_eq_getD_getElem?, Array.getElem?_eq_getElem hlt, Option.getD_some] at hr
      rw [Array.getElem?_eq_getElem hlt, hr]
    simp [yielded, hd, hq]
  · cases h

/-- The operations of a region, in the order of the text. -/
def awpOps (P : Program) (nt : Nat) (all : Array Oper) : List Oper → AA → AM → (AA → AM → Prop) → (AX → AA → AM → Prop) → Prop
  | [], aa, m, K, _ => K aa m
  | o :: rest, aa, m, K, Q =>
    (match o.dst with | some d => d < nt | none => True) ∧
    match o.guard with
    | none => ACont P o.dst aa m (fun aa m => awpOps P nt all rest aa m K Q) Q (aopS P o.op aa m)
    | some (j, b) =>
      match gval all aa j with
      | some g => if g = b then ACont P o.dst aa m (fun aa m => awpOps P nt all rest aa m K Q) Q (aopS P o.op aa m) else awpOps P nt all rest (aa.put o.dst (.tup [])) m K Q
      | none => False

/-- One operation's abstract result, in the model. -/
theorem acont_upon_r {P : Program} {nt : Nat} {σ0 σ : St} {m0 m : AM} {w0 w : World} {a : Act} {aa : AA} {o : Oper} {K : AA → AM → Prop} {Q : AX → AA → AM → Prop} {next : Act → World → Prop} {Q' : Exit → Act → World → Prop}
    (ρ : Option Nat) (hρ : ρ = none ∨ opNoDef o.op = true) (hE : Ext σ0 m0 w0 σ m w) (hs : Sim σ m w) (ha : AR σ m w nt a aa) (hd : ∀ d, o.dst = some d → d < nt)
    {r : ARes} (hrun : OpRun P o a.eval σ m w r) (h : ACont P o.dst aa m K Q r)
    (hK : ∀ σ' m' w' a' aa', Ext σ0 m0 w0 σ' m' w' → Sim σ' m' w' → AR σ' m' w' nt a' aa' → K aa' m' → next a' w')
    (hQ : ∀ σ' m' w' a' aa' cv v, Ext σ0 m0 w0 σ' m' w' → Sim σ' m' w' → AR σ' m' w' nt a' aa' → R σ' m' w' cv v → Q (.pan v) aa' m' → Q' (.panic [{ v := cv, recovered := false }]) a' w') :
    o.wpIn (WF ρ) 0 P a w next Q' := by
  have hsem : o.semAt ρ a.eval = execOp a.eval o := by
    rcases hρ with rfl | hρ
    · rfl
    · exact Oper.semAt_eq _ _ _ fun c hc => by simp [hc, opNoDef] at hρ
  refine ⟨fun _ _ => trivial, ?_⟩
  show o.uponIn (WF ρ) 0 P a next Q' ((o.semAt ρ a.eval).run P w)
  rw [hsem]
  cases r with
  | val v m' =>
    obtain ⟨cv, w', σ', h1, h2, h3, h4⟩ := hrun
    rw [h1, Oper.uponIn_value]
    exact hK σ' m' w' _ _ (hE.trans h2) h3 ((ha.mono h2).put hd h4) h
  | unit m' =>
    obtain ⟨w', σ', h1, h2, h3⟩ := hrun
    rw [h1, Oper.uponIn_skip]
    exact hK σ' m' w' _ _ (hE.trans h2) h3 ((ha.mono h2).put hd .undef) h
  | call f args =>
    obtain ⟨vs, h1, h2⟩ := hrun
    rcases h σ w vs hs h2 with ⟨c1, c2⟩ | ⟨cv, w', c1, x, σ', m', e1, e2, e3, e4⟩
    · rw [h1, run_callFunc c1, Oper.uponIn_enter]
      refine ⟨(fun hd => by simp [WF, Fence.wide] at hd), CallsIn.mono (F := Fence.wide) (callsIn_wide.2 c2) fun e w' ⟨x, σ', m', e1, e2, e3, e4⟩ => ?_⟩
      cases e3 with
      | ret cv v hr => exact hK σ' m' w' _ _ (hE.trans e1) e2 ((ha.mono e1).put hd hr) e4
      | pan cv v hr => exact hQ σ' m' w' _ _ cv v (hE.trans e1) e2 (ha.mono e1) hr e4
    · rw [h1, c1, Oper.uponIn_value]
      cases e3 with
      | ret cv v hr => exact hK σ' m' w' _ _ (hE.trans e1) e2 ((ha.mono e1).put hd hr) e4
  | rnd n args =>
    obtain ⟨vs, h1, h2⟩ := hrun
    obtain ⟨r, c1, c2, c3⟩ := h σ w vs hs h2
    rw [h1 r c1 c2, Oper.uponIn_round]
    refine ⟨(fun hd => by simp [WF, Fence.wide] at hd), RoundIn.mono (F := Fence.wide) c3 fun e w' ⟨x, σ', m', e1, e2, e3, e4⟩ => ?_⟩
    cases e3 with
    | ret cv v hr => exact hK σ' m' w' _ _ (hE.trans e1) e2 ((ha.mono e1).put hd hr) e4
    | pan cv v hr => exact hQ σ' m' w' _ _ cv v (hE.trans e1) e2 (ha.mono e1) hr e4
  | pan v =>
    obtain ⟨cv, h1, h2⟩ := hrun
    rw [h1, Oper.uponIn_panic]
    exact hQ σ m w _ _ cv v hE hs ha h2 h
  | dfr v =>
    obtain ⟨f, fs, cs, h1, h2⟩ := hrun
    rw [h1, Oper.uponIn_defer]
    refine hK σ m w _ _ hE hs (AR.put (a := { a with defers := { target := .fn f ⟨cs⟩, args := ⟨fs⟩ } :: a.defers }) (aa := { aa with ds := v :: aa.ds }) ⟨ha.size, ha.fr, by simp [ha.dl], fun i d u hi hu => ?_⟩ hd .undef) h
    cases i with
    | zero =>
      simp at hi hu
      subst hi
      subst hu
      exact .inl ⟨f, fs, cs, rfl, h2⟩
    | succ i => exact ha.ds i d u (by simpa using hi) (by simpa using hu)
  | bad => exact h.elim

theorem acont_upon {P : Program} {nt : Nat} {σ0 σ : St} {m0 m : AM} {w0 w : World} {a : Act} {aa : AA} {o : Oper} {K : AA → AM → Prop} {Q : AX → AA → AM → Prop} {next : Act → World → Prop} {Q' : Exit → Act → World → Prop}
    (ρ : Option Nat) (hρ : ρ = none ∨ opNoDef o.op = true) (hE : Ext σ0 m0 w0 σ m w) (hs : Sim σ m w) (ha : AR σ m w nt a aa) (hd : ∀ d, o.dst = some d → d < nt)
    (h : ACont P o.dst aa m K Q (aop P o.op aa m))
    (hK : ∀ σ' m' w' a' aa', Ext σ0 m0 w0 σ' m' w' → Sim σ' m' w' → AR σ' m' w' nt a' aa' → K aa' m' → next a' w')
    (hQ : ∀ σ' m' w' a' aa' cv v, Ext σ0 m0 w0 σ' m' w' → Sim σ' m' w' → AR σ' m' w' nt a' aa' → R σ' m' w' cv v → Q (.pan v) aa' m' → Q' (.panic [{ v := cv, recovered := false }]) a' w') :
    o.wpIn (WF ρ) 0 P a w next Q' := acont_upon_r ρ hρ hE hs ha hd (aop_run hs ha o) h hK hQ

theorem awpOps_ok {P : Program} {nt : Nat} {all : Array Oper} {K : AA → AM → Prop} {Q : AX → AA → AM → Prop} {σ0 : St} {m0 : AM} {w0 : World} {Q' : Exit → Act → World → Prop} (ρ : Option Nat) (hρ : ρ = none ∨ (all.toList.all fun o => opNoDef o.op) = true)
    (hn : ∀ a w, OpsPost σ0 m0 w0 nt K a w → Q' .normal a w) (hp : ∀ ch a w, Post σ0 m0 w0 nt Q (.panic ch) a w → Q' (.panic ch) a w) : ∀ (rest : List Oper) (k : Nat) (aa : AA) (m : AM), all.toList.drop k = rest →
    awpOps P nt all rest aa m K Q → ∀ σ w a, Ext σ0 m0 w0 σ m w → Sim σ m w → AR σ m w nt a aa → wpOpsIn (WF ρ) 0 P all Q' (List.range' k rest.length) a w
  | [], k, aa, m, _, h, σ, w, a, hE, hs, ha => by
    simp only [List.length_nil, List.range'_zero, wpOpsIn]
    exact hn _ _ ⟨σ, m, aa, hE, hs, ha, h⟩
  | o :: rest, k, aa, m, hk, h, σ, w, a, hE, hs, ha => by
    have hk' : all.toList.drop (k + 1) = rest := by
      rw [← List.drop_drop, hk]
      rfl
    have ho : all[k]? = some o := by
      have := congrArg (fun l => l[0]?) hk
      simp only [List.getElem?_drop, Nat.add_zero] at this
      simpa using this
    simp only [awpOps] at h
    obtain ⟨hd, h⟩ := h
    have hd' : ∀ d, o.dst = some d → d < nt := by
      intro d hdd
      rw [hdd] at hd
      exact hd
    have ih := awpOps_ok (P := P) (nt := nt) (all := all) (K := K) (Q := Q) (σ0 := σ0) (m0 := m0) (w0 := w0) ρ hρ hn hp rest (k + 1)
    have hρo : ρ = none ∨ opNoDef o.op = true := hρ.imp_right fun h => List.all_eq_true.1 h o (by
      have : o ∈ all.toList := List.mem_of_getElem? (i := k) (by simpa using ho)
      exact this)
    have hgo : ACont P o.dst aa m (fun aa m => awpOps P nt all rest aa m K Q) Q (aopS P o.op aa m) → o.wpIn (WF ρ) 0 P a w (wpOpsIn (WF ρ) 0 P all Q' (List.range' (k + 1) rest.length)) Q' := fun h =>
      acont_upon_r ρ hρo hE hs ha hd' (aopS_run hs ha o) h (fun σ' m' w' a' aa' e1 e2 e3 e4 => ih aa' m' hk' e4 σ' w' a' e1 e2 e3)
        (fun σ' m' w' a' aa' cv v e1 e2 e3 e4 e5 => hp _ _ _ ⟨.pan v, σ', m', aa', e1, e2, e3, .pan cv v e4, e5⟩)
    simp only [List.length_cons, List.range'_succ, wpOpsIn, ho]
    split at h
    · rename_i hg
      have hw : Region.wanted o (yielded all a.tmps) = true := by simp [Region.wanted, hg]
      rw [if_pos hw]
      exact hgo h
    · rename_i j b hg
      split at h
      · rename_i g hgv
        have hy := gval_ok ha hgv
        split at h
        · rename_i hgb
          subst hgb
          have hw : Region.wanted o (yielded all a.tmps) = true := by simp [Region.wanted, hg, hy]
          rw [if_pos hw]
          exact hgo h
        · rename_i hgb
          have hw : Region.wanted o (yielded all a.tmps) = false := by simp [Region.wanted, hg, hy, hgb]
          simp only [hw, Bool.false_eq_true, if_false]
          exact ⟨fun _ _ => trivial, ih _ _ hk' h σ w _ hE hs (ha.put hd' .undef)⟩
      · exact h.elim

def AX.then (next : AA → AM → Prop) (Q : AX → AA → AM → Prop) : AX → AA → AM → Prop
  | .normal, aa, m => next aa m
  | x, aa, m => Q x aa m

def AX.inBlock (id : Nat) (Q : AX → AA → AM → Prop) : AX → AA → AM → Prop
  | .exit id', aa, m => if id' = id then Q .normal aa m else Q (.exit id') aa m
  | x, aa, m => Q x aa m

def AX.noGoto (Q : AX → AA → AM → Prop) : AX → AA → AM → Prop
  | .goto _, _, _ => False
  | x, aa, m => Q x aa m

/-- A region whose order is drawn, by what it comes to. -/
def ADraw (P : Program) (nt : Nat) (ops : Array Oper) (aa : AA) (m : AM) (Q : AX → AA → AM → Prop) : Prop := ∀ id, AW P nt (.region id ops true) aa m Q
/-- A loop, by what it comes to. -/
def ALoop (P : Program) (nt : Nat) (c : Code) (aa : AA) (m : AM) (Q : AX → AA → AM → Prop) : Prop := AW P nt (.loop c) aa m Q

def awpC (P : Program) (nt : Nat) : Code → AA → AM → (AX → AA → AM → Prop) → Prop
  | .skip, aa, m, Q => Q .normal aa m
  | .region _ ops false, aa, m, Q => awpOps P nt ops ops.toList aa m (fun aa m => Q .normal aa m) Q
  | .region _ ops true, aa, m, Q => ADraw P nt ops aa m Q
  | .seq a b, aa, m, Q => awpC P nt a aa m (AX.then (fun aa m => awpC P nt b aa m Q) Q)
  | .cond c x y, aa, m, Q =>
    match aa.look c with
    | some (.d (.bool b)) => if b = true then awpC P nt x aa m Q else awpC P nt y aa m Q
    | _ => False
  | .block id c, aa, m, Q => awpC P nt c aa m (AX.inBlock id Q)
  | .loop c, aa, m, Q => ALoop P nt c aa m Q
  | .exit id, aa, m, Q => Q (.exit id) aa m
  | .label _, aa, m, Q => Q .normal aa m
  | .ret, aa, m, Q => Q .ret aa m
  | .rangeFunc f ps as b, aa, m, Q => AW P nt (.rangeFunc f ps as b) aa m Q
  | .scope c, aa, m, Q => awpC P nt c aa m (AX.noGoto Q)
  | .goto l, aa, m, Q => Q (.goto l) aa m
  | .refuse _, _, _, _ => False

theorem wp_post {P : Program} {c : Code} {σ σ1 : St} {m m1 : AM} {w w1 : World} {nt : Nat} {Q : AX → AA → AM → Prop} {a : Act} {ρ : Option Nat} (h : Ext σ m w σ1 m1 w1) (hw : c.wpIn (WF ρ) 0 P (Post σ1 m1 w1 nt Q) a w1) : c.wpIn (WF ρ) 0 P (Post σ m w nt Q) a w1 :=
  wpIn_mono hw fun _ _ _ hp => hp.of_ext h

theorem wpIn_scope_straight {F : Fence} {n : Nat} {P : Program} {c : Code} {Q : Exit → Act → World → Prop} {a : Act} {w : World} (h : c.wpIn F n P (Exit.noGoto Q) a w) : (Code.scope c).wpIn F n P Q a w := by
  intro b k cs hro hb hr
  have h0 : (lone (b.atR a (.code (.scope c) :: k)) cs w).fenced P F := fenced_calm hb hr rfl
  have s0 : step P (lone (b.atR a (.code (.scope c) :: k)) cs w) = .next (lone (b.atR a (.code c :: .inScope c :: k)) cs w) := step_lone_go (by simp [stepG, stepG.exec, Frame.atR])
  have s1 : ∀ a w, step P (lone (b.atR a (.inScope c :: k)) cs w) = .next (lone (b.atR a k) cs w) := fun a w => step_lone_go (by simp [stepG, stepG.exec, Frame.atR])
  obtain ⟨e, a₁, w₁, hq, harr⟩ := h b (.inScope c :: k) cs hro hb hr
  cases e with
  | normal => exact ⟨.normal, a₁, w₁, hq, .head h0 s0 (StepsIn.trans harr (.one (fenced_calm hb hr rfl) (s1 _ _)))⟩
  | exit id =>
    have hx : exitTo id (.inScope c :: k) = exitTo id k := by simp [exitTo]
    exact ⟨.exit id, a₁, w₁, hq, fun k' hk => .head h0 s0 (harr.1 k' (by rw [hx]; exact hk)), fun hr' hk => let ⟨k₁, h1, h2⟩ := harr.2 hr' (by rw [hx]; exact hk); ⟨k₁, h1, .head h0 s0 h2⟩⟩
  | goto l => exact hq.elim
  | ret => exact ⟨_, a₁, w₁, hq, .of_steps (.one h0 s0) harr⟩
  | panic ch => exact ⟨_, a₁, w₁, hq, .of_steps (.one h0 s0) harr⟩
  | outgrown => exact ⟨_, a₁, w₁, hq, .of_steps (.one h0 s0) harr⟩

theorem awpC_ok {P : Program} {nt : Nat} : ∀ (c : Code) (aa : AA) (m : AM) (Q : AX → AA → AM → Prop), awpC P nt c aa m Q → AW P nt c aa m Q
  | .skip, aa, m, Q, h => fun ρ hρ σ w a hs ha => wpIn_skip ⟨.normal, σ, m, aa, Ext.refl .., hs, ha, .normal, h⟩
  | .region id ops false, aa, m, Q, h => fun ρ hρ σ w a hs ha => by
    refine wpIn_region ?_
    have := awpOps_ok (P := P) (nt := nt) (all := ops) (σ0 := σ) (m0 := m) (w0 := w) (Q' := Post σ m w nt Q) ρ hρ (fun a' w' hp => by
      obtain ⟨σ', m', aa', e1, e2, e3, e4⟩ := hp
      exact ⟨.normal, σ', m', aa', e1, e2, e3, .normal, e4⟩) (fun _ _ _ h => h) ops.toList 0 aa m rfl h σ w a (Ext.refl ..) hs ha
    rw [Array.length_toList, ← List.range_eq_range'] at this
    exact this
  | .region id ops true, aa, m, Q, h => h id
  | .seq x y, aa, m, Q, h => fun ρ hρ σ w a hs ha => by
    have hx : ρ = none ∨ noDef x = true := hρ.imp_right fun h => by simp only [noDef, Bool.and_eq_true] at h; exact h.1
    have hy : ρ = none ∨ noDef y = true := hρ.imp_right fun h => by simp only [noDef, Bool.and_eq_true] at h; exact h.2
    refine wpIn_seq (wpIn_mono (awpC_ok x aa m _ h ρ hx σ w a hs ha) fun e a' w' hp => ?_)
    obtain ⟨x', σ', m', aa', e1, e2, e3, e4, e5⟩ := hp
    cases e4 with
    | normal => exact wp_post e1 (awpC_ok y aa' m' Q e5 ρ hy σ' w' a' e2 e3)
    | exit id => exact ⟨_, σ', m', aa', e1, e2, e3, .exit id, e5⟩
    | goto l => exact ⟨_, σ', m', aa', e1, e2, e3, .goto l, e5⟩
    | ret => exact ⟨_, σ', m', aa', e1, e2, e3, .ret, e5⟩
    | pan v b hr => exact ⟨_, σ', m', aa', e1, e2, e3, .pan v b hr, e5⟩
  | .cond c x y, aa, m, Q, h => fun ρ hρ σ w a hs ha => by
    have hx : ρ = none ∨ noDef x = true := hρ.imp_right fun h => by simp only [noDef, Bool.and_eq_true] at h; exact h.1
    have hy : ρ = none ∨ noDef y = true := hρ.imp_right fun h => by simp only [noDef, Bool.and_eq_true] at h; exact h.2
    simp only [awpC] at h
    split at h
    · rename_i b hb
      have hc := (ha.look hb).bool_inv
      split at h
      · rename_i hbt
        subst hbt
        exact wpIn_cond_true hc (awpC_ok x aa m Q h ρ hx σ w a hs ha)
      · rename_i hbt
        have hbf : b = false := by simpa using hbt
        subst hbf
        exact wpIn_cond_false hc (awpC_ok y aa m Q h ρ hy σ w a hs ha)
    · exact h.elim
  | .block id c, aa, m, Q, h => fun ρ hρ σ w a hs ha => by
    refine wpIn_block (wpIn_mono (awpC_ok c aa m _ h ρ hρ σ w a hs ha) fun e a' w' hp => ?_)
    obtain ⟨x', σ', m', aa', e1, e2, e3, e4, e5⟩ := hp
    cases e4 with
    | normal => exact ⟨_, σ', m', aa', e1, e2, e3, .normal, e5⟩
    | exit id' =>
      simp only [AX.inBlock] at e5
      simp only [Exit.inBlock]
      split at e5
      · rename_i hid
        rw [if_pos hid]
        exact ⟨_, σ', m', aa', e1, e2, e3, .normal, e5⟩
      · rename_i hid
        rw [if_neg hid]
        exact ⟨_, σ', m', aa', e1, e2, e3, .exit id', e5⟩
    | goto l => exact ⟨_, σ', m', aa', e1, e2, e3, .goto l, e5⟩
    | ret => exact ⟨_, σ', m', aa', e1, e2, e3, .ret, e5⟩
    | pan v b hr => exact ⟨_, σ', m', aa', e1, e2, e3, .pan v b hr, e5⟩
  | .loop c, aa, m, Q, h => h
  | .exit id, aa, m, Q, h => fun ρ hρ σ w a hs ha => wpIn_exit ⟨_, σ, m, aa, Ext.refl .., hs, ha, .exit id, h⟩
  | .label l, aa, m, Q, h => fun ρ hρ σ w a hs ha => wpIn_label ⟨_, σ, m, aa, Ext.refl .., hs, ha, .normal, h⟩
  | .ret, aa, m, Q, h => fun ρ hρ σ w a hs ha => wpIn_ret ⟨_, σ, m, aa, Ext.refl .., hs, ha, .ret, h⟩
  | .goto l, aa, m, Q, h => fun ρ hρ σ w a hs ha => wpIn_goto ⟨_, σ, m, aa, Ext.refl .., hs, ha, .goto l, h⟩
  | .rangeFunc f ps as b, aa, m, Q, h => h
  | .scope c, aa, m, Q, h => fun ρ hρ σ w a hs ha => by
    simp only [awpC] at h
    refine wpIn_scope_straight (wpIn_mono (awpC_ok c aa m _ h ρ hρ σ w a hs ha) fun e a' w' hp => ?_)
    obtain ⟨x, σ', m', aa', h1, h2, h3, h4, h5⟩ := hp
    cases h4 with
    | normal => exact ⟨.normal, σ', m', aa', h1, h2, h3, .normal, h5⟩
    | exit id => exact ⟨.exit id, σ', m', aa', h1, h2, h3, .exit id, h5⟩
    | goto l => exact h5.elim
    | ret => exact ⟨.ret, σ', m', aa', h1, h2, h3, .ret, h5⟩
    | pan v b hr => exact ⟨.pan b, σ', m', aa', h1, h2, h3, .pan v b hr, h5⟩
  | .refuse s, aa, m, Q, h => h.elim

/-! ### weakening -/
def AVle (u v : AV) : Prop := ∀ σ m w cv, R σ m w cv u → R σ m w cv v

theorem AVle.refl (u : AV) : AVle u u := fun _ _ _ _ h => h
theorem AVle.gsl (n sz : Nat) (rows : List (List D)) : AVle (.gsl n sz rows) (.d (.sl sz rows)) := fun _ _ _ _ h => by
  cases h with
  | gsl v n sz rows hn hd hg => exact .d _ _ hd
theorem AVle.nilsl (sz : Nat) : AVle (.d .nilsl) (.d (.sl sz [])) := fun _ _ _ _ h => by
  rw [h.nilsl_inv]
  exact .d _ _ (.slNil _ _ _ (Nat.zero_le _))

inductive AVles : List AV → List AV → Prop
  | nil : AVles [] []
  | cons {u v : AV} {us vs : List AV} : AVle u v → AVles us vs → AVles (u :: us) (v :: vs)

theorem AVles.refl : ∀ (us : List AV), AVles us us
  | [] => .nil
  | u :: us => .cons (.refl u) (.refl us)

theorem AVles.rs {us vs : List AV} (h : AVles us vs) {σ : St} {m : AM} {w : World} {cs : List Value} (hr : Rs σ m w cs us) : Rs σ m w cs vs := by
  induction h generalizing cs with
  | nil => exact hr
  | @cons u v us vs h1 h2 ih =>
    obtain ⟨hl, h⟩ := hr
    cases cs with
    | nil => simp at hl
    | cons c cs =>
      obtain ⟨q1, q2⟩ := ih (cs := cs) ⟨by simpa using hl, fun i x y a b => h (i + 1) x y a b⟩
      refine ⟨by simp [q1], fun i x y a b => ?_⟩
      cases i with
      | zero => simp at a b; subst a; subst b; exact h1 _ _ _ _ (h 0 c u rfl rfl)
      | succ i => exact q2 i x y a b

theorem AVle.agg {us vs : List AV} (h : AVles us vs) : AVle (.agg us) (.agg vs) := fun σ m w cv hr => by
  cases hr with
  | agg cs as hl hr => obtain ⟨h1, h2⟩ := h.rs ⟨hl, hr⟩; exact .agg _ _ h1 h2
theorem AVle.tup {us vs : List AV} (h : AVles us vs) : AVle (.tup us) (.tup vs) := fun σ m w cv hr => by
  cases hr with
  | tup cs as hl hr => obtain ⟨h1, h2⟩ := h.rs ⟨hl, hr⟩; exact .tup _ _ h1 h2

def frLe (fr : List (Nat × AV)) : List (Nat × AV) → Prop
  | [] => True
  | (s, v) :: t => (∃ u, fget fr s = some u ∧ AVle u v) ∧ frLe fr t

theorem frLe_get {fr : List (Nat × AV)} : ∀ {t : List (Nat × AV)}, frLe fr t → ∀ s v, fget t s = some v → ∃ u, fget fr s = some u ∧ AVle u v
  | [], _, s, v, h => by cases h
  | (k, x) :: t, ⟨h1, h2⟩, s, v, h => by
    simp only [fget] at h
    split at h
    · rename_i e
      cases h
      subst e
      exact h1
    · exact frLe_get h2 s v h

/-- Names given up. -/
def mLe : AM → AM → Prop
  | [], [] => True
  | x :: t, y :: t' => (y = none ∨ x = y) ∧ mLe t t'
  | _, _ => False

theorem mLe.refl : ∀ (m : AM), mLe m m
  | [] => trivial
  | _ :: t => ⟨.inr rfl, mLe.refl t⟩

theorem mLe.length : ∀ {m m' : AM}, mLe m m' → m.length = m'.length
  | [], [], _ => rfl
  | _ :: t, _ :: t', ⟨_, h⟩ => by simp [mLe.length h]
  | [], _ :: _, h => h.elim
  | _ :: _, [], h => h.elim

theorem mLe.get : ∀ {m m' : AM}, mLe m m' → ∀ n x, m'.get n = some x → m.get n = some x
  | [], [], _, n, x, h => h
  | y :: t, y' :: t', ⟨h1, h2⟩, n, x, h => by
    simp only [AM.get] at h ⊢
    rw [mLe.length h2]
    split at h
    · rename_i e
      rw [if_pos e]
      rcases h1 with rfl | rfl
      · cases h
      · exact h
    · rename_i e
      rw [if_neg e]
      exact mLe.get h2 n x h
  | [], _ :: _, h, _, _, _ => h.elim
  | _ :: _, [], h, _, _, _ => h.elim

theorem mLe.ext {m m' : AM} (h : mLe m m') (σ : St) (w : World) : Ext σ m w σ m' w where
  os := rfl
  tape := rfl
  output := rfl
  size := Nat.le_refl _
  len := Nat.le_of_eq h.length
  rho _ _ := rfl
  gr n _ e sz k' hk := ⟨k', h.get n _ hk, Nat.le_refl _, fun _ => rfl⟩
  imm b o hb := ⟨⟨hb.1, fun n x hn hx => hb.2 n x (h.get n x hn) hx⟩, rfl⟩
  old b hb hn := ⟨fun n x hx => hn n x (h.get n x hx), rfl⟩

theorem mLe.sim {m m' : AM} (h : mLe m m') {σ : St} {w : World} (hs : Sim σ m w) : Sim σ m' w :=
  ⟨fun n x hx => BlkOK.mono_of (h.ext σ w) (AM.get_lt _ _ _ (h.get n x hx)) (hs.ok n x (h.get n x hx)) (fun _ _ => rfl) (fun _ _ _ _ => rfl),
   fun n n' x x' b hx hx' hb hb' => hs.inj n n' x x' b (h.get n x hx) (h.get n' x' hx') hb hb'⟩

/-- One abstract state says no more than another. -/
def Weak (aa : AA) (m : AM) (aa' : AA) (m' : AM) : Prop := ∀ nt σ w a, Sim σ m w → AR σ m w nt a aa → ∃ σ', Ext σ m w σ' m' w ∧ Sim σ' m' w ∧ AR σ' m' w nt a aa'

theorem Weak.of {fr fr' : List (Nat × AV)} {ds : List AV} {m m' : AM} (hf : frLe fr fr') (hm : mLe m m') : Weak ⟨fr, ds⟩ m ⟨fr', ds⟩ m' := fun nt σ w a hs ha => by
  refine ⟨σ, hm.ext σ w, hm.sim hs, ha.size, fun s v hv => ?_, ha.dl, fun i d v h1 h2 => ?_⟩
  · obtain ⟨u, hu, hle⟩ := frLe_get hf s v hv
    exact hle _ _ _ _ ((ha.fr s u hu).mono (hm.ext σ w))
  · rcases ha.ds i d v h1 h2 with ⟨f, fs, cs, e, r⟩ | ⟨n, e1, e2, e3⟩
    · exact .inl ⟨f, fs, cs, e, r.mono (hm.ext σ w)⟩
    · exact .inr ⟨n, e1, by rw [← hm.length]; exact e2, e3⟩

theorem Weak.trans {a1 a2 a3 : AA} {m1 m2 m3 : AM} (h : Weak a1 m1 a2 m2) (k : Weak a2 m2 a3 m3) : Weak a1 m1 a3 m3 := fun nt σ w a hs ha => by
  obtain ⟨σ', e1, e2, e3⟩ := h nt σ w a hs ha
  obtain ⟨σ'', f1, f2, f3⟩ := k nt σ' w a e2 e3
  exact ⟨σ'', e1.trans f1, f2, f3⟩

theorem AW.weak {P : Program} {nt : Nat} {c : Code} {aa aa' : AA} {m m' : AM} {Q : AX → AA → AM → Prop} (h : Weak aa m aa' m') (hw : AW P nt c aa' m' Q) : AW P nt c aa m Q := fun ρ hρ σ w a hs ha => by
  obtain ⟨σ', e1, e2, e3⟩ := h nt σ w a hs ha
  exact wp_post e1 (hw ρ hρ σ' w a e2 e3)

/-- A nil slice that the loop will append to. -/
theorem Weak.grow {fr : List (Nat × AV)} {ds : List AV} {m : AM} (s : Nat) (e : TypeId) (sz : Nat) (h : fget fr s = some (.d .nilsl)) : Weak ⟨fr, ds⟩ m ⟨(s, .gsl m.length sz []) :: fr, ds⟩ (some (.grow e sz 0) :: m) := fun nt σ w a hs ha => by
  obtain ⟨σ', e1, e2, e3⟩ := mkGrow hs e sz
  have hm := ha.mono e1
  refine ⟨σ', e1, e2, hm.size, fun t v hv => ?_, hm.dl, hm.ds⟩
  simp only [fget] at hv
  split at hv
  · rename_i et
    cases hv
    subst et
    rw [(ha.fr t _ h).nilsl_inv]
    exact e3
  · exact hm.fr t v hv

/-! ### loops -/
theorem AW.loop {P : Program} {nt : Nat} {c : Code} {aa : AA} {m : AM} {Q : AX → AA → AM → Prop} {ι : Type} (I : ι → Prop) (fr : ι → List (Nat × AV)) (mm : ι → AM) (μ : ι → Nat) (ds : List AV)
    (h0 : ∃ i, I i ∧ Weak aa m ⟨fr i, ds⟩ (mm i))
    (round : ∀ i, I i → awpC P nt c ⟨fr i, ds⟩ (mm i) (AX.then (fun aa' m' => ∃ i', I i' ∧ μ i' < μ i ∧ Weak aa' m' ⟨fr i', ds⟩ (mm i')) Q)) : ALoop P nt c aa m Q := by
  intro ρ hρ σ w a hs ha
  obtain ⟨i0, hI, hw⟩ := h0
  obtain ⟨σ1, e1, e2, e3⟩ := hw nt σ w a hs ha
  have key : ∀ (n : Nat) (i : ι) (σ' : St) (a' : Act) (w' : World), μ i = n → I i → Ext σ m w σ' (mm i) w' → Sim σ' (mm i) w' → AR σ' (mm i) w' nt a' ⟨fr i, ds⟩ → ∀ (b : Frame) (k : List Item) (cs : List Frame), b.roundOf = ρ →
      ∃ e a2 w2, Post σ m w nt Q e a2 w2 ∧ ArrivesIn (Machine.fenced P (WF ρ)) P (lone (b.atR a' (.code c :: .inLoop c :: k)) cs w') b k cs e a2 w2 := by
    intro n
    induction n using Nat.strongRecOn with
    | _ n ih =>
      intro i σ' a' w' hn hIi g1 g2 g3 b k cs hro
      obtain ⟨e, a2, w2, hp, harr⟩ := awpC_ok _ _ _ _ (round i hIi) ρ hρ σ' w' a' g2 g3 b (.inLoop c :: k) cs hro trivial (room_wide _)
      obtain ⟨x', σ'', m'', aa'', p1, p2, p3, p4, p5⟩ := hp
      cases p4 with
      | normal =>
        obtain ⟨i', hI', hlt, hwk⟩ := p5
        obtain ⟨σ3, q1, q2, q3⟩ := hwk nt σ'' w2 a2 p2 p3
        obtain ⟨e3', a3, w3, r1, r2⟩ := ih (μ i') (hn ▸ hlt) i' σ3 a2 w2 rfl hI' ((g1.trans p1).trans q1) q2 q3 b k cs hro
        exact ⟨e3', a3, w3, r1, .of_steps (StepsIn.trans harr (.one (fenced_calm trivial (room_wide (cs.length + 1 + 0)) rfl) stepR_inLoop)) r2⟩
      | exit id => exact ⟨_, a2, w2, ⟨_, σ'', m'', aa'', g1.trans p1, p2, p3, .exit id, p5⟩, .pass (x := .inLoop c) rfl (fun _ _ => .inl (by simp)) harr⟩
      | goto l => exact ⟨_, a2, w2, ⟨_, σ'', m'', aa'', g1.trans p1, p2, p3, .goto l, p5⟩, .pass (x := .inLoop c) rfl (fun _ _ => .inl (by simp)) harr⟩
      | ret => exact ⟨_, a2, w2, ⟨_, σ'', m'', aa'', g1.trans p1, p2, p3, .ret, p5⟩, .pass (x := .inLoop c) rfl (fun _ _ => .inl (by simp)) harr⟩
      | pan v b' hr => exact ⟨_, a2, w2, ⟨_, σ'', m'', aa'', g1.trans p1, p2, p3, .pan v b' hr, p5⟩, .pass (x := .inLoop c) rfl (fun _ _ => .inl (by simp)) harr⟩
  intro b k cs hro _ _
  obtain ⟨e, a2, w2, h1, h2⟩ := key _ i0 σ1 a w rfl hI e1 e2 e3 b k cs hro
  exact ⟨e, a2, w2, h1, .of_steps (.one (fenced_calm trivial (room_wide (cs.length + 1 + 0)) rfl) stepR_loop) h2⟩

/-! ### calls -/
def frOf : Nat → List AV → List (Nat × AV)
  | _, [] => []
  | k, a :: as => (k, a) :: frOf (k + 1) as

theorem fget_frOf : ∀ (k : Nat) (as : List AV) (s : Nat) (v : AV), fget (frOf k as) s = some v → k ≤ s ∧ as[s - k]? = some v
  | k, [], s, v, h => by cases h
  | k, a :: as, s, v, h => by
    simp only [frOf, fget] at h
    split at h
    · rename_i e
      cases h
      subst e
      simp
    · obtain ⟨h1, h2⟩ := fget_frOf (k + 1) as s v h
      refine ⟨by omega, ?_⟩
      have : s - k = (s - (k + 1)) + 1 := by omega
      rw [this]
      simpa using h2

def aRes1 (P : Program) (aa : AA) (m : AM) : ResultVar → Option AV
  | .tmp t => fget aa.fr t
  | .cell p t =>
    match fget aa.fr p with
    | some v => match aLoad P t v m with
      | .val u _ => some u
      | _ => none
    | none => none

def aRess (P : Program) (aa : AA) (m : AM) : List ResultVar → Option (List AV)
  | [] => some []
  | r :: rs => match aRes1 P aa m r, aRess P aa m rs with
    | some v, some vs => some (v :: vs)
    | _, _ => none

def aRet (vs : List AV) : AV := match vs with | [v] => v | vs => .tup vs

def bodyQ (P : Program) (rs : List ResultVar) (Q : AE → AM → Prop) : AX → AA → AM → Prop
  | .normal, aa, m | .ret, aa, m => aa.ds = [] ∧ match aRess P aa m rs with | some vs => Q (.ret (aRet vs)) m | none => False
  | .pan v, aa, m => aa.ds = [] ∧ Q (.pan v) m
  | _, _, _ => False

theorem aLoad_keeps {P : Program} {t : TypeId} {a v : AV} {m m' : AM} (h : aLoad P t a m = .val v m') : m' = m := by
  unfold aLoad at h
  repeat' split at h
  all_goals first
    | (cases h; done)
    | (unfold ARes.ofOpt at h; split at h <;> cases h; rfl)

def resRun (tmps : Array Value) : ResultVar → Sem Value
  | .tmp t => pure (tmps.getD t undef)
  | .cell p t => do loadVar t (← asAddr (tmps.getD p undef))

theorem results_eq (fn : Func) (tmps : Array Value) : results fn tmps = (do
    let vs ← fn.results.mapM (resRun tmps)
    pure (if h : vs.size = 1 then vs[0] else .tuple vs)) := by
  unfold results
  congr 1

theorem aRess_run {P : Program} {σ : St} {m : AM} {w : World} {nt : Nat} {a : Act} {aa : AA} (hs : Sim σ m w) (ha : AR σ m w nt a aa) : ∀ (rs : List ResultVar) (vs : List AV), aRess P aa m rs = some vs →
    ∃ cs : List Value, (rs.mapM (resRun a.tmps)).run P w = .ok cs w ∧ Rs σ m w cs vs
  | [], vs, h => by cases h; exact ⟨[], by simp, rfl, by simp⟩
  | r :: rs, vs, h => by
    simp only [aRess] at h
    split at h
    · rename_i v us hv hus
      cases h
      obtain ⟨cs, h1, h2, h3⟩ := aRess_run hs ha rs us hus
      have key : ∃ c, ((resRun a.tmps) r).run P w = .ok c w ∧ R σ m w c v := by
        cases r with
        | tmp t => exact ⟨_, rfl, ha.fr t v hv⟩
        | cell p t =>
          simp only [aRes1] at hv
          split at hv
          · rename_i u hu
            split at hv
            · rename_i u' m' hld
              cases hv
              obtain rfl := aLoad_keeps hld
              have hru := ha.fr p u hu
              obtain ⟨cv, w', σ', g1, g2, g3, g4⟩ := aLoad_ok hs hru hld
              obtain ⟨ad, had⟩ : ∃ ad, a.tmps.getD p undef = .pointer (some ad) := by
                unfold aLoad at hld
                split at hld
                · cases hld
                · split at hld
                  · generalize a.tmps.getD p undef = q at hru
                    cases hru; exact ⟨_, rfl⟩
                  · generalize a.tmps.getD p undef = q at hru
                    cases hru; exact ⟨_, rfl⟩
                  · cases hld
              rw [had] at g1
              simp only [Instr.loadAt, Instr.sureAddr, pure_bind] at g1
              obtain ⟨cv', h1', h2'⟩ : ∃ cv', (loadVar t ad).run P w = .ok cv' w ∧ R σ m' w cv' v := by
                -- a load leaves the world alone
                unfold aLoad at hld
                split at hld
                · cases hld
                rename_i ti hti
                split at hld
                · rename_i n off
                  split at hld
                  · rename_i ty cs' hg
                    generalize hq : a.tmps.getD p undef = q at hru had
                    cases hru
                    rename_i hn
                    cases had
                    obtain ⟨_, vs', hh, hl, hrs⟩ := hs.ok n _ hg
                    cases hrd : rdCells ti off cs' with
                    | none => simp [hrd, ARes.ofOpt] at hld
                    | some v' =>
                      simp only [hrd, ARes.ofOpt, ARes.val.injEq] at hld
                      obtain ⟨rfl, _⟩ := hld
                      obtain ⟨cv, k1, k2⟩ := rdCells_ok (w := w) hti (σ.ρ n) 0 off vs' cs' hl (fun j v hj => by simp [World.cell?, hh, hj]) hrs hrd
                      exact ⟨cv, by simpa using k1, k2⟩
                  · cases hld
                · rename_i row off
                  generalize hq : a.tmps.getD p undef = q at hru had
                  cases hru
                  rename_i b o cv' hc
                  cases had
                  cases hrd : rdCells ti off (row.map .d) with
                  | none => simp [hrd, ARes.ofOpt] at hld
                  | some v' =>
                    simp only [hrd, ARes.ofOpt, ARes.val.injEq] at hld
                    obtain ⟨rfl, _⟩ := hld
                    have hget : ∀ (j : Nat) (v : Value), ((List.range row.length).map cv')[j]? = some v → j < row.length ∧ v = cv' j := by
                      intro j v hj
                      simp only [List.getElem?_map, Option.map_eq_some_iff] at hj
                      obtain ⟨k, hk, rfl⟩ := hj
                      rw [List.getElem?_eq_some_iff] at hk
                      obtain ⟨h1, h2⟩ := hk
                      simp at h1 h2
                      subst h2
                      exact ⟨h1, rfl⟩
                    obtain ⟨cv, k1, k2⟩ := rdCells_ok (σ := σ) (m := m') (w := w) hti b o off ((List.range row.length).map cv') (row.map .d) (by simp) (fun j v hj => by
                        obtain ⟨h1, rfl⟩ := hget j v hj
                        exact (hc j row[j] (by simp [h1])).2.1) (fun j v a hj ha => by
                        obtain ⟨h1, rfl⟩ := hget j v hj
                        simp only [List.getElem?_map, Option.map_eq_some_iff] at ha
                        obtain ⟨x, hx, rfl⟩ := ha
                        exact .d _ _ (hc j x hx).2.2) hrd
                    exact ⟨cv, k1, k2⟩
                · cases hld
              refine ⟨cv', ?_, h2'⟩
              simp [resRun, had, asAddr, h1']
            · cases hv
          · cases hv
      obtain ⟨c, k1, k2⟩ := key
      refine ⟨c :: cs, by simp only [List.mapM_cons, Sem.run_bind, k1, Result.andThen_ok, h1, Sem.run_pure], by simp [h2], fun i x y hx hy => ?_⟩
      cases i with
      | zero => simp at hx hy; subst hx; subst hy; exact k2
      | succ i => exact h3 i x y hx hy
    · cases h

theorem results_run {P : Program} {σ : St} {m : AM} {w : World} {nt : Nat} {a : Act} {aa : AA} (hs : Sim σ m w) (ha : AR σ m w nt a aa) {fn : Func} {vs : List AV} (h : aRess P aa m fn.results.toList = some vs) :
    ∃ v, (results fn a.tmps).run P w = .ok v w ∧ R σ m w v (aRet vs) := by
  obtain ⟨cs, h1, h2, h3⟩ := aRess_run hs ha _ vs h
  rw [results_eq, Array.mapM_eq_mapM_toList]
  simp only [Sem.run_bind, Sem.run_map, h1, Result.andThen_ok, Sem.run_pure]
  refine ⟨_, rfl, ?_⟩
  match cs, vs, h2, h3 with
  | [c], [v], _, h3 => exact h3 0 c v rfl rfl
  | [], [], _, h3 => exact .tup _ _ rfl h3
  | c :: c' :: cs, v :: v' :: vs, h2, h3 =>
    have : ¬ (c :: c' :: cs).toArray.size = 1 := by simp
    rw [dif_neg this]
    exact .tup _ _ h2 h3

theorem acalls_of_AW {P : Program} {f : FuncId} {fn : Func} {c : Code} {args : List AV} {m : AM} {Q : AE → AM → Prop} (hf : P.funcs[f]? = some fn) (hname : (fn.name == "runtime.NumGoroutine") = false) (hb : fn.body = some c)
    (hn : args.length ≤ fn.ntmps) (h : AW P fn.ntmps c ⟨frOf 0 args, []⟩ m (bodyQ P fn.results.toList Q)) : ACalls P f args m Q := by
  intro σ w vs hs hr
  refine .inl ⟨by simp [entersB, hf, hname, hb], ?_⟩
  have ha : AR σ m w fn.ntmps { tmps := ⟨vs⟩ ++ Array.replicate (fn.ntmps - (⟨vs⟩ : Array Value).size) undef, defers := [] } ⟨frOf 0 args, []⟩ := by
    refine ⟨by have := hr.1; simp; omega, fun s v hv => ?_, rfl, by simp⟩
    obtain ⟨_, h2⟩ := fget_frOf 0 args s v hv
    simp only [Nat.sub_zero] at h2
    have hlt : s < vs.length := by rw [hr.1]; exact (List.getElem?_eq_some_iff.1 h2).1
    have := hr.2 s vs[s] v (by simp [hlt]) h2
    simpa [Array.getD_eq_getD_getElem?, Array.getElem?_append, hlt] using this
  refine callsIn_wide (n := 0) |>.1 (callsIn_of_wp hf hb trivial (wpIn_mono (h none (.inl rfl) σ w _ hs ha) fun e a' w' hp => ?_))
  obtain ⟨x, σ', m', aa', e1, e2, e3, e4, e5⟩ := hp
  have hds : aa'.ds = [] → a'.defers = [] := fun h => List.eq_nil_of_length_eq_zero (by rw [e3.dl, h]; rfl)
  cases e4 with
  | normal =>
    obtain ⟨q1, q2⟩ := e5
    split at q2
    · rename_i vs' hvs
      obtain ⟨v, r1, r2⟩ := results_run e2 e3 hvs
      exact ⟨hds q1, v, r1, _, σ', m', e1, e2, .ret v _ r2, q2⟩
    · exact q2.elim
  | ret =>
    obtain ⟨q1, q2⟩ := e5
    split at q2
    · rename_i vs' hvs
      obtain ⟨v, r1, r2⟩ := results_run e2 e3 hvs
      exact ⟨hds q1, v, r1, _, σ', m', e1, e2, .ret v _ r2, q2⟩
    · exact q2.elim
  | exit id => exact e5.elim
  | goto l => exact e5.elim
  | pan v b hr => exact ⟨hds e5.1, _, σ', m', e1, e2, .pan v b hr, e5.2⟩

theorem acalls_of_body {P : Program} {f : FuncId} {fn : Func} {c : Code} {args : List AV} {m : AM} {Q : AE → AM → Prop} (hf : P.funcs[f]? = some fn) (hname : (fn.name == "runtime.NumGoroutine") = false) (hb : fn.body = some c)
    (hn : args.length ≤ fn.ntmps) (h : awpC P fn.ntmps c ⟨frOf 0 args, []⟩ m (bodyQ P fn.results.toList Q)) : ACalls P f args m Q := acalls_of_AW hf hname hb hn (awpC_ok _ _ _ _ h)

inductive AEle : AE → AE → Prop
  | ret {u v : AV} (h : AVle u v) : AEle (.ret u) (.ret v)
  | pan {u v : AV} (h : AVle u v) : AEle (.pan u) (.pan v)

theorem ACalls.weak {P : Program} {f : FuncId} {args : List AV} {m : AM} {Q : AE → AM → Prop} (h : ACalls P f args m fun x m1 => ∃ x' m2, AEle x x' ∧ mLe m1 m2 ∧ Q x' m2) : ACalls P f args m Q :=
  fun σ w vs hs hr => (h σ w vs hs hr).mono fun e w' ⟨x, σ', m1, e1, e2, e3, x', m2, k1, k2, k3⟩ => by
    refine ⟨x', σ', m2, e1.trans (k2.ext σ' w'), k2.sim e2, ?_, k3⟩
    cases k1 with
    | ret hle => cases e3 with | ret v a hr => exact .ret v _ ((hle _ _ _ _ hr).mono (k2.ext σ' w'))
    | pan hle => cases e3 with | pan v a hr => exact .pan v _ ((hle _ _ _ _ hr).mono (k2.ext σ' w'))

theorem ACalls.args {P : Program} {f : FuncId} {args args' : List AV} {m : AM} {Q : AE → AM → Prop} (hle : AVles args args') (h : ACalls P f args' m Q) : ACalls P f args m Q :=
  fun σ w vs hs hr => h σ w vs hs (hle.rs hr)

end Go.Ab

/- The abstract operations over digests of the type table: what a type is, in few numbers. -/
namespace Go.Ab
open Go.RowKit

/-- Is it an aggregate; how many cells. -/
def ldOf (P : Program) (t : TypeId) : Option (Bool × Nat) := (tinf P t).map fun ti => (isAggD ti.desc, ti.size)

def rdC (b : Bool) (sz off : Nat) (cs : List AV) : Option AV :=
  if b then (if off + sz ≤ cs.length then some (.agg ((cs.drop off).take sz)) else none) else cs[off]?

theorem aLoad_eq (P : Program) (t : TypeId) (a : AV) (m : AM) : aLoad P t a m = match ldOf P t with
    | none => .bad
    | some (b, sz) =>
      match a with
      | .ptr n off => (match m.get n with | some (.cells _ cs) => .ofOpt m (rdC b sz off cs) | _ => .bad)
      | .eptr row off => .ofOpt m (rdC b sz off (row.map .d))
      | _ => .bad := by
  unfold aLoad ldOf
  cases tinf P t <;> rfl

theorem aStore_eq (P : Program) (t : TypeId) (a x : AV) (m : AM) : aStore P t a x m = match ldOf P t, a with
    | some (_, sz), .ptr n off =>
      (match m.get n with
      | some (.cells ty cs) =>
        if x.cells.length = sz ∧ off + sz ≤ cs.length ∧ x.cells.all (·.isCell) then .unit (m.set n (some (.cells ty (cs.take off ++ x.cells ++ cs.drop (off + sz))))) else .bad
      | _ => .bad)
    | _, _ => .bad := by
  unfold aStore ldOf
  cases tinf P t <;> cases a <;> rfl

def zcOf (P : Program) (t : TypeId) : Option (List AV) := (tinf P t).bind zeroCells?

theorem aAlloc_eq (P : Program) (t : TypeId) (m : AM) : aAlloc P t m = match zcOf P t with | some cs => aNew t cs m | none => .bad := rfl

/-- A field's offset. -/
def fldOf (P : Program) (s : TypeId) (f : Nat) : Option Nat :=
  match tinf P s with
  | some { desc := .struct fields, .. } =>
    match fields[f]? with
    | some fd => match tinf P fd.type with
      | some tf => if tf.size = 0 then none else some fd.offset
      | none => none
    | none => none
  | _ => none

def addOff (x : AV) (k : Nat) : Option AV :=
  match x with
  | .ptr n off => some (.ptr n (off + k))
  | .eptr row off => some (.eptr row (off + k))
  | _ => none

theorem aField_eq (P : Program) (s : TypeId) (x : AV) (f : Nat) : aField P s x f = match fldOf P s f with | some k => addOff x k | none => none := by
  unfold aField fldOf
  repeat' split
  all_goals first
    | rfl
    | (simp_all [addOff]; done)
    | skip
  all_goals (rename_i h1 h2; cases h2; first | rfl | (simp_all [addOff]))

inductive IxK where
  | arr (len sz : Nat)
  | sl (sz : Nat)
  deriving DecidableEq

def ixOf (P : Program) (t : TypeId) : Option IxK :=
  match tinf P t with
  | some { desc := .array len e, .. } => (tinf P e).map fun te => .arr len te.size
  | some { desc := .slice e, .. } => (tinf P e).map fun te => .sl te.size
  | _ => none

def aIndexAddr' (k : IxK) (x : AV) (i : Int) : Option AV :=
  match k with
  | .arr len sz =>
    match x with
    | .ptr n off => if 0 ≤ i ∧ i < len then some (.ptr n (off + i.toNat * sz)) else none
    | _ => none
  | .sl sz =>
    match x with
    | .lsl n off len _ => if 0 ≤ i ∧ i < len then some (.ptr n (off + i.toNat * sz)) else none
    | x =>
      match x.rows with
      | some (sz', rows) => if 0 ≤ i ∧ i < rows.length ∧ sz' = sz then some (.eptr (rows.getD i.toNat []) 0) else none
      | none => none

theorem aIndexAddr_eq (P : Program) (t : TypeId) (x : AV) (kd : IntKind) (i : Int) : aIndexAddr P t x (.d (.int kd i)) = match ixOf P t with | some k => aIndexAddr' k x i | none => none := by
  unfold aIndexAddr ixOf
  cases h : tinf P t with
  | none => rfl
  | some ti =>
    obtain ⟨d, a, b, c⟩ := ti
    cases d with
    | array len e => cases h2 : tinf P e <;> cases x <;> simp [aIndexAddr', h2]
    | slice e => cases h2 : tinf P e <;> cases x <;> simp only [aIndexAddr', h2, Option.map_some, Option.map_none] <;> rfl
    | _ => rfl

inductive IvK where
  | arr (len : Nat) (agg : Bool) (sz : Nat)
  | str
  deriving DecidableEq

def ivOf (P : Program) (t : TypeId) : Option IvK :=
  match tinf P t with
  | some { desc := .array len e, .. } => (tinf P e).map fun te => .arr len (isAggD te.desc) te.size
  | some { desc := .string, .. } => some .str
  | _ => none

def aIndex' (k : IvK) (x : AV) (i : Int) : Option AV :=
  match k with
  | .arr len b sz =>
    match x with
    | .agg cs => if 0 ≤ i ∧ i < len then rdC b sz (i.toNat * sz) cs else none
    | _ => none
  | .str =>
    match x with
    | .d (.str s) => if 0 ≤ i ∧ i < s.length then some (.d (.int .u8 ((s.getD i.toNat 0).toNat : Int))) else none
    | _ => none

theorem aIndex_eq (P : Program) (t : TypeId) (x : AV) (kd : IntKind) (i : Int) : aIndex P t x (.d (.int kd i)) = match ivOf P t with | some k => aIndex' k x i | none => none := by
  unfold aIndex ivOf
  cases h : tinf P t with
  | none => rfl
  | some ti =>
    obtain ⟨d, a, b, c⟩ := ti
    cases d with
    | array len e => cases h2 : tinf P e <;> cases x <;> simp [aIndex', h2, rdC, rdCells]
    | string =>
      cases x with
      | d y => cases y <;> simp [aIndex']
      | _ => rfl
    | _ => rfl

inductive FK where
  | int | bool | str
  deriving DecidableEq

/-- The fields of a struct that '==' looks at, each with its offset. -/
def fksOf (P : Program) : List Field → Option (List (Nat × FK))
  | [] => some []
  | f :: fs =>
    if f.name = "_" then none else
    match tinf P f.type, fksOf P fs with
    | some { desc := .int _, .. }, some r => some ((f.offset, .int) :: r)
    | some { desc := .bool, .. }, some r => some ((f.offset, .bool) :: r)
    | some { desc := .string, .. }, some r => some ((f.offset, .str) :: r)
    | _, _ => none

inductive BK where
  | bool
  | struct (fs : List (Nat × FK))
  | slice
  | iface

def bkOf (P : Program) (t : TypeId) : Option BK :=
  match tinf P t with
  | some { desc := .bool, .. } => some .bool
  | some { desc := .struct fs, .. } => if eqOkB P t then (fksOf P fs.toList).map .struct else none
  | some { desc := .slice _, .. } => some .slice
  | some { desc := .interface _, .. } => some .iface
  | _ => none

def bpOf (P : Program) (t : TypeId) : Bool :=
  match tinf P t with
  | some ⟨.pointer e, _, _, _⟩ => (tinf P e).isSome
  | _ => false
theorem bpOf_spec {P : Program} {t : TypeId} (h : bpOf P t = true) : ∃ e i b z ti, tinf P t = some ⟨.pointer e, i, b, z⟩ ∧ tinf P e = some ti := by
  unfold bpOf at h
  split at h
  · rename_i e _ _ _ ht
    obtain ⟨ti, hte⟩ := Option.isSome_iff_exists.1 h
    exact ⟨e, _, _, _, ti, ht, hte⟩
  · cases h

def aEqFs : List (Nat × FK) → List AV → List AV → Option Bool
  | [], _, _ => some true
  | (o, k) :: fs, xs, ys =>
    match k, xs[o]?, ys[o]? with
    | .int, some (.d (.int k a)), some (.d (.int k' b)) => if k = k' then (aEqFs fs xs ys).map (decide (a = b) && ·) else none
    | .bool, some (.d (.bool a)), some (.d (.bool b)) => (aEqFs fs xs ys).map ((a == b) && ·)
    | .str, some (.d (.str a)), some (.d (.str b)) => (aEqFs fs xs ys).map ((a == b) && ·)
    | _, _, _ => none

theorem aEqFields_eq {P : Program} (xs ys : List AV) : ∀ (fs : List Field) (r : List (Nat × FK)), fksOf P fs = some r → aEqFields P fs xs ys = aEqFs r xs ys
  | [], r, h => by cases h; rfl
  | f :: fs, r, h => by
    simp only [fksOf] at h
    split at h
    · cases h
    rename_i hname
    split at h
    all_goals try (cases h; done)
    all_goals
      rename_i r' hti hr
      cases h
      simp only [aEqFields, if_neg hname, hti, aEqFs]
      have ih := aEqFields_eq xs ys fs _ hr
      cases xs[f.offset]? with
      | none => rfl
      | some x =>
        cases x with
        | d u =>
          cases ys[f.offset]? with
          | none => cases u <;> rfl
          | some y =>
            cases y with
            | d v => cases u <;> cases v <;> first | rfl | simp only [ih]
            | _ => cases u <;> rfl
        | _ => rfl

/-- Shifts and the like need no type. -/
def aBin2 (op : BinOp) (x y : AV) : Option AV :=
  match x, y with
  | .d (.int k a), .d (.int k' b) =>
    match op with
    | .shl => aShift .shl k a b
    | .shr => aShift .shr k a b
    | op => if k = k' then aInt op k a b else none
  | .d (.str a), .d (.str b) => aStr op a b
  | _, _ => none

theorem aBin_int (P : Program) (op : BinOp) (t : TypeId) (xo yo : Operand) (k k' : IntKind) (a b : Int) : aBin P op t xo yo (.d (.int k a)) (.d (.int k' b)) = aBin2 op (.d (.int k a)) (.d (.int k' b)) := rfl
theorem aBin_str (P : Program) (op : BinOp) (t : TypeId) (xo yo : Operand) (a b : List UInt8) : aBin P op t xo yo (.d (.str a)) (.d (.str b)) = aStr op a b := rfl
theorem aBin_bool (P : Program) (op : BinOp) (t : TypeId) (xo yo : Operand) (a b : Bool) : aBin P op t xo yo (.d (.bool a)) (.d (.bool b)) = match bkOf P t with | some .bool => aEqR op (a == b) | _ => none := by
  unfold aBin bkOf
  cases h : tinf P t with
  | none => rfl
  | some ti =>
    obtain ⟨d, p, q, r⟩ := ti
    cases d <;> first | rfl | (simp only []; split <;> first | rfl | (rename_i hh; split at hh <;> simp at hh))
theorem aBin_agg (P : Program) (op : BinOp) (t : TypeId) (xo yo : Operand) (xs ys : List AV) (fs : List (Nat × FK)) (h : bkOf P t = some (.struct fs)) : aBin P op t xo yo (.agg xs) (.agg ys) = (aEqFs fs xs ys).bind (aEqR op) := by
  unfold bkOf at h
  split at h
  · simp at h
  · rename_i gs _ _ _ hti
    split at h
    · rename_i hok
      obtain ⟨r, hr, hb⟩ := Option.map_eq_some_iff.1 h
      cases hb
      simp only [aBin, if_pos hok, hti, aEqFields_eq xs ys _ _ hr]
    · cases h
  · simp at h
  · simp at h
  · cases h
theorem aBin_nilsl (P : Program) (op : BinOp) (t : TypeId) (xo yo : Operand) : aBin P op t xo yo (.d .nilsl) (.d .nilsl) = match bkOf P t with | some .slice => aEqR op true | _ => none := by
  unfold aBin bkOf
  cases h : tinf P t with
  | none => rfl
  | some ti =>
    obtain ⟨d, p, q, r⟩ := ti
    cases d <;> first | rfl | (simp only []; split <;> first | rfl | (rename_i hh; split at hh <;> simp at hh))
theorem aBin_ifc (P : Program) (op : BinOp) (t : TypeId) (xo yo : Operand) (u : TypeId) (v : AV) : aBin P op t xo yo (.ifc u v) (.d (.cst .nilIface)) = match bkOf P t with | some .iface => aEqR op false | _ => none := by
  unfold aBin bkOf
  cases h : tinf P t with
  | none => rfl
  | some ti =>
    obtain ⟨d, p, q, r⟩ := ti
    cases d <;> first | rfl | (simp only []; split <;> first | rfl | (rename_i hh; split at hh <;> simp at hh))
theorem aBin_nilIface (P : Program) (op : BinOp) (t : TypeId) (xo yo : Operand) : aBin P op t xo yo (.d (.cst .nilIface)) (.d (.cst .nilIface)) = match bkOf P t with | some .iface => if isConst xo || isConst yo then aEqR op true else none | _ => none := by
  unfold aBin bkOf
  cases h : tinf P t with
  | none => rfl
  | some ti =>
    obtain ⟨d, p, q, r⟩ := ti
    cases d <;> first | rfl | (simp only []; split <;> first | rfl | (rename_i hh; split at hh <;> simp at hh))

inductive CvK where
  | int (k : IntKind)
  | str
  | bytes
  deriving DecidableEq

def cvOf (P : Program) (src dst : TypeId) : Option CvK :=
  match tinf P src, tinf P dst with
  | some ts, some td =>
    match td.desc with
    | .int k => some (.int k)
    | .string =>
      match ts.desc with
      | .slice e => match tinf P e with
        | some { desc := .int .u8, .. } => some .bytes
        | _ => none
      | _ => some .str
    | _ => none
  | _, _ => none

def aConv' (k : CvK) (x : AV) (m : AM) : Option AV :=
  match k, x with
  | .int k, .d (.int _ n) => some (.d (.int k (k.wrap n)))
  | .str, .d (.str s) => some (.d (.str s))
  | .bytes, .lsl n off len _ =>
    match m.get n with
    | some (.cells _ cs) => if off + len ≤ cs.length then (cellsBytes ((cs.drop off).take len)).map fun s => .d (.str s) else none
    | _ => none
  | .bytes, .d .nilsl => some (.d (.str []))
  | .bytes, .d (.sl 1 rows) => (rowsBytes rows).map fun s => .d (.str s)
  | .bytes, .gsl _ 1 rows => (rowsBytes rows).map fun s => .d (.str s)
  | _, _ => none

theorem aConv_of {P : Program} {src dst : TypeId} {k : CvK} (h : cvOf P src dst = some k) {x av : AV} {m : AM} (ha : aConv' k x m = some av) : aConv P src dst x m = some av := by
  unfold cvOf at h
  split at h
  · rename_i ts td hs hd
    split at h
    · rename_i q hq
      cases h
      simp only [aConv'] at ha
      split at ha <;> simp_all [aConv]
    · rename_i hq
      split at h
      · rename_i e he
        split at h
        · rename_i hte
          cases h
          have hA : ∀ y, aConv P src dst y m = (match y with
              | .d (.str s) => some (.d (.str s))
              | .lsl n off len _ =>
                (match m.get n with
                | some (.cells _ cs) => if off + len ≤ cs.length then (cellsBytes ((cs.drop off).take len)).map fun s => .d (.str s) else none
                | _ => none)
              | .d .nilsl => some (.d (.str []))
              | x => (match x.rows with
                | some (1, rows) => (rowsBytes rows).map fun s => .d (.str s)
                | _ => none)) := by
            intro y
            obtain ⟨d1, a1, b1, c1⟩ := ts
            obtain ⟨d2, a2, b2, c2⟩ := td
            simp only at he hq
            subst he
            subst hq
            unfold aConv
            rw [hs, hd]
            simp only [hte]
            cases y with
            | d z => cases z <;> rfl
            | _ => rfl
          rw [hA]
          cases x with
          | d z =>
            cases z with
            | sl sz rows =>
              match sz, ha with
              | 0, ha => cases ha
              | 1, ha => exact ha
              | n + 2, ha => cases ha
            | nilsl => exact ha
            | _ => cases ha
          | lsl n off len cap => exact ha
          | gsl n sz rows =>
            match sz, ha with
            | 0, ha => cases ha
            | 1, ha => exact ha
            | n + 2, ha => cases ha
          | _ => cases ha
        · cases h
      · rename_i hne
        cases h
        cases x with
        | d z =>
          cases z with
          | str s =>
            cases ha
            obtain ⟨d2, a2, b2, c2⟩ := td
            simp only at hq
            subst hq
            unfold aConv
            rw [hs, hd]
          | _ => cases ha
        | _ => cases ha
    · cases h
  · cases h

inductive SlK where
  | str
  | arr (n sz : Nat)
  | sl (sz : Nat)
  deriving DecidableEq

def slOf (P : Program) (t : TypeId) : Option SlK :=
  match tinf P t with
  | some { desc := .string, .. } => some .str
  | some { desc := .array n e, .. } => (tinf P e).map fun te => .arr n te.size
  | some { desc := .slice e, .. } => (tinf P e).map fun te => .sl te.size
  | _ => none

def aSlice' (k : SlK) (x : AV) (lo hi mx : Option AV) : Option AV :=
  match k with
  | .str =>
    match x with
    | .d (.str s) =>
      if mx.isSome then none else
      match aBnd hi s.length s.length with
      | some h =>
        match aBnd lo 0 h with
        | some l => some (.d (.str (cutList s l h hi.isNone)))
        | none => none
      | none => none
    | _ => none
  | .arr n sz =>
    match x with
    | .ptr b off =>
      match aBnd mx n n with
      | some m =>
        match aBnd hi n m with
        | some h =>
          match aBnd lo 0 h with
          | some l => some (.lsl b (if m = l then off else off + l * sz) (h - l) (m - l))
          | none => none
        | none => none
      | none => none
    | _ => none
  | .sl size =>
    match x with
    | .lsl b off len cap =>
      match aBnd mx cap cap with
      | some m =>
        match aBnd hi len m with
        | some h =>
          match aBnd lo 0 h with
          | some l => some (.lsl b (if m = l then off else off + l * size) (h - l) (m - l))
          | none => none
        | none => none
      | none => none
    | .d .nilsl =>
      match aBnd mx 0 0, aBnd hi 0 0, aBnd lo 0 0 with
      | some _, some _, some _ => some (.d .nilsl)
      | _, _, _ => none
    | x =>
      match x.rows with
      | some (sz, rows) =>
        if sz = size then
          match aBnd mx rows.length rows.length with
          | some m =>
            match aBnd hi rows.length (if mx.isSome then m else rows.length) with
            | some h =>
              match aBnd lo 0 h with
              | some l => some (.d (.sl sz (cutList rows l h hi.isNone)))
              | none => none
            | none => none
          | none => none
        else none
      | none => none

theorem aSlice_eq (P : Program) (t : TypeId) (x : AV) (lo hi mx : Option AV) : aSlice P t x lo hi mx = if mx.isSome && !hi.isSome then none else match slOf P t with | some k => aSlice' k x lo hi mx | none => none := by
  unfold aSlice slOf
  split
  · rfl
  cases h : tinf P t with
  | none => rfl
  | some ti =>
    obtain ⟨d, a, b, c⟩ := ti
    cases d with
    | array len e =>
      simp only []
      cases h2 : tinf P e with
      | none => rfl
      | some te => cases x <;> simp only [Option.map_some, aSlice'] <;> rfl
    | slice e =>
      simp only []
      cases h2 : tinf P e with
      | none => rfl
      | some te =>
        cases x with
        | d y => cases y <;> simp only [Option.map_some, aSlice'] <;> rfl
        | _ => simp only [Option.map_some, aSlice'] <;> rfl
    | string =>
      cases x with
      | d y => cases y <;> simp only [aSlice'] <;> rfl
      | _ => simp only [aSlice'] <;> rfl
    | _ => simp only []

inductive BlK where
  | struct (zs : List AV) (pl : List (Nat × Nat))
  | arr (zs : List AV) (sz : Nat)

def blOf (P : Program) (t : TypeId) : Option BlK :=
  match tinf P t with
  | some ti =>
    match zeroCells? ti with
    | some zs =>
      if zs.all (·.isCell) then
        match ti.desc with
        | .struct fields => (aPlaces P fields.toList).map (.struct zs)
        | .array _ e => (tinf P e).map fun te => .arr zs te.size
        | _ => none
      else none
    | none => none
  | none => none

def aBuild' (k : BlK) (parts : List (Nat × AV)) : Option AV :=
  match k with
  | .struct zs pl => (aFill (fun i => pl[i]?) zs parts).map .agg
  | .arr zs sz => (aFill (fun i => some (i * sz, sz)) zs parts).map .agg

theorem aBuild_eq (P : Program) (t : TypeId) (parts : List (Nat × AV)) : aBuild P t parts = match blOf P t with | some k => aBuild' k parts | none => none := by
  unfold aBuild blOf
  cases h : tinf P t with
  | none => rfl
  | some ti =>
    obtain ⟨d, a, b, c⟩ := ti
    simp only []
    cases h1 : zeroCells? ⟨d, a, b, c⟩ with
    | none => rfl
    | some zs =>
      simp only []
      split
      · cases d with
        | struct fields => cases h2 : aPlaces P fields.toList <;> simp [aBuild', h2]
        | array n e => cases h2 : tinf P e <;> simp [aBuild', h2]
        | _ => rfl
      · rfl

def bsOf (P : Program) (t : TypeId) : Option Nat :=
  match tinf P t with
  | some { desc := .slice e, .. } =>
    match tinf P e with
    | some te =>
      match zeroCells? te with
      | some zs => if zs.length = te.size ∧ zs.all (·.isCell) ∧ 0 < te.size then some te.size else none
      | none => none
    | none => none
  | _ => none

theorem aBuildSlice_eq (P : Program) (t : TypeId) (len : Nat) (parts : List (Nat × AV)) : aBuildSlice P t len parts = match bsOf P t with
    | some sz => if parts.length = len ∧ len * sz ≤ 16777216 then (litRows sz 0 parts).map fun rows => .d (.sl sz rows) else none
    | none => none := by
  unfold aBuildSlice bsOf
  cases h : tinf P t with
  | none => rfl
  | some ti =>
    obtain ⟨d, a, b, c⟩ := ti
    cases d with
    | slice e =>
      simp only []
      cases h2 : tinf P e with
      | none => rfl
      | some te =>
        simp only []
        cases h3 : zeroCells? te with
        | none => rfl
        | some zs =>
          simp only []
          by_cases c1 : zs.length = te.size <;> by_cases c2 : zs.all (·.isCell) = true <;> by_cases c5 : 0 < te.size <;> simp [c1, c2, c5]
    | _ => rfl

def mkOf (P : Program) (t : TypeId) : Bool :=
  match tinf P t with
  | some { desc := .interface _, .. } => false
  | some _ => true
  | none => false

theorem aMkIface_eq (P : Program) (t : TypeId) (x : AV) : aMkIface P t x = if mkOf P t then some (.ifc t x) else none := by
  unfold aMkIface mkOf
  cases h : tinf P t with
  | none => rfl
  | some ti =>
    obtain ⟨d, a, b, c⟩ := ti
    cases d <;> rfl

/-- The zero value of a type that is no interface. -/
def asOf (P : Program) (t : TypeId) : Option (Option AV) :=
  match tinf P t with
  | some { desc := .interface _, .. } => none
  | some ti => some (ti.zero.bind ofVal)
  | none => none

theorem aAssert_eq (P : Program) (x : AV) (t : TypeId) (ok : Bool) : aAssert P x t ok = match asOf P t with
    | some z =>
      (match x with
      | .ifc u v => if u = t then some (if ok then .tup [v, .d (.bool true)] else v) else if ok then z.map fun z => .tup [z, .d (.bool false)] else none
      | .d (.cst .nilIface) => if ok then z.map fun z => .tup [z, .d (.bool false)] else none
      | _ => none)
    | none => none := by
  unfold aAssert asOf
  cases h : tinf P t with
  | none => rfl
  | some ti =>
    obtain ⟨d, a, b, c⟩ := ti
    cases d <;> rfl

inductive LnK where
  | str | sl
  deriving DecidableEq

def lnOf (P : Program) (ts : List TypeId) : Option LnK :=
  match ts with
  | t :: _ => match tinf P t with
    | some { desc := .string, .. } => some .str
    | some { desc := .slice _, .. } => some .sl
    | _ => none
  | [] => none

def aLen' (k : LnK) (x : AV) : Option AV :=
  match k, x with
  | .str, .d (.str s) => some (.d (.int .i64 s.length))
  | .sl, .d .nilsl => some (.d (.int .i64 0))
  | .sl, .lsl _ _ len _ => some (.d (.int .i64 len))
  | .sl, .d (.sl _ rows) => some (.d (.int .i64 rows.length))
  | .sl, .gsl _ _ rows => some (.d (.int .i64 rows.length))
  | _, _ => none

theorem aLen_eq (P : Program) (ts : List TypeId) (x : AV) : aLen P ts x = match lnOf P ts with | some k => aLen' k x | none => none := by
  unfold aLen lnOf
  cases ts with
  | nil => rfl
  | cons t rest =>
    simp only []
    cases h : tinf P t with
    | none => rfl
    | some ti =>
      obtain ⟨d, a, b, c⟩ := ti
      cases d with
      | string => cases x with | d y => cases y <;> rfl | _ => rfl
      | slice e => cases x with | d y => cases y <;> rfl | _ => rfl
      | _ => rfl

/-- For append: the element's type, its cells, its bytes. -/
def apOf (P : Program) (ts : List TypeId) : Option (TypeId × Nat × Nat) :=
  match ts with
  | [t, t'] =>
    if t = t' then
      match tinf P t with
      | some { desc := .slice e, .. } =>
        match tinf P e with
        | some te => if 0 < te.size ∧ 0 < te.bytes ∧ te.zero.map (·.cells.size) = some te.size then some (e, te.size, te.bytes) else none
        | none => none
      | _ => none
    else none
  | _ => none

theorem aAppend_eq (P : Program) (ts : List TypeId) (s x : AV) (m : AM) {e : TypeId} {size bytes : Nat} (h : apOf P ts = some (e, size, bytes)) : aAppend P ts s x m = match s, newRows size x with
    | .gsl n sz rows, some new =>
      (match m.get n with
      | some (.grow e' sz' k) =>
        if e' = e ∧ sz' = size ∧ sz = size ∧ k = rows.length ∧ (rows.length + new.length) * bytes ≤ 140737488355328 then .val (.gsl n sz (rows ++ new)) (m.set n (some (.grow e sz (k + new.length)))) else .bad
      | _ => .bad)
    | _, _ => .bad := by
  unfold apOf at h
  split at h
  · rename_i t t'
    split at h
    · rename_i htt
      subst htt
      split at h
      · rename_i e' _ _ _ hti
        split at h
        · rename_i te hte
          split at h
          · rename_i hc
            cases h
            unfold aAppend
            simp only [if_true, hti, hte, hc.1, hc.2.1, hc.2.2, true_and]
            rfl
          · cases h
        · cases h
      · cases h
    · cases h
  · cases h

def mpOf (P : Program) (t : TypeId) : Option (Option AV) :=
  match tinf P t with
  | some { desc := .map kt et, .. } =>
    match tinf P kt with
    | some { desc := .int _, .. } => some ((tinf P et).bind fun te => te.zero.bind ofVal)
    | _ => none
  | _ => none

theorem aMapPut_eq (P : Program) (t : TypeId) (n : Nat) (i : Int) (x : AV) (m : AM) : aMapPut P t (.mp n) (.d (.int .i64 i)) x m = match mpOf P t, m.get n with
    | some _, some (.map es) => if (aFind i es).isNone then .unit (m.set n (some (.map (es ++ [(i, x)])))) else .bad
    | _, _ => .bad := by
  unfold aMapPut mpOf
  cases h : tinf P t with
  | none => rfl
  | some ti =>
    obtain ⟨d, a, b, c⟩ := ti
    cases d with
    | map kt et =>
      simp only []
      cases h2 : tinf P kt with
      | none => rfl
      | some tk =>
        obtain ⟨d, a, b, c⟩ := tk
        cases d <;> first | rfl | (cases m.get n with | none => rfl | some y => cases y <;> rfl)
    | _ => rfl

theorem aLookup_eq (P : Program) (t : TypeId) (n : Nat) (i : Int) (ok : Bool) (m : AM) : aLookup P t (.mp n) (.d (.int .i64 i)) ok m = match mpOf P t, m.get n with
    | some z, some (.map es) =>
      (match aFind i es with
      | some v => some (if ok then .tup [v, .d (.bool true)] else v)
      | none => z.map fun z => if ok then .tup [z, .d (.bool false)] else z)
    | _, _ => none := by
  unfold aLookup mpOf
  cases h : tinf P t with
  | none => rfl
  | some ti =>
    obtain ⟨d, a, b, c⟩ := ti
    cases d with
    | map kt et =>
      simp only []
      cases h2 : tinf P kt with
      | none => rfl
      | some tk =>
        obtain ⟨d, a, b, c⟩ := tk
        cases d <;> first | rfl | (cases m.get n with | none => rfl | some y => cases y <;> rfl)
    | _ => rfl

def cpOf (P : Program) (ts : List TypeId) : Bool :=
  match ts with
  | [t, _] => match tinf P t with
    | some { desc := .slice e, .. } => match tinf P e with
      | some te => decide (te.size = 1)
      | none => false
    | _ => false
  | _ => false

theorem aCopy_of {P : Program} {ts : List TypeId} (h : cpOf P ts = true) (n off len cap : Nat) (s : List UInt8) (m : AM) : aCopy P ts (.lsl n off len cap) (.d (.str s)) m = match m.get n with
    | some (.cells ty cs) =>
      if off + len ≤ cs.length then
        .val (.d (.int .i64 (min s.length len : Nat))) (m.set n (some (.cells ty (cs.take off ++ (s.take (min s.length len)).map (fun b => AV.d (.int .u8 b.toNat)) ++ cs.drop (off + min s.length len)))))
      else .bad
    | _ => .bad := by
  unfold cpOf at h
  split at h
  · rename_i t t'
    split at h
    · rename_i e _ _ _ hti
      split at h
      · rename_i te hte
        have c1 : te.size = 1 := by simpa using h
        simp only [aCopy, hti, hte, c1, true_and]
        rfl
      · cases h
    · cases h
  · cases h

/-! ### pointers, octets of strings -/
theorem aBin_ptrnil {P : Program} {t : TypeId} (h : bpOf P t = true) (op : BinOp) (xo yo : Operand) (n o : Nat) : aBin P op t xo yo (.ptr n o) (.d (.cst (.pointer none))) = aEqR op false := by
  obtain ⟨e, i, b, z, ti, h1, h2⟩ := bpOf_spec h
  simp only [aBin, h1]
theorem aBin_nilnil {P : Program} {t : TypeId} (h : bpOf P t = true) (op : BinOp) (xo yo : Operand) : aBin P op t xo yo (.d (.cst (.pointer none))) (.d (.cst (.pointer none))) = aEqR op true := by
  obtain ⟨e, i, b, z, ti, h1, h2⟩ := bpOf_spec h
  simp only [aBin, h1]
theorem aBin_ptrptr {P : Program} {t : TypeId} (h : bpOf P t = true) (op : BinOp) (xo yo : Operand) (n o n' o' : Nat) : aBin P op t xo yo (.ptr n o) (.ptr n' o') = if n = n' ∧ o = o' then aEqR op true else none := by
  obtain ⟨e, i, b, z, ti, h1, h2⟩ := bpOf_spec h
  simp only [aBin, h1, h2]

inductive UcK where
  | to
  | frm (u : TypeId)
def ucOf (P : Program) (src dst : TypeId) : Option UcK :=
  match tinf P src, tinf P dst with
  | some ⟨.pointer e, _, _, _⟩, some ⟨.unsafePointer, _, _, _⟩ =>
    match tinf P e with
    | some te => if te.size ≠ 0 then some .to else none
    | none => none
  | some ⟨.unsafePointer, _, _, _⟩, some ⟨.pointer u, _, _, _⟩ => (tinf P u).map fun _ => .frm u
  | _, _ => none

def aConvU' (P : Program) (k : UcK) (n off : Nat) (m : AM) : Option AV :=
  match k, m.get n with
  | .to, some (.cells _ cs) => if off < cs.length then some (.ptr n off) else none
  | .frm u, some (.cells ty cs) => if liesB P ty cs.length off u = true then some (.ptr n off) else none
  | _, _ => none

theorem aConv_u {P : Program} {src dst : TypeId} {k : UcK} (h : ucOf P src dst = some k) (n off : Nat) (m : AM) : aConv P src dst (.ptr n off) m = aConvU' P k n off m := by
  unfold ucOf at h
  split at h
  · rename_i e _ _ _ _ _ _ h1 h2
    split at h
    · rename_i te h3
      split at h
      · rename_i hsz
        cases h
        unfold aConv aConvU'
        simp only [h1, h2, h3]
        cases hg : m.get n with
        | none => rfl
        | some x => cases x <;> simp [hsz]
      · cases h
    · cases h
  · rename_i _ _ _ u _ _ _ h1 h2
    obtain ⟨tu, h3, rfl⟩ := Option.map_eq_some_iff.1 h
    unfold aConv aConvU'
    simp only [h1, h2, h3]
    cases hg : m.get n with
    | none => rfl
    | some x => cases x <;> rfl
  · cases h

def apsOf (P : Program) (ts : List TypeId) : Option TypeId :=
  match ts with
  | [t, u] =>
    match tinf P t, tinf P u with
    | some ⟨.slice e, _, _, _⟩, some ⟨.string, _, _, _⟩ =>
      match tinf P e with
      | some ⟨_, 1, 1, some (.int .u8 0)⟩ => some e
      | _ => none
    | _, _ => none
  | _ => none

theorem aAppendS_eq {P : Program} {ts : List TypeId} {e : TypeId} (h : apsOf P ts = some e) (n sz : Nat) (rows : List (List D)) (x : List UInt8) (m : AM) : aAppendS P ts (.gsl n sz rows) x m = match m.get n with
    | some (.grow e' sz' k) => if e' = e ∧ sz' = 1 ∧ sz = 1 ∧ k = rows.length ∧ 0 < x.length ∧ rows.length + x.length ≤ 140737488355328 then .val (.gsl n sz (rows ++ octs x)) (m.set n (some (.grow e sz (k + x.length)))) else .bad
    | _ => .bad := by
  unfold apsOf at h
  split at h
  · split at h
    · rename_i h1 h2
      split at h
      · rename_i h3
        cases h
        unfold aAppendS
        simp only [h1, h2, h3, true_and]
        rfl
      · cases h
    · cases h
  · cases h

def usOf (P : Program) (ts : List TypeId) : Option TypeId :=
  match ts with
  | [pt, _] =>
    match tinf P pt with
    | some ⟨.pointer e, _, _, _⟩ => if P.cellsOf e = 1 then some e else none
    | _ => none
  | _ => none

theorem aUnStr_eq {P : Program} {ts : List TypeId} {e' : TypeId} (h : usOf P ts = some e') (nm : Nat) (row : List UInt8) (l : Int) (m : AM) : aUnStr P ts (.dptr nm row) (.d (.int .i64 l)) m = match m.get nm with
    | some (.grow e _ k) => if e' = e ∧ row.length = k ∧ l = row.length ∧ row ≠ [] then .val (.d (.str row)) (m.set nm none) else .bad
    | _ => .bad := by
  unfold usOf at h
  split at h
  · split at h
    · rename_i h1
      split at h
      · rename_i hc
        cases h
        unfold aUnStr
        simp only [h1]
        cases hg : m.get nm with
        | none => rfl
        | some x =>
          cases x with
          | grow e sz k =>
            simp only []
            by_cases he : e' = e
            · subst he; simp only [hc, true_and]
            · simp only [he, false_and]
          | _ => rfl
      · cases h
    · cases h
  · cases h

end Go.Ab
