/- Lemmas on an abstract memory that stands for the worlds of the model: no condition. -/
import Derived.Test.YtbdefaebbicfjaaGreatA4
import Derived.Orders
set_option linter.all false
/- A region whose order is drawn: the order of the text speaks for all, where what is read doesn't turn. -/
namespace Go.Ab
open Go.RowKit

/-! ### which operation hangs on which -/
def deps (o : Oper) : List Nat := (o.after.toList.filter (Region.binds .any)).map (·.on)

def ins (x : Nat) (l : List Nat) : List Nat := if l.contains x then l else x :: l
def dd (l : List Nat) : List Nat := l.foldr ins []
theorem mem_dd {x : Nat} : ∀ {l : List Nat}, x ∈ dd l ↔ x ∈ l
  | [] => Iff.rfl
  | y :: l => by
    have ih := mem_dd (x := x) (l := l)
    show x ∈ ins y (dd l) ↔ _
    unfold ins
    split
    · rename_i h
      have hy : y ∈ l := (mem_dd (x := y) (l := l)).1 (by simpa using h)
      rw [ih, List.mem_cons]
      exact ⟨.inr, fun h => h.elim (fun e => e ▸ hy) id⟩
    · rw [List.mem_cons, List.mem_cons, ih]

/-- For each operation all those that it hangs on, through others too. -/
def ancs : List (List Nat) → List Oper → List (List Nat)
  | acc, [] => acc
  | acc, o :: rest => ancs (acc ++ [dd ((deps o).flatMap fun d => d :: acc.getD d [])]) rest

inductive Path (ops : Array Oper) : Nat → Nat → Prop
  | one {j i : Nat} {o : Oper} (h : ops[j]? = some o) (hd : i ∈ deps o) : Path ops j i
  | step {j h i : Nat} {o : Oper} (ho : ops[j]? = some o) (hd : h ∈ deps o) (hp : Path ops h i) : Path ops j i

theorem ancs_spec {ops : Array Oper} : ∀ (rest : List Oper) (acc : List (List Nat)), ops.toList.drop acc.length = rest → (∀ (j : Nat) (l : List Nat) (i : Nat), acc[j]? = some l → i ∈ l → Path ops j i) → (∀ (j : Nat) (l : List Nat) (o : Oper) (i : Nat), acc[j]? = some l → ops[j]? = some o → i ∈ deps o → i ∈ l) →
    (ancs acc rest).length = acc.length + rest.length ∧ (∀ (j : Nat) (l : List Nat) (i : Nat), (ancs acc rest)[j]? = some l → i ∈ l → Path ops j i) ∧ (∀ (j : Nat) (l : List Nat) (o : Oper) (i : Nat), (ancs acc rest)[j]? = some l → ops[j]? = some o → i ∈ deps o → i ∈ l)
  | [], acc, _, h1, h2 => ⟨by simp [ancs], h1, h2⟩
  | o :: rest, acc, hd, h1, h2 => by
    have ho : ops[acc.length]? = some o := by
      have := congrArg (fun l => l[0]?) hd
      simp only [List.getElem?_drop, Nat.add_zero] at this
      simpa using this
    have hd' : ops.toList.drop (acc ++ [dd ((deps o).flatMap fun d => d :: acc.getD d [])]).length = rest := by
      rw [List.length_append, List.length_singleton, ← List.drop_drop, hd]
      rfl
    have key := ancs_spec rest (acc ++ [dd ((deps o).flatMap fun d => d :: acc.getD d [])]) hd' (fun j l i hj hi => by
        rw [List.getElem?_append] at hj
        split at hj
        · exact h1 j l i hj hi
        · rename_i hge
          cases hq : j - acc.length with
          | zero =>
            rw [hq] at hj
            simp at hj
            subst hj
            obtain rfl : j = acc.length := by omega
            rw [mem_dd, List.mem_flatMap] at hi
            obtain ⟨d, hd1, hd2⟩ := hi
            rcases List.mem_cons.1 hd2 with rfl | hd2
            · exact .one ho hd1
            · refine .step ho hd1 ?_
              cases hg : acc[d]? with
              | none => simp [List.getD_eq_getElem?_getD, hg] at hd2
              | some l =>
                simp only [List.getD_eq_getElem?_getD, hg, Option.getD_some] at hd2
                exact h1 d l i hg hd2
          | succ n => rw [hq] at hj; simp at hj) (fun j l o' i hj ho' hi => by
        rw [List.getElem?_append] at hj
        split at hj
        · exact h2 j l o' i hj ho' hi
        · rename_i hge
          cases hq : j - acc.length with
          | zero =>
            rw [hq] at hj
            simp at hj
            subst hj
            obtain rfl : j = acc.length := by omega
            rw [ho] at ho'
            cases ho'
            rw [mem_dd, List.mem_flatMap]
            exact ⟨i, hi, List.mem_cons_self⟩
          | succ n => rw [hq] at hj; simp at hj)
    refine ⟨?_, key.2⟩
    have := key.1
    simp only [List.length_append, List.length_cons, List.length_nil] at this ⊢
    simp only [ancs]
    omega

/-- Does operation i come before j in every order. -/
def isAnc (A : List (List Nat)) (i j : Nat) : Bool := (A.getD j []).contains i

/-- The slots that an operation looks at. -/
def looks (ops : Array Oper) (o : Oper) : List Nat :=
  (o.op.operands.toList.filterMap fun | .tmp t => some t | _ => none) ++ (match o.guard with | some (g, _) => ((ops[g]?).bind (·.dst)).toList | none => [])

def effOp : Op → Bool
  | .alloc _ | .box _ _ | .store _ _ _ | .makeMap _ _ | .makeSlice _ _ _ | .mapUpdate _ _ _ _ | .insert _ _ _ _ => true
  | .call { callee := .builtin .append, .. } | .call { callee := .builtin .copy, .. } | .call { callee := .builtin .unsafeString, .. } => true
  | _ => false

/-- Which operations turn the abstract memory: by their kind, or (calls) as told. -/
def effAt (ops : Array Oper) (es : List Nat) (i : Nat) : Bool := match ops[i]? with | some o => effOp o.op || es.contains i | none => false

/-- Operations whose result hangs on the memory. -/
def memOp : Op → Bool
  | .load _ _ | .lookup _ _ _ _ | .convert _ _ _ => true
  | .call { callee := .value _, .. } | .call { callee := .invoke _ _, .. } => true
  | _ => false

/-- From how many turns of the memory on, and up to how many, an operation may run. -/
def rngAt (ops : Array Oper) (es : List Nat) (A : List (List Nat)) (i : Nat) : Nat × Nat :=
  let n := ops.size
  let k := ((List.range n).filter (effAt ops es)).length
  (((List.range n).filter fun j => effAt ops es j && isAnc A j i).length, k - ((List.range n).filter fun j => effAt ops es j && isAnc A i j).length)

/-- The checks on a region: the edges lead back; who writes a slot and who looks at it are ordered; so are two that write it, and all that turn the memory (and the call that panics). -/
def regOk (ops : Array Oper) (es : List Nat) (pn : Option Nat) : Bool :=
  let n := ops.size
  let A := ancs [] ops.toList
  let r := List.range n
  let ord (i j : Nat) : Bool := isAnc A i j || isAnc A j i
  (r.all fun i => ((ops[i]?).map fun o => (deps o).all (· < i)).getD true) &&
  (r.all fun i => r.all fun j => i == j || (match ops[i]?, ops[j]? with
    | some x, some y => (match y.dst with | some d => (!(looks ops x).contains d && x.dst != some d) || ord i j | none => true)
    | _, _ => true)) &&
  (r.all fun i => r.all fun j => i == j || !((effAt ops es i || pn == some i) && (effAt ops es j || pn == some j)) || ord i j)


/-! ### a result hangs on the operands alone -/
theorem lookL_congr {a b : AA} : ∀ {xs : List Operand}, (∀ x ∈ xs, a.look x = b.look x) → a.lookL xs = b.lookL xs
  | [], _ => rfl
  | x :: xs, h => by
    simp only [AA.lookL, h x List.mem_cons_self, lookL_congr (fun y hy => h y (List.mem_cons_of_mem _ hy))]
theorem lookP_congr {a b : AA} : ∀ {xs : List (Nat × Operand)}, (∀ x ∈ xs.map (·.2), a.look x = b.look x) → a.lookP xs = b.lookP xs
  | [], _ => rfl
  | (i, x) :: xs, h => by
    simp only [AA.lookP, h x (by simp), lookP_congr (xs := xs) (fun y hy => h y (List.mem_cons_of_mem _ hy))]
theorem lookO_congr {a b : AA} {x : Option Operand} (h : ∀ y ∈ x.toList, a.look y = b.look y) : a.lookO x = b.lookO x := by
  cases x with
  | none => rfl
  | some o => simp only [AA.lookO, h o (by simp)]

theorem aop_congr (P : Program) (o : Op) {a b : AA} (m : AM) (h : ∀ x ∈ o.operands.toList, a.look x = b.look x) : aop P o a m = aop P o b m := by
  have hx : ∀ x, x ∈ o.operands.toList → a.look x = b.look x := h
  cases o with
  | build t parts => simp only [aop, lookP_congr (a := a) (b := b) (xs := parts.toList) (fun x hx' => h x (by simpa [Op.operands] using hx'))]
  | buildSlice t n parts => simp only [aop, lookP_congr (a := a) (b := b) (xs := parts.toList) (fun x hx' => h x (by simpa [Op.operands] using hx'))]
  | makeFunc f first cap =>
    simp only [aop, lookL_congr (a := a) (b := b) (xs := first.toList) (fun x hx' => h x (by simp [Op.operands]; exact .inl (by simpa using hx'))), lookL_congr (a := a) (b := b) (xs := cap.toList) (fun x hx' => h x (by simp [Op.operands]; exact .inr (by simpa using hx')))]
  | slice t x lo hi mx =>
    simp only [aop, h x (by simp [Op.operands]), lookO_congr (a := a) (b := b) (x := lo) (fun y hy => h y (by simp [Op.operands] at hy ⊢; exact .inr (.inl hy))), lookO_congr (a := a) (b := b) (x := hi) (fun y hy => h y (by simp [Op.operands] at hy ⊢; exact .inr (.inr (.inl hy)))), lookO_congr (a := a) (b := b) (x := mx) (fun y hy => h y (by simp [Op.operands] at hy ⊢; exact .inr (.inr (.inr hy))))]
  | call c =>
    have hargs : a.lookL c.args.toList = b.lookL c.args.toList := lookL_congr fun x hx' => h x (by simp [Op.operands, Call.operands]; exact .inr (by simpa using hx'))
    simp only [aop, ACall, hargs]
    generalize b.lookL c.args.toList = q
    cases hc : c.callee with
    | value f =>
      have hf : a.look f = b.look f := h f (by simp [Op.operands, Call.operands, hc])
      cases q with
      | none => rfl
      | some l => simp only [hf]
    | invoke r n => cases q <;> rfl
    | builtin bi =>
      cases q with
      | none => cases bi <;> rfl
      | some l => rcases l with _ | ⟨x, _ | ⟨y, _ | ⟨z, l⟩⟩⟩ <;> cases bi <;> rfl
  | defer c =>
    simp only [aop]
    cases hc : c.callee with
    | value f =>
      have hf : a.look f = b.look f := h f (by simp [Op.operands, Call.operands, hc])
      generalize c.args.toList = l
      cases l with
      | nil => simp only [hf]
      | cons x l => rfl
    | invoke r n => rfl
    | builtin bi => rfl
  | move x => simp only [aop, h x (by simp [Op.operands])]
  | assign x => simp only [aop, h x (by simp [Op.operands])]
  | pick c x y => simp only [aop, h c (by simp [Op.operands]), h x (by simp [Op.operands]), h y (by simp [Op.operands])]
  | box t x => simp only [aop, h x (by simp [Op.operands])]
  | load t x => simp only [aop, h x (by simp [Op.operands])]
  | store t x y => simp only [aop, h x (by simp [Op.operands]), h y (by simp [Op.operands])]
  | nilCheck x => simp only [aop, h x (by simp [Op.operands])]
  | binOp op t x y yt => simp only [aop, h x (by simp [Op.operands]), h y (by simp [Op.operands])]
  | unOp op t x => simp only [aop, h x (by simp [Op.operands])]
  | convert s d x => simp only [aop, h x (by simp [Op.operands])]
  | makeInterface t x => simp only [aop, h x (by simp [Op.operands])]
  | fieldAddr s x f => simp only [aop, h x (by simp [Op.operands])]
  | indexAddr t x i => simp only [aop, h x (by simp [Op.operands]), h i (by simp [Op.operands])]
  | makeSlice t x i => simp only [aop, h x (by simp [Op.operands]), h i (by simp [Op.operands])]
  | index t x i => simp only [aop, h x (by simp [Op.operands]), h i (by simp [Op.operands])]
  | lookup t x k ok => simp only [aop, h x (by simp [Op.operands]), h k (by simp [Op.operands])]
  | mapUpdate t x k v => simp only [aop, h x (by simp [Op.operands]), h k (by simp [Op.operands]), h v (by simp [Op.operands])]
  | insert t x k v => simp only [aop, h x (by simp [Op.operands]), h k (by simp [Op.operands]), h v (by simp [Op.operands])]
  | typeAssert x xt t ok => simp only [aop, h x (by simp [Op.operands])]
  | extract x i => simp only [aop, h x (by simp [Op.operands])]
  | panic x => simp only [aop, h x (by simp [Op.operands])]
  | makeMap t r => cases r <;> rfl
  | _ => rfl

/-- What neither reads nor writes memory comes to the same at every memory. -/
theorem ofOpt_any {m m' : AM} {v : AV} {r : Option AV} (h : ARes.ofOpt m r = .val v m') (m2 : AM) : ARes.ofOpt m2 r = .val v m2 := by
  cases r with
  | none => cases h
  | some u => cases h; rfl

/-- Neither a turn alone nor a call. -/
def ARes.still : ARes → Prop
  | .unit _ => False
  | .call _ _ => False
  | _ => True

theorem still_opt (m : AM) (r : Option AV) : (ARes.ofOpt m r).still := by cases r <;> trivial

/-- Such an operation comes to a value, if to anything that is not an end. -/
theorem aop_kind {P : Program} {o : Op} {a : AA} {m : AM} (he : effOp o = false) (hm : memOp o = false) : (aop P o a m).still := by
  cases o with
  | call c =>
    obtain ⟨callee, args, ats⟩ := c
    cases callee with
    | value f => simp [memOp] at hm
    | invoke r n => simp [memOp] at hm
    | builtin b =>
      simp only [aop, ACall]
      generalize a.lookL args.toList = q
      cases b <;> first
        | (simp [effOp] at he; done)
        | (split <;> first | exact still_opt _ _ | trivial | (rename_i e; cases e; done) | (rename_i e _; cases e; done) | (rename_i e1 e2; cases e1; done))
  | _ =>
    first
      | (simp [effOp] at he; done)
      | (simp [memOp] at hm; done)
      | (simp only [aop]; repeat' (first | exact still_opt _ _ | trivial | split))

theorem aop_pure {P : Program} {o : Op} {a : AA} {m m' : AM} {v : AV} (he : effOp o = false) (hm : memOp o = false) (h : aop P o a m = .val v m') (m2 : AM) : aop P o a m2 = .val v m2 := by
  cases o with
  | pick c x y =>
    simp only [aop] at h ⊢
    split at h
    · split at h <;> rename_i hb <;> simp only [hb, if_true, if_false, Bool.false_eq_true] <;> exact ofOpt_any h m2
    · cases h
  | nilCheck x =>
    simp only [aop] at h ⊢
    split at h
    · split at h
      · cases h; rename_i hs; simp only [hs, if_true]
      · cases h
    · cases h
  | makeFunc f first cap =>
    simp only [aop] at h ⊢
    split at h
    · cases h; rfl
    · cases h
  | call c =>
    obtain ⟨callee, args, ats⟩ := c
    cases callee with
    | value f => simp [memOp] at hm
    | invoke r n => simp [memOp] at hm
    | builtin b =>
      simp only [aop, ACall] at h ⊢
      generalize a.lookL args.toList = q at h ⊢
      cases b <;> first
        | (simp [effOp] at he; done)
        | (split at h <;> first | (simp_all; done) | (rename_i e1 e2; first | (cases e1; done) | (exact ofOpt_any h m2) | (subst e2; exact ofOpt_any h m2)))
  | makeMap t r => simp [effOp] at he
  | defer c =>
    simp only [aop] at h
    split at h
    · split at h <;> cases h
    · cases h
  | panic x =>
    simp only [aop] at h
    split at h <;> cases h
  | move x => exact ofOpt_any h m2
  | assign x => exact ofOpt_any h m2
  | _ =>
    first
      | (simp [effOp] at he; done)
      | (simp [memOp] at hm; done)
      | (simp only [aop] at h ⊢
         split at h
         · exact ofOpt_any h m2
         · cases h)
      | (cases h)

end Go.Ab

/- A region whose order is drawn: the walk in the order of the text, and what must hold besides. -/
namespace Go.Ab
open Go.RowKit

/-- What is known of an operation of such a region: does it turn the memory; does its result hang on it; between which turns it may run; 0: it runs, 1: it is the call that panics, 2: it hangs on that call. -/
structure DI where
  eff : Bool
  mem : Bool
  lo : Nat
  hi : Nat
  kind : Nat
  deriving DecidableEq

def kindAt (A : List (List Nat)) (pn : Option Nat) (i : Nat) : Nat := match pn with | some p => if p = i then 1 else if isAnc A p i then 2 else 0 | none => 0

def mkDI (ops : Array Oper) (es : List Nat) (pn : Option Nat) (A : List (List Nat)) (i : Nat) : DI :=
  DI.mk (effAt ops es i) (((ops[i]?).map fun o => memOp o.op).getD false) (rngAt ops es A i).1 (rngAt ops es A i).2 (kindAt A pn i)

def dtOk (ops : Array Oper) (es : List Nat) (pn : Option Nat) (T : List DI) : Bool :=
  let A := ancs [] ops.toList
  regOk ops es pn && ((List.range ops.size).all fun i => kindAt A pn i != 0 || (((ops[i]?).map fun o => (deps o).all fun d => kindAt A pn d == 0).getD true)) && T == ((List.range ops.size).map (mkDI ops es pn A))

structure Rec where
  aa : AA
  run : Bool
  v : AV
  t : Nat

/-- An operation comes to a value and a memory. -/
def Ev (P : Program) (o : Op) (aa : AA) (M : AM) (v : AV) (M2 : AM) : Prop :=
  match aop P o aa M with
  | .val u m' => u = v ∧ m' = M2
  | .unit m' => v = .tup [] ∧ m' = M2
  | .call f args => ACalls P f args M fun x m1 => x = .ret v ∧ m1 = M2
  | _ => False

/-- At each of 'c' turns from 'lo' on but one. -/
def allT (p : Nat → Prop) (own : Nat) : Nat → Nat → Prop
  | _, 0 => True
  | lo, c + 1 => (if lo = own then True else p lo) ∧ allT p own (lo + 1) c

theorem allT_get {p : Nat → Prop} {own : Nat} : ∀ {c lo : Nat}, allT p own lo c → ∀ t, lo ≤ t → t < lo + c → t ≠ own → p t
  | 0, lo, _, t, h1, h2, _ => by omega
  | c + 1, lo, ⟨h, hr⟩, t, h1, h2, h3 => by
    by_cases e : t = lo
    · subst e; rw [if_neg h3] at h; exact h
    · exact allT_get hr t (by omega) (by omega) h3

def obl (P : Program) (H : List AM) : List Oper → List DI → List Rec → Prop
  | o :: os, i :: is, r :: rs => (if i.mem = true ∧ i.eff = false ∧ i.kind = 0 ∧ r.run = true then allT (fun t => match H[t]? with | some M => Ev P o.op r.aa M r.v M | none => True) r.t i.lo (i.hi + 1 - i.lo) else True) ∧ obl P H os is rs
  | _, _, _ => True

/-- The walk in the order of the text. 'sp': what the calls come to. -/
def drw (P : Program) (nt : Nat) (ops : Array Oper) (T : List DI) (Q : AX → AA → AM → Prop) (ds : List AV) : List Oper → List DI → AA → List AM → List Rec → Prop
  | [], _, aa, hist, recs => (if T.any (fun i => i.kind == 1) then True else Q .normal aa (hist.headD [])) ∧ obl P hist.reverse ops.toList T recs.reverse
  | _ :: _, [], _, _, _ => False
  | o :: rest, i :: is, aa, hist, recs =>
    (match o.dst with | some d => d < nt | none => True) ∧
    (if i.kind = 2 then drw P nt ops T Q ds rest is aa hist (⟨aa, false, .tup [], hist.length - 1⟩ :: recs) else
     let go : Prop := match aop P o.op aa (hist.headD []) with
       | .val v m' => i.kind = 0 ∧ (if i.eff = true then True else m' = hist.headD []) ∧ drw P nt ops T Q ds rest is (aa.put o.dst v) (if i.eff = true then m' :: hist else hist) (⟨aa, true, v, hist.length - 1⟩ :: recs)
       | .unit m' => i.kind = 0 ∧ (if i.eff = true then True else m' = hist.headD []) ∧ drw P nt ops T Q ds rest is (aa.put o.dst (.tup [])) (if i.eff = true then m' :: hist else hist) (⟨aa, true, .tup [], hist.length - 1⟩ :: recs)
       | .call f args =>
         ∃ v m', if i.kind = 1 then ACalls P f args (hist.headD []) (fun x m1 => x = .pan v ∧ m1 = m') ∧ (∀ fr, Q (.pan v) ⟨fr, ds⟩ m') ∧ drw P nt ops T Q ds rest is aa hist (⟨aa, true, v, hist.length - 1⟩ :: recs)
           else ACalls P f args (hist.headD []) (fun x m1 => x = .ret v ∧ m1 = (if i.eff = true then m' else hist.headD [])) ∧ drw P nt ops T Q ds rest is (aa.put o.dst v) (if i.eff = true then m' :: hist else hist) (⟨aa, true, v, hist.length - 1⟩ :: recs)
       | _ => False
     match o.guard with
     | none => go
     | some (j, b) =>
       match gval ops aa j with
       | some g => if g = b then go else i.kind = 0 ∧ drw P nt ops T Q ds rest is (aa.put o.dst (.tup [])) (if i.eff = true then hist.headD [] :: hist else hist) (⟨aa, false, .tup [], hist.length - 1⟩ :: recs)
       | none => False)

/-- May the operation run at this frame; may it not. -/
def Wants (ops : Array Oper) (o : Oper) (aa : AA) : Prop := match o.guard with | none => True | some (j, b) => gval ops aa j = some b
def Shuns (ops : Array Oper) (o : Oper) (aa : AA) : Prop := match o.guard with | none => False | some (j, b) => ∃ g, gval ops aa j = some g ∧ g ≠ b

/-- What the walk tells of one operation. -/
def Fact (P : Program) (nt : Nat) (ops : Array Oper) (Q : AX → AA → AM → Prop) (ds : List AV) (H : List AM) (o : Oper) (i : DI) (r : Rec) : Prop :=
  (match o.dst with | some d => d < nt | none => True) ∧
  (i.kind = 0 → r.run = true → Wants ops o r.aa ∧ ∃ M M2, H[r.t]? = some M ∧ H[if i.eff = true then r.t + 1 else r.t]? = some M2 ∧ Ev P o.op r.aa M r.v M2) ∧
  (i.kind = 0 → r.run = false → r.v = .tup [] ∧ Shuns ops o r.aa ∧ ∃ M, H[r.t]? = some M ∧ (i.eff = true → H[r.t + 1]? = some M)) ∧
  (i.kind = 1 → Wants ops o r.aa ∧ ∃ M f args m', H[r.t]? = some M ∧ aop P o.op r.aa M = .call f args ∧ ACalls P f args M (fun x m1 => x = .pan r.v ∧ m1 = m') ∧ ∀ fr, Q (.pan r.v) ⟨fr, ds⟩ m') ∧
  i.kind ≤ 2

def putRec (aa : AA) (o : Oper) (i : DI) (r : Rec) : AA := if i.kind = 0 then aa.put o.dst r.v else aa

/-- The frames of the walk, one after the other, and the turns of the memory. -/
def Chain (aa : AA) (t : Nat) : List Oper → List DI → List Rec → AA → Prop
  | o :: os, i :: is, r :: rs, fin => r.aa = aa ∧ r.t = t ∧ Chain (putRec aa o i r) (if i.eff = true ∧ i.kind = 0 then t + 1 else t) os is rs fin
  | [], [], [], fin => fin = aa
  | _, _, _, _ => False

def Facts (P : Program) (nt : Nat) (ops : Array Oper) (Q : AX → AA → AM → Prop) (ds : List AV) (H : List AM) : List Oper → List DI → List Rec → Prop
  | o :: os, i :: is, r :: rs => Fact P nt ops Q ds H o i r ∧ Facts P nt ops Q ds H os is rs
  | _, _, _ => True

theorem getElem?_reverse_head {H : List AM} {x : AM} {tail : List AM} (h : ∃ pre, H = (x :: tail).reverse ++ pre) : H[tail.length]? = some x := by
  obtain ⟨pre, rfl⟩ := h
  simp

theorem drw_facts {P : Program} {nt : Nat} {ops : Array Oper} {T : List DI} {Q : AX → AA → AM → Prop} {ds : List AV} : ∀ (rest : List Oper) (is : List DI) (aa : AA) (hist : List AM) (recs : List Rec),
    is.length = rest.length → (∀ i ∈ is, i.kind ≤ 2) → hist ≠ [] → drw P nt ops T Q ds rest is aa hist recs →
    ∃ (L : List Rec) (pre : List AM) (fin : AA), L.length = rest.length ∧ Chain aa (hist.length - 1) rest is L fin ∧ Facts P nt ops Q ds (hist.reverse ++ pre) rest is L ∧
      (T.any (fun i => i.kind == 1) = false → ∃ M, (hist.reverse ++ pre).getLast? = some M ∧ Q .normal fin M) ∧ obl P (hist.reverse ++ pre) ops.toList T (recs.reverse ++ L) ∧ (hist.reverse ++ pre).length = hist.length + (is.filter fun i => i.eff = true ∧ i.kind = 0).length
  | [], is, aa, hist, recs, hl, _, hne, h => by
    obtain rfl : is = [] := List.eq_nil_of_length_eq_zero hl
    simp only [drw] at h
    refine ⟨[], [], aa, rfl, rfl, trivial, fun ht => ?_, by simpa using h.2, by simp⟩
    have h1 := h.1
    rw [ht] at h1
    simp only [Bool.false_eq_true, if_false] at h1
    cases hist with
    | nil => exact absurd rfl hne
    | cons M tl => exact ⟨M, by simp, h1⟩
  | o :: rest, [], aa, hist, recs, hl, _, hne, h => by simp at hl
  | o :: rest, i :: is, aa, hist, recs, hl, hk, hne, h => by
    obtain ⟨M, tl, rfl⟩ : ∃ M tl, hist = M :: tl := by
      cases hist with
      | nil => exact absurd rfl hne
      | cons M tl => exact ⟨M, tl, rfl⟩
    have hk' : ∀ i ∈ is, i.kind ≤ 2 := fun x hx => hk x (List.mem_cons_of_mem _ hx)
    have hki : i.kind ≤ 2 := hk i List.mem_cons_self
    simp only [drw] at h
    obtain ⟨hd, h⟩ := h
    simp only [List.headD_cons] at h
    have hl' : is.length = rest.length := by simpa using hl
    -- one more record
    have step : ∀ (aa' : AA) (hist' : List AM) (r : Rec), (hist' = M :: tl ∨ ∃ M', hist' = M' :: M :: tl) → r.aa = aa → r.t = tl.length → aa' = putRec aa o i r → hist'.length = (if i.eff = true ∧ i.kind = 0 then tl.length + 2 else tl.length + 1) →
        (∀ H, (∃ pre, H = hist'.reverse ++ pre) → Fact P nt ops Q ds H o i r) → drw P nt ops T Q ds rest is aa' hist' (r :: recs) →
        ∃ (L : List Rec) (pre : List AM) (fin : AA), L.length = (o :: rest).length ∧ Chain aa ((M :: tl).length - 1) (o :: rest) (i :: is) L fin ∧ Facts P nt ops Q ds ((M :: tl).reverse ++ pre) (o :: rest) (i :: is) L ∧
          (T.any (fun i => i.kind == 1) = false → ∃ M', ((M :: tl).reverse ++ pre).getLast? = some M' ∧ Q .normal fin M') ∧ obl P ((M :: tl).reverse ++ pre) ops.toList T (recs.reverse ++ L) ∧
          ((M :: tl).reverse ++ pre).length = (M :: tl).length + ((i :: is).filter fun i => i.eff = true ∧ i.kind = 0).length := by
      intro aa' hist' r hh hra hrt haa hlen hfact hdr
      have hne' : hist' ≠ [] := by rcases hh with rfl | ⟨M', rfl⟩ <;> simp
      obtain ⟨L, pre, fin, g1, g2, g3, g4, g5, g6⟩ := drw_facts rest is aa' hist' (r :: recs) hl' hk' hne' hdr
      obtain ⟨pre0, hpre⟩ : ∃ pre0, hist'.reverse = (M :: tl).reverse ++ pre0 := by
        rcases hh with rfl | ⟨M', rfl⟩
        · exact ⟨[], by simp⟩
        · exact ⟨[M'], by simp⟩
      have hH : hist'.reverse ++ pre = (M :: tl).reverse ++ (pre0 ++ pre) := by rw [hpre, List.append_assoc]
      refine ⟨r :: L, pre0 ++ pre, fin, by simp [g1], ⟨hra, by simpa using hrt, ?_⟩, ⟨hH ▸ hfact _ ⟨pre, rfl⟩, hH ▸ g3⟩, fun ht => by rw [← hH]; exact g4 ht, ?_, ?_⟩
      · rw [← haa]
        have : hist'.length - 1 = (if i.eff = true ∧ i.kind = 0 then (M :: tl).length - 1 + 1 else (M :: tl).length - 1) := by
          rw [hlen]; split <;> simp
        rw [← this]
        exact g2
      · rw [← hH]
        simpa using g5
      · rw [← hH, g6, hlen]
        simp only [List.filter_cons]
        by_cases hc : i.eff = true ∧ i.kind = 0
        · simp [hc]; omega
        · simp only [hc, decide_false, if_false, Bool.false_eq_true, List.length_cons]
    have hget : ∀ (H : List AM), (∃ pre, H = (M :: tl).reverse ++ pre) → H[tl.length]? = some M := fun H h => getElem?_reverse_head h
    have hget2 : ∀ (H : List AM) (M' : AM), (∃ pre, H = (M' :: M :: tl).reverse ++ pre) → H[tl.length]? = some M ∧ H[tl.length + 1]? = some M' := by
      rintro H M' ⟨pre, rfl⟩
      constructor
      · simp [List.getElem?_append]
      · simp [List.getElem?_append]
    split at h
    · rename_i hk2
      refine step aa (M :: tl) ⟨aa, false, .tup [], tl.length⟩ (.inl rfl) rfl rfl (by simp [putRec, hk2]) (by simp [hk2]) (fun H hH => ⟨hd, fun e => by omega, fun e => by omega, fun e => by omega, hki⟩) (by simpa using h)
    · rename_i hk2
      -- the operation runs
      have run : Wants ops o aa → (match aop P o.op aa M with
          | .val v m' => i.kind = 0 ∧ (if i.eff = true then True else m' = M) ∧ drw P nt ops T Q ds rest is (aa.put o.dst v) (if i.eff = true then m' :: M :: tl else M :: tl) (⟨aa, true, v, (M :: tl).length - 1⟩ :: recs)
          | .unit m' => i.kind = 0 ∧ (if i.eff = true then True else m' = M) ∧ drw P nt ops T Q ds rest is (aa.put o.dst (.tup [])) (if i.eff = true then m' :: M :: tl else M :: tl) (⟨aa, true, .tup [], (M :: tl).length - 1⟩ :: recs)
          | .call f args =>
            ∃ v m', if i.kind = 1 then ACalls P f args M (fun x m1 => x = .pan v ∧ m1 = m') ∧ (∀ fr, Q (.pan v) ⟨fr, ds⟩ m') ∧ drw P nt ops T Q ds rest is aa (M :: tl) (⟨aa, true, v, (M :: tl).length - 1⟩ :: recs)
              else ACalls P f args M (fun x m1 => x = .ret v ∧ m1 = (if i.eff = true then m' else M)) ∧ drw P nt ops T Q ds rest is (aa.put o.dst v) (if i.eff = true then m' :: M :: tl else M :: tl) (⟨aa, true, v, (M :: tl).length - 1⟩ :: recs)
          | _ => False) → ∃ (L : List Rec) (pre : List AM) (fin : AA), L.length = (o :: rest).length ∧ Chain aa ((M :: tl).length - 1) (o :: rest) (i :: is) L fin ∧ Facts P nt ops Q ds ((M :: tl).reverse ++ pre) (o :: rest) (i :: is) L ∧
          (T.any (fun i => i.kind == 1) = false → ∃ M', ((M :: tl).reverse ++ pre).getLast? = some M' ∧ Q .normal fin M') ∧ obl P ((M :: tl).reverse ++ pre) ops.toList T (recs.reverse ++ L) ∧
          ((M :: tl).reverse ++ pre).length = (M :: tl).length + ((i :: is).filter fun i => i.eff = true ∧ i.kind = 0).length := by
        intro hw h
        have val : ∀ (v : AV) (m' : AM), i.kind = 0 → (i.eff = false → m' = M) → Ev P o.op aa M v m' → drw P nt ops T Q ds rest is (aa.put o.dst v) (if i.eff = true then m' :: M :: tl else M :: tl) (⟨aa, true, v, (M :: tl).length - 1⟩ :: recs) → _ := fun v m' hk0 hm hev hdr =>
          step (aa.put o.dst v) (if i.eff = true then m' :: M :: tl else M :: tl) ⟨aa, true, v, tl.length⟩ (by by_cases he : i.eff = true <;> simp [he]) rfl rfl (by simp [putRec, hk0]) (by by_cases he : i.eff = true <;> simp [he, hk0]) (fun H hH => by
            refine ⟨hd, fun _ _ => ⟨hw, ?_⟩, fun _ e => by simp at e, fun e => by omega, hki⟩
            by_cases he : i.eff = true
            · simp only [he, if_true] at hH ⊢
              obtain ⟨q1, q2⟩ := hget2 H m' hH
              exact ⟨M, m', q1, q2, hev⟩
            · simp only [he, if_false, Bool.false_eq_true] at hH ⊢
              have q1 := hget H hH
              have hmm := hm (by simpa using he)
              exact ⟨M, M, q1, q1, hmm ▸ hev⟩) (by simpa using hdr)
        cases hr : aop P o.op aa M with
        | val v m' =>
          simp only [hr] at h
          obtain ⟨k0, hm, hdr⟩ := h
          exact val v m' k0 (fun he => by simpa [he] using hm) (by simp [Ev, hr]) hdr
        | unit m' =>
          simp only [hr] at h
          obtain ⟨k0, hm, hdr⟩ := h
          exact val (.tup []) m' k0 (fun he => by simpa [he] using hm) (by simp [Ev, hr]) hdr
        | call f args =>
          simp only [hr] at h
          obtain ⟨v, m', h⟩ := h
          split at h
          · rename_i hk1
            obtain ⟨hc, hq, hdr⟩ := h
            refine step aa (M :: tl) ⟨aa, true, v, tl.length⟩ (.inl rfl) rfl rfl (by simp [putRec, hk1]) (by simp [hk1]) (fun H hH => ⟨hd, fun e => by omega, fun e => by omega, fun _ => ⟨hw, M, f, args, m', hget H hH, hr, hc, hq⟩, hki⟩) (by simpa using hdr)
          · rename_i hk1
            obtain ⟨hc, hdr⟩ := h
            by_cases he : i.eff = true
            · simp only [he, if_true] at hc
              exact val v m' (by omega) (fun e => by simp [he] at e) (by simp only [Ev, hr]; exact hc) hdr
            · simp only [he, if_false, Bool.false_eq_true] at hc hdr
              have := val v M (by omega) (fun _ => rfl) (by simp only [Ev, hr]; exact hc)
              simp only [he, if_false, Bool.false_eq_true] at this
              exact this hdr
        | rnd n xs => simp only [hr] at h
        | pan v => simp only [hr] at h
        | dfr v => simp only [hr] at h
        | bad => simp only [hr] at h
      split at h
      · rename_i hg
        exact run (by simp [Wants, hg]) h
      · rename_i j b hg
        split at h
        · rename_i g hgv
          split at h
          · rename_i hgb
            exact run (by simp [Wants, hg, hgv, hgb]) h
          · rename_i hgb
            obtain ⟨k0, hdr⟩ := h
            refine step (aa.put o.dst (.tup [])) (if i.eff = true then M :: M :: tl else M :: tl) ⟨aa, false, .tup [], tl.length⟩ (by by_cases he : i.eff = true <;> simp [he]) rfl rfl (by simp [putRec, k0]) (by by_cases he : i.eff = true <;> simp [he, k0]) (fun H hH => ?_) (by simpa using hdr)
            refine ⟨hd, fun _ e => by simp at e, fun _ _ => ⟨rfl, by simp only [Shuns, hg]; exact ⟨g, hgv, hgb⟩, M, ?_, fun he => ?_⟩, fun e => by omega, hki⟩
            · by_cases he : i.eff = true
              · simp only [he, if_true] at hH
                exact (hget2 H M hH).1
              · simp only [he, if_false, Bool.false_eq_true] at hH
                exact hget H hH
            · simp only [he, if_true] at hH
              exact (hget2 H M hH).2
        · exact h.elim

end Go.Ab

/- A region whose order is drawn: the walk in the order of the text speaks for every order. -/
namespace Go.Ab
open Go.RowKit

/-! ### the frame and the turns at a set of operations that have run -/
def frAt (sel : Nat → Bool) : Nat → AA → List Oper → List DI → List Rec → AA
  | k, aa, o :: os, i :: is, r :: rs => frAt sel (k + 1) (if sel k = true then putRec aa o i r else aa) os is rs
  | _, aa, _, _, _ => aa

def cntAt (sel : Nat → Bool) : Nat → List DI → Nat
  | k, i :: is => (if sel k = true ∧ i.eff = true ∧ i.kind = 0 then 1 else 0) + cntAt sel (k + 1) is
  | _, [] => 0

theorem putRec_ds (aa : AA) (o : Oper) (i : DI) (r : Rec) : (putRec aa o i r).ds = aa.ds := by
  unfold putRec AA.put
  split
  · cases o.dst <;> rfl
  · rfl

theorem frAt_ds (sel : Nat → Bool) : ∀ (os : List Oper) (is : List DI) (rs : List Rec) (k : Nat) (aa : AA), (frAt sel k aa os is rs).ds = aa.ds
  | [], _, _, _, _ => rfl
  | _ :: _, [], _, _, _ => rfl
  | _ :: _, _ :: _, [], _, _ => rfl
  | o :: os, i :: is, r :: rs, k, aa => by
    rw [frAt, frAt_ds sel os is rs]
    split
    · exact putRec_ds ..
    · rfl

theorem fget_putRec (aa : AA) (o : Oper) (i : DI) (r : Rec) (s : Nat) : fget (putRec aa o i r).fr s = if i.kind = 0 ∧ o.dst = some s then some r.v else fget aa.fr s := by
  unfold putRec AA.put
  by_cases hk : i.kind = 0
  · rw [if_pos hk]
    cases hd : o.dst with
    | none => simp
    | some d =>
      simp only [fget, Option.some.injEq, hk, true_and]
      by_cases e : s = d
      · simp [e]
      · rw [if_neg e, if_neg (fun h => e h.symm)]
  · rw [if_neg hk, if_neg (fun h => hk h.1)]

/-- The value of a slot hangs on the operations that write it. -/
theorem frAt_congr {sel sel' : Nat → Bool} {s : Nat} : ∀ (os : List Oper) (is : List DI) (rs : List Rec) (k : Nat) (aa aa' : AA), fget aa.fr s = fget aa'.fr s →
    (∀ (j : Nat) (o : Oper) (i : DI), os[j]? = some o → is[j]? = some i → i.kind = 0 → o.dst = some s → sel (k + j) = sel' (k + j)) →
    fget (frAt sel k aa os is rs).fr s = fget (frAt sel' k aa' os is rs).fr s
  | [], _, _, _, _, _, h, _ => h
  | _ :: _, [], _, _, _, _, h, _ => h
  | _ :: _, _ :: _, [], _, _, _, h, _ => h
  | o :: os, i :: is, r :: rs, k, aa, aa', h, hs => by
    rw [frAt, frAt]
    refine frAt_congr os is rs (k + 1) _ _ ?_ (fun j o' i' h1 h2 h3 h4 => by
      have := hs (j + 1) o' i' (by simpa using h1) (by simpa using h2) h3 h4
      rwa [show k + (j + 1) = k + 1 + j by omega] at this)
    have h0 := hs 0 o i rfl rfl
    simp only [Nat.add_zero] at h0
    by_cases hw : i.kind = 0 ∧ o.dst = some s
    · have := h0 hw.1 hw.2
      rw [← this]
      split
      · rw [fget_putRec, fget_putRec, if_pos hw, if_pos hw]
      · exact h
    · have e : ∀ (b : Bool) (x : AA), fget (if b = true then putRec x o i r else x).fr s = fget x.fr s := fun b x => by
        cases b
        · rfl
        · simp only [if_true]; rw [fget_putRec, if_neg hw]
      rw [e, e]
      exact h

/-- One more operation has run: no later one of those that have run writes its slot. -/
theorem frAt_add {sel sel' : Nat → Bool} : ∀ (os : List Oper) (is : List DI) (rs : List Rec) (k n : Nat) (aa : AA) (o : Oper) (i : DI) (r : Rec), os[n]? = some o → is[n]? = some i → rs[n]? = some r → i.kind = 0 →
    sel (k + n) = false → sel' (k + n) = true → (∀ j, j ≠ k + n → sel' j = sel j) →
    (∀ (j : Nat) (o' : Oper) (i' : DI) (d : Nat), n < j → os[j]? = some o' → is[j]? = some i' → i'.kind = 0 → sel (k + j) = true → o.dst = some d → o'.dst ≠ some d) →
    ∀ s, fget (frAt sel' k aa os is rs).fr s = if o.dst = some s then some r.v else fget (frAt sel k aa os is rs).fr s
  | [], _, _, _, _, _, _, _, _, h, _, _, _, _, _, _, _, _ => by simp at h
  | _ :: _, [], _, _, _, _, _, _, _, _, h, _, _, _, _, _, _, _ => by simp at h
  | _ :: _, _ :: _, [], _, _, _, _, _, _, _, _, h, _, _, _, _, _, _ => by simp at h
  | o0 :: os, i0 :: is, r0 :: rs, k, 0, aa, o, i, r, ho, hi, hr, hk, h1, h2, h3, h4, s => by
    simp only [List.getElem?_cons_zero, Option.some.injEq] at ho hi hr
    subst ho hi hr
    simp only [Nat.add_zero] at h1 h2 h3
    rw [frAt, frAt]
    simp only [h1, h2, if_true, Bool.false_eq_true, if_false]
    by_cases hs : o0.dst = some s
    · rw [if_pos hs]
      -- nobody writes it afterwards
      have hz : ∀ (os' : List Oper) (is' : List DI) (rs' : List Rec) (k' : Nat) (x : AA), fget x.fr s = some r0.v → (∀ (j : Nat) (o' : Oper) (i' : DI), os'[j]? = some o' → is'[j]? = some i' → i'.kind = 0 → sel' (k' + j) = true → o'.dst ≠ some s) → fget (frAt sel' k' x os' is' rs').fr s = some r0.v := by
        intro os'
        induction os' with
        | nil => intro is' rs' k' x hx _; exact hx
        | cons o' os' ih =>
          intro is' rs' k' x hx hno
          cases is' with
          | nil => exact hx
          | cons i' is' =>
            cases rs' with
            | nil => exact hx
            | cons r' rs' =>
              rw [frAt]
              refine ih is' rs' (k' + 1) _ ?_ (fun j o2 i2 g1 g2 g3 g4 => hno (j + 1) o2 i2 (by simpa using g1) (by simpa using g2) g3 (by rwa [show k' + (j + 1) = k' + 1 + j by omega]))
              split
              · rename_i hsel
                rw [fget_putRec]
                split
                · rename_i hw
                  exact absurd hw.2 (hno 0 o' i' rfl rfl hw.1 (by simpa using hsel))
                · exact hx
              · exact hx
      refine hz os is rs (k + 1) _ (by rw [fget_putRec, if_pos ⟨hk, hs⟩]) (fun j o' i' g1 g2 g3 g4 => ?_)
      refine h4 (j + 1) o' i' s (by omega) (by simpa using g1) (by simpa using g2) g3 ?_ hs
      rw [show k + (j + 1) = k + 1 + j by omega, ← h3 _ (by omega)]
      exact g4
    · rw [if_neg hs]
      refine frAt_congr os is rs (k + 1) _ _ (by rw [fget_putRec, if_neg (fun h => hs h.2)]) (fun j _ _ _ _ _ _ => h3 _ (by omega))
  | o0 :: os, i0 :: is, r0 :: rs, k, n + 1, aa, o, i, r, ho, hi, hr, hk, h1, h2, h3, h4, s => by
    rw [frAt, frAt]
    have e : (if sel' k = true then putRec aa o0 i0 r0 else aa) = (if sel k = true then putRec aa o0 i0 r0 else aa) := by
      rw [h3 k (by omega)]
    rw [e]
    refine frAt_add os is rs (k + 1) n _ o i r (by simpa using ho) (by simpa using hi) (by simpa using hr) hk (by rwa [show k + 1 + n = k + (n + 1) by omega]) (by rwa [show k + 1 + n = k + (n + 1) by omega])
      (fun j hj => h3 j (by omega)) (fun j o' i' d g1 g2 g3 g4 g5 => h4 (j + 1) o' i' d (by omega) (by simpa using g2) (by simpa using g3) g4 (by rwa [show k + (j + 1) = k + 1 + j by omega])) s

theorem cntAt_congr {sel sel' : Nat → Bool} : ∀ (is : List DI) (k : Nat), (∀ (j : Nat) (i : DI), is[j]? = some i → i.eff = true → i.kind = 0 → sel (k + j) = sel' (k + j)) → cntAt sel k is = cntAt sel' k is
  | [], _, _ => rfl
  | i :: is, k, h => by
    have e : cntAt sel (k + 1) is = cntAt sel' (k + 1) is := cntAt_congr is (k + 1) (fun j i' h1 h2 h3 => by
      have := h (j + 1) i' (by simpa using h1) h2 h3
      rwa [show k + (j + 1) = k + 1 + j by omega] at this)
    rw [cntAt, cntAt, e]
    congr 1
    by_cases hw : i.eff = true ∧ i.kind = 0
    · rw [show sel k = sel' k from h 0 i rfl hw.1 hw.2]
    · rw [if_neg (fun h => hw h.2), if_neg (fun h => hw h.2)]

theorem cntAt_add {sel sel' : Nat → Bool} : ∀ (is : List DI) (k n : Nat) (i : DI), is[n]? = some i → sel (k + n) = false → sel' (k + n) = true → (∀ j, j ≠ k + n → sel' j = sel j) →
    cntAt sel' k is = cntAt sel k is + if i.eff = true ∧ i.kind = 0 then 1 else 0
  | [], _, _, _, h, _, _, _ => by simp at h
  | i0 :: is, k, 0, i, hi, h1, h2, h3 => by
    simp only [List.getElem?_cons_zero, Option.some.injEq] at hi
    subst hi
    simp only [Nat.add_zero] at h1 h2 h3
    rw [cntAt, cntAt, cntAt_congr is (k + 1) (fun j _ _ _ _ => h3 _ (by omega))]
    simp only [h1, h2, true_and, Bool.false_eq_true, false_and, if_false]
    omega
  | i0 :: is, k, n + 1, i, hi, h1, h2, h3 => by
    rw [cntAt, cntAt, cntAt_add is (k + 1) n i (by simpa using hi) (by rwa [show k + 1 + n = k + (n + 1) by omega]) (by rwa [show k + 1 + n = k + (n + 1) by omega]) (fun j hj => h3 j (by omega)), h3 k (by omega)]
    omega

theorem cntAt_none {sel : Nat → Bool} : ∀ (is : List DI) (k : Nat), (∀ j, k ≤ j → sel j = false) → cntAt sel k is = 0
  | [], _, _ => rfl
  | i :: is, k, h => by
    rw [cntAt, cntAt_none is (k + 1) (fun j hj => h j (by omega)), h k (Nat.le_refl _)]
    simp

theorem frAt_none {sel : Nat → Bool} : ∀ (os : List Oper) (is : List DI) (rs : List Rec) (k : Nat) (aa : AA), (∀ j, k ≤ j → sel j = false) → frAt sel k aa os is rs = aa
  | [], _, _, _, _, _ => rfl
  | _ :: _, [], _, _, _, _ => rfl
  | _ :: _, _ :: _, [], _, _, _ => rfl
  | o :: os, i :: is, r :: rs, k, aa, h => by
    rw [frAt, frAt_none os is rs (k + 1) _ (fun j hj => h j (by omega)), h k (Nat.le_refl _)]
    simp

theorem chain_get : ∀ (os : List Oper) (is : List DI) (rs : List Rec) (k : Nat) (aa : AA) (t : Nat) (fin : AA), Chain aa t os is rs fin →
    (∀ (n : Nat) (r : Rec), rs[n]? = some r → r.aa = frAt (fun j => decide (j < k + n)) k aa os is rs ∧ r.t = t + cntAt (fun j => decide (j < k + n)) k is) ∧ fin = frAt (fun _ => true) k aa os is rs
  | [], [], [], k, aa, t, fin, h => by
    refine ⟨fun n r hr => by simp at hr, ?_⟩
    simpa [Chain, frAt] using h
  | [], [], _ :: _, _, _, _, _, h => by simp [Chain] at h
  | [], _ :: _, _, _, _, _, _, h => by simp [Chain] at h
  | _ :: _, [], _, _, _, _, _, h => by simp [Chain] at h
  | _ :: _, _ :: _, [], _, _, _, _, h => by simp [Chain] at h
  | o :: os, i :: is, r :: rs, k, aa, t, fin, h => by
    simp only [Chain] at h
    obtain ⟨h1, h2, h3⟩ := h
    obtain ⟨g1, g2⟩ := chain_get os is rs (k + 1) _ _ fin h3
    refine ⟨fun n r' hr => ?_, by rw [frAt]; simpa using g2⟩
    cases n with
    | zero =>
      simp only [List.getElem?_cons_zero, Option.some.injEq] at hr
      subst hr
      constructor
      · rw [h1, frAt_none]
        intro j hj; simp; omega
      · rw [h2, cntAt_none]
        · rfl
        · intro j hj; simp; omega
    | succ n =>
      obtain ⟨e1, e2⟩ := g1 n r' (by simpa using hr)
      rw [show k + 1 + n = k + (n + 1) by omega] at e1 e2
      constructor
      · rw [e1, frAt]
        simp [show k < k + (n + 1) by omega]
      · rw [e2, cntAt]
        simp only [show k < k + (n + 1) by omega, decide_true, true_and]
        split <;> omega

theorem facts_get {P : Program} {nt : Nat} {ops : Array Oper} {Q : AX → AA → AM → Prop} {ds : List AV} {H : List AM} : ∀ (os : List Oper) (is : List DI) (rs : List Rec), Facts P nt ops Q ds H os is rs →
    ∀ (n : Nat) (o : Oper) (i : DI) (r : Rec), os[n]? = some o → is[n]? = some i → rs[n]? = some r → Fact P nt ops Q ds H o i r
  | [], _, _, _, n, o, i, r, h, _, _ => by simp at h
  | _ :: _, [], _, _, n, o, i, r, _, h, _ => by simp at h
  | _ :: _, _ :: _, [], _, n, o, i, r, _, _, h => by simp at h
  | o0 :: os, i0 :: is, r0 :: rs, h, n, o, i, r, h1, h2, h3 => by
    cases n with
    | zero =>
      simp only [List.getElem?_cons_zero, Option.some.injEq] at h1 h2 h3
      subst h1 h2 h3
      exact h.1
    | succ n => exact facts_get os is rs h.2 n o i r (by simpa using h1) (by simpa using h2) (by simpa using h3)

theorem obl_get {P : Program} {H : List AM} : ∀ (os : List Oper) (is : List DI) (rs : List Rec), obl P H os is rs →
    ∀ (n : Nat) (o : Oper) (i : DI) (r : Rec), os[n]? = some o → is[n]? = some i → rs[n]? = some r → i.mem = true → i.eff = false → i.kind = 0 → r.run = true →
      ∀ t M, i.lo ≤ t → t ≤ i.hi → t ≠ r.t → H[t]? = some M → Ev P o.op r.aa M r.v M
  | [], _, _, _, n, o, i, r, h, _, _ => by simp at h
  | _ :: _, [], _, _, n, o, i, r, _, h, _ => by simp at h
  | _ :: _, _ :: _, [], _, n, o, i, r, _, _, h => by simp at h
  | o0 :: os, i0 :: is, r0 :: rs, h, n, o, i, r, h1, h2, h3 => by
    cases n with
    | zero =>
      simp only [List.getElem?_cons_zero, Option.some.injEq] at h1 h2 h3
      subst h1 h2 h3
      intro a1 a2 a3 a4 t M b1 b2 b3 b4
      have h := h.1
      rw [if_pos ⟨a1, a2, a3, a4⟩] at h
      have := allT_get h t b1 (by omega) b3
      simpa [b4] using this
    | succ n => exact obl_get os is rs h.2 n o i r (by simpa using h1) (by simpa using h2) (by simpa using h3)

theorem cntAt_map (g : Nat → DI) (sel : Nat → Bool) : ∀ (c k : Nat), cntAt sel k ((List.range' k c).map g) = (List.range' k c).countP (fun j => sel j && (g j).eff && decide ((g j).kind = 0))
  | 0, _ => rfl
  | c + 1, k => by
    rw [List.range'_succ, List.map_cons, cntAt, cntAt_map g sel c (k + 1), List.countP_cons]
    by_cases h : sel k = true ∧ (g k).eff = true ∧ (g k).kind = 0
    · simp [h]; omega
    · rw [if_neg h, if_neg]
      · omega
      · simpa [and_assoc] using h

theorem countP_disj {p q r : Nat → Bool} : ∀ (l : List Nat), (∀ x ∈ l, p x = true → r x = true) → (∀ x ∈ l, q x = true → r x = true) → (∀ x ∈ l, p x = true → q x = true → False) → l.countP p + l.countP q ≤ l.countP r
  | [], _, _, _ => by simp
  | x :: l, h1, h2, h3 => by
    have ih := countP_disj l (fun y hy => h1 y (List.mem_cons_of_mem _ hy)) (fun y hy => h2 y (List.mem_cons_of_mem _ hy)) (fun y hy => h3 y (List.mem_cons_of_mem _ hy))
    have a1 := h1 x List.mem_cons_self
    have a2 := h2 x List.mem_cons_self
    have a3 := h3 x List.mem_cons_self
    simp only [List.countP_cons]
    cases hp : p x <;> cases hq : q x <;> cases hr : r x <;> simp_all <;> omega

end Go.Ab

/- A region whose order is drawn: every order comes to what the order of the text comes to. -/
namespace Go.Ab
open Go.RowKit

theorem AR.congr {σ : St} {m : AM} {w : World} {nt : Nat} {a : Act} {x y : AA} (h : AR σ m w nt a x) (hf : ∀ s, fget y.fr s = fget x.fr s) (hd : y.ds = x.ds) : AR σ m w nt a y :=
  ⟨h.size, fun s v hv => h.fr s v (by rw [← hf]; exact hv), by rw [hd]; exact h.dl, by rw [hd]; exact h.ds⟩

theorem isAnc_path {ops : Array Oper} {i j : Nat} (h : isAnc (ancs [] ops.toList) i j = true) : Path ops j i := by
  unfold isAnc at h
  have hs := ancs_spec (ops := ops) ops.toList [] (by simp) (by simp) (by simp)
  cases hj : (ancs [] ops.toList)[j]? with
  | none => simp [List.getD_eq_getElem?_getD, hj] at h
  | some l =>
    simp only [List.getD_eq_getElem?_getD, hj, Option.getD_some, List.contains_iff_mem] at h
    exact hs.2.1 j l i hj h

theorem path_lt {ops : Array Oper} (hd : ∀ i o, ops[i]? = some o → ∀ d ∈ deps o, d < i) {j i : Nat} (h : Path ops j i) : i < j := by
  induction h with
  | one ho hi => exact hd _ _ ho _ hi
  | step ho hi _ ih => exact Nat.lt_trans ih (hd _ _ ho _ hi)

theorem path_closed {ops : Array Oper} {sel : Nat → Prop} (hc : ∀ j o, ops[j]? = some o → sel j → ∀ d ∈ deps o, sel d) {j i : Nat} (h : Path ops j i) (hj : ∀ o, ops[j]? = some o → ∀ d ∈ deps o, sel d) : sel i := by
  induction h with
  | one ho hi => exact hj _ ho _ hi
  | step ho hi _ ih => exact ih fun o ho' d hd => hc _ _ ho' (hj _ ho _ hi) d hd

structure RegFacts (ops : Array Oper) (es : List Nat) (pn : Option Nat) : Prop where
  back : ∀ (i : Nat) (o : Oper), ops[i]? = some o → ∀ d ∈ deps o, d < i
  slot : ∀ (i j : Nat) (x y : Oper) (d : Nat), i ≠ j → ops[i]? = some x → ops[j]? = some y → y.dst = some d → (d ∈ looks ops x ∨ x.dst = some d) → Path ops j i ∨ Path ops i j
  eff : ∀ (i j : Nat), i ≠ j → i < ops.size → j < ops.size → (effAt ops es i = true ∨ pn = some i) → (effAt ops es j = true ∨ pn = some j) → Path ops j i ∨ Path ops i j

theorem regOk_spec {ops : Array Oper} {es : List Nat} {pn : Option Nat} (h : regOk ops es pn = true) : RegFacts ops es pn := by
  simp only [regOk, Bool.and_eq_true, List.all_eq_true, List.mem_range, Bool.or_eq_true, Bool.not_eq_true', beq_iff_eq] at h
  obtain ⟨⟨h1, h2⟩, h3⟩ := h
  have lt : ∀ {i : Nat} {o : Oper}, ops[i]? = some o → i < ops.size := fun h => (Array.getElem?_eq_some_iff.1 h).1
  refine ⟨fun i o ho d hd => ?_, fun i j x y d hne hx hy hd hl => ?_, fun i j hne hi hj h4 h5 => ?_⟩
  · have := h1 i (lt ho)
    simp only [ho, Option.map_some, Option.getD_some, List.all_eq_true, decide_eq_true_eq] at this
    exact this d hd
  · have := (h2 i (lt hx) j (lt hy)).resolve_left hne
    simp only [hx, hy, hd, Bool.or_eq_true, Bool.and_eq_true, Bool.not_eq_true', bne_iff_ne] at this
    rcases this with ⟨g1, g2⟩ | g
    · rcases hl with hl | hl
      · simp [hl] at g1
      · exact absurd hl g2
    · exact g.imp isAnc_path isAnc_path
  · have := h3 i hi j hj
    rcases this with (g | g) | g
    · exact absurd g hne
    · simp only [Bool.and_eq_false_iff, Bool.or_eq_false_iff, beq_eq_false_iff_ne] at g
      rcases g with ⟨g1, g2⟩ | ⟨g1, g2⟩
      · rcases h4 with h4 | h4
        · simp [h4] at g1
        · exact absurd h4 g2
      · rcases h5 with h5 | h5
        · simp [h5] at g1
        · exact absurd h5 g2
    · exact g.imp isAnc_path isAnc_path

theorem cntAt_all {sel : Nat → Bool} : ∀ (is : List DI) (k : Nat), (∀ j, j < is.length → sel (k + j) = true) → cntAt sel k is = (is.filter fun i => i.eff = true ∧ i.kind = 0).length
  | [], _, _ => rfl
  | i :: is, k, h => by
    have e := cntAt_all is (k + 1) (fun j hj => by
      have := h (j + 1) (by simpa using hj)
      rwa [show k + (j + 1) = k + 1 + j by omega] at this)
    have h0 : sel k = true := h 0 (by simp)
    rw [cntAt, e, List.filter_cons]
    by_cases hc : i.eff = true ∧ i.kind = 0
    · simp [h0, hc]; omega
    · simp only [h0, hc, and_false, if_false, decide_false, Bool.false_eq_true, Nat.zero_add]

theorem gval_congr {ops : Array Oper} {x y : AA} {j : Nat} (h : ∀ d, (ops[j]?).bind (·.dst) = some d → fget x.fr d = fget y.fr d) : gval ops x j = gval ops y j := by
  unfold gval
  cases hd : (ops[j]?).bind (·.dst) with
  | none => rfl
  | some d => simp only [Option.bind_some, h d hd]

theorem ADraw.of {P : Program} {nt : Nat} {ops : Array Oper} {es : List Nat} {pn : Option Nat} {T : List DI} {Q : AX → AA → AM → Prop} {aa : AA} {m : AM}
    (hm : P.follows .mixedOrders = true) (hT : dtOk ops es pn T = true) (h : drw P nt ops T Q aa.ds ops.toList T aa [m] []) : ADraw P nt ops aa m Q := by
  intro id ρ hρ σ w a hs ha
  refine wpIn_region_any hm ?_
  simp only [dtOk, Bool.and_eq_true, beq_iff_eq] at hT
  obtain ⟨⟨hR, hKd⟩, hT⟩ := hT
  have RF := regOk_spec hR
  generalize hA : ancs [] ops.toList = A at hT hKd
  have hTl : T.length = ops.size := by rw [hT]; simp
  have hTg : ∀ j, j < ops.size → T[j]? = some (mkDI ops es pn A j) := fun j hj => by
    rw [hT]; simp [hj]
  have hk2 : ∀ i ∈ T, i.kind ≤ 2 := by
    intro i hi
    rw [hT, List.mem_map] at hi
    obtain ⟨j, _, rfl⟩ := hi
    show kindAt A pn j ≤ 2
    unfold kindAt
    split
    · split
      · omega
      · split <;> omega
    · omega
  obtain ⟨L, pre, fin, hL, hC, hF, hfin, hO, hlen⟩ := drw_facts ops.toList T aa [m] [] (by simpa using hTl) hk2 (by simp) h
  simp only [List.reverse_cons, List.reverse_nil, List.nil_append, List.singleton_append, List.length_cons, List.length_nil] at hF hfin hO hlen hC
  generalize hH : m :: pre = H at hF hfin hO
  have hlen : H.length = 1 + (T.filter fun i => i.eff = true ∧ i.kind = 0).length := by rw [← hH]; simpa using hlen
  have hLl : L.length = ops.size := by simpa using hL
  obtain ⟨hCg, hCf⟩ := chain_get _ _ _ 0 _ _ _ hC
  simp only [Nat.zero_add, Nat.sub_self] at hCg
  have hFg := facts_get _ _ _ hF
  have hOg := obl_get _ _ _ hO
  have lt : ∀ {i : Nat} {o : Oper}, ops[i]? = some o → i < ops.size := fun h => (Array.getElem?_eq_some_iff.1 h).1
  have toL : ∀ {i : Nat} {o : Oper}, ops[i]? = some o → ops.toList[i]? = some o := fun h => by simpa using h
  have ofL : ∀ {i : Nat} {o : Oper}, ops.toList[i]? = some o → ops[i]? = some o := fun h => by simpa using h
  have hLg : ∀ j, j < ops.size → ∃ r, L[j]? = some r := fun j hj => ⟨_, List.getElem?_eq_getElem (by omega)⟩
  have cnt_range : ∀ sel, cntAt sel 0 T = (List.range ops.size).countP (fun j => sel j && effAt ops es j && decide (kindAt A pn j = 0)) := fun sel => by
    rw [hT, List.range_eq_range', cntAt_map]
    rfl
  -- the state after some have run
  let Inv : Array Bool → Act → World → Prop := fun listed a' w' => listed.size = ops.size ∧
    (∀ j o, ops[j]? = some o → listed.getD j false = true → ∀ d ∈ deps o, listed.getD d false = true) ∧
    (∀ j, j < ops.size → listed.getD j false = true → kindAt A pn j = 0) ∧
    ∃ σ' M, Ext σ m w σ' M w' ∧ Sim σ' M w' ∧ H[cntAt (fun j => listed.getD j false) 0 T]? = some M ∧ AR σ' M w' nt a' (frAt (fun j => listed.getD j false) 0 aa ops.toList T L)
  have key : ∀ (fuel : Nat) (listed : Array Bool) (a' : Act) (w' : World), Inv listed a' w' → (List.range ops.size).countP (fun j => !listed.getD j false) ≤ fuel → wpAnyIn (WF ρ) 0 P .any ops (Post σ m w nt Q) fuel listed a' w' := by
    -- nothing is left to run
    have done : ∀ (listed : Array Bool) (a' : Act) (w' : World), Inv listed a' w' → Region.ready .any ops listed = [] → Post σ m w nt Q .normal a' w' := by
      rintro listed a' w' ⟨i1, i2, i3, σ', M, i4, i5, i6, i7⟩ hr
      have hall : ∀ j, j < ops.size → listed.getD j false = true := by
        intro j
        induction j using Nat.strongRecOn with
        | ind j ih =>
          intro hj
          cases hb : listed.getD j false with
          | true => rfl
          | false =>
            have hin : j ∈ Region.ready .any ops listed := by
              rw [mem_ready]
              refine ⟨?_, ops[j], by simp [hj], fun e he hbi => ?_⟩
              · have : j < listed.size := by omega
                simpa [Array.getD_eq_getD_getElem?, this] using hb
              · have hd : e.on ∈ deps ops[j] := by
                  simp only [deps, List.mem_map, List.mem_filter]
                  exact ⟨e, ⟨by simpa using he, hbi⟩, rfl⟩
                have := RF.back j ops[j] (by simp [hj]) _ hd
                exact ih _ this (by omega)
            rw [hr] at hin
            cases hin
      have hno : (T.any fun i => i.kind == 1) = false := by
        rw [Bool.eq_false_iff]
        intro hany
        rw [List.any_eq_true] at hany
        obtain ⟨i, hi, hk⟩ := hany
        rw [hT, List.mem_map] at hi
        obtain ⟨j, hj, rfl⟩ := hi
        rw [List.mem_range] at hj
        have := i3 j hj (hall j hj)
        simp [mkDI, this] at hk
      obtain ⟨M', g1, g2⟩ := hfin hno
      have hMM : M' = M := by
        rw [cntAt_all T 0 (fun j hj => by simpa using hall j (by omega))] at i6
        rw [List.getLast?_eq_getElem?, hlen] at g1
        rw [show 1 + (List.filter (fun i => decide (i.eff = true ∧ i.kind = 0)) T).length - 1 = (List.filter (fun i => decide (i.eff = true ∧ i.kind = 0)) T).length by omega, i6] at g1
        cases g1
        rfl
      subst hMM
      refine ⟨.normal, σ', M', fin, i4, i5, i7.congr (fun s => ?_) ?_, .normal, g2⟩
      · rw [hCf]
        refine frAt_congr _ _ _ _ _ _ rfl fun j o i h1 _ _ _ => ?_
        simp only [Nat.zero_add]
        exact (hall j (lt (ofL h1))).symm
      · rw [hCf, frAt_ds, frAt_ds]
    intro fuel
    induction fuel with
    | zero =>
      intro listed a' w' hI hc
      have hr : Region.ready .any ops listed = [] := by
        cases hr : Region.ready .any ops listed with
        | nil => rfl
        | cons j l =>
          have hin : j ∈ Region.ready .any ops listed := by rw [hr]; exact List.mem_cons_self
          rw [mem_ready] at hin
          obtain ⟨h1, o, ho, _⟩ := hin
          have hj := lt ho
          have hz := List.countP_eq_zero.1 (Nat.le_zero.1 hc) j (List.mem_range.2 hj)
          have : j < listed.size := by have := hI.1; omega
          simp [Array.getD_eq_getD_getElem?, this] at h1 hz
          rw [h1] at hz
          cases hz
      exact ⟨hr, done listed a' w' hI hr⟩
    | succ fuel ih =>
      intro listed a' w' hI hc
      refine ⟨fun hr => done listed a' w' hI hr, fun i hi => ?_⟩
      have hI0 := hI
      obtain ⟨i1, i2, i3, σ', M, i4, i5, i6, i7⟩ := hI
      rw [mem_ready] at hi
      obtain ⟨hun, o, ho, hdep⟩ := hi
      have hin := lt ho
      have hil : i < listed.size := by omega
      have hun' : listed.getD i false = false := by simpa [Array.getD_eq_getD_getElem?, hil] using hun
      have hdeps : ∀ d ∈ deps o, listed.getD d false = true := by
        intro d hd
        simp only [deps, List.mem_map, List.mem_filter] at hd
        obtain ⟨e, ⟨he, hb⟩, rfl⟩ := hd
        exact hdep e (by simpa using he) hb
      have hanc : ∀ j, Path ops i j → listed.getD j false = true := fun j hp =>
        path_closed (sel := fun j => listed.getD j false = true) i2 hp fun o' ho' d hd => by
          rw [ho] at ho'
          cases ho'
          exact hdeps d hd
      have hdesc : ∀ j, Path ops j i → listed.getD j false = false := fun j hp => by
        cases hb : listed.getD j false with
        | false => rfl
        | true =>
          have := path_closed (sel := fun j => listed.getD j false = true) i2 hp fun o' ho' d hd => i2 j o' ho' hb d hd
          rw [hun'] at this
          cases this
      -- in order with i: before or after
      have hord : ∀ j, Path ops j i ∨ Path ops i j → listed.getD j false = decide (j < i) := by
        rintro j (hp | hp)
        · rw [hdesc j hp]
          have := path_lt RF.back hp
          simp; omega
        · rw [hanc j hp]
          have := path_lt RF.back hp
          simp; omega
      have hρo : ρ = none ∨ opNoDef o.op = true := hρ.imp_right fun h => List.all_eq_true.1 h o (List.mem_of_getElem? (toL ho))
      obtain ⟨r, hr⟩ := hLg i hin
      obtain ⟨hraa, hrt⟩ := hCg i r hr
      have hfact := hFg i o _ r (toL ho) (hTg i hin) hr
      have hobl := hOg i o _ r (toL ho) (hTg i hin) (by simpa using hr)
      obtain ⟨f1, f2, f3, f4, f5⟩ := hfact
      generalize hcur : frAt (fun j => listed.getD j false) 0 aa ops.toList T L = cur at i7
      have hfd : ∀ d, o.dst = some d → d < nt := fun d hd => by rw [hd] at f1; exact f1
      -- what it looks at is what the walk saw
      have hlook : ∀ d ∈ looks ops o, fget cur.fr d = fget r.aa.fr d := by
        intro d hd
        rw [← hcur, hraa]
        refine frAt_congr _ _ _ _ _ _ rfl fun j o' i' h1 _ _ h4 => ?_
        simp only [Nat.zero_add]
        by_cases hji : j = i
        · subst hji
          simpa using hun'
        · exact hord j (RF.slot i j o o' d (Ne.symm hji) ho (ofL h1) h4 (.inl hd))
      have hops : ∀ x ∈ o.op.operands.toList, cur.look x = r.aa.look x := by
        intro x hx
        cases x with
        | tmp t =>
          refine hlook t ?_
          unfold looks
          exact List.mem_append_left _ (List.mem_filterMap.2 ⟨_, hx, rfl⟩)
        | const c => rfl
        | func f => rfl
        | global g => rfl
      have hgv : ∀ j b, o.guard = some (j, b) → gval ops cur j = gval ops r.aa j := by
        intro j b hg
        refine gval_congr fun d hd => hlook d ?_
        unfold looks
        refine List.mem_append_right _ ?_
        rw [hg]
        simp [hd]
      -- which turn it is
      generalize ht : cntAt (fun j => listed.getD j false) 0 T = t at i6
      have hteff : (effAt ops es i = true ∨ pn = some i) → t = r.t := by
        intro he
        rw [← ht, hrt]
        refine cntAt_congr _ _ fun j i' h1 h2 h3 => ?_
        simp only [Nat.zero_add]
        have hj : j < ops.size := by
          have := (List.getElem?_eq_some_iff.1 h1).1
          omega
        rw [hTg j hj] at h1
        cases h1
        by_cases hji : j = i
        · subst hji
          simpa using hun'
        · exact hord j (RF.eff i j (Ne.symm hji) hin hj he (.inl h2))
      have hrng : (mkDI ops es pn A i).lo ≤ t ∧ t ≤ (mkDI ops es pn A i).hi := by
        rw [← ht, cnt_range]
        simp only [mkDI, rngAt]
        rw [← List.countP_eq_length_filter, ← List.countP_eq_length_filter, ← List.countP_eq_length_filter]
        have hkanc : ∀ j, j < ops.size → listed.getD j false = true → kindAt A pn j = 0 := i3
        constructor
        · refine List.countP_mono_left fun j hj hje => ?_
          simp only [Bool.and_eq_true] at hje
          rw [List.mem_range] at hj
          have hl := hanc j (isAnc_path (hA ▸ hje.2))
          simp only [hl, hje.1, hkanc j hj hl, decide_true, Bool.and_self]
        · have := countP_disj (p := fun j => listed.getD j false && effAt ops es j && decide (kindAt A pn j = 0)) (q := fun j => effAt ops es j && isAnc A i j) (r := effAt ops es) (List.range ops.size)
            (fun x _ h => by simp only [Bool.and_eq_true] at h; exact h.1.2) (fun x _ h => by simp only [Bool.and_eq_true] at h; exact h.1)
            (fun x _ h h' => by
              simp only [Bool.and_eq_true] at h h'
              have := hdesc x (isAnc_path (hA ▸ h'.2))
              rw [h.1.1] at this
              cases this)
          omega
      -- it isn't behind the call that panics
      have hkind : kindAt A pn i ≠ 2 := by
        intro hk
        unfold kindAt at hk
        split at hk
        · rename_i p
          split at hk
          · cases hk
          · split at hk
            · rename_i hne hpa
              have hl := hanc p (isAnc_path (hA ▸ hpa))
              have hps : p < ops.size := by
                have := path_lt RF.back (isAnc_path (hA ▸ hpa))
                omega
              have := i3 p hps hl
              simp [kindAt] at this
            · cases hk
        · cases hk
      -- the state after it
      have next : ∀ (σ1 : St) (M1 : AM) (w1 : World) (a1 : Act), kindAt A pn i = 0 → Ext σ m w σ1 M1 w1 → Sim σ1 M1 w1 → H[if effAt ops es i = true then t + 1 else t]? = some M1 → AR σ1 M1 w1 nt a1 (cur.put o.dst r.v) →
          wpAnyIn (WF ρ) 0 P .any ops (Post σ m w nt Q) fuel (listed.setIfInBounds i true) a1 w1 := by
        intro σ1 M1 w1 a1 hk0 e1 e2 e3 e4
        have hset : ∀ j, j ≠ i → (listed.setIfInBounds i true).getD j false = listed.getD j false := fun j hj => getD_set_ne false (Ne.symm hj)
        have hseti : (listed.setIfInBounds i true).getD i false = true := by simp [Array.getD_eq_getD_getElem?, hil]
        refine ih _ a1 w1 ⟨by simpa using i1, fun j o' ho' hj d hd => ?_, fun j hj hjl => ?_, σ1, M1, e1, e2, ?_, ?_⟩ ?_
        · by_cases hji : j = i
          · subst hji
            rw [ho] at ho'
            cases ho'
            exact getD_set_true (hdeps d hd)
          · rw [hset j hji] at hj
            exact getD_set_true (i2 j o' ho' hj d hd)
        · by_cases hji : j = i
          · subst hji; exact hk0
          · rw [hset j hji] at hjl
            exact i3 j hj hjl
        · rw [cntAt_add (sel := fun j => listed.getD j false) T 0 i _ (hTg i hin) (by simpa using hun') (by simpa using hseti) (fun j hj => hset j (by simpa using hj)), ht]
          rw [← e3]
          congr 1
          show t + (if effAt ops es i = true ∧ kindAt A pn i = 0 then 1 else 0) = _
          simp only [hk0, and_true]
          split <;> rfl
        · refine e4.congr (fun s => ?_) ?_
          · rw [frAt_add (sel := fun j => listed.getD j false) ops.toList T L 0 i aa o _ r (toL ho) (hTg i hin) hr hk0 (by simpa using hun') (by simpa using hseti) (fun j hj => hset j (by simpa using hj)) (fun j o' i' d h1 h2 h3 h4 h5 h6 h7 => ?_), hcur]
            · unfold AA.put
              cases hd : o.dst with
              | none => simp
              | some d =>
                simp only [fget, Option.some.injEq]
                by_cases e : s = d
                · simp [e]
                · rw [if_neg e, if_neg (fun h => e h.symm)]
            · simp only [Nat.zero_add] at h5
              rcases RF.slot i j o o' d (by omega) ho (ofL h2) h7 (.inr h6) with hp | hp
              · rw [hdesc j hp] at h5; cases h5
              · have := path_lt RF.back hp; omega
          · rw [frAt_ds, ← hcur]
            unfold AA.put
            cases o.dst <;> simp [frAt_ds]
        · have := countP_disj (p := fun j => !(listed.setIfInBounds i true).getD j false) (q := fun j => j == i) (r := fun j => !listed.getD j false) (List.range ops.size)
            (fun x _ hx => by
              by_cases hxi : x = i
              · subst hxi; rw [hseti] at hx; cases hx
              · rwa [hset x hxi] at hx)
            (fun x _ hx => by
              simp only [beq_iff_eq] at hx
              subst hx
              simp [hun'])
            (fun x _ hx hx' => by
              simp only [beq_iff_eq] at hx'
              subst hx'
              rw [hseti] at hx
              cases hx)
          have hpos : 0 < (List.range ops.size).countP (fun j => j == i) := List.countP_pos_iff.2 ⟨i, List.mem_range.2 hin, by simp⟩
          omega
      -- wanted or not
      have hrun0 : kindAt A pn i = 0 → r.run = true → ∃ M2, H[if effAt ops es i = true then t + 1 else t]? = some M2 ∧ Ev P o.op cur M r.v M2 := by
        intro hk0 hrr
        obtain ⟨_, N, N2, g1, g2, g3⟩ := f2 hk0 hrr
        have tr : ∀ X Y, Ev P o.op r.aa X r.v Y → Ev P o.op cur X r.v Y := fun X Y hh => by
          unfold Ev at hh ⊢
          rw [aop_congr P o.op X hops]
          exact hh
        have g2' : H[if effAt ops es i = true then r.t + 1 else r.t]? = some N2 := g2
        cases he : effAt ops es i with
        | true =>
          have htt := hteff (.inl he)
          rw [he, ← htt] at g2'
          rw [← htt, i6] at g1
          cases g1
          exact ⟨N2, g2', tr _ _ g3⟩
        | false =>
          simp only [Bool.false_eq_true, if_false]
          simp only [he, Bool.false_eq_true, if_false] at g2'
          rw [g1] at g2'
          cases g2'
          refine ⟨M, i6, ?_⟩
          by_cases htt : t = r.t
          · rw [← htt, i6] at g1
            cases g1
            exact tr _ _ g3
          · cases hmem : memOp o.op with
            | true =>
              refine tr _ _ (hobl ?_ he hk0 hrr t M hrng.1 hrng.2 htt i6)
              show ((ops[i]?).map fun o => memOp o.op).getD false = true
              simp [ho, hmem]
            | false =>
              have heo : effOp o.op = false := by
                unfold effAt at he
                simp only [ho, Bool.or_eq_false_iff] at he
                exact he.1
              have hst := aop_kind (P := P) (a := r.aa) (m := N) heo hmem
              refine tr _ _ ?_
              unfold Ev at g3 ⊢
              cases hr' : aop P o.op r.aa N with
              | val u m' =>
                rw [hr'] at g3
                rw [aop_pure heo hmem hr' M]
                exact ⟨g3.1, rfl⟩
              | unit m' => rw [hr'] at hst; exact hst.elim
              | call f args => rw [hr'] at hst; exact hst.elim
              | rnd n xs => rw [hr'] at g3; exact g3.elim
              | pan v => rw [hr'] at g3; exact g3.elim
              | dfr v => rw [hr'] at g3; exact g3.elim
              | bad => rw [hr'] at g3; exact g3.elim
      unfold wpOpIn
      simp only [ho]
      have hwant : Wants ops o r.aa → Region.wanted o (yielded ops a'.tmps) = true := by
        intro hw
        unfold Wants at hw
        cases hg : o.guard with
        | none => simp [Region.wanted, hg]
        | some p =>
          obtain ⟨j, b⟩ := p
          simp only [hg] at hw
          have := gval_ok i7 ((hgv j b hg).trans hw)
          simp [Region.wanted, hg, this]
      have hkcase : kindAt A pn i = 0 ∨ kindAt A pn i = 1 := by
        have : kindAt A pn i ≤ 2 := f5
        omega
      rcases hkcase with hk0 | hk1
      · cases hrr : r.run with
        | true =>
          rw [if_pos (hwant (f2 hk0 hrr).1)]
          obtain ⟨M2, g1, g2⟩ := hrun0 hk0 hrr
          have hAC : ACont P o.dst cur M (fun aa' m' => aa' = cur.put o.dst r.v ∧ m' = M2) (fun _ _ _ => False) (aop P o.op cur M) := by
            unfold Ev at g2
            cases hr' : aop P o.op cur M with
            | val u m' => rw [hr'] at g2; exact ⟨by rw [g2.1], g2.2⟩
            | unit m' => rw [hr'] at g2; exact ⟨by rw [g2.1], g2.2⟩
            | call f args =>
              rw [hr'] at g2
              exact g2.mono fun x m1 ⟨e1, e2⟩ => by subst e1; exact ⟨rfl, e2⟩
            | rnd n xs => rw [hr'] at g2; exact g2.elim
            | pan v => rw [hr'] at g2; exact g2.elim
            | dfr v => rw [hr'] at g2; exact g2.elim
            | bad => rw [hr'] at g2; exact g2.elim
          exact acont_upon (Q' := Post σ m w nt Q) ρ hρo i4 i5 i7 hfd hAC (fun σ1 m1 w1 a1 aa1 e1 e2 e3 e4 => by
            obtain ⟨rfl, rfl⟩ := e4
            exact next σ1 m1 w1 a1 hk0 e1 e2 g1 e3) (fun _ _ _ _ _ _ _ _ _ _ _ hf => hf.elim)
        | false =>
          obtain ⟨g1, g2, N, g3, g4⟩ := f3 hk0 hrr
          have hnw : Region.wanted o (yielded ops a'.tmps) = false := by
            unfold Shuns at g2
            cases hg : o.guard with
            | none => simp [hg] at g2
            | some p =>
              obtain ⟨j, b⟩ := p
              simp only [hg] at g2
              obtain ⟨g, q1, q2⟩ := g2
              have := gval_ok i7 ((hgv j b hg).trans q1)
              simp [Region.wanted, hg, this, q2]
          simp only [hnw, Bool.false_eq_true, if_false]
          refine ⟨fun _ _ => trivial, next σ' M w' _ hk0 i4 i5 ?_ (i7.put hfd (by rw [g1]; exact .undef))⟩
          split
          · rename_i he
            have htt := hteff (.inl he)
            rw [← htt, i6] at g3
            cases g3
            rw [htt]
            exact g4 he
          · exact i6
      · obtain ⟨g1, N, f, args, m', g3, g4, g5, g6⟩ := f4 hk1
        rw [if_pos (hwant g1)]
        have hpi : pn = some i := by
          unfold kindAt at hk1
          split at hk1
          · rename_i p
            split at hk1
            · rename_i e; rw [e]
            · split at hk1 <;> cases hk1
          · cases hk1
        have htt := hteff (.inr hpi)
        rw [← htt, i6] at g3
        cases g3
        rw [← aop_congr P o.op M hops] at g4
        have hAC : ACont P o.dst cur M (fun _ _ => False) (fun x aa1 m1 => x = .pan r.v ∧ m1 = m' ∧ aa1.ds = aa.ds) (aop P o.op cur M) := by
          rw [g4]
          exact g5.mono fun x m1 ⟨e1, e2⟩ => by subst e1; exact ⟨rfl, e2, by rw [← hcur, frAt_ds]⟩
        exact acont_upon (Q' := Post σ m w nt Q) ρ hρo i4 i5 i7 hfd hAC (fun _ _ _ _ _ _ _ _ hf => hf.elim) (fun σ1 m1 w1 a1 aa1 cv v e1 e2 e3 e4 e5 => by
          obtain ⟨q1, q2, hds⟩ := e5
          cases q1
          subst q2
          exact ⟨.pan r.v, σ1, m1, ⟨aa1.fr, aa.ds⟩, e1, e2, hds ▸ e3, .pan cv _ e4, g6 aa1.fr⟩)
  have hrep : ∀ j, (Array.replicate ops.size false).getD j false = false := fun j => by
    simp only [Array.getD_eq_getD_getElem?, Array.getElem?_replicate]
    split <;> rfl
  refine key ops.size _ a _ ⟨by simp, fun j o ho hj => ?_, fun j hj hjl => ?_, σ, m, Ext.drew σ m w, hs.drew, ?_, ?_⟩ ?_
  · rw [hrep] at hj; cases hj
  · rw [hrep] at hjl; cases hjl
  · rw [cntAt_none]
    · rw [← hH]; rfl
    · intro j _; exact hrep j
  · rw [frAt_none]
    · exact ha.mono (Ext.drew σ m w)
    · intro j _; exact hrep j
  · exact Nat.le_trans (List.countP_le_length ..) (by simp)

end Go.Ab
