/- Lemmas on an abstract memory that stands for the worlds of the model: no condition. -/
import Derived.WalkKit
import Derived.RangeFuncRecord
import Derived.RangeFuncIn
import Derived.OrdersIn
import Derived.LaidEqlPtr
import Derived.Lib.Builder
set_option linter.all false
/- The abstract memory: abstract values, abstract blocks, and how the model's worlds realise them. Plain definitions and lemmas; no Go function in sight. -/
namespace Go.Ab

/-- Data without addresses that matter: what lies in memory that nobody writes. -/
inductive D where
  | int (k : IntKind) (n : Int)
  | bool (b : Bool)
  | str (s : List UInt8)
  | nilsl
  | sl (sz : Nat) (rows : List (List D))
  | cst (v : Value)

inductive AV where
  | d (x : D)
  | ptr (n off : Nat)
  | eptr (row : List D) (off : Nat)
  | lsl (n off len cap : Nat)
  | gsl (n sz : Nat) (rows : List (List D))
  | fn (f : Fn) (first cap : List AV)
  | agg (cs : List AV)
  | tup (cs : List AV)
  | ifc (t : TypeId) (v : AV)
  | mp (n : Nat)
  | yl (n : Nat)
  | mrk (n : Nat)
  | dptr (n : Nat) (row : List UInt8)

inductive ABlk where
  | cells (t : TypeId) (cs : List AV)
  | grow (e : TypeId) (sz k : Nat)
  | map (es : List (Int × AV))
  | loop (r : Loop) (fr : List (Nat × AV))
  | dfr

def fget : List (Nat × AV) → Nat → Option AV
  | [], _ => none
  | (k, v) :: t, s => if s = k then some v else fget t s

abbrev AM := List (Option ABlk)

namespace AM
/-- A block's name is how many lay before it. -/
def get : AM → Nat → Option ABlk
  | [], _ => none
  | x :: t, n => if n = t.length then x else get t n
def set : AM → Nat → Option ABlk → AM
  | [], _, _ => []
  | x :: t, n, b => if n = t.length then b :: t else x :: set t n b
def bump (k : Nat) (m : AM) : AM := List.replicate k none ++ m
theorem get_lt : ∀ (m : AM) (n : Nat) (b : ABlk), get m n = some b → n < m.length
  | [], _, _, h => by simp [get] at h
  | x :: t, n, b, h => by
    simp only [get] at h
    split at h
    · simp; omega
    · have := get_lt t n b h; simp; omega
theorem get_ge {m : AM} {n : Nat} (h : m.length ≤ n) : get m n = none := by
  cases hg : get m n with
  | none => rfl
  | some b => have := get_lt m n b hg; omega
theorem length_set : ∀ (m : AM) (n : Nat) (b : Option ABlk), (set m n b).length = m.length
  | [], _, _ => rfl
  | x :: t, n, b => by
    simp only [set]
    split
    · rfl
    · simp [length_set t n b]
theorem get_set_same : ∀ (m : AM) (n : Nat) (b : Option ABlk), n < m.length → get (set m n b) n = b
  | [], _, _, h => by simp at h
  | x :: t, n, b, h => by
    by_cases e : n = t.length
    · simp [set, get, e]
    · simp only [set, if_neg e, get, length_set]
      exact get_set_same t n b (by simp at h; omega)
theorem get_set_other : ∀ (m : AM) (n k : Nat) (b : Option ABlk), k ≠ n → get (set m n b) k = get m k
  | [], _, _, _, _ => rfl
  | x :: t, n, k, b, h => by
    by_cases e : n = t.length
    · simp only [set, if_pos e, get]
      rw [if_neg (by omega), if_neg (by omega)]
    · simp only [set, if_neg e, get, length_set]
      split
      · rfl
      · exact get_set_other t n k b h
theorem get_set (m : AM) (n k : Nat) (b : Option ABlk) : get (set m n b) k = if k = n then (if n < m.length then b else none) else get m k := by
  by_cases h : k = n
  · subst h
    rw [if_pos rfl]
    by_cases hl : k < m.length
    · rw [if_pos hl, get_set_same _ _ _ hl]
    · rw [if_neg hl]; exact get_ge (by rw [length_set]; omega)
  · rw [if_neg h, get_set_other _ _ _ _ h]
theorem length_bump (k : Nat) (m : AM) : (bump k m).length = m.length + k := by simp [bump]; omega
theorem get_bump : ∀ (k : Nat) (m : AM) (n : Nat), get (bump k m) n = get m n
  | 0, m, n => by simp [bump]
  | k + 1, m, n => by
    have ih := get_bump k m n
    have hl := length_bump k m
    show get (none :: bump k m) n = get m n
    simp only [get]
    split
    · rename_i h
      exact (get_ge (by omega)).symm
    · exact ih
end AM

/-- Where the named blocks lie: 'ρ' the blocks of cells and the maps, 'γ' the rows that grow (none: not laid yet). -/
structure St where
  ρ : Nat → Nat
  γ : Nat → Option (Nat × Nat)

/-- The block of a name. -/
def blkOf (σ : St) (n : Nat) : ABlk → Option Nat
  | .grow _ _ _ => (σ.γ n).map (·.1)
  | _ => some (σ.ρ n)

/-- A cell that nobody writes while this abstract memory lives. -/
def Imm (σ : St) (m : AM) (w : World) (b o : Nat) : Prop :=
  b < w.heap.size ∧ ∀ n x, m.get n = some x → blkOf σ n x = some b → (match x with | .grow _ sz k => o < k * sz | _ => False)

def NotLive (σ : St) (m : AM) (b : Nat) : Prop := ∀ n x, m.get n = some x → blkOf σ n x ≠ some b

/-- A value reads as data. -/
inductive RD (I : Nat → Nat → Prop) (w : World) : Value → D → Prop
  | int (k : IntKind) (n : Int) : RD I w (.int k n) (.int k n)
  | bool (b : Bool) : RD I w (.bool b) (.bool b)
  | str (s : List UInt8) : RD I w (.string ⟨⟨s⟩⟩) (.str s)
  | nilsl : RD I w (.slice none 0 0) .nilsl
  | cst (v : Value) (h : v.oneCell' = true) : RD I w v (.cst v)
  | slNil (a : Option Addr) (cap sz : Nat) (hc : cap ≤ maxLen) : RD I w (.slice a 0 cap) (.sl sz [])
  | sl (b o cap sz : Nat) (rows : List (List D)) (cv : Nat → Nat → Value) (hlen : rows.length ≤ cap) (hmax : cap ≤ maxLen) (hrow : ∀ r ∈ rows, r.length = sz)
      (hc : ∀ i j row x, rows[i]? = some row → row[j]? = some x → I b (o + (i * sz + j)) ∧ w.cell? ⟨b, o + (i * sz + j), none⟩ = some (cv i j))
      (hr : ∀ i j row x, rows[i]? = some row → row[j]? = some x → RD I w (cv i j) x) : RD I w (.slice (some ⟨b, o, none⟩) rows.length cap) (.sl sz rows)

def HandleOK (e : TypeId) (sz : Nat) (w : World) (γ : Option (Nat × Nat)) (k : Nat) (v : Value) : Prop :=
  match γ with
  | none => k = 0 ∧ v = .slice none 0 0
  | some (g, cap) => v = .slice (some ⟨g, 0, none⟩) k cap

def AV.isCell : AV → Bool
  | .agg _ | .tup _ => false
  | _ => true

def AV.cells : AV → List AV
  | .agg cs => cs
  | v => [v]

inductive R (σ : St) (m : AM) (w : World) : Value → AV → Prop
  | d (v : Value) (x : D) (h : RD (Imm σ m w) w v x) : R σ m w v (.d x)
  | ptr (n off : Nat) (h : n < m.length) : R σ m w (.pointer (some ⟨σ.ρ n, off, none⟩)) (.ptr n off)
  | eptr (b o off : Nat) (row : List D) (cv : Nat → Value)
      (hc : ∀ j x, row[j]? = some x → Imm σ m w b (o + j) ∧ w.cell? ⟨b, o + j, none⟩ = some (cv j) ∧ RD (Imm σ m w) w (cv j) x) : R σ m w (.pointer (some ⟨b, o + off, none⟩)) (.eptr row off)
  | lsl (n off len cap : Nat) (h : n < m.length) : R σ m w (.slice (some ⟨σ.ρ n, off, none⟩) len cap) (.lsl n off len cap)
  | gsl (v : Value) (n sz : Nat) (rows : List (List D)) (h : n < m.length) (hd : RD (Imm σ m w) w v (.sl sz rows))
      (hg : ∀ e sz' k, m.get n = some (.grow e sz' k) → sz' = sz ∧ rows.length ≤ k ∧ (rows.length = k → HandleOK e sz w (σ.γ n) k v)) : R σ m w v (.gsl n sz rows)
  | fn (f : Fn) (fs cs : List Value) (as bs : List AV) (hf : fs.length = as.length) (hc : cs.length = bs.length)
      (hfs : ∀ (i : Nat) v a, fs[i]? = some v → as[i]? = some a → R σ m w v a) (hcs : ∀ (i : Nat) v a, cs[i]? = some v → bs[i]? = some a → R σ m w v a) :
      R σ m w (.func f ⟨fs⟩ ⟨cs⟩) (.fn f as bs)
  | agg (vs : List Value) (as : List AV) (hl : vs.length = as.length) (h : ∀ (i : Nat) v a, vs[i]? = some v → as[i]? = some a → R σ m w v a) : R σ m w (.agg ⟨vs⟩) (.agg as)
  | tup (vs : List Value) (as : List AV) (hl : vs.length = as.length) (h : ∀ (i : Nat) v a, vs[i]? = some v → as[i]? = some a → R σ m w v a) : R σ m w (.tuple ⟨vs⟩) (.tup as)
  | ifc (t : TypeId) (v : Value) (a : AV) (h : R σ m w v a) : R σ m w (.iface t v) (.ifc t a)
  | mp (n : Nat) (h : n < m.length) : R σ m w (.map (some (σ.ρ n))) (.mp n)
  | yl (n : Nat) (h : n < m.length) : R σ m w (.func (.yield (σ.ρ n)) ⟨[]⟩ ⟨[]⟩) (.yl n)
  | dptr (n b o : Nat) (row : List UInt8) (h : n < m.length) (hc : ∀ j x, row[j]? = some x → Imm σ m w b (o + j) ∧ w.cell? ⟨b, o + j, none⟩ = some (.int .u8 (x.toNat : Nat)))
      (hg : ∀ e sz k, m.get n = some (.grow e sz k) → sz = 1 ∧ row.length ≤ k ∧ (row.length = k → o = 0 ∧ ∃ cap, σ.γ n = some (b, cap))) : R σ m w (.pointer (some ⟨b, o, none⟩)) (.dptr n row)

def Rs (σ : St) (m : AM) (w : World) (vs : List Value) (as : List AV) : Prop :=
  vs.length = as.length ∧ ∀ (i : Nat) v a, vs[i]? = some v → as[i]? = some a → R σ m w v a

/-- What a live block is in the world. -/
def BlkOK (σ : St) (m : AM) (w : World) (n : Nat) : ABlk → Prop
  | .cells t cs => (∀ c ∈ cs, c.isCell = true) ∧ ∃ vs : List Value, w.heap[σ.ρ n]? = some (.cells ⟨vs⟩ t (0, 0)) ∧ Rs σ m w vs cs
  | .grow e sz k => (σ.γ n = none ∧ k = 0) ∨ ∃ g cap cur, σ.γ n = some (g, cap) ∧ w.heap[g]? = some (.cells cur e (0, 0)) ∧ k ≤ cap ∧ cap ≤ maxLen ∧ cur.size = cap * sz
  | .map es => ∃ (entries : Array MapEntry) (clock : Nat), w.heap[σ.ρ n]? = some (.map entries clock) ∧ entries.toList.length = es.length ∧
      ∀ (i : Nat) (e : MapEntry) (k : Int) (a : AV), entries.toList[i]? = some e → es[i]? = some (k, a) → e.key = .int .i64 k ∧ R σ m w e.val a
  | .loop r fr => w.heap[σ.ρ n]? = some (.loop r) ∧ ∀ s v, fget fr s = some v → R σ m w (r.tmps.getD s undef) v
  | .dfr => w.heap[σ.ρ n]? = some (.deferred (some []))

structure Sim (σ : St) (m : AM) (w : World) : Prop where
  ok : ∀ n x, m.get n = some x → BlkOK σ m w n x
  inj : ∀ n n' x x' b, m.get n = some x → m.get n' = some x' → blkOf σ n x = some b → blkOf σ n' x' = some b → n = n'

structure Ext (σ : St) (m : AM) (w : World) (σ' : St) (m' : AM) (w' : World) : Prop where
  os : w'.os = w.os
  tape : w'.tape = w.tape
  output : w'.output = w.output
  size : w.heap.size ≤ w'.heap.size
  len : m.length ≤ m'.length
  rho : ∀ n, n < m.length → σ'.ρ n = σ.ρ n
  gr : ∀ n, n < m.length → ∀ e sz k', m'.get n = some (.grow e sz k') → ∃ k, m.get n = some (.grow e sz k) ∧ k ≤ k' ∧ (k' = k → σ'.γ n = σ.γ n)
  imm : ∀ b o, Imm σ m w b o → Imm σ' m' w' b o ∧ w'.cell? ⟨b, o, none⟩ = w.cell? ⟨b, o, none⟩
  old : ∀ b, b < w.heap.size → NotLive σ m b → NotLive σ' m' b ∧ w'.heap[b]? = w.heap[b]?

theorem Ext.refl (σ : St) (m : AM) (w : World) : Ext σ m w σ m w :=
  ⟨rfl, rfl, rfl, Nat.le_refl _, Nat.le_refl _, fun _ _ => rfl, fun _ _ _ _ k h => ⟨k, h, Nat.le_refl _, fun _ => rfl⟩, fun _ _ h => ⟨h, rfl⟩, fun _ _ h => ⟨h, rfl⟩⟩

theorem Ext.trans {σ σ' σ'' : St} {m m' m'' : AM} {w w' w'' : World} (h : Ext σ m w σ' m' w') (k : Ext σ' m' w' σ'' m'' w'') : Ext σ m w σ'' m'' w'' where
  os := k.os.trans h.os
  tape := k.tape.trans h.tape
  output := k.output.trans h.output
  size := Nat.le_trans h.size k.size
  len := Nat.le_trans h.len k.len
  rho n hn := (k.rho n (Nat.lt_of_lt_of_le hn h.len)).trans (h.rho n hn)
  gr n hn e sz k' hk := by
    obtain ⟨k1, h1, h2, h3⟩ := k.gr n (Nat.lt_of_lt_of_le hn h.len) e sz k' hk
    obtain ⟨k0, g1, g2, g3⟩ := h.gr n hn e sz k1 h1
    exact ⟨k0, g1, Nat.le_trans g2 h2, fun e => by rw [h3 (by omega), g3 (by omega)]⟩
  imm b o hb := by
    obtain ⟨h1, h2⟩ := h.imm b o hb
    obtain ⟨k1, k2⟩ := k.imm b o h1
    exact ⟨k1, k2.trans h2⟩
  old b hb hn := by
    obtain ⟨h1, h2⟩ := h.old b hb hn
    obtain ⟨k1, k2⟩ := k.old b (Nat.lt_of_lt_of_le hb h.size) h1
    exact ⟨k1, k2.trans h2⟩

theorem RD.mono {I I' : Nat → Nat → Prop} {w w' : World} (h : ∀ b o, I b o → I' b o ∧ w'.cell? ⟨b, o, none⟩ = w.cell? ⟨b, o, none⟩) {v : Value} {x : D} (hd : RD I w v x) : RD I' w' v x := by
  induction hd with
  | int k n => exact .int k n
  | bool b => exact .bool b
  | str s => exact .str s
  | nilsl => exact .nilsl
  | cst v h => exact .cst v h
  | slNil a cap sz hc => exact .slNil a cap sz hc
  | sl b o cap sz rows cv hlen hmax hrow hc hr ih =>
    refine .sl b o cap sz rows cv hlen hmax hrow (fun i j row x h1 h2 => ?_) ih
    obtain ⟨a1, a2⟩ := hc i j row x h1 h2
    obtain ⟨b1, b2⟩ := h _ _ a1
    exact ⟨b1, b2.trans a2⟩

theorem R.mono {σ σ' : St} {m m' : AM} {w w' : World} (h : Ext σ m w σ' m' w') {v : Value} {a : AV} (hr : R σ m w v a) : R σ' m' w' v a := by
  induction hr with
  | d v x hd => exact .d v x (hd.mono h.imm)
  | ptr n off hn => rw [← h.rho n hn]; exact .ptr n off (Nat.lt_of_lt_of_le hn h.len)
  | eptr b o off row cv hc =>
    refine .eptr b o off row cv fun j x hj => ?_
    obtain ⟨a1, a2, a3⟩ := hc j x hj
    obtain ⟨b1, b2⟩ := h.imm _ _ a1
    exact ⟨b1, b2.trans a2, a3.mono h.imm⟩
  | lsl n off len cap hn => rw [← h.rho n hn]; exact .lsl n off len cap (Nat.lt_of_lt_of_le hn h.len)
  | gsl v n sz rows hn hd hg =>
    refine .gsl v n sz rows (Nat.lt_of_lt_of_le hn h.len) (hd.mono h.imm) fun e sz' k' hk => ?_
    obtain ⟨k, h1, h2, h3⟩ := h.gr n hn e sz' k' hk
    obtain ⟨g1, g2, g3⟩ := hg e sz' k h1
    refine ⟨g1, Nat.le_trans g2 h2, fun e => ?_⟩
    have : k' = k := by omega
    subst this
    rw [h3 rfl]
    exact g3 e
  | fn f fs cs as bs hf hc hfs hcs ih1 ih2 => exact .fn f fs cs as bs hf hc ih1 ih2
  | agg vs as hl h ih => exact .agg vs as hl ih
  | tup vs as hl h ih => exact .tup vs as hl ih
  | ifc t v a h ih => exact .ifc t v a ih
  | mp n hn => rw [← h.rho n hn]; exact .mp n (Nat.lt_of_lt_of_le hn h.len)
  | yl n hn => rw [← h.rho n hn]; exact .yl n (Nat.lt_of_lt_of_le hn h.len)
  | dptr n b o row hn hc hg =>
    refine .dptr n b o row (Nat.lt_of_lt_of_le hn h.len) (fun j x hj => ?_) fun e sz k' hk => ?_
    · obtain ⟨a1, a2⟩ := hc j x hj
      obtain ⟨b1, b2⟩ := h.imm _ _ a1
      exact ⟨b1, b2.trans a2⟩
    · obtain ⟨k, h1, h2, h3⟩ := h.gr n hn e sz k' hk
      obtain ⟨g1, g2, g3⟩ := hg e sz k h1
      refine ⟨g1, Nat.le_trans g2 h2, fun e => ?_⟩
      have : k' = k := by omega
      subst this
      rw [h3 rfl]
      exact g3 e

theorem Rs.mono {σ σ' : St} {m m' : AM} {w w' : World} (h : Ext σ m w σ' m' w') {vs : List Value} {as : List AV} (hr : Rs σ m w vs as) : Rs σ' m' w' vs as :=
  ⟨hr.1, fun i v a h1 h2 => (hr.2 i v a h1 h2).mono h⟩

theorem R.oneCell {σ : St} {m : AM} {w : World} {v : Value} {a : AV} (hr : R σ m w v a) (ha : a.isCell = true) : v.oneCell' = true := by
  cases hr <;> first
    | rfl
    | (simp [AV.isCell] at ha; done)
    | skip
  · rename_i h; cases h <;> first | rfl | assumption
  · rename_i h hd hg; cases hd <;> rfl

theorem Imm.block {σ : St} {m : AM} {w : World} {b o : Nat} (h : Imm σ m w b o) : b < w.heap.size := h.1

theorem BlkOK.mono_of {σ σ' : St} {m m' : AM} {w w' : World} (h : Ext σ m w σ' m' w') {n : Nat} {x : ABlk} (hn : n < m.length) (hx : BlkOK σ m w n x)
    (hb : ∀ b, blkOf σ n x = some b → w'.heap[b]? = w.heap[b]?) (hγ : ∀ e sz k, x = .grow e sz k → σ'.γ n = σ.γ n) : BlkOK σ' m' w' n x := by
  cases x with
  | cells t cs =>
    obtain ⟨h1, vs, h2, h3⟩ := hx
    exact ⟨h1, vs, by rw [h.rho n hn, hb _ rfl]; exact h2, h3.mono h⟩
  | grow e sz k =>
    rcases hx with ⟨h1, h2⟩ | ⟨g, cap, cur, h1, h2, h3⟩
    · exact .inl ⟨by rw [hγ _ _ _ rfl]; exact h1, h2⟩
    · refine .inr ⟨g, cap, cur, by rw [hγ _ _ _ rfl]; exact h1, ?_, h3⟩
      rw [hb g (by simp [blkOf, h1])]
      exact h2
  | map es =>
    obtain ⟨entries, clock, h1, h2, h3⟩ := hx
    exact ⟨entries, clock, by rw [h.rho n hn, hb _ rfl]; exact h1, h2, fun i e k a x y => ⟨(h3 i e k a x y).1, (h3 i e k a x y).2.mono h⟩⟩
  | loop r fr => exact ⟨(show w'.heap[σ'.ρ n]? = _ by rw [h.rho n hn, hb _ rfl]; exact hx.1), fun s v hv => (hx.2 s v hv).mono h⟩
  | dfr => exact (show w'.heap[σ'.ρ n]? = _ by rw [h.rho n hn, hb _ rfl]; exact hx)

end Go.Ab

/- The abstract steps: what one operation makes of abstract values and the abstract memory. Definitions only, and what they mean over the model's worlds. -/
namespace Go.Ab
open Go.RowKit

structure TI where
  desc : TypeDesc
  size : Nat
  bytes : Nat
  zero : Option Value

def tinf (P : Program) (t : TypeId) : Option TI :=
  match P.underlying t, P.info? t with
  | some d, some i => some ⟨d, i.size, i.bytes, i.zero⟩
  | _, _ => none

theorem tinf_spec {P : Program} {t : TypeId} {ti : TI} (h : tinf P t = some ti) : P.underlying t = some ti.desc ∧ ∃ i, P.info? t = some i ∧ i.size = ti.size ∧ i.bytes = ti.bytes ∧ i.zero = ti.zero := by
  unfold tinf at h
  split at h
  · rename_i d i h1 h2
    cases h
    exact ⟨h1, i, h2, rfl, rfl, rfl⟩
  · cases h

/-- A constant as an abstract value. -/
def ofVal1 : Value → AV
  | .int k n => .d (.int k n)
  | .bool b => .d (.bool b)
  | .string s => .d (.str s.data.toList)
  | .slice none 0 0 => .d .nilsl
  | .tuple _ => .tup []
  | .agg _ => .tup []
  | v => .d (.cst v)

def ofVal : Value → Option AV
  | .agg cs => if cs.toList.all (·.oneCell') then some (.agg (cs.toList.map ofVal1)) else none
  | .tuple cs => if cs.toList.isEmpty then some (.tup []) else none
  | v => some (ofVal1 v)

theorem R.ofVal1 {σ : St} {m : AM} {w : World} (v : Value) (h : v.oneCell' = true) : R σ m w v (ofVal1 v) := by
  cases v with
  | int k n => exact .d _ _ (.int k n)
  | bool b => exact .d _ _ (.bool b)
  | string s =>
    obtain ⟨⟨s⟩⟩ := s
    exact .d _ _ (.str s)
  | slice a l c =>
    unfold Ab.ofVal1
    split
    all_goals first
      | (rename_i heq; cases heq; exact .d _ _ .nilsl)
      | (rename_i heq; cases heq; done)
      | exact .d _ _ (.cst _ rfl)
  | agg cs => simp [Value.oneCell'] at h
  | tuple cs => simp [Value.oneCell'] at h
  | _ => exact .d _ _ (.cst _ rfl)

theorem R.ofVal {σ : St} {m : AM} {w : World} (v : Value) {a : AV} (h : ofVal v = some a) : R σ m w v a := by
  cases v with
  | agg cs =>
    obtain ⟨cs⟩ := cs
    simp only [Ab.ofVal] at h
    split at h
    · rename_i hc
      cases h
      refine .agg _ _ (by simp) fun i v a h1 h2 => ?_
      simp only [List.getElem?_map, Option.map_eq_some_iff] at h2
      obtain ⟨u, h2, rfl⟩ := h2
      obtain rfl : u = v := by simpa [h1] using h2.symm
      exact R.ofVal1 _ (by simpa using List.all_eq_true.1 hc u (List.mem_of_getElem? h2))
    · cases h
  | tuple cs =>
    obtain ⟨cs⟩ := cs
    simp only [Ab.ofVal] at h
    split at h
    · rename_i hc
      cases h
      obtain rfl : cs = [] := by simpa using hc
      exact .tup [] [] rfl (by simp)
    · cases h
  | int k n => cases h; exact R.ofVal1 _ rfl
  | bool b => cases h; exact R.ofVal1 _ rfl
  | string s => cases h; exact R.ofVal1 _ rfl
  | slice a l c => cases h; exact R.ofVal1 _ rfl
  | float k n => cases h; exact R.ofVal1 _ rfl
  | complex k a b => cases h; exact R.ofVal1 _ rfl
  | pointer a => cases h; exact R.ofVal1 _ rfl
  | map r => cases h; exact R.ofVal1 _ rfl
  | chan r => cases h; exact R.ofVal1 _ rfl
  | func f a c => cases h; exact R.ofVal1 _ rfl
  | nilFunc => cases h; exact R.ofVal1 _ rfl
  | iface t v => cases h; exact R.ofVal1 _ rfl
  | nilIface => cases h; exact R.ofVal1 _ rfl

structure AA where
  fr : List (Nat × AV)
  ds : List AV

def AA.look (a : AA) : Operand → Option AV
  | .tmp t => fget a.fr t
  | .const v => ofVal v
  | .func f => some (.fn (.func f) [] [])
  | .global _ => none

def AA.put (a : AA) (dst : Option Tmp) (v : AV) : AA :=
  match dst with
  | some d => { a with fr := (d, v) :: a.fr }
  | none => a

/-- A concrete frame realises an abstract one. -/
structure AR (σ : St) (m : AM) (w : World) (nt : Nat) (a : Act) (aa : AA) : Prop where
  size : a.tmps.size = nt
  fr : ∀ s v, fget aa.fr s = some v → R σ m w (a.tmps.getD s undef) v
  dl : a.defers.length = aa.ds.length
  ds : ∀ (i : Nat) (d : Deferred) (v : AV), a.defers[i]? = some d → aa.ds[i]? = some v → (∃ f fs cs, d = { target := .fn f ⟨cs⟩, args := ⟨fs⟩ } ∧ R σ m w (.func f ⟨fs⟩ ⟨cs⟩) v) ∨ ∃ n, v = .mrk n ∧ n < m.length ∧ d = { target := .collected (σ.ρ n), args := #[] }

theorem AR.mono {σ σ' : St} {m m' : AM} {w w' : World} {nt : Nat} {a : Act} {aa : AA} (h : Ext σ m w σ' m' w') (hr : AR σ m w nt a aa) : AR σ' m' w' nt a aa :=
  ⟨hr.size, fun s v hs => (hr.fr s v hs).mono h, hr.dl, fun i d v h1 h2 => by
    rcases hr.ds i d v h1 h2 with ⟨f, fs, cs, e, r⟩ | ⟨n, e1, e2, e3⟩
    · exact .inl ⟨f, fs, cs, e, r.mono h⟩
    · exact .inr ⟨n, e1, Nat.lt_of_lt_of_le e2 h.len, by rw [h.rho n e2]; exact e3⟩⟩

theorem AR.look {σ : St} {m : AM} {w : World} {nt : Nat} {a : Act} {aa : AA} (hr : AR σ m w nt a aa) {x : Operand} {v : AV} (h : aa.look x = some v) : R σ m w (a.eval x) v := by
  cases x with
  | tmp t => exact hr.fr t v h
  | const c => exact R.ofVal c h
  | func f =>
    cases h
    exact .fn _ [] [] [] [] rfl rfl (by simp) (by simp)
  | global g => cases h

theorem AR.put {σ : St} {m : AM} {w : World} {nt : Nat} {a : Act} {aa : AA} (hr : AR σ m w nt a aa) {dst : Option Tmp} (hd : ∀ d, dst = some d → d < nt) {cv : Value} {v : AV} (h : R σ m w cv v) :
    AR σ m w nt (a.put dst cv) (aa.put dst v) := by
  cases dst with
  | none => exact hr
  | some d =>
    have hlt := hd d rfl
    refine ⟨by simp [Act.put, hr.size], fun s u hs => ?_, hr.dl, hr.ds⟩
    simp only [AA.put, fget] at hs
    by_cases e : s = d
    · subst e
      simp only [if_true, Option.some.injEq] at hs
      subst hs
      have : s < a.tmps.size := by rw [hr.size]; exact hlt
      simpa [Act.put, Array.getD_eq_getD_getElem?, this] using h
    · rw [if_neg e] at hs
      have := hr.fr s u hs
      simpa [Act.put, Array.getD_eq_getD_getElem?, Array.getElem?_setIfInBounds_ne (Ne.symm e)] using this

inductive AX where
  | normal
  | exit (id : Nat)
  | goto (l : Nat)
  | ret
  | pan (v : AV)

inductive XR (σ : St) (m : AM) (w : World) : Exit → AX → Prop
  | normal : XR σ m w .normal .normal
  | exit (id : Nat) : XR σ m w (.exit id) (.exit id)
  | goto (l : Nat) : XR σ m w (.goto l) (.goto l)
  | ret : XR σ m w .ret .ret
  | pan (v : Value) (a : AV) (h : R σ m w v a) : XR σ m w (.panic [{ v, recovered := false }]) (.pan a)

def Post (σ : St) (m : AM) (w : World) (nt : Nat) (Q : AX → AA → AM → Prop) : Exit → Act → World → Prop := fun e a' w' =>
  ∃ x σ' m' aa', Ext σ m w σ' m' w' ∧ Sim σ' m' w' ∧ AR σ' m' w' nt a' aa' ∧ XR σ' m' w' e x ∧ Q x aa' m'

theorem Post.of_ext {σ σ1 : St} {m m1 : AM} {w w1 : World} {nt : Nat} {Q : AX → AA → AM → Prop} {e : Exit} {a : Act} {w' : World} (h : Ext σ m w σ1 m1 w1) (hp : Post σ1 m1 w1 nt Q e a w') : Post σ m w nt Q e a w' := by
  obtain ⟨x, σ', m', aa', h1, h2⟩ := hp
  exact ⟨x, σ', m', aa', h.trans h1, h2⟩

/-- No bound on what runs; the round that the frame is of. -/
def WF (ρ : Option Nat) : Fence := { Fence.wide with round := ρ }

def opNoDef : Op → Bool
  | .defer _ => false
  | _ => true
/-- No deferred call is made in a piece of code. -/
def noDef : Code → Bool
  | .region _ ops _ => ops.toList.all fun o => opNoDef o.op
  | .seq a b => noDef a && noDef b
  | .cond _ a b => noDef a && noDef b
  | .block _ a => noDef a
  | .loop a => noDef a
  | .rangeFunc _ _ _ _ => false
  | .scope a => noDef a
  | _ => true

/-- A piece of code, from every world that realises the abstract state. -/
def AW (P : Program) (nt : Nat) (c : Code) (aa : AA) (m : AM) (Q : AX → AA → AM → Prop) : Prop :=
  ∀ ρ, (ρ = none ∨ noDef c = true) → ∀ σ w a, Sim σ m w → AR σ m w nt a aa → c.wpIn (WF ρ) 0 P (Post σ m w nt Q) a w

theorem AW.mono {P : Program} {nt : Nat} {c : Code} {aa : AA} {m : AM} {Q Q' : AX → AA → AM → Prop} (h : AW P nt c aa m Q) (hq : ∀ x aa m, Q x aa m → Q' x aa m) : AW P nt c aa m Q' :=
  fun ρ hρ σ w a hs ha => wpIn_mono (h ρ hρ σ w a hs ha) fun e a w' ⟨x, σ', m', aa', h1, h2, h3, h4, h5⟩ => ⟨x, σ', m', aa', h1, h2, h3, h4, hq _ _ _ h5⟩

inductive AE where
  | ret (v : AV)
  | pan (v : AV)

inductive ER (σ : St) (m : AM) (w : World) : Ending → AE → Prop
  | ret (v : Value) (a : AV) (h : R σ m w v a) : ER σ m w (.returned v) (.ret a)
  | pan (v : Value) (a : AV) (h : R σ m w v a) : ER σ m w (.panicked [{ v, recovered := false }]) (.pan a)

def entersB (P : Program) (f : FuncId) : Bool :=
  match P.funcs[f]? with
  | some fn => !(fn.name == "runtime.NumGoroutine") && !fn.body.isNone
  | none => false

theorem run_callFunc {P : Program} {f : FuncId} (h : entersB P f = true) (args : Array Value) (w : World) : (callFunc f args).run P w = .ok (.enter f args) w := by
  unfold entersB at h
  cases hf : P.funcs[f]? with
  | none => simp [hf] at h
  | some fn =>
    simp only [hf, Bool.and_eq_true, Bool.not_eq_true'] at h
    have h1 : fn.name ≠ "runtime.NumGoroutine" := by simpa using h.1
    have h2 : ¬ fn.body = none := by intro e; simp [e] at h
    simp [callFunc, hf, h1, h2]

/-- A call: of a function with a body, or of one that is a row of the model and comes to a value at once. -/
def CallsX (P : Program) (f : FuncId) (args : Array Value) (w : World) (R : Ending → World → Prop) : Prop :=
  (entersB P f = true ∧ Calls P f args w R) ∨ ∃ v w', (callFunc f args).run P w = .ok (.value v) w' ∧ R (.returned v) w'

theorem CallsX.mono {P : Program} {f : FuncId} {args : Array Value} {w : World} {R R' : Ending → World → Prop} (h : CallsX P f args w R) (hr : ∀ e w', R e w' → R' e w') : CallsX P f args w R' :=
  h.imp (fun h => ⟨h.1, h.2.mono hr⟩) fun ⟨v, w', h1, h2⟩ => ⟨v, w', h1, hr _ _ h2⟩

theorem CallsX.calls {P : Program} {f : FuncId} {args : Array Value} {w : World} {R : Ending → World → Prop} (he : entersB P f = true) (h : CallsX P f args w R) : Calls P f args w R := by
  rcases h with h | ⟨v, w', h, _⟩
  · exact h.2
  · rw [run_callFunc he] at h
    cases h

/-- A call, from every world that realises the abstract arguments. -/
def ACalls (P : Program) (f : FuncId) (args : List AV) (m : AM) (Q : AE → AM → Prop) : Prop :=
  ∀ σ w vs, Sim σ m w → Rs σ m w vs args → CallsX P f ⟨vs⟩ w fun e w' => ∃ x σ' m', Ext σ m w σ' m' w' ∧ Sim σ' m' w' ∧ ER σ' m' w' e x ∧ Q x m'

theorem ACalls.mono {P : Program} {f : FuncId} {args : List AV} {m : AM} {Q Q' : AE → AM → Prop} (h : ACalls P f args m Q) (hq : ∀ x m, Q x m → Q' x m) : ACalls P f args m Q' :=
  fun σ w vs hs hr => (h σ w vs hs hr).mono fun e w' ⟨x, σ', m', h1, h2, h3, h4⟩ => ⟨x, σ', m', h1, h2, h3, hq _ _ h4⟩

/-- One operation. -/
def AOp (P : Program) (nt : Nat) (o : Oper) (aa : AA) (m : AM) (K : AV → AM → Prop) (Kp : AV → AM → Prop) : Prop :=
  ∀ σ w a, Sim σ m w → AR σ m w nt a aa →
    o.upon P a (fun a' w' => ∃ cv av σ' m', a' = a.put o.dst cv ∧ Ext σ m w σ' m' w' ∧ Sim σ' m' w' ∧ R σ' m' w' cv av ∧ K av m')
      (fun e a' w' => a' = a ∧ ∃ cv av σ' m', e = .panic [{ v := cv, recovered := false }] ∧ Ext σ m w σ' m' w' ∧ Sim σ' m' w' ∧ R σ' m' w' cv av ∧ Kp av m') ((execOp a.eval o).run P w)

/-- A value is computed. -/
def VOK (P : Program) (s : Sem Value) (σ : St) (m : AM) (w : World) (av : AV) (m' : AM) : Prop :=
  ∃ cv w' σ', s.run P w = .ok cv w' ∧ Ext σ m w σ' m' w' ∧ Sim σ' m' w' ∧ R σ' m' w' cv av

def UOK (P : Program) (s : Sem Unit) (σ : St) (m : AM) (w : World) (m' : AM) : Prop :=
  ∃ w' σ', s.run P w = .ok () w' ∧ Ext σ m w σ' m' w' ∧ Sim σ' m' w'

theorem VOK.pure {P : Program} {s : Sem Value} {σ : St} {m : AM} {w : World} {av : AV} {cv : Value} (hs : Sim σ m w) (h : s.run P w = .ok cv w) (hr : R σ m w cv av) : VOK P s σ m w av m :=
  ⟨cv, w, σ, h, Ext.refl .., hs, hr⟩

theorem R.undef {σ : St} {m : AM} {w : World} : R σ m w Go.undef (.tup []) := .tup [] [] rfl (by simp)

theorem AOp.of_value {P : Program} {nt : Nat} {o : Oper} {aa : AA} {m : AM} {K Kp : AV → AM → Prop} (s : (Operand → Value) → Sem Value) (ho : ∀ ρ, execOp ρ o = (do pure (.value (← s ρ)))) {av : AV} {m' : AM}
    (h : ∀ σ w a, Sim σ m w → AR σ m w nt a aa → VOK P (s a.eval) σ m w av m') (hk : K av m') : AOp P nt o aa m K Kp := by
  intro σ w a hs ha
  obtain ⟨cv, w', σ', h1, h2, h3, h4⟩ := h σ w a hs ha
  rw [ho, Sem.run_bind, h1]
  exact ⟨cv, av, σ', m', rfl, h2, h3, h4, hk⟩

theorem AOp.of_unit {P : Program} {nt : Nat} {o : Oper} {aa : AA} {m : AM} {K Kp : AV → AM → Prop} (s : (Operand → Value) → Sem Unit) (ho : ∀ ρ, execOp ρ o = (do s ρ; pure .skip)) {m' : AM}
    (h : ∀ σ w a, Sim σ m w → AR σ m w nt a aa → UOK P (s a.eval) σ m w m') (hk : K (.tup []) m') : AOp P nt o aa m K Kp := by
  intro σ w a hs ha
  obtain ⟨w', σ', h1, h2, h3⟩ := h σ w a hs ha
  rw [ho, Sem.run_bind, h1]
  exact ⟨Go.undef, _, σ', m', rfl, h2, h3, .undef, hk⟩

/-! ### How the abstract memory turns -/

theorem blkOf_plain (σ : St) (n : Nat) {x : ABlk} (hx : ∀ e sz k, x ≠ .grow e sz k) : blkOf σ n x = some (σ.ρ n) := by
  cases x <;> first | rfl | (exact absurd rfl (hx _ _ _))

theorem imm_of_live {σ : St} {m : AM} {w : World} {b o n : Nat} {x : ABlk} (h : Imm σ m w b o) (hn : m.get n = some x) (hx : ∀ e sz k, x ≠ .grow e sz k) : σ.ρ n ≠ b := by
  intro e
  have hb : blkOf σ n x = some (σ.ρ n) := by cases x <;> first | rfl | (exact absurd rfl (hx _ _ _))
  have := h.2 n x hn (by rw [hb, e])
  cases x <;> first | exact this | exact hx _ _ _ rfl

/-- The world turns outside the heap alone. -/
theorem Ext.same {σ : St} {m : AM} {w w' : World} (h1 : w'.heap = w.heap) (h2 : w'.os = w.os) (h3 : w'.tape = w.tape) (h4 : w'.output = w.output) : Ext σ m w σ m w' where
  os := h2
  tape := h3
  output := h4
  size := by rw [h1]; exact Nat.le_refl _
  len := Nat.le_refl _
  rho _ _ := rfl
  gr _ _ _ _ k h := ⟨k, h, Nat.le_refl _, fun _ => rfl⟩
  imm b o h := ⟨⟨by rw [h1]; exact h.1, h.2⟩, by simp [World.cell?, h1]⟩
  old b h hn := ⟨hn, by rw [h1]⟩

theorem Sim.same {σ : St} {m : AM} {w w' : World} (hs : Sim σ m w) (h1 : w'.heap = w.heap) (h2 : w'.os = w.os) (h3 : w'.tape = w.tape) (h4 : w'.output = w.output) : Sim σ m w' :=
  ⟨fun n x h => BlkOK.mono_of (Ext.same h1 h2 h3 h4) (AM.get_lt _ _ _ h) (hs.ok n x h) (fun _ _ => by rw [h1]) (fun _ _ _ _ => rfl), hs.inj⟩

theorem Ext.drew (σ : St) (m : AM) (w : World) : Ext σ m w σ m w.drew := Ext.same rfl rfl rfl rfl
theorem Sim.drew {σ : St} {m : AM} {w : World} (hs : Sim σ m w) : Sim σ m w.drew := hs.same rfl rfl rfl rfl

/-- A name is given up. -/
theorem Ext.drop (σ : St) (m : AM) (w : World) (n : Nat) : Ext σ m w σ (m.set n none) w where
  os := rfl
  tape := rfl
  output := rfl
  size := Nat.le_refl _
  len := by rw [AM.length_set]; exact Nat.le_refl _
  rho _ _ := rfl
  gr k _ e sz k' h := by
    rw [AM.get_set] at h
    split at h
    · split at h <;> cases h
    · exact ⟨k', h, Nat.le_refl _, fun _ => rfl⟩
  imm b o h := ⟨⟨h.1, fun k x hk hb => by
    rw [AM.get_set] at hk
    split at hk
    · split at hk <;> cases hk
    · exact h.2 k x hk hb⟩, rfl⟩
  old b h hn := ⟨fun k x hk => by
    rw [AM.get_set] at hk
    split at hk
    · split at hk <;> cases hk
    · exact hn k x hk, rfl⟩

theorem Sim.drop {σ : St} {m : AM} {w : World} (hs : Sim σ m w) (n : Nat) : Sim σ (m.set n none) w := by
  refine ⟨fun k x h => ?_, fun k k' x x' b h h' => ?_⟩
  · rw [AM.get_set] at h
    split at h
    · split at h <;> cases h
    · exact BlkOK.mono_of (Ext.drop σ m w n) (AM.get_lt _ _ _ h) (hs.ok k x h) (fun _ _ => rfl) (fun _ _ _ _ => rfl)
  · rw [AM.get_set] at h h'
    split at h
    · split at h <;> cases h
    · split at h'
      · split at h' <;> cases h'
      · exact hs.inj k k' x x' b h h'

def St.name (σ : St) (n b : Nat) : St := { σ with ρ := fun k => if k = n then b else σ.ρ k }

theorem blkOf_lt {σ : St} {m : AM} {w : World} (hs : Sim σ m w) {n : Nat} {x : ABlk} {b : Nat} (h : m.get n = some x) (hb : blkOf σ n x = some b) : b < w.heap.size := by
  have hlt : ∀ (o : Obj) b, w.heap[b]? = some o → b < w.heap.size := fun o b h => (Array.getElem?_eq_some_iff.1 h).1
  have := hs.ok n x h
  cases x with
  | cells t cs =>
    obtain ⟨_, vs, h2, _⟩ := this
    cases hb
    exact hlt _ _ h2
  | grow e sz k =>
    rcases this with ⟨h1, h2⟩ | ⟨g, cap, cur, h1, h2, h3⟩
    · simp [blkOf, h1] at hb
    · simp [blkOf, h1] at hb
      subst hb
      exact hlt _ _ h2
  | map es =>
    obtain ⟨entries, clock, h1, _⟩ := this
    cases hb
    exact hlt _ _ h1
  | loop r fr =>
    cases hb
    exact hlt _ _ this.1
  | dfr =>
    cases hb
    exact hlt _ _ this

/-- A new block, with a name ('x') or without one. -/
theorem Ext.push {σ : St} {m : AM} {w : World} (hs : Sim σ m w) (o : Obj) (x : ABlk) (hx : ∀ e sz k, x ≠ .grow e sz k) : Ext σ m w (σ.name m.length w.heap.size) (some x :: m) (w.alloc o) where
  os := rfl
  tape := rfl
  output := rfl
  size := by simp
  len := by simp
  rho n hn := by simp only [St.name]; rw [if_neg (by omega)]
  gr n hn e sz k' h := by
    simp only [AM.get] at h
    rw [if_neg (by omega)] at h
    exact ⟨k', h, Nat.le_refl _, fun _ => rfl⟩
  imm b o' h := by
    refine ⟨⟨by have := h.1; simp; omega, fun n y hn hb => ?_⟩, World.cell?_alloc_lt _ _ _ h.1⟩
    simp only [AM.get] at hn
    split at hn
    · rename_i e
      cases hn
      subst e
      rw [blkOf_plain _ _ hx] at hb
      have := h.1
      simp [St.name] at hb
      omega
    · rename_i e
      refine h.2 n y hn ?_
      rw [← hb]
      cases y <;> simp [blkOf, St.name, e]
  old b hb hn := by
    refine ⟨fun n y hy hb' => ?_, Below.heap_alloc _ _ _ hb⟩
    simp only [AM.get] at hy
    split at hy
    · rename_i e
      cases hy
      subst e
      rw [blkOf_plain _ _ hx] at hb'
      simp [St.name] at hb'
      omega
    · rename_i e
      refine hn n y hy ?_
      rw [← hb']
      cases y <;> simp [blkOf, St.name, e]

theorem Sim.push {σ : St} {m : AM} {w : World} (hs : Sim σ m w) (o : Obj) (x : ABlk) (hx : ∀ e sz k, x ≠ .grow e sz k)
    (hok : BlkOK (σ.name m.length w.heap.size) (some x :: m) (w.alloc o) m.length x) : Sim (σ.name m.length w.heap.size) (some x :: m) (w.alloc o) := by
  have hE := Ext.push hs o x hx
  have hold : ∀ (n : Nat) (y : ABlk), n ≠ m.length → blkOf (σ.name m.length w.heap.size) n y = blkOf σ n y := by
    intro n y hn
    cases y <;> simp [blkOf, St.name, hn]
  have hnew : blkOf (σ.name m.length w.heap.size) m.length x = some w.heap.size := by
    rw [blkOf_plain _ _ hx]; simp [St.name]
  refine ⟨fun n y hy => ?_, fun n n' y y' b hy hy' hb hb' => ?_⟩
  · simp only [AM.get] at hy
    split at hy
    · rename_i e
      cases hy
      subst e
      exact hok
    · rename_i e
      have hlt := AM.get_lt _ _ _ hy
      refine BlkOK.mono_of hE hlt (hs.ok n y hy) (fun b hb => ?_) (fun _ _ _ _ => rfl)
      exact Below.heap_alloc _ _ _ (blkOf_lt hs hy hb)
  · simp only [AM.get] at hy hy'
    split at hy
    · rename_i e
      cases hy
      subst e
      split at hy'
      · rename_i e'; exact e'.symm
      · rename_i e'
        rw [hnew] at hb
        rw [hold n' y' e'] at hb'
        have := blkOf_lt hs hy' hb'
        injection hb with hb
        omega
    · rename_i e
      rw [hold n y e] at hb
      split at hy'
      · rename_i e'
        cases hy'
        subst e'
        rw [hnew] at hb'
        have := blkOf_lt hs hy hb
        injection hb' with hb'
        omega
      · rename_i e'
        rw [hold n' y' e'] at hb'
        exact hs.inj n n' y y' b hy hy' hb hb'

/-- A new block without a name: nothing abstract turns. -/
theorem Ext.alloc (σ : St) (m : AM) (w : World) (o : Obj) : Ext σ m w σ m (w.alloc o) where
  os := rfl
  tape := rfl
  output := rfl
  size := by simp
  len := Nat.le_refl _
  rho _ _ := rfl
  gr _ _ _ _ k h := ⟨k, h, Nat.le_refl _, fun _ => rfl⟩
  imm b o' h := ⟨⟨by have := h.1; simp; omega, h.2⟩, World.cell?_alloc_lt _ _ _ h.1⟩
  old b hb hn := ⟨hn, Below.heap_alloc _ _ _ hb⟩

theorem Sim.alloc {σ : St} {m : AM} {w : World} (hs : Sim σ m w) (o : Obj) : Sim σ m (w.alloc o) :=
  ⟨fun n x h => BlkOK.mono_of (Ext.alloc σ m w o) (AM.get_lt _ _ _ h) (hs.ok n x h) (fun b hb => Below.heap_alloc _ _ _ (blkOf_lt hs h hb)) (fun _ _ _ _ => rfl), hs.inj⟩

theorem Imm.alloc_new {σ : St} {m : AM} {w : World} (hs : Sim σ m w) (o : Obj) (j : Nat) : Imm σ m (w.alloc o) w.heap.size j :=
  ⟨by simp, fun n x hn hb => by have := blkOf_lt hs hn hb; omega⟩

/-- A live block of cells, or a map, is written. -/
theorem Ext.write {σ : St} {m : AM} {w w' : World} {n : Nat} {x y : ABlk} (hn : m.get n = some x) (hx : ∀ e sz k, x ≠ .grow e sz k) (hy : ∀ e sz k, y ≠ .grow e sz k)
    (h1 : w'.os = w.os) (h2 : w'.tape = w.tape) (h3 : w'.output = w.output) (h4 : w'.heap.size = w.heap.size) (h5 : ∀ b, b ≠ σ.ρ n → w'.heap[b]? = w.heap[b]?) : Ext σ m w σ (m.set n (some y)) w' where
  os := h1
  tape := h2
  output := h3
  size := by omega
  len := by rw [AM.length_set]; exact Nat.le_refl _
  rho _ _ := rfl
  gr k _ e sz k' h := by
    rw [AM.get_set] at h
    split at h
    · split at h
      · cases h; exact absurd rfl (hy _ _ _)
      · cases h
    · exact ⟨k', h, Nat.le_refl _, fun _ => rfl⟩
  imm b o h := by
    have hne := imm_of_live h hn hx
    refine ⟨⟨by have := h.1; omega, fun k z hk hb => ?_⟩, by simp [World.cell?, h5 b (Ne.symm hne)]⟩
    rw [AM.get_set] at hk
    split at hk
    · rename_i e
      split at hk
      · cases hk
        subst e
        rw [blkOf_plain _ _ hy] at hb
        injection hb with hb
        exact absurd hb hne
      · cases hk
    · exact h.2 k z hk hb
  old b hb hnl := by
    have hne : σ.ρ n ≠ b := by
      intro e
      refine hnl n x hn ?_
      rw [← e]
      cases x <;> first | rfl | (exact absurd rfl (hx _ _ _))
    refine ⟨fun k z hk hb' => ?_, h5 b (Ne.symm hne)⟩
    rw [AM.get_set] at hk
    split at hk
    · rename_i e
      split at hk
      · cases hk
        subst e
        rw [blkOf_plain _ _ hy] at hb'
        injection hb' with hb'
        exact hne hb'
      · cases hk
    · exact hnl k z hk hb'

theorem Sim.write {σ : St} {m : AM} {w w' : World} (hs : Sim σ m w) {n : Nat} {x y : ABlk} (hn : m.get n = some x) (hx : ∀ e sz k, x ≠ .grow e sz k) (hy : ∀ e sz k, y ≠ .grow e sz k)
    (h1 : w'.os = w.os) (h2 : w'.tape = w.tape) (h3 : w'.output = w.output) (h4 : w'.heap.size = w.heap.size) (h5 : ∀ b, b ≠ σ.ρ n → w'.heap[b]? = w.heap[b]?)
    (hok : BlkOK σ (m.set n (some y)) w' n y) : Sim σ (m.set n (some y)) w' := by
  have hE := Ext.write (w' := w') (y := y) hn hx hy h1 h2 h3 h4 h5
  have hxb : blkOf σ n x = some (σ.ρ n) := by cases x <;> first | rfl | (exact absurd rfl (hx _ _ _))
  have hyb : blkOf σ n y = some (σ.ρ n) := by cases y <;> first | rfl | (exact absurd rfl (hy _ _ _))
  refine ⟨fun k z hk => ?_, fun k k' z z' b hk hk' hb hb' => ?_⟩
  · rw [AM.get_set] at hk
    split at hk
    · rename_i e
      split at hk
      · cases hk; subst e; exact hok
      · cases hk
    · rename_i e
      refine BlkOK.mono_of hE (AM.get_lt _ _ _ hk) (hs.ok k z hk) (fun b hb => h5 b fun e' => ?_) (fun _ _ _ _ => rfl)
      subst e'
      exact e (hs.inj k n z x _ hk hn hb hxb)
  · rw [AM.get_set] at hk hk'
    split at hk
    · rename_i e
      split at hk
      · cases hk
        subst e
        split at hk'
        · rename_i e'; exact e'.symm
        · rw [hyb] at hb
          exact hs.inj k k' x z' b hn hk' (hxb.trans hb) hb'
      · cases hk
    · split at hk'
      · rename_i e'
        split at hk'
        · cases hk'
          subst e'
          rw [hyb] at hb'
          exact hs.inj k k' z x b hk hn hb (hxb.trans hb')
        · cases hk'
      · exact hs.inj k k' z z' b hk hk' hb hb'

end Go.Ab

/- The abstract operations on memory and numbers, each with its proof. -/
namespace Go.Ab
open Go.RowKit

inductive ARes where
  | val (v : AV) (m : AM)
  | unit (m : AM)
  | call (f : FuncId) (args : List AV)
  | rnd (n : Nat) (args : List AV)
  | pan (v : AV)
  | dfr (v : AV)
  | bad

def ARes.ofOpt (m : AM) : Option AV → ARes
  | some v => .val v m
  | none => .bad

def isAggD : TypeDesc → Bool
  | .struct _ | .array _ _ => true
  | _ => false

theorem add_lit' (b o n : Nat) : Addr.add ⟨b, o, none⟩ n = ⟨b, o + n, none⟩ := Addr.add_lit b o n

/-! ### loads -/
def rdCells (ti : TI) (off : Nat) (cs : List AV) : Option AV :=
  if isAggD ti.desc then (if off + ti.size ≤ cs.length then some (.agg ((cs.drop off).take ti.size)) else none) else cs[off]?

theorem run_isAgg {P : Program} {w : World} {t : TypeId} {d : TypeDesc} (h : P.underlying t = some d) : (isAgg t).run P w = .ok (isAggD d) w := by
  unfold isAgg
  rw [Sem.run_bind, run_underlying h w]
  cases d <;> rfl

theorem run_loadVar_cells {P : Program} {w : World} {t : TypeId} {ti : TI} (h : tinf P t = some ti) (b o : Nat) (cs : List Value) (hc : ∀ (j : Nat) v, cs[j]? = some v → w.cell? ⟨b, o + j, none⟩ = some v) :
    (isAggD ti.desc = true → cs.length = ti.size → (loadVar t ⟨b, o, none⟩).run P w = .ok (.agg ⟨cs⟩) w) ∧ (isAggD ti.desc = false → ∀ v, cs[0]? = some v → (loadVar t ⟨b, o, none⟩).run P w = .ok v w) := by
  obtain ⟨h1, i, h2, h3, h4, h5⟩ := tinf_spec h
  constructor
  · intro ha hl
    have hld := run_loadCells_list (P := P) w ⟨b, o, none⟩ cs (fun j v hj => by rw [add_lit']; exact hc j v hj)
    rw [hl] at hld
    simp [loadVar, Sem.run_bind, run_isAgg h1, ha, sizeOf, typeInfo, h2, h3, hld]
  · intro ha v hv
    have := hc 0 v hv
    simp [loadVar, Sem.run_bind, run_isAgg h1, ha, show w.cell? ⟨b, o, none⟩ = some v from this]

/-- Cells that realise a list of abstract values, from an address on. -/
theorem rdCells_ok {P : Program} {σ : St} {m : AM} {w : World} {t : TypeId} {ti : TI} (h : tinf P t = some ti) (b o off : Nat) (vs : List Value) (cs : List AV) (hl : vs.length = cs.length)
    (hc : ∀ (j : Nat) v, vs[j]? = some v → w.cell? ⟨b, o + j, none⟩ = some v) (hr : ∀ (i : Nat) v a, vs[i]? = some v → cs[i]? = some a → R σ m w v a) {av : AV} (hrd : rdCells ti off cs = some av) :
    ∃ cv, (loadVar t ⟨b, o + off, none⟩).run P w = .ok cv w ∧ R σ m w cv av := by
  unfold rdCells at hrd
  split at hrd
  · rename_i ha
    split at hrd
    · rename_i hlen
      cases hrd
      have hk := run_loadVar_cells h b (o + off) ((vs.drop off).take ti.size) (w := w) (fun j v hj => by
        rw [Nat.add_assoc]
        refine hc (off + j) v ?_
        rw [List.getElem?_take] at hj
        split at hj
        · rwa [List.getElem?_drop] at hj
        · cases hj)
      refine ⟨_, hk.1 ha (by simp; omega), .agg _ _ (by simp; omega) fun i v a h1 h2 => ?_⟩
      rw [List.getElem?_take] at h1 h2
      split at h1
      · rename_i hi
        rw [if_pos hi] at h2
        rw [List.getElem?_drop] at h1 h2
        exact hr _ _ _ h1 h2
      · cases h1
    · cases hrd
  · rename_i ha
    have hlt : off < cs.length := (List.getElem?_eq_some_iff.1 hrd).1
    obtain ⟨v, hv⟩ : ∃ v, vs[off]? = some v := ⟨vs[off]'(by omega), by simp [hl, hlt]⟩
    have hk := run_loadVar_cells h b (o + off) [v] (w := w) (fun j u hj => by
      cases j with
      | zero => simp at hj; subst hj; exact hc _ _ hv
      | succ j => simp at hj)
    exact ⟨v, hk.2 (by simpa using ha) v rfl, hr _ _ _ hv hrd⟩

def aLoad (P : Program) (t : TypeId) (a : AV) (m : AM) : ARes :=
  match tinf P t with
  | none => .bad
  | some ti =>
    match a with
    | .ptr n off =>
      match m.get n with
      | some (.cells _ cs) => .ofOpt m (rdCells ti off cs)
      | _ => .bad
    | .eptr row off => .ofOpt m (rdCells ti off (row.map .d))
    | _ => .bad

theorem aLoad_ok {P : Program} {σ : St} {m : AM} {w : World} {t : TypeId} {a : AV} {cv : Value} {av : AV} {m' : AM} (hs : Sim σ m w) (hr : R σ m w cv a) (h : aLoad P t a m = .val av m') : VOK P (Instr.loadAt t cv) σ m w av m' := by
  unfold aLoad at h
  split at h
  · cases h
  rename_i ti hti
  split at h
  · rename_i n off
    split at h
    · rename_i ty cs hg
      cases hr
      rename_i hn
      obtain ⟨hcell, vs, hh, hl, hrs⟩ := hs.ok n _ hg
      cases hrd : rdCells ti off cs with
      | none => simp [hrd, ARes.ofOpt] at h
      | some v =>
        simp only [hrd, ARes.ofOpt, ARes.val.injEq] at h
        obtain ⟨rfl, rfl⟩ := h
        obtain ⟨cv, h1, h2⟩ := rdCells_ok (w := w) hti (σ.ρ n) 0 off vs cs hl (fun j v hj => by simp [World.cell?, hh, hj]) hrs hrd
        refine VOK.pure hs ?_ h2
        simp only [Nat.zero_add] at h1
        simp [Instr.loadAt, Instr.sureAddr, h1]
    · cases h
  · rename_i row off
    cases hr
    rename_i b o cv' hc
    cases hrd : rdCells ti off (row.map .d) with
    | none => simp [hrd, ARes.ofOpt] at h
    | some v =>
      simp only [hrd, ARes.ofOpt, ARes.val.injEq] at h
      obtain ⟨rfl, rfl⟩ := h
      have hget : ∀ (j : Nat) (v : Value), ((List.range row.length).map cv')[j]? = some v → j < row.length ∧ v = cv' j := by
        intro j v hj
        simp only [List.getElem?_map, Option.map_eq_some_iff] at hj
        obtain ⟨k, hk, rfl⟩ := hj
        rw [List.getElem?_eq_some_iff] at hk
        obtain ⟨h1, h2⟩ := hk
        simp at h1 h2
        subst h2
        exact ⟨h1, rfl⟩
      obtain ⟨cv, h1, h2⟩ := rdCells_ok (σ := σ) (m := m) (w := w) hti b o off ((List.range row.length).map cv') (row.map .d) (by simp) (fun j v hj => by
          obtain ⟨h1, rfl⟩ := hget j v hj
          exact (hc j row[j] (by simp [h1])).2.1) (fun j v a hj ha => by
          obtain ⟨h1, rfl⟩ := hget j v hj
          simp only [List.getElem?_map, Option.map_eq_some_iff] at ha
          obtain ⟨x, hx, rfl⟩ := ha
          exact .d _ _ (hc j x hx).2.2) hrd
      refine VOK.pure hs ?_ h2
      simp [Instr.loadAt, Instr.sureAddr, h1]
  · cases h

/-! ### stores -/
def aStore (P : Program) (t : TypeId) (a x : AV) (m : AM) : ARes :=
  match tinf P t, a with
  | some ti, .ptr n off =>
    match m.get n with
    | some (.cells ty cs) =>
      if x.cells.length = ti.size ∧ off + ti.size ≤ cs.length ∧ x.cells.all (·.isCell) then .unit (m.set n (some (.cells ty (cs.take off ++ x.cells ++ cs.drop (off + ti.size))))) else .bad
    | _ => .bad
  | _, _ => .bad

/-- The cells of a value and of its abstract value. -/
theorem R.cells {σ : St} {m : AM} {w : World} {v : Value} {a : AV} (hr : R σ m w v a) (ha : a.cells.all (·.isCell) = true) :
    Rs σ m w v.cells.toList a.cells ∧ ∀ u ∈ v.cells.toList, u.oneCell' = true := by
  have hone : a.isCell = true → Rs σ m w v.cells.toList a.cells ∧ ∀ u ∈ v.cells.toList, u.oneCell' = true := by
    intro hc
    have h1 := hr.oneCell hc
    have e1 : v.cells = #[v] := by cases v <;> first | rfl | simp [Value.oneCell'] at h1
    have e2 : a.cells = [a] := by cases a <;> first | rfl | simp [AV.isCell] at hc
    rw [e1, e2]
    refine ⟨⟨rfl, fun i u b h2 h3 => ?_⟩, by simpa using h1⟩
    cases i with
    | zero => simp at h2 h3; subst h2; subst h3; exact hr
    | succ i => simp at h2
  cases hr with
  | agg vs as hl h =>
    refine ⟨⟨hl, h⟩, fun u hu => ?_⟩
    change u ∈ vs at hu
    obtain ⟨i, hi, rfl⟩ := List.mem_iff_getElem.1 hu
    have hi' : i < as.length := by
      have : i < vs.length := hi
      omega
    have := h i vs[i] as[i] (by simp) (by simp)
    refine this.oneCell ?_
    exact List.all_eq_true.1 ha _ (List.getElem_mem hi')
  | tup vs as hl h => simp [AV.cells, AV.isCell] at ha
  | _ => exact hone rfl

theorem sim_setRow {σ : St} {m : AM} {w : World} (hs : Sim σ m w) {n : Nat} {ty : TypeId} {cs cs' : List AV} (hg : m.get n = some (.cells ty cs)) (vs' : List Value)
    (hc : ∀ c ∈ cs', c.isCell = true) (hr : Rs σ m w vs' cs') : Sim σ (m.set n (some (.cells ty cs'))) (w.setRow (σ.ρ n) ⟨vs'⟩) ∧ Ext σ m w σ (m.set n (some (.cells ty cs'))) (w.setRow (σ.ρ n) ⟨vs'⟩) := by
  obtain ⟨_, vs, hh, _⟩ := hs.ok n _ hg
  have hE : Ext σ m w σ (m.set n (some (.cells ty cs'))) (w.setRow (σ.ρ n) ⟨vs'⟩) :=
    Ext.write hg (by simp) (by simp) rfl rfl rfl (by simp) (fun b hb => setRow_other w (σ.ρ n) b _ hb)
  refine ⟨Sim.write hs hg (by simp) (by simp) rfl rfl rfl (by simp) (fun b hb => setRow_other w (σ.ρ n) b _ hb) ?_, hE⟩
  exact ⟨hc, vs', setRow_heap w (σ.ρ n) _ _ _ _ hh, hr.mono hE⟩

theorem Rs.splice {σ : St} {m : AM} {w : World} {vs us : List Value} {cs as : List AV} (h : Rs σ m w vs cs) (k : Rs σ m w us as) (off n : Nat) (hl : off ≤ vs.length) :
    Rs σ m w (vs.take off ++ us ++ vs.drop n) (cs.take off ++ as ++ cs.drop n) := by
  obtain ⟨h1, h2⟩ := h
  obtain ⟨k1, k2⟩ := k
  refine ⟨by simp [h1, k1], fun i v a hv ha => ?_⟩
  by_cases c1 : i < off
  · rw [List.append_assoc, List.getElem?_append_left (by simp; omega), List.getElem?_take, if_pos c1] at hv ha
    exact h2 i v a hv ha
  · by_cases c2 : i < off + us.length
    · rw [List.append_assoc, List.getElem?_append_right (by simp; omega), List.getElem?_append_left (by simp; omega)] at hv ha
      simp only [List.length_take, Nat.min_eq_left hl, h1 ▸ Nat.min_eq_left hl] at hv ha
      exact k2 _ v a hv (by rw [← ha])
    · rw [List.getElem?_append_right (by simp; omega), List.getElem?_drop] at hv ha
      simp only [List.length_append, List.length_take, Nat.min_eq_left hl, ← h1, ← k1] at hv ha
      exact h2 _ v a hv ha

theorem aStore_ok {P : Program} {σ : St} {m : AM} {w : World} {t : TypeId} {a x : AV} {cv xv : Value} {m' : AM} (hs : Sim σ m w) (hr : R σ m w cv a) (hx : R σ m w xv x) (h : aStore P t a x m = .unit m') : UOK P (Instr.storeAt t cv xv) σ m w m' := by
  unfold aStore at h
  split at h
  · rename_i ti n off hti
    split at h
    · rename_i ty cs hg
      split at h
      · rename_i hc
        obtain ⟨hc1, hc2, hc3⟩ := hc
        cases h
        cases hr
        rename_i hn
        obtain ⟨h1, i, h2, h3, h4, h5⟩ := tinf_spec hti
        obtain ⟨hcell, vs, hh, hl, hrs⟩ := hs.ok n _ hg
        obtain ⟨hxr, hx1⟩ := hx.cells hc3
        have hlx : xv.cells.size = ti.size := by rw [← hc1, ← hxr.1]; simp
        have hst := run_storeCells_at P (σ.ρ n) off ty xv.cells.toList 0 ⟨vs⟩ w hh (by simp; omega) hx1
        obtain ⟨hS, hE⟩ := sim_setRow hs hg (vs.take off ++ xv.cells.toList ++ vs.drop (off + ti.size)) (cs' := cs.take off ++ x.cells ++ cs.drop (off + ti.size)) (by
          intro c hc
          rcases List.mem_append.1 hc with hc | hc
          · rcases List.mem_append.1 hc with hc | hc
            · exact hcell c (List.mem_of_mem_take hc)
            · exact List.all_eq_true.1 hc3 c hc
          · exact hcell c (List.mem_of_mem_drop hc)) (Rs.splice ⟨hl, hrs⟩ hxr off _ (by omega))
        refine ⟨_, σ, ?_, hE, hS⟩
        have hsz : xv.cells.size = i.size := by omega
        have hlen : off + 0 + xv.cells.toList.length = off + ti.size := by simp; omega
        rw [hlen] at hst
        simp only [Nat.add_zero] at hst
        simp [Instr.storeAt, Instr.sureAddr, storeVar, sizeOf, typeInfo, h2, hsz, hst]
      · cases h
    · cases h
  · cases h

/-! ### new variables -/
def aNew (t : TypeId) (cs : List AV) (m : AM) : ARes := if cs.all (·.isCell) then .val (.ptr m.length 0) (some (.cells t cs) :: m) else .bad

theorem aNew_ok {P : Program} {σ : St} {m : AM} {w : World} {t : TypeId} {vs : List Value} {cs : List AV} {av : AV} {m' : AM} (hs : Sim σ m w) (hr : Rs σ m w vs cs) (h : aNew t cs m = .val av m') (s : Sem Value)
    (hrun : s.run P w = .ok (.pointer (some ⟨w.heap.size, 0, none⟩)) (w.alloc (.cells ⟨vs⟩ t))) : VOK P s σ m w av m' := by
  unfold aNew at h
  split at h
  · rename_i hc
    cases h
    have hE := Ext.push hs (.cells ⟨vs⟩ t) (.cells t cs) (by simp)
    refine ⟨_, _, _, hrun, hE, Sim.push hs _ _ (by simp) ⟨fun c hc' => List.all_eq_true.1 hc c hc', vs, ?_, hr.mono hE⟩, ?_⟩
    · simp only [St.name, if_true]; exact heap_alloc_new w _
    · have := R.ptr (σ := σ.name m.length w.heap.size) (m := some (.cells t cs) :: m) (w := w.alloc (.cells ⟨vs⟩ t)) m.length 0 (by simp)
      simpa [St.name] using this
  · cases h

def zeroCells? (ti : TI) : Option (List AV) := ti.zero.bind fun z => (ofVal z).map (·.cells)

theorem zeroCells_ok {P : Program} {σ : St} {m : AM} {w : World} {t : TypeId} {ti : TI} (h : tinf P t = some ti) {cs : List AV} (hz : zeroCells? ti = some cs) (hc : cs.all (·.isCell) = true) :
    ∃ z, (zeroValue t).run P w = .ok z w ∧ Rs σ m w z.cells.toList cs ∧ (∀ u ∈ z.cells.toList, u.oneCell' = true) ∧ ti.zero = some z := by
  obtain ⟨h1, i, h2, h3, h4, h5⟩ := tinf_spec h
  unfold zeroCells? at hz
  cases hzz : ti.zero with
  | none => simp [hzz] at hz
  | some z =>
    simp only [hzz, Option.bind_some, Option.map_eq_some_iff] at hz
    obtain ⟨a, ha, rfl⟩ := hz
    have := (R.ofVal (σ := σ) (m := m) (w := w) z ha).cells hc
    exact ⟨z, by simp [zeroValue, typeInfo, h2, h5, hzz], this.1, this.2, rfl⟩

def aAlloc (P : Program) (t : TypeId) (m : AM) : ARes :=
  match (tinf P t).bind zeroCells? with
  | some cs => aNew t cs m
  | none => .bad

theorem aAlloc_ok {P : Program} {σ : St} {m : AM} {w : World} {t : TypeId} {av : AV} {m' : AM} (hs : Sim σ m w) (h : aAlloc P t m = .val av m') : VOK P (Instr.alloc t true (.tuple #[])) σ m w av m' := by
  unfold aAlloc at h
  split at h
  · rename_i cs hcs
    simp only [Option.bind_eq_some_iff] at hcs
    obtain ⟨ti, hti, hz⟩ := hcs
    have hc : cs.all (·.isCell) = true := by
      unfold aNew at h
      split at h
      · assumption
      · cases h
    obtain ⟨z, hz1, hz2, _⟩ := zeroCells_ok (σ := σ) (m := m) (w := w) hti hz hc
    refine aNew_ok hs hz2 h _ ?_
    simp [Instr.alloc, hz1, newVar, newRow]
  · cases h

def aBox (t : TypeId) (x : AV) (m : AM) : ARes := aNew t x.cells m

theorem aBox_ok {P : Program} {σ : St} {m : AM} {w : World} {t : TypeId} {x av : AV} {xv : Value} {m' : AM} (hs : Sim σ m w) (hx : R σ m w xv x) (h : aBox t x m = .val av m') : VOK P (Instr.box t xv) σ m w av m' := by
  unfold aBox at h
  have hc : x.cells.all (·.isCell) = true := by
    unfold aNew at h
    split at h
    · assumption
    · cases h
  refine aNew_ok hs (hx.cells hc).1 h _ ?_
  simp [Instr.box, newVar, newRow]

/-! ### addresses -/
def aField (P : Program) (s : TypeId) (x : AV) (f : Nat) : Option AV :=
  match tinf P s with
  | some { desc := .struct fields, .. } =>
    match fields[f]? with
    | some fd =>
      match tinf P fd.type with
      | some tf =>
        if tf.size = 0 then none else
        match x with
        | .ptr n off => some (.ptr n (off + fd.offset))
        | .eptr row off => some (.eptr row (off + fd.offset))
        | _ => none
      | none => none
    | none => none
  | _ => none

theorem R.ptr_add {σ : St} {m : AM} {w : World} {n off k : Nat} {cv : Value} (h : R σ m w cv (.ptr n off)) : ∃ b, cv = .pointer (some ⟨b, off, none⟩) ∧ R σ m w (.pointer (some ⟨b, off + k, none⟩)) (.ptr n (off + k)) := by
  cases h
  rename_i hn
  exact ⟨_, rfl, .ptr n _ hn⟩

theorem aField_ok {P : Program} {σ : St} {m : AM} {w : World} {s : TypeId} {x av : AV} {xv : Value} {f : Nat} (hs : Sim σ m w) (hx : R σ m w xv x) (h : aField P s x f = some av) : VOK P (Instr.fieldAt s xv f) σ m w av m := by
  unfold aField at h
  split at h
  · rename_i fields d1 d2 d3 hti
    split at h
    · rename_i fd hf
      split at h
      · rename_i tf htf
        split at h
        · cases h
        rename_i hz
        obtain ⟨h1, i, h2, h3, h4, h5⟩ := tinf_spec hti
        obtain ⟨g1, j, g2, g3, g4, g5⟩ := tinf_spec htf
        have hplace : ∀ a : Addr, (fieldPlace a fd).run P w = .ok (a.add fd.offset) w := by
          intro a
          have : ¬ j.size = 0 := by omega
          simp [fieldPlace, sizeOf, typeInfo, g2, this]
        split at h
        · cases h
          cases hx
          rename_i hn
          refine VOK.pure hs ?_ (.ptr _ _ hn)
          simp [Instr.fieldAt, run_underlying h1, hf, Instr.sureAddr, hplace, add_lit']
        · cases h
          cases hx
          rename_i off b o cv hc
          have := R.eptr (σ := σ) (m := m) (w := w) b o (off + fd.offset) _ cv hc
          refine VOK.pure hs ?_ this
          simp [Instr.fieldAt, run_underlying h1, hf, Instr.sureAddr, hplace, add_lit', Nat.add_assoc]
        · cases h
      · cases h
    · cases h
  · cases h

/-- The rows of a slice of data. -/
def AV.rows : AV → Option (Nat × List (List D))
  | .d (.sl sz rows) => some (sz, rows)
  | .gsl _ sz rows => some (sz, rows)
  | _ => none

theorem R.rows {σ : St} {m : AM} {w : World} {v : Value} {a : AV} (h : R σ m w v a) {sz : Nat} {rows : List (List D)} (hr : a.rows = some (sz, rows)) : RD (Imm σ m w) w v (.sl sz rows) := by
  cases h with
  | d v x hd =>
    cases x <;> simp [AV.rows] at hr
    obtain ⟨rfl, rfl⟩ := hr
    exact hd
  | gsl v n sz' rows' hn hd hg =>
    simp [AV.rows] at hr
    obtain ⟨rfl, rfl⟩ := hr
    exact hd
  | _ => simp [AV.rows] at hr

theorem RD.sl_inv {I : Nat → Nat → Prop} {w : World} {v : Value} {sz : Nat} {rows : List (List D)} (h : RD I w v (.sl sz rows)) :
    ∃ (A : Option Addr) (cap : Nat), v = .slice A rows.length cap ∧ rows.length ≤ cap ∧ cap ≤ maxLen ∧
      (rows = [] ∨ ∃ (b o : Nat) (cv : Nat → Nat → Value), A = some ⟨b, o, none⟩ ∧ (∀ r ∈ rows, r.length = sz) ∧
        (∀ (i j : Nat) row x, rows[i]? = some row → row[j]? = some x → I b (o + (i * sz + j)) ∧ w.cell? ⟨b, o + (i * sz + j), none⟩ = some (cv i j)) ∧
        (∀ (i j : Nat) row x, rows[i]? = some row → row[j]? = some x → RD I w (cv i j) x)) := by
  cases h with
  | slNil a cap sz hc => exact ⟨a, cap, rfl, Nat.zero_le _, hc, .inl rfl⟩
  | sl b o cap sz rows cv hlen hmax hrow hc hr => exact ⟨_, cap, rfl, hlen, hmax, .inr ⟨b, o, cv, rfl, hrow, hc, hr⟩⟩

theorem getD_some {α : Type} (l : List α) (i : Nat) (d : α) (h : i < l.length) : l[i]? = some (l.getD i d) := by simp [h]

def aIndexAddr (P : Program) (t : TypeId) (x ix : AV) : Option AV :=
  match tinf P t, ix with
  | some { desc := .array len e, .. }, .d (.int _ i) =>
    match tinf P e, x with
    | some te, .ptr n off => if 0 ≤ i ∧ i < len then some (.ptr n (off + i.toNat * te.size)) else none
    | _, _ => none
  | some { desc := .slice e, .. }, .d (.int _ i) =>
    match tinf P e with
    | some te =>
      match x with
      | .lsl n off len _ => if 0 ≤ i ∧ i < len then some (.ptr n (off + i.toNat * te.size)) else none
      | x =>
        match x.rows with
        | some (sz, rows) => if 0 ≤ i ∧ i < rows.length ∧ sz = te.size then some (.eptr (rows.getD i.toNat []) 0) else none
        | none => none
    | none => none
  | _, _ => none

theorem R.int_inv {σ : St} {m : AM} {w : World} {v : Value} {k : IntKind} {n : Int} (h : R σ m w v (.d (.int k n))) : v = .int k n := by
  cases h with
  | d v x hd => cases hd; rfl
theorem R.bool_inv {σ : St} {m : AM} {w : World} {v : Value} {b : Bool} (h : R σ m w v (.d (.bool b))) : v = .bool b := by
  cases h with
  | d v x hd => cases hd; rfl
theorem R.str_inv {σ : St} {m : AM} {w : World} {v : Value} {s : List UInt8} (h : R σ m w v (.d (.str s))) : v = .string ⟨⟨s⟩⟩ := by
  cases h with
  | d v x hd => cases hd; rfl
theorem R.int {σ : St} {m : AM} {w : World} (k : IntKind) (n : Int) : R σ m w (.int k n) (.d (.int k n)) := .d _ _ (.int k n)
theorem R.bool {σ : St} {m : AM} {w : World} (b : Bool) : R σ m w (.bool b) (.d (.bool b)) := .d _ _ (.bool b)
theorem R.str {σ : St} {m : AM} {w : World} (s : List UInt8) : R σ m w (.string ⟨⟨s⟩⟩) (.d (.str s)) := .d _ _ (.str s)

theorem aIndexAddr_ok {P : Program} {σ : St} {m : AM} {w : World} {t : TypeId} {x ix av : AV} {xv iv : Value} (hs : Sim σ m w) (hx : R σ m w xv x) (hi : R σ m w iv ix) (h : aIndexAddr P t x ix = some av) :
    VOK P (Instr.indexAt t xv iv) σ m w av m := by
  unfold aIndexAddr at h
  split at h
  · rename_i len e _ _ _ k i hti
    obtain rfl := hi.int_inv
    obtain ⟨h1, inf, h2, h3, h4, h5⟩ := tinf_spec hti
    split at h
    · rename_i te n off hte
      obtain ⟨g1, j, g2, g3, g4, g5⟩ := tinf_spec hte
      split at h
      · rename_i hr
        cases h
        cases hx
        rename_i hn
        refine VOK.pure hs ?_ (.ptr _ _ hn)
        simp [Instr.indexAt, asIntOf, run_underlying h1, Instr.sureAddr, hr, sizeOf, typeInfo, g2, g3, add_lit']
      · cases h
    · cases h
  · rename_i e _ _ _ k i hti
    obtain rfl := hi.int_inv
    obtain ⟨h1, inf, h2, h3, h4, h5⟩ := tinf_spec hti
    split at h
    · rename_i te hte
      obtain ⟨g1, j, g2, g3, g4, g5⟩ := tinf_spec hte
      split at h
      · rename_i n off len cap
        split at h
        · rename_i hr
          cases h
          cases hx
          rename_i hn
          refine VOK.pure hs ?_ (.ptr _ _ hn)
          simp [Instr.indexAt, asIntOf, run_underlying h1, hr, sizeOf, typeInfo, g2, g3, add_lit']
        · cases h
      · split at h
        · rename_i sz rows hrows
          split at h
          · rename_i hr
            obtain ⟨r1, r2, rfl⟩ := hr
            cases h
            have hlt : i.toNat < rows.length := by omega
            obtain ⟨A, cap, rfl, _, _, hh⟩ := (hx.rows hrows).sl_inv
            rcases hh with rfl | ⟨b, o, cv, rfl, hrow, hc, hrd⟩
            · simp at hlt
            · have hge := getD_some rows i.toNat [] hlt
              have := R.eptr (σ := σ) (m := m) (w := w) b (o + i.toNat * te.size) 0 (rows.getD i.toNat []) (cv i.toNat) (fun j x hj => by
                have h1 := hc i.toNat j _ x hge hj
                have h2 := hrd i.toNat j _ x hge hj
                rw [← Nat.add_assoc] at h1
                exact ⟨h1.1, h1.2, h2⟩)
              refine VOK.pure hs ?_ this
              simp [Instr.indexAt, asIntOf, run_underlying h1, r1, r2, sizeOf, typeInfo, g2, g3, add_lit']
          · cases h
        · cases h
    · cases h
  · cases h

/-! ### reading an array's element, a string's byte -/
def aIndex (P : Program) (t : TypeId) (x ix : AV) : Option AV :=
  match tinf P t, x, ix with
  | some { desc := .array len e, .. }, .agg cs, .d (.int _ i) =>
    match tinf P e with
    | some te => if 0 ≤ i ∧ i < len then rdCells te (i.toNat * te.size) cs else none
    | none => none
  | some { desc := .string, .. }, .d (.str s), .d (.int _ i) => if 0 ≤ i ∧ i < s.length then some (.d (.int .u8 ((s.getD i.toNat 0).toNat : Int))) else none
  | _, _, _ => none

theorem run_part {P : Program} {σ : St} {m : AM} {w : World} {t : TypeId} {ti : TI} (h : tinf P t = some ti) (off : Nat) (vs : List Value) (cs : List AV) (hl : vs.length = cs.length)
    (hr : ∀ (i : Nat) v a, vs[i]? = some v → cs[i]? = some a → R σ m w v a) {av : AV} (hrd : rdCells ti off cs = some av) : ∃ cv, (part t ⟨vs⟩ off).run P w = .ok cv w ∧ R σ m w cv av := by
  obtain ⟨h1, i, h2, h3, h4, h5⟩ := tinf_spec h
  unfold rdCells at hrd
  split at hrd
  · rename_i ha
    split at hrd
    · rename_i hlen
      cases hrd
      refine ⟨.agg ⟨(vs.drop off).take ti.size⟩, ?_, .agg _ _ (by simp; omega) fun i v a h1 h2 => ?_⟩
      · simp [part, run_isAgg h1, ha, sizeOf, typeInfo, h2, h3]
      · rw [List.getElem?_take] at h1 h2
        split at h1
        · rename_i hi
          rw [if_pos hi] at h2
          rw [List.getElem?_drop] at h1 h2
          exact hr _ _ _ h1 h2
        · cases h1
    · cases hrd
  · rename_i ha
    have hlt : off < cs.length := (List.getElem?_eq_some_iff.1 hrd).1
    obtain ⟨v, hv⟩ : ∃ v, vs[off]? = some v := ⟨vs[off]'(by omega), by simp [hl, hlt]⟩
    refine ⟨v, ?_, hr _ _ _ hv hrd⟩
    simp [part, run_isAgg h1, ha, hv]

theorem aIndex_ok {P : Program} {σ : St} {m : AM} {w : World} {t : TypeId} {x ix av : AV} {xv iv : Value} (hs : Sim σ m w) (hx : R σ m w xv x) (hi : R σ m w iv ix) (h : aIndex P t x ix = some av) :
    VOK P (Instr.index t xv iv) σ m w av m := by
  unfold aIndex at h
  split at h
  · rename_i len e _ _ _ cs k i hti
    obtain rfl := hi.int_inv
    obtain ⟨h1, inf, h2, h3, h4, h5⟩ := tinf_spec hti
    split at h
    · rename_i te hte
      obtain ⟨g1, j, g2, g3, g4, g5⟩ := tinf_spec hte
      split at h
      · rename_i hr
        cases hx
        rename_i vs hl hrs
        obtain ⟨cv, e1, e2⟩ := run_part hte (i.toNat * te.size) vs cs hl hrs h
        refine VOK.pure hs ?_ e2
        simp [Instr.index, asIntOf, run_underlying h1, hr, sizeOf, typeInfo, g2, g3, e1]
      · cases h
    · cases h
  · rename_i _ _ _ s k i hti
    obtain rfl := hi.int_inv
    obtain rfl := hx.str_inv
    obtain ⟨h1, inf, h2, h3, h4, h5⟩ := tinf_spec hti
    split at h
    · rename_i hr
      cases h
      refine VOK.pure hs ?_ (.int _ _)
      have hlt : i.toNat < s.length := by omega
      have hq : (⟨⟨s⟩⟩ : ByteArray)[i.toNat]? = some (s.getD i.toNat 0) := by
        have : i.toNat < (ByteArray.mk ⟨s⟩).size := hlt
        rw [getElem?_pos (ByteArray.mk ⟨s⟩) i.toNat this]
        have e : (ByteArray.mk ⟨s⟩)[i.toNat]'this = s[i.toNat]'hlt := rfl
        rw [e]
        simp [hlt]
      simp [Instr.index, asIntOf, run_underlying h1, hr.1, hq]
    · cases h
  · cases h

end Go.Ab

/- The abstract operations on numbers, texts, slices, aggregates and maps, each with its proof. -/
namespace Go.Ab
open Go.RowKit

/-! ### operators -/
def aInt (op : BinOp) (k : IntKind) (a b : Int) : Option AV :=
  match op with
  | .add => some (.d (.int k (k.wrap (a + b))))
  | .sub => some (.d (.int k (k.wrap (a - b))))
  | .mul => some (.d (.int k (k.wrap (a * b))))
  | .quo => if b = 0 then none else some (.d (.int k (k.wrap (a.tdiv b))))
  | .rem => if b = 0 then none else some (.d (.int k (a.tmod b)))
  | .and => some (.d (.int k (bits .and k a b)))
  | .or => some (.d (.int k (bits .or k a b)))
  | .xor => some (.d (.int k (bits .xor k a b)))
  | .andNot => some (.d (.int k (bits .andNot k a b)))
  | .eql => some (.d (.bool (decide (a = b))))
  | .neq => some (.d (.bool (!decide (a = b))))
  | .lss => some (.d (.bool (decide (a < b))))
  | .leq => some (.d (.bool (decide (a ≤ b))))
  | .gtr => some (.d (.bool (decide (b < a))))
  | .geq => some (.d (.bool (decide (b ≤ a))))
  | _ => none

def aShift (op : BinOp) (k : IntKind) (a b : Int) : Option AV :=
  if b < 0 then none else
  match op with
  | .shl => some (.d (.int k (k.wrap (a * 2 ^ min b.toNat k.bits))))
  | .shr => some (.d (.int k (a.fdiv (2 ^ min b.toNat k.bits))))
  | _ => none

def aStr (op : BinOp) (a b : List UInt8) : Option AV :=
  match op with
  | .add => if ((a.length + b.length : Nat) : Int) ≤ 9223372036854775807 then some (.d (.str (a ++ b))) else none
  | .eql => some (.d (.bool (a == b)))
  | .neq => some (.d (.bool (!(a == b))))
  | .lss => some (.d (.bool (Op.bytesLess a b)))
  | .leq => some (.d (.bool (Op.bytesLess a b || a == b)))
  | .gtr => some (.d (.bool (!(Op.bytesLess a b || a == b))))
  | .geq => some (.d (.bool (!Op.bytesLess a b)))
  | _ => none

def eqOkB (P : Program) (t : TypeId) : Bool := !P.stoodInHeld t && !P.eqGuardType P.depth t

def aEqFields (P : Program) : List Field → List AV → List AV → Option Bool
  | [], _, _ => some true
  | f :: fs, xs, ys =>
    if f.name = "_" then none else
    match tinf P f.type, xs[f.offset]?, ys[f.offset]? with
    | some { desc := .int _, .. }, some (.d (.int k a)), some (.d (.int k' b)) => if k = k' then (aEqFields P fs xs ys).map (decide (a = b) && ·) else none
    | some { desc := .bool, .. }, some (.d (.bool a)), some (.d (.bool b)) => (aEqFields P fs xs ys).map ((a == b) && ·)
    | some { desc := .string, .. }, some (.d (.str a)), some (.d (.str b)) => (aEqFields P fs xs ys).map ((a == b) && ·)
    | _, _, _ => none

def isConst : Operand → Bool
  | .const _ => true
  | _ => false

def aEqR (op : BinOp) (r : Bool) : Option AV :=
  match op with
  | .eql => some (.d (.bool r))
  | .neq => some (.d (.bool (!r)))
  | _ => none

def aBin (P : Program) (op : BinOp) (t : TypeId) (xo yo : Operand) (x y : AV) : Option AV :=
  match x, y with
  | .d (.int k a), .d (.int k' b) =>
    match op with
    | .shl => aShift .shl k a b
    | .shr => aShift .shr k a b
    | op => if k = k' then aInt op k a b else none
  | .d (.bool a), .d (.bool b) =>
    match tinf P t with
    | some { desc := .bool, .. } => aEqR op (a == b)
    | _ => none
  | .d (.str a), .d (.str b) => aStr op a b
  | .agg xs, .agg ys =>
    if eqOkB P t then
      match tinf P t with
      | some { desc := .struct fs, .. } => (aEqFields P fs.toList xs ys).bind (aEqR op)
      | _ => none
    else none
  | .d .nilsl, .d .nilsl =>
    match tinf P t with
    | some { desc := .slice _, .. } => aEqR op true
    | _ => none
  | .ifc _ _, .d (.cst .nilIface) =>
    match tinf P t with
    | some { desc := .interface _, .. } => aEqR op false
    | _ => none
  | .d (.cst .nilIface), .d (.cst .nilIface) =>
    match tinf P t with
    | some { desc := .interface _, .. } => if isConst xo || isConst yo then aEqR op true else none
    | _ => none
  | .ptr _ _, .d (.cst (.pointer none)) =>
    match tinf P t with
    | some { desc := .pointer _, .. } => aEqR op false
    | _ => none
  | .d (.cst (.pointer none)), .d (.cst (.pointer none)) =>
    match tinf P t with
    | some { desc := .pointer _, .. } => aEqR op true
    | _ => none
  | .ptr n o, .ptr n' o' =>
    match tinf P t with
    | some { desc := .pointer e, .. } =>
      match tinf P e with
      | some _ => if n = n' ∧ o = o' then aEqR op true else none
      | none => none
    | _ => none
  | _, _ => none

theorem toList_mk (s : List UInt8) : (ByteArray.mk ⟨s⟩).toList = s := by rw [ByteArray.toList_eq]

theorem aInt_ok {P : Program} {w : World} {σ : St} {m : AM} {op : BinOp} {t : TypeId} {xo yo : Operand} {k : IntKind} {a b : Int} {av : AV} (h : aInt op k a b = some av) :
    ∃ cv, (do eqGuard op t xo yo (.int k a) (.int k b); binOp op t (.int k a) (.int k b) : Sem Value).run P w = .ok cv w ∧ R σ m w cv av := by
  rw [eqGuard_at_int]
  cases op <;> simp only [aInt] at h
  all_goals try (cases h; done)
  all_goals try (split at h <;> (try (cases h; done)))
  all_goals cases h
  all_goals first
    | exact ⟨_, by simp [binOp, Op.intArith, Op.intDiv, Op.intBits, Op.intCmp, bits, *] <;> rfl, .int _ _⟩
    | exact ⟨_, by simp [binOp, Op.intArith, Op.intDiv, Op.intBits, Op.intCmp, bits, *] <;> rfl, .bool _⟩

theorem aShift_ok {P : Program} {w : World} {σ : St} {m : AM} {op : BinOp} {t : TypeId} {xo yo : Operand} {k k' : IntKind} {a b : Int} {av : AV} (h : aShift op k a b = some av) :
    ∃ cv, (do eqGuard op t xo yo (.int k a) (.int k' b); binOp op t (.int k a) (.int k' b) : Sem Value).run P w = .ok cv w ∧ R σ m w cv av := by
  rw [eqGuard_at_int]
  unfold aShift at h
  split at h
  · cases h
  rename_i hb
  cases op <;> simp only at h
  all_goals try (cases h; done)
  all_goals cases h
  all_goals exact ⟨_, by simp [binOp, Op.shift, hb] <;> rfl, .int _ _⟩

theorem aStr_ok {P : Program} {w : World} {σ : St} {m : AM} {op : BinOp} {t : TypeId} {xo yo : Operand} {a b : List UInt8} {av : AV} (h : aStr op a b = some av) :
    ∃ cv, (do eqGuard op t xo yo (.string ⟨⟨a⟩⟩) (.string ⟨⟨b⟩⟩); binOp op t (.string ⟨⟨a⟩⟩) (.string ⟨⟨b⟩⟩) : Sem Value).run P w = .ok cv w ∧ R σ m w cv av := by
  rw [eqGuard_at_string]
  cases op <;> simp only [aStr] at h
  case add =>
    split at h
    · rename_i hl
      cases h
      refine ⟨_, ?_, .str _⟩
      have hs : ¬ (9223372036854775807 < (((ByteArray.mk ⟨a⟩).size : Int) + ((ByteArray.mk ⟨b⟩).size : Int))) := by
        have e1 : (ByteArray.mk ⟨a⟩).size = a.length := rfl
        have e2 : (ByteArray.mk ⟨b⟩).size = b.length := rfl
        rw [e1, e2]; omega
      have he : ByteArray.mk ⟨a⟩ ++ ByteArray.mk ⟨b⟩ = ByteArray.mk ⟨a ++ b⟩ := by
        apply ByteArray.ext
        simp [ByteArray.data_append]
      simp [binOp, Op.stringOp, hs, he]
    · cases h
  all_goals try (cases h; done)
  all_goals cases h
  all_goals exact ⟨_, by simp [binOp, Op.stringOp, toList_mk] <;> rfl, .bool _⟩

theorem aEqFields_ok {P : Program} {w : World} {σ : St} {m : AM} {d : Nat} {vs us : List Value} {xs ys : List AV} (hx : Rs σ m w vs xs) (hy : Rs σ m w us ys) : ∀ (fs : List Field) (r : Bool), aEqFields P fs xs ys = some r →
    (Op.eqFields (d + 1) ⟨vs⟩ ⟨us⟩ fs).run P w = .ok r w
  | [], r, h => by cases h; simp [Op.eqFields]
  | f :: fs, r, h => by
    simp only [aEqFields] at h
    split at h
    · cases h
    rename_i hname
    have key : ∀ {ti : TI} {x y : AV} {u v : Value} {q q' : Bool}, tinf P f.type = some ti → isAggD ti.desc = false → vs[f.offset]? = some u → us[f.offset]? = some v →
        (Op.equalIn (d + 1) f.type u v).run P w = .ok q w → aEqFields P fs xs ys = some q' → r = (q && q') → (Op.eqFields (d + 1) ⟨vs⟩ ⟨us⟩ (f :: fs)).run P w = .ok r w := by
      intro ti x y u v q q' hti hagg hu hv heq hrec hr
      obtain ⟨h1, i, h2, h3, h4, h5⟩ := tinf_spec hti
      have hp : (part f.type ⟨vs⟩ f.offset).run P w = .ok u w := by simp [part, run_isAgg h1, hagg, hu]
      have hp' : (part f.type ⟨us⟩ f.offset).run P w = .ok v w := by simp [part, run_isAgg h1, hagg, hv]
      have ih := aEqFields_ok (d := d) hx hy fs q' hrec
      subst hr
      cases q <;> simp [Op.eqFields, hname, hp, hp', heq, ih]
    have look : ∀ {l : List Value} {as : List AV} {a : AV}, Rs σ m w l as → as[f.offset]? = some a → ∃ u, l[f.offset]? = some u ∧ R σ m w u a := by
      intro l as a hl ha
      have hlt : f.offset < l.length := by rw [hl.1]; exact (List.getElem?_eq_some_iff.1 ha).1
      exact ⟨l[f.offset], by simp [hlt], hl.2 _ _ _ (by simp [hlt]) ha⟩
    split at h
    · rename_i k0 _ _ _ k a k' b hti hxo hyo
      split at h
      · rename_i hk
        subst hk
        obtain ⟨q', hq', rfl⟩ := Option.map_eq_some_iff.1 h
        obtain ⟨u, hu, ru⟩ := look hx hxo
        obtain ⟨v, hv, rv⟩ := look hy hyo
        obtain rfl := ru.int_inv
        obtain rfl := rv.int_inv
        exact key (x := .tup []) (y := .tup []) hti rfl hu hv (run_equalIn_int w d f.type k k0 a b (tinf_spec hti).1) hq' rfl
      · cases h
    · rename_i _ _ _ a b hti hxo hyo
      obtain ⟨q', hq', rfl⟩ := Option.map_eq_some_iff.1 h
      obtain ⟨u, hu, ru⟩ := look hx hxo
      obtain ⟨v, hv, rv⟩ := look hy hyo
      obtain rfl := ru.bool_inv
      obtain rfl := rv.bool_inv
      exact key (x := .tup []) (y := .tup []) hti rfl hu hv (run_equalIn_bool' w d f.type a b (tinf_spec hti).1) hq' rfl
    · rename_i _ _ _ a b hti hxo hyo
      obtain ⟨q', hq', rfl⟩ := Option.map_eq_some_iff.1 h
      obtain ⟨u, hu, ru⟩ := look hx hxo
      obtain ⟨v, hv, rv⟩ := look hy hyo
      obtain rfl := ru.str_inv
      obtain rfl := rv.str_inv
      exact key (x := .tup []) (y := .tup []) hti rfl hu hv (by have := run_equalIn_string (P := P) w d f.type ⟨⟨a⟩⟩ ⟨⟨b⟩⟩ (tinf_spec hti).1; rw [toList_mk, toList_mk] at this; exact this) hq' rfl
    · cases h

theorem aEqR_ok {P : Program} {w : World} {σ : St} {m : AM} {op : BinOp} {r : Bool} {av : AV} (h : aEqR op r = some av) {s : Sem Value}
    (he : op = .eql → s.run P w = .ok (.bool r) w) (hn : op = .neq → s.run P w = .ok (.bool (!r)) w) : ∃ cv, s.run P w = .ok cv w ∧ R σ m w cv av := by
  cases op <;> simp only [aEqR] at h
  all_goals try (cases h; done)
  all_goals cases h
  · exact ⟨_, he rfl, .bool _⟩
  · exact ⟨_, hn rfl, .bool _⟩

theorem R.nilIface_inv {σ : St} {m : AM} {w : World} {v : Value} {u : Value} (h : R σ m w v (.d (.cst u))) : v = u := by
  cases h with
  | d v x hd => cases hd; rfl
theorem R.nilsl_inv {σ : St} {m : AM} {w : World} {v : Value} (h : R σ m w v (.d .nilsl)) : v = .slice none 0 0 := by
  cases h with
  | d v x hd => cases hd; rfl

theorem run_equalIn_nilsl {P : Program} (w : World) (d : Nat) {t e : TypeId} (h : P.underlying t = some (.slice e)) : (Op.equalIn (d + 1) t (.slice none 0 0) (.slice none 0 0)).run P w = .ok true w := by
  simp only [Op.equalIn, Sem.run_bind, run_underlying h, Result.andThen_ok]
  rfl
theorem run_equal_nilsl {P : Program} (w : World) {t e : TypeId} (h : P.underlying t = some (.slice e)) : (Op.equal t (.slice none 0 0) (.slice none 0 0)).run P w = .ok true w := run_equalIn_nilsl w 9999 h
theorem run_equalIn_ifc {P : Program} (w : World) (d : Nat) {t : TypeId} {ms : Array (String × TypeId)} (h : P.underlying t = some (.interface ms)) (u : TypeId) (v : Value) : (Op.equalIn (d + 1) t (.iface u v) .nilIface).run P w = .ok false w := by
  simp only [Op.equalIn, Sem.run_bind, run_underlying h, Result.andThen_ok]
  rfl
theorem run_equal_ifc {P : Program} (w : World) {t : TypeId} {ms : Array (String × TypeId)} (h : P.underlying t = some (.interface ms)) (u : TypeId) (v : Value) : (Op.equal t (.iface u v) .nilIface).run P w = .ok false w := run_equalIn_ifc w 9999 h u v
theorem run_equalIn_nilIface {P : Program} (w : World) (d : Nat) {t : TypeId} {ms : Array (String × TypeId)} (h : P.underlying t = some (.interface ms)) : (Op.equalIn (d + 1) t .nilIface .nilIface).run P w = .ok true w := by
  simp only [Op.equalIn, Sem.run_bind, run_underlying h, Result.andThen_ok]
  rfl
theorem run_equal_nilIface {P : Program} (w : World) {t : TypeId} {ms : Array (String × TypeId)} (h : P.underlying t = some (.interface ms)) : (Op.equal t .nilIface .nilIface).run P w = .ok true w := run_equalIn_nilIface w 9999 h

theorem R.cst_inv {σ : St} {m : AM} {w : World} {v u : Value} (h : R σ m w v (.d (.cst u))) : v = u := by
  cases h with
  | d v x hd => cases hd; rfl
theorem eqGuard_at_ptr (op : BinOp) (t : TypeId) (xo yo : Operand) (a b : Option Addr) : eqGuard op t xo yo (.pointer a) (.pointer b) = Pure.pure () := by
  unfold eqGuard
  cases op <;> rfl
theorem run_equal_ptr_nil {P : Program} (w : World) {t e : TypeId} {a : Addr} (h : P.underlying t = some (.pointer e)) : (Op.equal t (.pointer (some a)) (.pointer none)).run P w = .ok false w := by
  have k : ∀ d : Nat, (Op.equalIn (d + 1) t (.pointer (some a)) (.pointer none)).run P w = .ok false w := fun d => by simp [Op.equalIn, run_underlying h]
  exact k 9999
theorem run_equal_nil_nil {P : Program} (w : World) {t e : TypeId} (h : P.underlying t = some (.pointer e)) : (Op.equal t (.pointer none) (.pointer none)).run P w = .ok true w := by
  have k : ∀ d : Nat, (Op.equalIn (d + 1) t (.pointer none) (.pointer none)).run P w = .ok true w := fun d => by simp [Op.equalIn, run_underlying h]
  exact k 9999
theorem run_equal_ptr_same {P : Program} (w : World) {t e : TypeId} {i : TypeInfo} {a : Addr} (h : P.underlying t = some (.pointer e)) (he : P.info? e = some i) : (Op.equal t (.pointer (some a)) (.pointer (some a))).run P w = .ok true w := by
  have k : ∀ d : Nat, (Op.equalIn (d + 1) t (.pointer (some a)) (.pointer (some a))).run P w = .ok true w := fun d => by simp [Op.equalIn, run_underlying h, sizeOf, typeInfo, he, run_sameAddr_same]
  exact k 9999

theorem aBin_ok {P : Program} {σ : St} {m : AM} {w : World} {op : BinOp} {t : TypeId} {xo yo : Operand} {x y av : AV} {xv yv : Value} (hs : Sim σ m w) (hx : R σ m w xv x) (hy : R σ m w yv y) (h : aBin P op t xo yo x y = some av) :
    VOK P (do eqGuard op t xo yo xv yv; binOp op t xv yv) σ m w av m := by
  suffices h' : ∃ cv, (do eqGuard op t xo yo xv yv; binOp op t xv yv : Sem Value).run P w = .ok cv w ∧ R σ m w cv av by
    obtain ⟨cv, h1, h2⟩ := h'
    exact VOK.pure hs h1 h2
  unfold aBin at h
  split at h
  · rename_i k a k' b
    obtain rfl := hx.int_inv
    obtain rfl := hy.int_inv
    split at h
    · exact aShift_ok h
    · exact aShift_ok h
    · split at h
      · rename_i hk
        subst hk
        exact aInt_ok h
      · cases h
  · obtain rfl := hx.bool_inv
    obtain rfl := hy.bool_inv
    split at h
    · rename_i hti
      rw [eqGuard_at_bool]
      refine aEqR_ok h (fun e => ?_) (fun e => ?_)
      · subst e; exact run_eql_bool w t _ _ (tinf_spec hti).1
      · subst e; exact run_neq_bool w t _ _ (tinf_spec hti).1
    · cases h
  · obtain rfl := hx.str_inv
    obtain rfl := hy.str_inv
    exact aStr_ok h
  · rename_i xs ys
    split at h
    · rename_i hok
      split at h
      · rename_i fs _ _ _ hti
        obtain ⟨r, hr, h⟩ := Option.bind_eq_some_iff.1 h
        cases hx
        rename_i vs hvl hvr
        cases hy
        rename_i us hul hur
        obtain ⟨h1, i, h2, h3, h4, h5⟩ := tinf_spec hti
        simp only [eqOkB, Bool.and_eq_true, Bool.not_eq_true'] at hok
        have hf : P.fieldsOf t = fs := by
          unfold Program.fieldsOf
          simp [h1]
        have hu : P.underlying t = some (.struct (P.fieldsOf t)) := by rw [hf]; exact h1
        have hg := run_eqGuard_agg (P := P) w op t xo yo ⟨vs⟩ ⟨us⟩ hok.2
        have he : (Op.equalIn 10000 t (.agg ⟨vs⟩) (.agg ⟨us⟩)).run P w = .ok r w := by
          rw [run_equalIn_struct w 9999 t ⟨vs⟩ ⟨us⟩ hu hok.1, hf]
          exact aEqFields_ok (d := 9998) ⟨hvl, hvr⟩ ⟨hul, hur⟩ _ _ hr
        refine aEqR_ok h (fun e => ?_) (fun e => ?_)
        · subst e; rw [Sem.run_bind, hg, Result.andThen_ok, run_eql_struct, he, Result.andThen_ok]
        · subst e; rw [Sem.run_bind, hg, Result.andThen_ok, run_neq_struct, he, Result.andThen_ok]
      · cases h
    · cases h
  · obtain rfl := hx.nilsl_inv
    obtain rfl := hy.nilsl_inv
    split at h
    · rename_i hti
      rw [eqGuard_at_slice]
      obtain ⟨h1, _⟩ := tinf_spec hti
      refine aEqR_ok h (fun e => ?_) (fun e => ?_)
      · subst e; simp only [binOp, pure_bind, Sem.run_bind, run_equal_nilsl w h1, Result.andThen_ok, Sem.run_pure]
      · subst e; simp only [binOp, pure_bind, Sem.run_bind, run_equal_nilsl w h1, Result.andThen_ok, Sem.run_pure]
    · cases h
  · obtain rfl := hy.nilIface_inv
    cases hx
    split at h
    · rename_i hti
      rw [eqGuard_at_iface]
      obtain ⟨h1, _⟩ := tinf_spec hti
      refine aEqR_ok h (fun e => ?_) (fun e => ?_)
      · subst e; simp only [binOp, pure_bind, Sem.run_bind, run_equal_ifc w h1, Result.andThen_ok, Sem.run_pure]
      · subst e; simp only [binOp, pure_bind, Sem.run_bind, run_equal_ifc w h1, Result.andThen_ok, Sem.run_pure]
    · cases h
  · obtain rfl := hx.nilIface_inv
    obtain rfl := hy.nilIface_inv
    split at h
    · rename_i hti
      split at h
      · rename_i hc
        have hg : eqGuard op t xo yo .nilIface .nilIface = Pure.pure () := by
          cases xo <;> cases yo <;> first | (simp [isConst] at hc; done) | exact eqGuard_nil_constL .. | exact eqGuard_nil_constR ..
        rw [hg]
        obtain ⟨h1, _⟩ := tinf_spec hti
        refine aEqR_ok h (fun e => ?_) (fun e => ?_)
        · subst e; simp only [binOp, pure_bind, Sem.run_bind, run_equal_nilIface w h1, Result.andThen_ok, Sem.run_pure]
        · subst e; simp only [binOp, pure_bind, Sem.run_bind, run_equal_nilIface w h1, Result.andThen_ok, Sem.run_pure]
      · cases h
    · cases h
  · cases hx
    obtain rfl := R.cst_inv hy
    split at h
    · rename_i hti
      obtain ⟨h1, _⟩ := tinf_spec hti
      rw [eqGuard_at_ptr]
      refine aEqR_ok h (fun e => ?_) (fun e => ?_)
      · subst e; simp only [binOp, pure_bind, Sem.run_bind, run_equal_ptr_nil w h1, Result.andThen_ok, Sem.run_pure]
      · subst e; simp only [binOp, pure_bind, Sem.run_bind, run_equal_ptr_nil w h1, Result.andThen_ok, Sem.run_pure]
    · cases h
  · obtain rfl := R.cst_inv hx
    obtain rfl := R.cst_inv hy
    split at h
    · rename_i hti
      obtain ⟨h1, _⟩ := tinf_spec hti
      rw [eqGuard_at_ptr]
      refine aEqR_ok h (fun e => ?_) (fun e => ?_)
      · subst e; simp only [binOp, pure_bind, Sem.run_bind, run_equal_nil_nil w h1, Result.andThen_ok, Sem.run_pure]
      · subst e; simp only [binOp, pure_bind, Sem.run_bind, run_equal_nil_nil w h1, Result.andThen_ok, Sem.run_pure]
    · cases h
  · cases hx
    cases hy
    split at h
    · rename_i hti
      obtain ⟨h1, _⟩ := tinf_spec hti
      split at h
      · rename_i te hte
        obtain ⟨e1, i, e2, _⟩ := tinf_spec hte
        split at h
        · rename_i hc
          obtain ⟨rfl, rfl⟩ := hc
          rw [eqGuard_at_ptr]
          refine aEqR_ok h (fun e => ?_) (fun e => ?_)
          · subst e; simp only [binOp, pure_bind, Sem.run_bind, run_equal_ptr_same w h1 e2, Result.andThen_ok, Sem.run_pure]
          · subst e; simp only [binOp, pure_bind, Sem.run_bind, run_equal_ptr_same w h1 e2, Result.andThen_ok, Sem.run_pure]
        · cases h
      · cases h
    · cases h
  · cases h

def aUn (op : UnOp) (x : AV) : Option AV :=
  match op, x with
  | .not, .d (.bool b) => some (.d (.bool (!b)))
  | .neg, .d (.int k n) => some (.d (.int k (k.wrap (0 - n))))
  | .xor, .d (.int k n) => some (.d (.int k (bits .xor k (if k.signed then -1 else k.max) n)))
  | _, _ => none

theorem aUn_ok {P : Program} {σ : St} {m : AM} {w : World} {op : UnOp} {x av : AV} {xv : Value} (hs : Sim σ m w) (hx : R σ m w xv x) (h : aUn op x = some av) : VOK P (Op.unary op xv) σ m w av m := by
  unfold aUn at h
  split at h
  · cases h; obtain rfl := hx.bool_inv; exact VOK.pure hs rfl (.bool _)
  · cases h; obtain rfl := hx.int_inv; exact VOK.pure hs rfl (.int _ _)
  · cases h; obtain rfl := hx.int_inv; exact VOK.pure hs rfl (.int _ _)
  · cases h

/-! ### conversions -/
def rowsBytes : List (List D) → Option (List UInt8)
  | [] => some []
  | [.int .u8 n] :: t => (rowsBytes t).map (UInt8.ofNat n.toNat :: ·)
  | _ :: _ => none

def cellsBytes : List AV → Option (List UInt8)
  | [] => some []
  | .d (.int .u8 n) :: t => (cellsBytes t).map (UInt8.ofNat n.toNat :: ·)
  | _ :: _ => none

/-- Does a variable of the type 'u' lie there. -/
def liesB (P : Program) (ty : TypeId) (len off : Nat) (u : TypeId) : Bool := liesAt P P.depth ty (len / P.cellsOf ty) off u 1

theorem shape_cells {σ : St} {m : AM} {w : World} (hs : Sim σ m w) {n : Nat} {ty : TypeId} {cs : List AV} (h : m.get n = some (.cells ty cs)) : w.shape? (σ.ρ n) = some (ty, cs.length) := by
  obtain ⟨_, vs, h1, h2, _⟩ := hs.ok n _ h
  simp [World.shape?, h1, h2]

def aConv (P : Program) (src dst : TypeId) (x : AV) (m : AM) : Option AV :=
  match tinf P src, tinf P dst with
  | some ts, some td =>
    match td.desc, x with
    | .unsafePointer, .ptr n off =>
      match ts.desc with
      | .pointer e =>
        match tinf P e, m.get n with
        | some te, some (.cells _ cs) => if te.size ≠ 0 ∧ off < cs.length then some (.ptr n off) else none
        | _, _ => none
      | _ => none
    | .pointer u, .ptr n off =>
      match ts.desc with
      | .unsafePointer =>
        match tinf P u, m.get n with
        | some _, some (.cells ty cs) => if liesB P ty cs.length off u = true then some (.ptr n off) else none
        | _, _ => none
      | _ => none
    | .int k, .d (.int _ n) => some (.d (.int k (k.wrap n)))
    | .string, .d (.str s) => some (.d (.str s))
    | .string, x =>
      match ts.desc with
      | .slice e =>
        match tinf P e with
        | some { desc := .int .u8, .. } =>
          match x with
          | .lsl n off len _ =>
            match m.get n with
            | some (.cells _ cs) => if off + len ≤ cs.length then (cellsBytes ((cs.drop off).take len)).map fun s => .d (.str s) else none
            | _ => none
          | .d .nilsl => some (.d (.str []))
          | x =>
            match x.rows with
            | some (1, rows) => (rowsBytes rows).map fun s => .d (.str s)
            | _ => none
        | _ => none
      | _ => none
    | _, _ => none
  | _, _ => none

theorem rowsBytes_spec : ∀ (rows : List (List D)) (s : List UInt8), rowsBytes rows = some s → ∃ xs : List Int, rows = xs.map (fun n => [D.int .u8 n]) ∧ s = xs.map fun n => UInt8.ofNat n.toNat
  | [], s, h => by cases h; exact ⟨[], rfl, rfl⟩
  | r :: t, s, h => by
    unfold rowsBytes at h
    split at h
    · rename_i heq; cases heq
    · rename_i n t' heq
      cases heq
      obtain ⟨s', h', rfl⟩ := Option.map_eq_some_iff.1 h
      obtain ⟨xs, h1, h2⟩ := rowsBytes_spec t s' h'
      exact ⟨n :: xs, by simp [h1], by simp [h2]⟩
    · cases h

theorem cellsBytes_spec : ∀ (cs : List AV) (s : List UInt8), cellsBytes cs = some s → ∃ xs : List Int, cs = xs.map (fun n => AV.d (.int .u8 n)) ∧ s = xs.map fun n => UInt8.ofNat n.toNat
  | [], s, h => by cases h; exact ⟨[], rfl, rfl⟩
  | r :: t, s, h => by
    unfold cellsBytes at h
    split at h
    · rename_i heq; cases heq
    · rename_i n t' heq
      cases heq
      obtain ⟨s', h', rfl⟩ := Option.map_eq_some_iff.1 h
      obtain ⟨xs, h1, h2⟩ := cellsBytes_spec t s' h'
      exact ⟨n :: xs, by simp [h1], by simp [h2]⟩
    · cases h

theorem strOfNums_mk (xs : List Int) : strOfNums xs = ByteArray.mk ⟨xs.map fun n => UInt8.ofNat n.toNat⟩ := by
  unfold strOfNums
  rfl

theorem aConv_ok {P : Program} {σ : St} {m : AM} {w : World} {src dst : TypeId} {x av : AV} {xv : Value} (hs : Sim σ m w) (hx : R σ m w xv x) (h : aConv P src dst x m = some av) : VOK P (convert src dst xv) σ m w av m := by
  unfold aConv at h
  split at h
  · rename_i ts td hts htd
    obtain ⟨s1, si, s2, s3, s4, s5⟩ := tinf_spec hts
    obtain ⟨d1, di, d2, d3, d4, d5⟩ := tinf_spec htd
    split at h
    · rename_i n off hk
      rw [hk] at d1
      cases hx
      split at h
      · rename_i e he
        rw [he] at s1
        split at h
        · rename_i te ty cs hte hg
          split at h
          · rename_i hc
            cases h
            obtain ⟨e1, ei, e2, e3, _⟩ := tinf_spec hte
            exact VOK.pure hs (Lib.run_to_unsafe w _ s1 d1 e2 (by rw [e3]; exact hc.1) (shape_cells hs hg) hc.2) (.ptr n off (AM.get_lt _ _ _ hg))
          · cases h
        · cases h
      · cases h
    · rename_i u n off hk
      rw [hk] at d1
      cases hx
      split at h
      · rename_i he
        rw [he] at s1
        split at h
        · rename_i tu ty cs htu hg
          split at h
          · rename_i hc
            cases h
            obtain ⟨e1, ei, e2, e3, _⟩ := tinf_spec htu
            exact VOK.pure hs (Lib.run_from_unsafe w _ s1 d1 e2 (shape_cells hs hg) hc) (.ptr n off (AM.get_lt _ _ _ hg))
          · cases h
        · cases h
      · cases h
    · rename_i k n hk
      cases h
      obtain rfl := hx.int_inv
      rw [hk] at d1
      exact VOK.pure hs (by simp [convert, run_underlying s1, run_underlying d1, Conv.intToInt]) (.int _ _)
    · rename_i s hk
      cases h
      obtain rfl := hx.str_inv
      rw [hk] at d1
      exact VOK.pure hs (by simp [convert, run_underlying s1, run_underlying d1]) (.str _)
    · rename_i x hk _
      rw [hk] at d1
      split at h
      · rename_i e he
        rw [he] at s1
        split at h
        · rename_i hte
          obtain ⟨e1, _⟩ := tinf_spec hte
          split at h
          · rename_i n off len cap _
            split at h
            · rename_i ty cs hg
              split at h
              · rename_i hlen
                obtain ⟨s, hsb, rfl⟩ := Option.map_eq_some_iff.1 h
                obtain ⟨xs, hxs, rfl⟩ := cellsBytes_spec _ _ hsb
                cases hx
                rename_i hn
                obtain ⟨_, vs, hh, hl, hr⟩ := hs.ok n _ hg
                have hxl : xs.length = len := by
                  have := congrArg List.length hxs
                  simp at this
                  omega
                have hcell : ∀ i, i < len → w.cell? ⟨σ.ρ n, off + i, none⟩ = some (.int .u8 (xs.getD i 0)) := by
                  intro i hi
                  have h1 : cs[off + i]? = some (.d (.int .u8 (xs.getD i 0))) := by
                    have := congrArg (fun l => l[i]?) hxs
                    simp only [List.getElem?_take, List.getElem?_drop, if_pos hi, List.getElem?_map] at this
                    rw [this, getD_some xs i 0 (by omega)]
                    rfl
                  have hlt : off + i < vs.length := by omega
                  have h2 := hr (off + i) vs[off + i] _ (by simp [hlt]) h1
                  simp [World.cell?, hh, hlt, h2.int_inv]
                have := run_convert_bytes_arg (P := P) w src e s1 e1 (σ.ρ n) off len cap xs hxl hcell dst d1
                rw [strOfNums_mk] at this
                exact VOK.pure hs this (.str _)
              · cases h
            · cases h
          · cases h
            obtain rfl := hx.nilsl_inv
            exact VOK.pure hs (run_convert_bytes_nil w src e s1 e1 0 0 dst d1) (.str [])
          · split at h
            · rename_i rows hrows
              obtain ⟨s, hsb, rfl⟩ := Option.map_eq_some_iff.1 h
              obtain ⟨xs, rfl, rfl⟩ := rowsBytes_spec _ _ hsb
              obtain ⟨A, cap, rfl, _, _, hh⟩ := (hx.rows hrows).sl_inv
              rcases hh with h0 | ⟨b, o, cv, rfl, hrow, hc, hrd⟩
              · obtain rfl : xs = [] := by simpa using h0
                cases A with
                | none => exact VOK.pure hs (run_convert_bytes_nil w src e s1 e1 _ _ dst d1) (.str [])
                | some a =>
                  obtain ⟨b, o, sp⟩ := a
                  refine VOK.pure hs ?_ (.str [])
                  rw [run_convert_bytes_string w src dst e _ _ _ s1 e1 d1]
                  simp [Conv.bytesToString, loadCells, loadCellsFrom]
                  rfl
              · have hcell : ∀ i, i < (xs.map fun n => [D.int .u8 n]).length → w.cell? ⟨b, o + i, none⟩ = some (.int .u8 (xs.getD i 0)) := by
                  intro i hi
                  have h1 : (xs.map fun n => [D.int .u8 n])[i]? = some [D.int .u8 (xs.getD i 0)] := by
                    simp at hi
                    rw [List.getElem?_map, getD_some xs i 0 hi]
                    rfl
                  have h2 := (hc i 0 _ _ h1 rfl).2
                  have h3 := hrd i 0 _ _ h1 rfl
                  simp only [Nat.mul_one, Nat.add_zero] at h2
                  generalize cv i 0 = q at h2 h3
                  cases h3
                  exact h2
                have := run_convert_bytes_arg (P := P) w src e s1 e1 b o _ cap xs (by simp) hcell dst d1
                rw [strOfNums_mk] at this
                exact VOK.pure hs this (.str _)
            · cases h
        · cases h
      · cases h
    · cases h
  · cases h

end Go.Ab
