/- Lemmas on an abstract memory that stands for the worlds of the model: no condition. -/
import Derived.Test.YtbdefaebbicfjaaGreatA2
import Derived.Maps.AppendAt
import Derived.Lib.AppendStr
import Derived.Lib.UnsafeStr
import Derived.Laws.MakeOwn
set_option linter.all false
/- The abstract append: rows that grow. -/
namespace Go.Ab
open Go.RowKit

def newRows (size : Nat) (x : AV) : Option (List (List D)) :=
  match x with
  | .d .nilsl => some []
  | x => match x.rows with
    | some (sz, rows) => if sz = size then some rows else none
    | none => none

/-- A source of an append: no row, or a row of cells that read as data. -/
theorem newRows_ok {σ : St} {m : AM} {w : World} {size : Nat} {x : AV} {xv : Value} {new : List (List D)} (hx : R σ m w xv x) (h : newRows size x = some new) :
    (new = [] ∧ ∃ A c, xv = .slice A 0 c) ∨ ∃ (a : Addr) (c : Nat) (news : List Value), xv = .slice (some a) new.length c ∧ new ≠ [] ∧ (∀ r ∈ new, r.length = size) ∧ news.length = new.length * size ∧
      (∀ j u, news[j]? = some u → w.cell? (a.add j) = some u) ∧ (∀ u ∈ news, u.oneCell' = true) ∧
      (∀ (i j : Nat) row y, new[i]? = some row → row[j]? = some y → ∃ u, news[i * size + j]? = some u ∧ RD (Imm σ m w) w u y) := by
  unfold newRows at h
  split at h
  · cases h
    obtain rfl := hx.nilsl_inv
    exact .inl ⟨rfl, _, _, rfl⟩
  · split at h
    · rename_i sz rows hrows
      split at h
      · rename_i hsz
        subst hsz
        cases h
        obtain ⟨A, cap, rfl, _, _, hq⟩ := (hx.rows hrows).sl_inv
        by_cases h0 : new = []
        · subst h0; exact .inl ⟨rfl, _, _, rfl⟩
        rcases hq with rfl | ⟨b, o, cv, rfl, hrow, hc, hrd⟩
        · exact absurd rfl h0
        refine .inr ⟨_, cap, (List.range (new.length * sz)).map fun q => cv (q / sz) (q % sz), rfl, h0, hrow, by simp, ?_, ?_, ?_⟩
        · intro j u hj
          simp only [List.getElem?_map, Option.map_eq_some_iff] at hj
          obtain ⟨q, hq, rfl⟩ := hj
          obtain ⟨hlt, hqe⟩ := List.getElem?_eq_some_iff.1 hq
          simp at hlt hqe
          subst hqe
          have hs0 : 0 < sz := by
            rcases Nat.eq_zero_or_pos sz with h | h
            · subst h; simp at hlt
            · exact h
          have hi : j / sz < new.length := Nat.div_lt_of_lt_mul (by rw [Nat.mul_comm]; exact hlt)
          have hm := Nat.mod_lt j hs0
          have h1 := getD_some new (j / sz) [] hi
          have hrl := hrow _ (List.mem_of_getElem? h1)
          have h2 : (new.getD (j / sz) [])[j % sz]? = some ((new.getD (j / sz) [])[j % sz]'(by omega)) := by simp
          have := (hc _ _ _ _ h1 h2).2
          rw [Nat.mul_comm, Nat.div_add_mod] at this
          rw [add_lit']
          exact this
        · intro u hu
          simp only [List.mem_map, List.mem_range] at hu
          obtain ⟨q, hlt, rfl⟩ := hu
          have hs0 : 0 < sz := by
            rcases Nat.eq_zero_or_pos sz with h | h
            · subst h; simp at hlt
            · exact h
          have hi : q / sz < new.length := Nat.div_lt_of_lt_mul (by rw [Nat.mul_comm]; exact hlt)
          have hm := Nat.mod_lt q hs0
          have h1 := getD_some new (q / sz) [] hi
          have hrl := hrow _ (List.mem_of_getElem? h1)
          have h2 : (new.getD (q / sz) [])[q % sz]? = some ((new.getD (q / sz) [])[q % sz]'(by omega)) := by simp
          have h3 := hrd _ _ _ _ h1 h2
          exact (R.d (σ := σ) (m := m) (w := w) _ _ h3).oneCell rfl
        · intro i j row y hi hj
          have hrl := hrow _ (List.mem_of_getElem? hi)
          have hjl : j < sz := by rw [← hrl]; exact (List.getElem?_eq_some_iff.1 hj).1
          have hil : i < new.length := (List.getElem?_eq_some_iff.1 hi).1
          have hlt : i * sz + j < new.length * sz := by
            have : (i + 1) * sz ≤ new.length * sz := Nat.mul_le_mul_right _ (by omega)
            rw [Nat.succ_mul] at this
            omega
          refine ⟨_, by rw [List.getElem?_map, List.getElem?_eq_getElem (by simpa using hlt)]; rfl, ?_⟩
          simp only [List.getElem_range]
          have hd : (i * sz + j) / sz = i := by
            rw [Nat.mul_comm, Nat.mul_add_div (by omega), Nat.div_eq_of_lt hjl]; rfl
          have hm : (i * sz + j) % sz = j := by
            rw [Nat.mul_comm, Nat.mul_add_mod, Nat.mod_eq_of_lt hjl]
          rw [hd, hm]
          exact hrd i j row y hi hj
      · cases h
    · cases h

def aAppend (P : Program) (ts : List TypeId) (s x : AV) (m : AM) : ARes :=
  match ts with
  | [t, t'] =>
    if t = t' then
      match tinf P t with
      | some { desc := .slice e, .. } =>
        match tinf P e with
        | some te =>
          match s, newRows te.size x with
          | .gsl n sz rows, some new =>
            match m.get n with
            | some (.grow e' sz' k) =>
              if e' = e ∧ sz' = te.size ∧ sz = te.size ∧ k = rows.length ∧ 0 < te.size ∧ 0 < te.bytes ∧ te.zero.map (·.cells.size) = some te.size ∧ (rows.length + new.length) * te.bytes ≤ 140737488355328 then
                .val (.gsl n sz (rows ++ new)) (m.set n (some (.grow e sz (k + new.length))))
              else .bad
            | _ => .bad
          | _, _ => .bad
        | none => .bad
      | _ => .bad
    else .bad
  | _ => .bad

theorem run_append_zero {P : Program} (w : World) (t ty e : TypeId) (i : TypeInfo) (ht : P.underlying t = some (.slice e)) (hi : P.info? e = some i) (base : Option Addr) (n cap : Nat) (h : n ≤ cap) (A : Option Addr) (c : Nat) :
    (Builtin.append_ #[t, t] ty #[.slice base n cap, .slice A 0 c]).run P w = .ok (.slice base n cap) w := by
  cases A <;> cases base <;> simp [Builtin.append_, run_underlying ht, sizeOf, typeInfo, hi, Builtin.lenOf, Builtin.firstCells, loadCells, loadCellsFrom, h, storeCells]

/-- What the call owns, as the abstract memory has it. -/
theorem grow_owns {σ : St} {m : AM} {w : World} (hs : Sim σ m w) {n : Nat} {e : TypeId} {sz k : Nat} (hg : m.get n = some (.grow e sz k)) {v : Value} (hv : HandleOK e sz w (σ.γ n) k v) :
    ∃ xs, w.ownsRow 0 e sz v k xs := by
  rcases hs.ok n _ hg with ⟨h1, h2⟩ | ⟨g, cap, cur, h1, h2, h3, h4, h5⟩
  · rw [h1] at hv
    obtain ⟨rfl, rfl⟩ := hv
    exact ⟨[], World.ownsRow_nil w 0 e sz⟩
  · rw [h1] at hv
    simp only [HandleOK] at hv
    subst hv
    refine ⟨cur.toList.take (k * sz), ?_, .inr ⟨g, cap, cur, rfl, Nat.zero_le _, h2, h3, h4, h5, rfl⟩⟩
    have : k * sz ≤ cap * sz := Nat.mul_le_mul_right _ h3
    simp
    omega

def St.handle (σ : St) (n : Nat) (h : Option (Nat × Nat)) : St := { σ with γ := fun k => if k = n then h else σ.γ k }

/-- An append of at least one row: into the row's own spare places, or into a new block, all else as it lay. -/
theorem run_append_gsl {P : Program} (w : World) (t ty e : TypeId) (i : TypeInfo) (z : Value) (ht : P.underlying t = some (.slice e)) (hi : P.info? e = some i) (hz : i.zero = some z)
    (hzs : z.cells.size = i.size) (hsz : 0 < i.size) (v : Value) (n : Nat) (xs : List Value) (hown : w.ownsRow 0 e i.size v n xs)
    (a : Addr) (m c : Nat) (news : List Value) (hl : news.length = m * i.size) (hnews : ∀ j u, news[j]? = some u → w.cell? (a.add j) = some u) (h1 : ∀ u ∈ news, u.oneCell' = true)
    (hm0 : 0 < m) (h63 : n + m ≤ maxLen) (hbytes : (n + m) * i.bytes ≤ 140737488355328) :
    ∃ v' w', (Builtin.append_ #[t, t] ty #[v, .slice (some a) m c]).run P w = .ok v' w' ∧ w'.ownsRow 0 e i.size v' (n + m) (xs ++ news) ∧
      ((v'.ownBlock = v.ownBlock ∧ w.grownBy w' v.ownBlock) ∨ (v'.ownBlock = some w.heap.size ∧ w.grownBy w' none)) := by
  have h63' : n + m ≤ 9223372036854775807 := by simp only [maxLen] at h63; omega
  have hlen : (xs ++ news).length = (n + m) * i.size := by rw [List.length_append, hown.1, hl, Nat.add_mul]
  have laid : ∀ (C : Array Value) (cap : Nat), n + m ≤ cap → cap ≤ maxLen → C.size = cap * i.size → C.toList.take ((n + m) * i.size) = xs ++ news →
      (w.drew.alloc (.cells C e)).ownsRow 0 e i.size (.slice (some ⟨w.heap.size, 0, none⟩) (n + m) cap) (n + m) (xs ++ news) ∧ w.grownBy (w.drew.alloc (.cells C e)) none :=
    fun C cap q1 q2 q3 q4 => ⟨⟨hlen, .inr ⟨w.heap.size, cap, C, rfl, Nat.zero_le _, heap_alloc_new w.drew _, q1, q2, q3, q4⟩⟩, ⟨rfl, rfl, rfl, by simp, fun k hk _ => Below.heap_alloc w.drew _ k hk⟩⟩
  rcases hown.2 with ⟨rfl, rfl⟩ | ⟨g, cap, cur, rfl, _, hg, hnc, hcm, hcs, htake⟩
  · obtain rfl : xs = [] := List.eq_nil_of_length_eq_zero (by simpa using hown.1)
    have hr := run_append_nil (P := P) w t ty e i z ht hi hz a m c news hl hnews hm0 (by omega) (by have := hbytes; simp only [Nat.zero_add] at this; omega)
    have hge := grownCap_ge w m 0 e
    have hcm := grownCap_le_maxLen w m 0 e (by simpa using h63)
    obtain ⟨q1, q2⟩ := laid (news.toArray ++ Builtin.zeroCells z.cells (grownCap w m 0 e - m)) (grownCap w m 0 e) (by omega) hcm (by
      simp only [Array.size_append, List.size_toArray, size_zeroCells, hzs, hl, ← Nat.add_mul]
      congr 1
      omega) (by
      simp only [Array.toList_append, Nat.zero_add, List.nil_append]
      rw [← hl]
      exact List.take_left)
    simp only [Nat.zero_add] at q1 ⊢
    exact ⟨_, _, hr, q1, .inr ⟨rfl, q2⟩⟩
  · by_cases hroom : n + m ≤ cap
    · have hfit : n * i.size + news.length ≤ cur.size := by rw [hl, hcs, ← Nat.add_mul]; exact Nat.mul_le_mul_right _ hroom
      have hr := run_append_room (P := P) w t ty e i ht hi g n cap cur hg a m c news hl hnews h1 hroom hfit
      refine ⟨_, _, hr, ⟨hlen, .inr ⟨g, cap, _, rfl, Nat.zero_le _, setRow_heap w g cur _ e _ hg, hroom, hcm, ?_, ?_⟩⟩, .inl ⟨rfl, ⟨rfl, rfl, rfl, by simp, fun k _ hk => setRow_other w g k _ (fun e => hk (by simp [Value.ownBlock, e]))⟩⟩⟩
      · simp only [List.size_toArray, List.length_append, List.length_take, List.length_drop, Array.length_toList]
        omega
      · rw [htake, ← hlen]
        exact List.take_left
    · have holds : ∀ j u, xs[j]? = some u → w.cell? ((⟨g, 0, none⟩ : Addr).add j) = some u := hown.cells (g := g) rfl
      have hr := run_append_grow (P := P) w t ty e i z ht hi hz ⟨g, 0, none⟩ n cap xs hown.1 holds a m c news hl hnews (by omega) (by omega) (growslice_fits (by omega) hbytes)
      have hge := grownCap_ge w (n + m) cap e
      have hcm' := grownCap_le_maxLen w (n + m) cap e h63
      obtain ⟨q1, q2⟩ := laid (xs.toArray ++ news.toArray ++ Builtin.zeroCells z.cells (grownCap w (n + m) cap e - (n + m))) (grownCap w (n + m) cap e) hge hcm' (by
        simp only [Array.size_append, List.size_toArray, size_zeroCells, hzs, hown.1, hl, ← Nat.add_mul]
        congr 1
        omega) (by
        simp only [Array.toList_append, List.append_assoc]
        rw [← List.append_assoc, ← hlen]
        exact List.take_left)
      exact ⟨_, _, hr, q1, .inr ⟨rfl, q2⟩⟩

/-- A row has grown: the abstract memory and what realises it. -/
theorem grow_step {σ : St} {m : AM} {w : World} (hs : Sim σ m w) {n : Nat} {e : TypeId} {sz k : Nat} (hg : m.get n = some (.grow e sz k)) {sv : Value} (hH : HandleOK e sz w (σ.γ n) k sv) {xs news : List Value}
    (hown : w.ownsRow 0 e sz sv k xs) {v' : Value} {w' : World} {p : Nat} (hp : 0 < p) (hown' : w'.ownsRow 0 e sz v' (k + p) (xs ++ news))
    (hat : (v'.ownBlock = sv.ownBlock ∧ w.grownBy w' sv.ownBlock) ∨ (v'.ownBlock = some w.heap.size ∧ w.grownBy w' none)) :
    ∃ g cap, v' = .slice (some ⟨g, 0, none⟩) (k + p) cap ∧ Ext σ m w (σ.handle n (some (g, cap))) (m.set n (some (.grow e sz (k + p)))) w' ∧ Sim (σ.handle n (some (g, cap))) (m.set n (some (.grow e sz (k + p)))) w' ∧
      (∀ o, o < (k + p) * sz → Imm (σ.handle n (some (g, cap))) (m.set n (some (.grow e sz (k + p)))) w' g o ∧ w'.cell? ⟨g, o, none⟩ = (xs ++ news)[o]?) ∧ k + p ≤ cap ∧ cap ≤ maxLen := by
  have hlt := AM.get_lt _ _ _ hg
  rcases hown'.2 with ⟨_, h0⟩ | ⟨g, cap, cur, rfl, _, q1, q2, q3, q4, q5⟩
  · omega
  refine ⟨g, cap, rfl, ?_⟩
  have hsvblk : sv.ownBlock = blkOf σ n (.grow e sz k) := by
    rcases hs.ok n _ hg with ⟨p1, _⟩ | ⟨g0, cap0, cur0, p1, _⟩
    · rw [p1] at hH
      obtain ⟨_, rfl⟩ := hH
      simp [blkOf, p1, Value.ownBlock]
    · rw [p1] at hH
      simp only [HandleOK] at hH
      subst hH
      simp [blkOf, p1, Value.ownBlock]
  simp only [Value.ownBlock] at hat
  have hgrown : w'.os = w.os ∧ w'.tape = w.tape ∧ w'.output = w.output ∧ w.heap.size ≤ w'.heap.size := by
    rcases hat with ⟨_, h⟩ | ⟨_, h⟩ <;> exact ⟨h.os, h.tape, h.output, h.size⟩
  -- blocks that are not the row's own stay
  have hstay : ∀ b, b < w.heap.size → some b ≠ sv.ownBlock → w'.heap[b]? = w.heap[b]? := by
    intro b hb hne
    rcases hat with ⟨_, h⟩ | ⟨_, h⟩
    · exact h.block b hb hne
    · exact h.block b hb (by simp)
  -- the row's new block is its old one, or new
  have hgg : some g = sv.ownBlock ∨ g = w.heap.size := by
    rcases hat with ⟨h, _⟩ | ⟨h, _⟩
    · exact .inl h
    · injection h with h; exact .inr h
  have hother : ∀ j y b, j ≠ n → m.get j = some y → blkOf σ j y = some b → b ≠ g ∧ some b ≠ sv.ownBlock := by
    intro j y b hj hy hb
    have h1 : some b ≠ sv.ownBlock := by
      intro h
      rw [hsvblk] at h
      exact hj (hs.inj j n y _ b hy hg hb h.symm)
    refine ⟨fun h => ?_, h1⟩
    subst h
    rcases hgg with h | h
    · exact h1 h
    · have := blkOf_lt hs hy hb
      omega
  have hget : ∀ j y, AM.get (m.set n (some (.grow e sz (k + p)))) j = some y → (j = n ∧ y = .grow e sz (k + p)) ∨ (j ≠ n ∧ m.get j = some y) := by
    intro j y hj
    rw [AM.get_set] at hj
    split at hj
    · rename_i h
      cases hj
      exact .inl ⟨h, rfl⟩
    · rename_i h
      exact .inr ⟨h, hj⟩
  have hblk : ∀ j y, j ≠ n → blkOf (σ.handle n (some (g, cap))) j y = blkOf σ j y := by
    intro j y hj
    cases y <;> simp [blkOf, St.handle, hj]
  have hblkn : blkOf (σ.handle n (some (g, cap))) n (.grow e sz (k + p)) = some g := by simp [blkOf, St.handle]
  have hcur : ∀ o, o < (k + p) * sz → w'.cell? ⟨g, o, none⟩ = (xs ++ news)[o]? := by
    intro o ho
    rw [← q5, List.getElem?_take, if_pos ho]
    simp [World.cell?, q1]
  -- cells of the old row below its old end stay
  have hcells : ∀ b o, some b = sv.ownBlock → o < k * sz → w'.cell? ⟨b, o, none⟩ = w.cell? ⟨b, o, none⟩ := by
    intro b o hb ho
    rcases hown.2 with ⟨rfl, h0⟩ | ⟨g0, cap0, cur0, rfl, _, r1, r2, r3, r4, r5⟩
    · cases hb
    · simp only [Value.ownBlock, Option.some.injEq] at hb
      subst hb
      have hw : w.cell? ⟨b, o, none⟩ = xs[o]? := by
        rw [← r5, List.getElem?_take, if_pos ho]
        simp [World.cell?, r1]
      rcases hat with ⟨h, _⟩ | ⟨_, h⟩
      · simp only [Value.ownBlock, Option.some.injEq] at h
        subst h
        rw [hcur o (by rw [Nat.add_mul]; omega), hw, List.getElem?_append_left (by rw [hown.1]; exact ho)]
      · exact World.cell?_of_block (h.block b (Array.getElem?_eq_some_iff.1 r1).1 (by simp))
  have himm : ∀ b o, Imm σ m w b o → Imm (σ.handle n (some (g, cap))) (m.set n (some (.grow e sz (k + p)))) w' b o ∧ w'.cell? ⟨b, o, none⟩ = w.cell? ⟨b, o, none⟩ := by
    intro b o h
    have hmine : some b = sv.ownBlock → o < k * sz := fun hb => h.2 n _ hg (by rw [← hsvblk, ← hb])
    refine ⟨⟨Nat.lt_of_lt_of_le h.1 hgrown.2.2.2, fun j y hj hb => ?_⟩, ?_⟩
    · rcases hget j y hj with ⟨rfl, rfl⟩ | ⟨hjn, hy⟩
      · rw [hblkn] at hb
        injection hb with hb
        subst hb
        rcases hgg with hb | hb
        · have := hmine hb
          show o < (k + p) * sz
          rw [Nat.add_mul]
          omega
        · have := h.1
          omega
      · rw [hblk j y hjn] at hb
        exact h.2 j y hy hb
    · by_cases hb : some b = sv.ownBlock
      · exact hcells b o hb (hmine hb)
      · exact World.cell?_of_block (hstay b h.1 hb)
  have hE : Ext σ m w (σ.handle n (some (g, cap))) (m.set n (some (.grow e sz (k + p)))) w' := by
    refine ⟨hgrown.1, hgrown.2.1, hgrown.2.2.1, hgrown.2.2.2, by rw [AM.length_set]; exact Nat.le_refl _, fun _ _ => rfl, fun j hj e' sz' k' hk => ?_, himm, fun b hb hnl => ⟨fun j y hj hb' => ?_, ?_⟩⟩
    · rcases hget j _ hk with ⟨rfl, hy⟩ | ⟨hjn, hy⟩
      · cases hy
        exact ⟨k, hg, Nat.le_add_right _ _, fun h => by omega⟩
      · exact ⟨k', hy, Nat.le_refl _, fun _ => by simp [St.handle, hjn]⟩
    · rcases hget j y hj with ⟨rfl, rfl⟩ | ⟨hjn, hy⟩
      · rw [hblkn] at hb'
        injection hb' with hb'
        subst hb'
        rcases hgg with h | h
        · exact hnl j _ hg (by rw [← hsvblk, ← h])
        · omega
      · rw [hblk j y hjn] at hb'
        exact hnl j y hy hb'
    · exact hstay b hb (fun h => hnl n _ hg (by rw [← hsvblk, ← h]))
  refine ⟨hE, ⟨fun j y hj => ?_, fun j j' y y' b hj hj' hb hb' => ?_⟩, fun o ho => ⟨⟨(Array.getElem?_eq_some_iff.1 q1).1, fun j y hj hb => ?_⟩, hcur o ho⟩, q2, q3⟩
  · rcases hget j y hj with ⟨rfl, rfl⟩ | ⟨hjn, hy⟩
    · exact .inr ⟨g, cap, cur, by simp [St.handle], q1, q2, q3, q4⟩
    · exact BlkOK.mono_of hE (AM.get_lt _ _ _ hy) (hs.ok j y hy) (fun b hb => hstay b (blkOf_lt hs hy hb) (hother j y b hjn hy hb).2) (fun _ _ _ _ => by simp [St.handle, hjn])
  · rcases hget j y hj with ⟨rfl, rfl⟩ | ⟨hjn, hy⟩
    · rcases hget j' y' hj' with ⟨rfl, rfl⟩ | ⟨hjn', hy'⟩
      · rfl
      · rw [hblkn] at hb
        injection hb with hb
        subst hb
        rw [hblk j' y' hjn'] at hb'
        exact absurd rfl (hother j' y' _ hjn' hy' hb').1
    · rw [hblk j y hjn] at hb
      rcases hget j' y' hj' with ⟨rfl, rfl⟩ | ⟨hjn', hy'⟩
      · rw [hblkn] at hb'
        injection hb' with hb'
        subst hb'
        exact absurd rfl (hother j y _ hjn hy hb).1
      · rw [hblk j' y' hjn'] at hb'
        exact hs.inj j j' y y' b hy hy' hb hb'
  · rcases hget j y hj with ⟨rfl, rfl⟩ | ⟨hjn, hy⟩
    · exact ho
    · rw [hblk j y hjn] at hb
      exact absurd rfl (hother j y _ hjn hy hb).1

/-- Rows have been appended: the value that comes of it. -/
theorem append_fin {P : Program} {s : Sem Value} {σ : St} {m : AM} {w : World} (hs : Sim σ m w) {n : Nat} {e : TypeId} {sz : Nat} {rows new : List (List D)} {sv : Value} (hg : m.get n = some (.grow e sz rows.length)) (hn : n < m.length)
    (hd : RD (Imm σ m w) w sv (.sl sz rows)) (hH : HandleOK e sz w (σ.γ n) rows.length sv) {xs news : List Value} (hown : w.ownsRow 0 e sz sv rows.length xs) (hp : 0 < new.length) (hl : news.length = new.length * sz) (hrw : ∀ r ∈ new, r.length = sz)
    (hrd : ∀ (p q : Nat) row y, new[p]? = some row → row[q]? = some y → ∃ u, news[p * sz + q]? = some u ∧ RD (Imm σ m w) w u y) {v' : Value} {w' : World} (r1 : s.run P w = .ok v' w')
    (r2 : w'.ownsRow 0 e sz v' (rows.length + new.length) (xs ++ news)) (r3 : (v'.ownBlock = sv.ownBlock ∧ w.grownBy w' sv.ownBlock) ∨ (v'.ownBlock = some w.heap.size ∧ w.grownBy w' none)) :
    VOK P s σ m w (.gsl n sz (rows ++ new)) (m.set n (some (.grow e sz (rows.length + new.length)))) := by
  obtain ⟨g, cap, rfl, hE, hS, hcell, hcap1, hcap2⟩ := grow_step hs hg hH hown hp r2 r3
  refine ⟨_, w', _, r1, hE, hS, ?_⟩
  have hrl : ∀ r ∈ rows, r.length = sz := by
    obtain ⟨_, _, _, _, _, hq⟩ := hd.sl_inv
    rcases hq with rfl | ⟨_, _, _, _, hrow, _⟩
    · simp
    · exact hrow
  have hallr : ∀ r ∈ rows ++ new, r.length = sz := by
    intro r hr
    rcases List.mem_append.1 hr with h | h
    · exact hrl r h
    · exact hrw r h
  -- each cell of the old rows, as the row's own
  have hold : ∀ (p q : Nat) row y, rows[p]? = some row → row[q]? = some y → ∃ u, xs[p * sz + q]? = some u ∧ RD (Imm σ m w) w u y := by
    intro p q row y hp' hq'
    obtain ⟨A, cap', hA, _, _, hqq⟩ := hd.sl_inv
    rcases hqq with rfl | ⟨b, o, cv, rfl, hrow, hc, hrd'⟩
    · simp at hp'
    · have hql : q < sz := by rw [← hrow row (List.mem_of_getElem? hp')]; exact (List.getElem?_eq_some_iff.1 hq').1
      have hpl : p < rows.length := (List.getElem?_eq_some_iff.1 hp').1
      have hlt : p * sz + q < rows.length * sz := by
        have : (p + 1) * sz ≤ rows.length * sz := Nat.mul_le_mul_right _ (by omega)
        rw [Nat.succ_mul] at this
        omega
      refine ⟨cv p q, ?_, hrd' p q row y hp' hq'⟩
      have h2 := (hc p q row y hp' hq').2
      rcases hown.2 with ⟨h0, _⟩ | ⟨g0, cap0, cur0, hv0, _, p1, p2, p3, p4, p5⟩
      · rw [hA] at h0; simp at h0
      · rw [hA] at hv0
        simp only [Value.slice.injEq, Option.some.injEq, Addr.mk.injEq] at hv0
        obtain ⟨⟨rfl, rfl, _⟩, _⟩ := hv0
        rw [← p5, List.getElem?_take, if_pos hlt, ← h2]
        simp [World.cell?, p1]
  have hall : ∀ (p q : Nat) row y, (rows ++ new)[p]? = some row → row[q]? = some y → ∃ u, (xs ++ news)[p * sz + q]? = some u ∧ RD (Imm σ m w) w u y := by
    intro p q row y hp' hq'
    by_cases hpl : p < rows.length
    · rw [List.getElem?_append_left hpl] at hp'
      obtain ⟨u, h1', h2'⟩ := hold p q row y hp' hq'
      exact ⟨u, by rw [List.getElem?_append_left (List.getElem?_eq_some_iff.1 h1').1]; exact h1', h2'⟩
    · rw [List.getElem?_append_right (by omega)] at hp'
      obtain ⟨u, h1', h2'⟩ := hrd (p - rows.length) q row y hp' hq'
      refine ⟨u, ?_, h2'⟩
      have hxl := hown.1
      have : p * sz + q = xs.length + ((p - rows.length) * sz + q) := by
        rw [hxl, ← Nat.add_assoc, ← Nat.add_mul]
        congr 2
        omega
      rw [this, List.getElem?_append_right (by omega), Nat.add_sub_cancel_left]
      exact h1'
  have hlen : (rows ++ new).length = rows.length + new.length := List.length_append
  have hRD : RD (Imm (σ.handle n (some (g, cap))) (m.set n (some (.grow e sz (rows.length + new.length)))) w') w' (.slice (some ⟨g, 0, none⟩) (rows.length + new.length) cap) (.sl sz (rows ++ new)) := by
    have hS0 := RD.sl (I := Imm (σ.handle n (some (g, cap))) (m.set n (some (.grow e sz (rows.length + new.length)))) w') (w := w') g 0 cap sz (rows ++ new) (fun p q => (xs ++ news).getD (p * sz + q) (.bool false)) (by rw [hlen]; exact hcap1) hcap2 hallr
    rw [hlen] at hS0
    refine hS0 (fun p q row y hp' hq' => ?_) (fun p q row y hp' hq' => ?_)
    · obtain ⟨u, h1', _⟩ := hall p q row y hp' hq'
      have hlt : p * sz + q < (rows.length + new.length) * sz := by
        have := (List.getElem?_eq_some_iff.1 h1').1
        rw [List.length_append, hown.1, hl, ← Nat.add_mul] at this
        exact this
      obtain ⟨c1', c2'⟩ := hcell _ hlt
      rw [Nat.zero_add]
      refine ⟨c1', ?_⟩
      rw [c2', h1']
      simp only [List.getD_eq_getElem?_getD, h1', Option.getD_some]
    · obtain ⟨u, h1', h2'⟩ := hall p q row y hp' hq'
      simp only [List.getD_eq_getElem?_getD, h1', Option.getD_some]
      exact h2'.mono hE.imm
  refine .gsl _ n sz (rows ++ new) (by rw [AM.length_set]; exact hn) hRD fun e2 sz2 k2 hk'' => ?_
  rw [AM.get_set_same _ _ _ hn] at hk''
  cases hk''
  refine ⟨rfl, by rw [hlen]; exact Nat.le_refl _, fun _ => ?_⟩
  simp [HandleOK, St.handle]

theorem aAppend_ok {P : Program} {σ : St} {m : AM} {w : World} {ts : Array TypeId} {ty : TypeId} {s x av : AV} {sv xv : Value} {m' : AM} (hs : Sim σ m w) (hsv : R σ m w sv s) (hxv : R σ m w xv x)
    (h : aAppend P ts.toList s x m = .val av m') : VOK P (Builtin.append_ ts ty #[sv, xv]) σ m w av m' := by
  obtain ⟨ts⟩ := ts
  unfold aAppend at h
  split at h
  · rename_i t t' heq
    simp only at heq
    subst heq
    split at h
    · rename_i htt
      subst htt
      split at h
      · rename_i e _ _ _ hti
        split at h
        · rename_i te hte
          split at h
          · rename_i n sz rows new hnew
            split at h
            · rename_i e' sz' k hg
              split at h
              · rename_i hc
                obtain ⟨rfl, rfl, rfl, rfl, c5, c6, c7, c8⟩ := hc
                cases h
                obtain ⟨h1, _⟩ := tinf_spec hti
                obtain ⟨e1, i, e2, e3, e4, e5⟩ := tinf_spec hte
                obtain ⟨z, hz, hzc⟩ := Option.map_eq_some_iff.1 c7
                cases hsv with
                | gsl v n sz rows hn hd hgg =>
                obtain ⟨_, _, hH⟩ := hgg _ _ _ hg
                have hH := hH rfl
                rcases newRows_ok hxv hnew with ⟨rfl, A, c, rfl⟩ | ⟨a, c, news, rfl, hne, hrw, hl, hcl, h1c, hrd⟩
                · obtain ⟨B, cap, rfl, hle, _⟩ := hd.sl_inv
                  have hset : m.set n (some (.grow e' te.size (rows.length + ([] : List (List D)).length))) = m := by
                    simp only [List.length_nil, Nat.add_zero]
                    have : ∀ (l : AM) (b : ABlk), l.get n = some b → l.set n (some b) = l := by
                      intro l
                      induction l with
                      | nil => intro b h; rfl
                      | cons y t ih =>
                        intro b hb
                        simp only [AM.get] at hb
                        simp only [AM.set]
                        split at hb
                        · rename_i h; rw [if_pos h, hb]
                        · rename_i h; rw [if_neg h, ih b hb]
                    exact this m _ hg
                  rw [hset]
                  refine VOK.pure hs (run_append_zero w t ty e' i h1 e2 B rows.length cap hle A c) ?_
                  simpa using R.gsl _ n te.size rows hn hd hgg
                · obtain ⟨xs, hown⟩ := grow_owns hs hg hH
                  have hp : 0 < new.length := List.length_pos_iff.2 hne
                  have hmx : rows.length + new.length ≤ maxLen := by
                    have : (rows.length + new.length) * 1 ≤ (rows.length + new.length) * te.bytes := Nat.mul_le_mul_left _ c6
                    simp only [maxLen]
                    omega
                  rw [← e3] at hown hl hzc c5
                  obtain ⟨v', w', r1, r2, r3⟩ := run_append_gsl (P := P) w t ty e' i z h1 e2 (by rw [e5]; exact hz) hzc c5 sv rows.length xs hown a new.length c news hl hcl h1c hp hmx (by rw [e4]; exact c8)
                  rw [e3] at hown hl hzc c5 r2
                  exact append_fin hs hg hn hd hH hown hp hl hrw hrd r1 r2 r3
              · cases h
            · cases h
          · cases h
        · cases h
      · cases h
    · cases h
  · cases h

/-! ### a nil slice that will grow -/
theorem mkGrow {σ : St} {m : AM} {w : World} (hs : Sim σ m w) (e : TypeId) (sz : Nat) : ∃ σ', Ext σ m w σ' (some (.grow e sz 0) :: m) w ∧ Sim σ' (some (.grow e sz 0) :: m) w ∧ R σ' (some (.grow e sz 0) :: m) w (.slice none 0 0) (.gsl m.length sz []) := by
  refine ⟨σ.handle m.length none, ?_⟩
  have hget : ∀ j y, AM.get (some (.grow e sz 0) :: m) j = some y → (j = m.length ∧ y = .grow e sz 0) ∨ (j ≠ m.length ∧ m.get j = some y) := by
    intro j y hj
    simp only [AM.get] at hj
    split at hj
    · cases hj; exact .inl ⟨‹_›, rfl⟩
    · exact .inr ⟨‹_›, hj⟩
  have hblk : ∀ j y, j ≠ m.length → blkOf (σ.handle m.length none) j y = blkOf σ j y := by
    intro j y hj
    cases y <;> simp [blkOf, St.handle, hj]
  have hblkn : blkOf (σ.handle m.length none) m.length (.grow e sz 0) = none := by simp [blkOf, St.handle]
  have hE : Ext σ m w (σ.handle m.length none) (some (.grow e sz 0) :: m) w := by
    refine ⟨rfl, rfl, rfl, Nat.le_refl _, by simp, fun _ _ => rfl, fun j hj e' sz' k' hk => ?_, fun b o h => ⟨⟨h.1, fun j y hj hb => ?_⟩, rfl⟩, fun b hb hn => ⟨fun j y hj hb' => ?_, rfl⟩⟩
    · rcases hget j _ hk with ⟨rfl, _⟩ | ⟨hjn, hy⟩
      · omega
      · exact ⟨k', hy, Nat.le_refl _, fun _ => by simp [St.handle, hjn]⟩
    · rcases hget j y hj with ⟨rfl, rfl⟩ | ⟨hjn, hy⟩
      · rw [hblkn] at hb; cases hb
      · rw [hblk j y hjn] at hb
        exact h.2 j y hy hb
    · rcases hget j y hj with ⟨rfl, rfl⟩ | ⟨hjn, hy⟩
      · rw [hblkn] at hb'; cases hb'
      · rw [hblk j y hjn] at hb'
        exact hn j y hy hb'
  refine ⟨hE, ⟨fun j y hj => ?_, fun j j' y y' b hj hj' hb hb' => ?_⟩, ?_⟩
  · rcases hget j y hj with ⟨rfl, rfl⟩ | ⟨hjn, hy⟩
    · exact .inl ⟨by simp [St.handle], rfl⟩
    · exact BlkOK.mono_of hE (AM.get_lt _ _ _ hy) (hs.ok j y hy) (fun _ _ => rfl) (fun _ _ _ _ => by simp [St.handle, hjn])
  · rcases hget j y hj with ⟨rfl, rfl⟩ | ⟨hjn, hy⟩
    · rw [hblkn] at hb; cases hb
    · rcases hget j' y' hj' with ⟨rfl, rfl⟩ | ⟨hjn', hy'⟩
      · rw [hblkn] at hb'; cases hb'
      · rw [hblk j y hjn] at hb
        rw [hblk j' y' hjn'] at hb'
        exact hs.inj j j' y y' b hy hy' hb hb'
  · refine .gsl _ _ _ _ (by simp) (.slNil _ _ _ (Nat.zero_le _)) fun e' sz' k hk => ?_
    rcases hget _ _ hk with ⟨_, hy⟩ | ⟨hjn, _⟩
    · cases hy
      exact ⟨rfl, Nat.le_refl _, fun _ => by simp [St.handle, HandleOK]⟩
    · exact absurd rfl hjn

end Go.Ab

/- Strings appended to octets; the octets behind a slice as a string. -/
namespace Go.Ab
open Go.RowKit

theorem run_append_gsl_s {P : Program} (w : World) (t u ty e : TypeId) (i : TypeInfo) (ht : P.underlying t = some (.slice e)) (hu : P.underlying u = some .string) (hi : P.info? e = some i) (hz : i.zero = some (.int .u8 0))
    (hsize : i.size = 1) (hby : i.bytes = 1) (v : Value) (n : Nat) (xs : List Value) (hown : w.ownsRow 0 e 1 v n xs) (s : ByteArray) (h0 : 0 < s.size) (hbytes : n + s.size ≤ 140737488355328) :
    ∃ v' w', (Builtin.append_ #[t, u] ty #[v, .string s]).run P w = .ok v' w' ∧ w'.ownsRow 0 e 1 v' (n + s.size) (xs ++ Lib.strCells s) ∧
      ((v'.ownBlock = v.ownBlock ∧ w.grownBy w' v.ownBlock) ∨ (v'.ownBlock = some w.heap.size ∧ w.grownBy w' none)) := by
  have h63 : n + s.size ≤ maxLen := by simp only [maxLen]; omega
  have hsmall : n + s.size ≤ 9223372036854775807 := by omega
  have hxl : xs.length = n := by simpa using hown.1
  have hlen : (xs ++ Lib.strCells s).length = (n + s.size) * 1 := by rw [List.length_append, hxl, Lib.strCells_length, Nat.mul_one]
  have grown : ∀ (old : Nat),
      (w.drew.alloc (.cells (xs.toArray ++ (Lib.strCells s).toArray ++ Builtin.zeroCells (Value.int .u8 0).cells (grownCap w (n + s.size) old e - (n + s.size))) e)).ownsRow 0 e 1
        (.slice (some ⟨w.heap.size, 0, none⟩) (n + s.size) (grownCap w (n + s.size) old e)) (n + s.size) (xs ++ Lib.strCells s) ∧
      w.grownBy (w.drew.alloc (.cells (xs.toArray ++ (Lib.strCells s).toArray ++ Builtin.zeroCells (Value.int .u8 0).cells (grownCap w (n + s.size) old e - (n + s.size))) e)) none := by
    intro old
    have hge := grownCap_ge w (n + s.size) old e
    have hcm : grownCap w (n + s.size) old e ≤ maxLen := grownCap_le_maxLen w (n + s.size) old e h63
    refine ⟨⟨hlen, .inr ⟨w.heap.size, _, _, rfl, Nat.zero_le _, heap_alloc_new w.drew _, hge, hcm, ?_, ?_⟩⟩, ⟨rfl, rfl, rfl, by simp, fun k hk _ => Below.heap_alloc w.drew _ k hk⟩⟩
    · have hz1 : (Value.int IntKind.u8 0).cells.size = 1 := rfl
      simp only [Array.size_append, List.size_toArray, size_zeroCells, hz1, hxl, Lib.strCells_length]
      omega
    · simp only [Array.toList_append, List.append_assoc]
      rw [← List.append_assoc, ← hlen]
      exact List.take_left
  rcases hown.2 with ⟨rfl, rfl⟩ | ⟨g, cap, cur, rfl, hbg, hg, hnc, hcm, hcs, htake⟩
  · have hx : xs = [] := List.eq_nil_of_length_eq_zero hxl
    subst hx
    have hr := run_append_nil_string (P := P) w t u ty e i (.int .u8 0) ht hu hi hz s h0 (by omega) (by rw [hby]; omega)
    have hgr := grown 0
    simp only [Nat.zero_add, List.nil_append, Array.empty_append] at hgr ⊢
    have e1 : (s.data.map fun b => Value.int .u8 b.toNat) = (Lib.strCells s).toArray := by
      apply Array.ext'
      simp [Lib.strCells]
    rw [e1] at hr
    exact ⟨_, _, hr, hgr.1, .inr ⟨rfl, hgr.2⟩⟩
  · by_cases hroom : n + s.size ≤ cap
    · have hcs' : cur.size = cap := by simpa using hcs
      have hr := Lib.run_append_room_string (P := P) w t u ty e i ht hu hi hsize g n cap cur hg s hroom (by omega)
      refine ⟨_, _, hr, ⟨hlen, .inr ⟨g, cap, _, rfl, hbg, setRow_heap w g cur _ e _ hg, hroom, hcm, ?_, ?_⟩⟩, .inl ⟨rfl, ⟨rfl, rfl, rfl, by simp, fun k hk hne => setRow_other w g k _ (fun e => hne (by simp [Value.ownBlock, e]))⟩⟩⟩
      · simp only [List.size_toArray, List.length_append, List.length_take, List.length_drop, Array.length_toList, Lib.strCells_length]
        omega
      · have ht' : cur.toList.take n = xs := by simpa using htake
        rw [ht', ← hlen]
        exact List.take_left
    · have holds : ∀ j u, xs[j]? = some u → w.cell? ((⟨g, 0, none⟩ : Addr).add j) = some u := hown.cells (g := g) rfl
      have hr := Lib.run_append_grow_string (P := P) w t u ty e i (.int .u8 0) ht hu hi hz ⟨g, 0, none⟩ n cap xs (by rw [hsize]; simpa using hxl) holds s (by omega) (by omega) (by rw [hby]; exact growslice_fits (by omega) (by omega))
      have hgr := grown cap
      exact ⟨_, _, hr, hgr.1, .inr ⟨rfl, hgr.2⟩⟩

/-- Octets as rows. -/
def octs (s : List UInt8) : List (List D) := s.map fun b => [D.int .u8 (b.toNat : Nat)]

def aAppendS (P : Program) (ts : List TypeId) (s : AV) (x : List UInt8) (m : AM) : ARes :=
  match ts with
  | [t, u] =>
    match tinf P t, tinf P u with
    | some { desc := .slice e, .. }, some { desc := .string, .. } =>
      match tinf P e with
      | some te =>
        match te.zero, s with
        | some (.int .u8 0), .gsl n sz rows =>
          match m.get n with
          | some (.grow e' sz' k) =>
            if e' = e ∧ sz' = 1 ∧ sz = 1 ∧ te.size = 1 ∧ te.bytes = 1 ∧ k = rows.length ∧ 0 < x.length ∧ rows.length + x.length ≤ 140737488355328 then
              .val (.gsl n sz (rows ++ octs x)) (m.set n (some (.grow e sz (k + x.length))))
            else .bad
          | _ => .bad
        | _, _ => .bad
      | none => .bad
    | _, _ => .bad
  | _ => .bad

theorem aAppendS_ok {P : Program} {σ : St} {m : AM} {w : World} {ts : Array TypeId} {ty : TypeId} {s av : AV} {x : List UInt8} {sv : Value} {m' : AM} (hs : Sim σ m w) (hsv : R σ m w sv s) (h : aAppendS P ts.toList s x m = .val av m') :
    VOK P (Builtin.append_ ts ty #[sv, .string ⟨⟨x⟩⟩]) σ m w av m' := by
  obtain ⟨ts⟩ := ts
  unfold aAppendS at h
  split at h
  · rename_i t u heq
    simp only at heq
    subst heq
    split at h
    · rename_i e _ _ _ _ _ _ hti hui
      split at h
      · rename_i te hte
        split at h
        · rename_i n sz rows hz0
          split at h
          · rename_i e' sz' k hg
            split at h
            · rename_i hc
              obtain ⟨rfl, rfl, rfl, c4, c5, rfl, c7, c8⟩ := hc
              cases h
              obtain ⟨h1, _⟩ := tinf_spec hti
              obtain ⟨u1, _⟩ := tinf_spec hui
              obtain ⟨e1, i, e2, e3, e4, e5⟩ := tinf_spec hte
              cases hsv with
              | gsl v n sz rows hn hd hgg =>
              obtain ⟨_, _, hH⟩ := hgg _ _ _ hg
              have hH := hH rfl
              obtain ⟨xs, hown⟩ := grow_owns hs hg hH
              have hsz : (⟨⟨x⟩⟩ : ByteArray).size = x.length := rfl
              obtain ⟨v', w', r1, r2, r3⟩ := run_append_gsl_s (P := P) w t u ty e' i h1 u1 e2 (by rw [e5]; exact hz0) (by rw [e3]; exact c4) (by rw [e4]; exact c5) sv rows.length xs hown ⟨⟨x⟩⟩ (by rw [hsz]; exact c7) (by rw [hsz]; exact c8)
              have hol : (octs x).length = x.length := by simp [octs]
              have hsc : Lib.strCells ⟨⟨x⟩⟩ = x.map fun b => Value.int .u8 (b.toNat : Nat) := by simp [Lib.strCells]
              rw [← hol]
              refine append_fin (news := Lib.strCells ⟨⟨x⟩⟩) hs hg hn hd hH hown (by rw [hol]; exact c7) (by rw [hsc]; simp [octs]) (fun r hr => ?_) (fun p q row y hp hq => ?_) r1 (by rw [hol]; exact r2) r3
              · simp only [octs, List.mem_map] at hr
                obtain ⟨b, _, rfl⟩ := hr
                rfl
              · simp only [octs, List.getElem?_map, Option.map_eq_some_iff] at hp
                obtain ⟨b, hb, rfl⟩ := hp
                cases q with
                | zero =>
                  simp at hq
                  subst hq
                  exact ⟨.int .u8 (b.toNat : Nat), by rw [hsc]; simp [hb], .int _ _⟩
                | succ q => simp at hq
            · cases h
          · cases h
        · cases h
      · cases h
    · cases h
  · cases h

/-- Rows that are octets. -/
def rowsB : List (List D) → Option (List UInt8)
  | [] => some []
  | [.int .u8 n] :: t => if 0 ≤ n ∧ n < 256 then (rowsB t).map (UInt8.ofNat n.toNat :: ·) else none
  | _ :: _ => none

theorem rowsB_octs : ∀ (s : List UInt8), rowsB (octs s) = some s
  | [] => rfl
  | b :: s => by
    have h : b.toNat < 256 := UInt8.toNat_lt b
    have ih := rowsB_octs s
    show rowsB ([D.int .u8 (b.toNat : Nat)] :: octs s) = _
    simp only [rowsB]
    rw [if_pos ⟨by omega, by omega⟩, ih]
    simp

theorem rowsB_get : ∀ (rows : List (List D)) (s : List UInt8), rowsB rows = some s → rows.length = s.length ∧ ∀ (j : Nat) x, s[j]? = some x → rows[j]? = some [D.int .u8 (x.toNat : Nat)]
  | [], s, h => by cases h; exact ⟨rfl, by simp⟩
  | r :: t, s, h => by
    unfold rowsB at h
    split at h
    · cases ‹r :: t = []›
    · rename_i n t' heq
      cases heq
      split at h
      · rename_i hn
        obtain ⟨s', hs', rfl⟩ := Option.map_eq_some_iff.1 h
        obtain ⟨h1, h2⟩ := rowsB_get t s' hs'
        refine ⟨by simp [h1], fun j x hj => ?_⟩
        cases j with
        | zero =>
          simp at hj
          subst hj
          have : (UInt8.ofNat n.toNat).toNat = n.toNat := by
            rw [UInt8.toNat_ofNat']
            omega
          simp only [List.getElem?_cons_zero, this]
          congr 3
          omega
        | succ j => exact h2 j x (by simpa using hj)
      · cases h
    · cases h

def aSlData (x : AV) : Option AV :=
  match x with
  | .gsl n 1 rows =>
    match rowsB rows with
    | some (b :: s) => some (.dptr n (b :: s))
    | _ => none
  | _ => none

theorem aSlData_ok {P : Program} {σ : St} {m : AM} {w : World} {ts : Array TypeId} {ty : TypeId} {x av : AV} {xv : Value} (hs : Sim σ m w) (hx : R σ m w xv x) (h : aSlData x = some av) : VOK P (Builtin.unsafeSliceData_ ts ty #[xv]) σ m w av m := by
  unfold aSlData at h
  split at h
  · rename_i n rows
    split at h
    · rename_i b s hb
      cases h
      cases hx with
      | gsl v n sz rows hn hd hg =>
      obtain ⟨hlen, hget⟩ := rowsB_get _ _ hb
      obtain ⟨A, cap, rfl, hle, hmax, hq⟩ := hd.sl_inv
      rcases hq with rfl | ⟨blk, o, cv, rfl, hrow, hc, hrd⟩
      · simp at hlen
      · have hcap : cap ≠ 0 := by simp at hlen; omega
        refine VOK.pure hs (Lib.run_unsafeSliceData_row (P := P) w ts ty _ _ _ hcap) (.dptr n blk o (b :: s) hn (fun j x hj => ?_) fun e sz k hk => ?_)
        · have hr := hget j x hj
          obtain ⟨h1, h2⟩ := hc j 0 _ _ hr rfl
          have h3 := hrd j 0 _ _ hr rfl
          have e : o + (j * 1 + 0) = o + j := by omega
          rw [e] at h1 h2
          refine ⟨h1, h2.trans ?_⟩
          generalize cv j 0 = u at h3
          cases h3
          rfl
        · obtain ⟨g1, g2, g3⟩ := hg e sz k hk
          refine ⟨g1, by rw [← hlen]; exact g2, fun hk' => ?_⟩
          have := g3 (by rw [hlen]; exact hk')
          cases hγ : σ.γ n with
          | none => rw [hγ] at this; simp [HandleOK] at this
          | some gc =>
            rw [hγ] at this
            simp only [HandleOK, Value.slice.injEq, Option.some.injEq, Addr.mk.injEq] at this
            obtain ⟨⟨rfl, rfl, _⟩, _, rfl⟩ := this
            exact ⟨rfl, _, rfl⟩
    · cases h
  · cases h

/-- unsafe.String over a row that grows: afterwards nobody may write the row, and its name is given up. -/
def aUnStr (P : Program) (ts : List TypeId) (x n : AV) (m : AM) : ARes :=
  match ts, x, n with
  | [pt, _], .dptr nm row, .d (.int .i64 l) =>
    match tinf P pt, m.get nm with
    | some { desc := .pointer e', .. }, some (.grow e _ k) => if e' = e ∧ P.cellsOf e = 1 ∧ row.length = k ∧ l = row.length ∧ row ≠ [] then .val (.d (.str row)) (m.set nm none) else .bad
    | _, _ => .bad
  | _, _, _ => .bad

theorem freeze_heap (w : World) (g n : Nat) (hn : n ≠ 0) {c : Array Value} {e : TypeId} (hg : w.heap[g]? = some (.cells c e (0, 0))) :
    (w.freeze ⟨g, 0, none⟩ n).os = w.os ∧ (w.freeze ⟨g, 0, none⟩ n).tape = w.tape ∧ (w.freeze ⟨g, 0, none⟩ n).output = w.output ∧ (w.freeze ⟨g, 0, none⟩ n).heap.size = w.heap.size ∧ (∀ b, b ≠ g → (w.freeze ⟨g, 0, none⟩ n).heap[b]? = w.heap[b]?) ∧ ∀ b o, (w.freeze ⟨g, 0, none⟩ n).cell? ⟨b, o, none⟩ = w.cell? ⟨b, o, none⟩ := by
  unfold World.freeze
  rw [if_neg hn]
  refine ⟨rfl, rfl, rfl, by simp, fun b hb => by simp only [Array.getElem?_modify]; rw [if_neg (fun e => hb e.symm)], fun b o => ?_⟩
  by_cases hb : b = g
  · subst hb
    simp only [World.cell?, Array.getElem?_modify, if_true, hg, Option.map_some]
  · simp only [World.cell?, Array.getElem?_modify]
    rw [if_neg (fun e => hb e.symm)]

theorem aUnStr_ok {P : Program} {σ : St} {m : AM} {w : World} {ts : Array TypeId} {ty : TypeId} {x n av : AV} {xv nv : Value} {m' : AM} (hs : Sim σ m w) (hx : R σ m w xv x) (hn : R σ m w nv n) (h : aUnStr P ts.toList x n m = .val av m') :
    VOK P (Builtin.unsafeString_ ts ty #[xv, nv]) σ m w av m' := by
  obtain ⟨ts⟩ := ts
  unfold aUnStr at h
  split at h
  · rename_i pt it nm row l heq
    simp only at heq
    subst heq
    obtain rfl := hn.int_inv
    split at h
    · rename_i e' _ _ _ e sz k hti hg
      split at h
      · rename_i hc
        obtain ⟨rfl, hcell, rfl, rfl, hne⟩ := hc
        cases h
        obtain ⟨h1, _⟩ := tinf_spec hti
        cases hx with
        | dptr nm b o row hnm hcc hgg =>
        obtain ⟨rfl, _, h3⟩ := hgg _ _ _ hg
        obtain ⟨rfl, cap, hγ⟩ := h3 rfl
        rcases hs.ok nm _ hg with ⟨q1, _⟩ | ⟨g, cap', cur, q1, q2, q3, q4, q5⟩
        · rw [hγ] at q1; cases q1
        · rw [hγ] at q1
          cases q1
          have hlen : row.length ≠ 0 := by simpa using hne
          have hsh : w.shape? b = some (e', cap) := by
            simp only [World.shape?, q2]
            simp [q5]
          have hrun := Lib.run_unsafeString_row (P := P) w pt it ty e' h1 hcell b cap hsh row hne q3 (by simp only [maxLen] at q4; omega) (fun j x hj => by
            have := (hcc j x hj).2
            rw [Addr.add_lit]
            simpa using this)
          obtain ⟨f1, f2, f3, f4, f5, f6⟩ := freeze_heap w b row.length hlen q2
          have hblk : blkOf σ nm (.grow e' 1 row.length) = some b := by simp [blkOf, hγ]
          have hE : Ext σ m w σ (m.set nm none) (w.freeze ⟨b, 0, none⟩ row.length) := by
            refine ⟨f1, f2, f3, by rw [f4]; exact Nat.le_refl _, by rw [AM.length_set]; exact Nat.le_refl _, fun _ _ => rfl, fun n hn e sz k hk => ?_, fun b' o' hb' => ?_, fun b' hb' hnl => ?_⟩
            · rw [AM.get_set] at hk
              split at hk
              · first | (split at hk <;> cases hk; done) | cases hk
              · exact ⟨k, hk, Nat.le_refl _, fun _ => rfl⟩
            · refine ⟨⟨by rw [f4]; exact hb'.1, fun n x hx hb => ?_⟩, f6 _ _⟩
              rw [AM.get_set] at hx
              split at hx
              · first | (split at hx <;> cases hx; done) | cases hx
              · exact hb'.2 n x hx hb
            · refine ⟨fun n x hx => ?_, f5 _ (fun e => hnl nm _ hg (e ▸ hblk))⟩
              rw [AM.get_set] at hx
              split at hx
              · first | (split at hx <;> cases hx; done) | cases hx
              · exact hnl n x hx
          have hS : Sim σ (m.set nm none) (w.freeze ⟨b, 0, none⟩ row.length) := by
            refine ⟨fun n x hx => ?_, fun n n' x x' b' hx hx' hb hb' => ?_⟩
            · rw [AM.get_set] at hx
              split at hx
              · first | (split at hx <;> cases hx; done) | cases hx
              · rename_i hnn
                refine BlkOK.mono_of hE (AM.get_lt _ _ _ hx) (hs.ok n x hx) (fun b' hb' => f5 _ fun e => ?_) (fun _ _ _ _ => rfl)
                subst e
                exact hnn (hs.inj n nm x _ b' hx hg hb' hblk)
            · rw [AM.get_set] at hx hx'
              split at hx
              · first | (split at hx <;> cases hx; done) | cases hx
              · split at hx'
                · first | (split at hx' <;> cases hx'; done) | cases hx'
                · exact hs.inj n n' x x' b' hx hx' hb hb'
          exact ⟨_, _, σ, hrun, hE, hS, .d _ _ (.str row)⟩
      · cases h
    · cases h
  · cases h
end Go.Ab

/- Slices that are written: made by make, or by a literal; and what copy puts into them. -/
namespace Go.Ab
open Go.RowKit

theorem zs_flat_get (zs : List AV) : ∀ (n q : Nat), q < n * zs.length → (List.replicate n zs).flatten[q]? = zs[q % zs.length]?
  | 0, q, h => by simp at h
  | n + 1, q, h => by
    simp only [List.replicate_succ, List.flatten_cons]
    by_cases hq : q < zs.length
    · rw [List.getElem?_append_left hq, Nat.mod_eq_of_lt hq]
    · rw [List.getElem?_append_right (by omega), zs_flat_get zs n (q - zs.length) (by rw [Nat.succ_mul] at h; omega)]
      congr 1
      exact (Nat.mod_eq_sub_mod (by omega)).symm

theorem flat_rep_length (zs : List AV) (n : Nat) : (List.replicate n zs).flatten.length = n * zs.length := by simp

theorem Rs.made {σ : St} {m : AM} {w : World} {z : Value} {zs : List AV} (h : Rs σ m w z.cells.toList zs) (n : Nat) : Rs σ m w (madeCells z.cells (n * zs.length)).toList (List.replicate n zs).flatten := by
  obtain ⟨h1, h2⟩ := h
  refine ⟨by simp [madeCells], fun q v a hv ha => ?_⟩
  have hq : q < n * zs.length := by
    have := (List.getElem?_eq_some_iff.1 ha).1
    simpa using this
  rw [zs_flat_get zs n q hq] at ha
  have hz : 0 < zs.length := by
    rcases Nat.eq_zero_or_pos zs.length with h | h
    · rw [h] at hq; simp at hq
    · exact h
  have hm := Nat.mod_lt q hz
  simp only [madeCells, Array.toList_map, Array.toList_range, List.getElem?_map, Option.map_eq_some_iff] at hv
  obtain ⟨q', hq', rfl⟩ := hv
  have : q' = q := by
    obtain ⟨_, h⟩ := List.getElem?_eq_some_iff.1 hq'
    simpa using h.symm
  subst this
  have hsz : z.cells.size = zs.length := by simpa using h1
  refine h2 (q' % zs.length) _ a ?_ ha
  rw [hsz]
  have hlt : q' % zs.length < z.cells.size := by omega
  simp [hlt]

/-- What make needs to know of a slice's type: its elements' type, their noughts, their octets. -/
def mslOf (P : Program) (t : TypeId) : Option (TypeId × List AV × Nat) :=
  match tinf P t with
  | some { desc := .slice e, .. } =>
    match tinf P e with
    | some te =>
      match zeroCells? te with
      | some zs => if zs.length = te.size ∧ zs.all (·.isCell) then some (e, zs, te.bytes) else none
      | none => none
    | none => none
  | _ => none

def aMake (P : Program) (t : TypeId) (l c : AV) (m : AM) : ARes :=
  match mslOf P t, l, c with
  | some (e, zs, b), .d (.int _ n), .d (.int _ k) =>
    if 0 ≤ n ∧ n ≤ k ∧ (b : Int) * k ≤ 281474976710656 ∧ k ≤ 9223372036854775807 then .val (.lsl m.length 0 n.toNat k.toNat) (some (.cells e (List.replicate k.toNat zs).flatten) :: m) else .bad
  | _, _, _ => .bad

theorem mslOf_spec {P : Program} {t e : TypeId} {zs : List AV} {b : Nat} (h : mslOf P t = some (e, zs, b)) : P.underlying t = some (.slice e) ∧ ∃ i te, tinf P e = some te ∧ P.info? e = some i ∧ i.size = te.size ∧ i.bytes = b ∧ i.zero = te.zero ∧
    zeroCells? te = some zs ∧ zs.length = te.size ∧ zs.all (·.isCell) = true := by
  unfold mslOf at h
  split at h
  · rename_i e' _ _ _ hti
    split at h
    · rename_i te hte
      split at h
      · rename_i zs' hz
        split at h
        · rename_i hc
          cases h
          obtain ⟨h1, _⟩ := tinf_spec hti
          obtain ⟨e1, j, e2, e3, e4, e5⟩ := tinf_spec hte
          exact ⟨h1, j, te, hte, e2, e3, e4, e5, hz, hc.1, hc.2⟩
        · cases h
      · cases h
    · cases h
  · cases h

theorem all_flat {zs : List AV} (h : zs.all (·.isCell) = true) (n : Nat) : ∀ c ∈ (List.replicate n zs).flatten, c.isCell = true := by
  intro c hc
  simp only [List.mem_flatten, List.mem_replicate] at hc
  obtain ⟨l, ⟨_, rfl⟩, hc⟩ := hc
  exact List.all_eq_true.1 h c hc

theorem aMake_ok {P : Program} {σ : St} {m : AM} {w : World} {t : TypeId} {l c av : AV} {lv cv : Value} {m' : AM} (hs : Sim σ m w) (hl : R σ m w lv l) (hc : R σ m w cv c) (h : aMake P t l c m = .val av m') : VOK P (Instr.makeSlice t lv cv) σ m w av m' := by
  unfold aMake at h
  split at h
  · rename_i e zs b k1 n k2 k hk
    split at h
    · rename_i hq
      obtain ⟨q1, q2, q3, q4⟩ := hq
      cases h
      obtain rfl := hl.int_inv
      obtain rfl := hc.int_inv
      obtain ⟨h1, i, te, hte, h2, h3, h4, h5, hz, hzl, hza⟩ := mslOf_spec hk
      obtain ⟨z, hzr, hzrs, _, hzz⟩ := zeroCells_ok (P := P) (σ := σ) (m := m) (w := w) hte hz hza
      have hrun := Go.run_make (P := P) w t e i z h1 h2 (h5.trans hzz) k1 k2 n k q1 q2 (by rw [h4]; exact q3) q4
      have hE := Ext.push hs (.cells (madeCells z.cells (k.toNat * i.size)) e) (.cells e (List.replicate k.toNat zs).flatten) (by simp)
      refine ⟨_, _, _, hrun, hE, Sim.push hs _ _ (by simp) ⟨all_flat hza _, (madeCells z.cells (k.toNat * i.size)).toList, ?_, ?_⟩, ?_⟩
      · simp only [St.name, if_true]
        exact heap_alloc_new w _
      · have := (hzrs.made k.toNat).mono hE
        rw [show madeCells z.cells (k.toNat * zs.length) = madeCells z.cells (k.toNat * i.size) by rw [h3, hzl]] at this
        exact this
      · have := R.lsl (σ := σ.name m.length w.heap.size) (m := some (.cells e (List.replicate k.toNat zs).flatten) :: m) (w := w.alloc (.cells (madeCells z.cells (k.toNat * i.size)) e)) m.length 0 n.toNat k.toNat (by simp)
        simpa [St.name] using this
    · cases h
  · cases h

/-! ### a literal that is written later -/
def aBuildL (P : Program) (t : TypeId) (len : Nat) (parts : List (Nat × AV)) (m : AM) : ARes :=
  match mslOf P t with
  | some (e, zs, _) =>
    if len * zs.length ≤ 16777216 ∧ 0 < zs.length then
      match aFill (fun i => some (i * zs.length, zs.length)) (List.replicate len zs).flatten parts with
      | some cs => if cs.all (·.isCell) then .val (.lsl m.length 0 len len) (some (.cells e cs) :: m) else .bad
      | none => .bad
    else .bad
  | none => .bad

theorem aBuildL_ok {P : Program} {σ : St} {m : AM} {w : World} {t : TypeId} {len : Nat} {parts : List (Nat × AV)} {cparts : Array (Nat × Value)} {av : AV} {m' : AM} (hs : Sim σ m w) (hl : parts.length = cparts.toList.length)
    (hq : ∀ (q : Nat) i a j v, parts[q]? = some (i, a) → cparts.toList[q]? = some (j, v) → i = j ∧ R σ m w v a) (h : aBuildL P t len parts m = .val av m') : VOK P (Instr.buildSlice t len cparts) σ m w av m' := by
  unfold aBuildL at h
  split at h
  · rename_i e zs b hk
    split at h
    · rename_i hc
      obtain ⟨c4, c5⟩ := hc
      split at h
      · rename_i cs hf
        split at h
        · rename_i hall
          cases h
          obtain ⟨h1, i, te, hte, h2, h3, h4, h5, hz, hzl, hza⟩ := mslOf_spec hk
          obtain ⟨z, hzr, hzrs, _, hzz⟩ := zeroCells_ok (P := P) (σ := σ) (m := m) (w := w) hte hz hza
          have hsz0 : z.cells.size = zs.length := by simpa using hzrs.1
          have hmade := hzrs.made len
          obtain ⟨us, hu, hur⟩ := aFill_ok (place' := fun i => some (i * te.size, te.size)) (fun i x hx => by rw [← hzl]; exact hx) parts cparts.toList _ _ cs hf hmade hl hq
          have hsz : (sizeOf e).run P w = .ok te.size w := by simp [sizeOf, typeInfo, h2, h3]
          have hrun : (Instr.buildSlice t len cparts).run P w = .ok (.slice (some ⟨w.heap.size, 0, none⟩) len len) (w.alloc (.cells ⟨us⟩ e)) := by
            by_cases h0 : len * te.size = 0
            · have hlen0 : len = 0 := by
                rcases Nat.mul_eq_zero.1 h0 with h | h
                · exact h
                · omega
              subst hlen0
              have hm0 : (⟨(madeCells z.cells (0 * zs.length)).toList⟩ : Array Value) = #[] := by apply Array.ext'; simp [madeCells]
              rw [hm0] at hu
              simp [Instr.buildSlice, run_underlying h1, hsz, newRow, hu, Array.range_zero']
            · have hn1 : ¬ (len = 0 ∨ te.size = 0) := by
                rintro (e | e) <;> simp [e] at h0
              have hn2 : ¬ (16777216 < len * te.size) := by rw [← hzl]; omega
              have hm1 : (Array.range (len * te.size)).map (z.cells[· % z.cells.size]!) = (⟨(madeCells z.cells (len * zs.length)).toList⟩ : Array Value) := by
                rw [hzl]; rfl
              simp [Instr.buildSlice, run_underlying h1, hsz, hn1, hn2, hzr, newRow]
              rw [hm1, hu, if_neg h0]
              rfl
          have hE := Ext.push hs (.cells ⟨us⟩ e) (.cells e cs) (by simp)
          refine ⟨_, _, _, hrun, hE, Sim.push hs _ _ (by simp) ⟨fun c hc => List.all_eq_true.1 hall c hc, us, ?_, hur.mono hE⟩, ?_⟩
          · simp only [St.name, if_true]
            exact heap_alloc_new w _
          · have := R.lsl (σ := σ.name m.length w.heap.size) (m := some (.cells e cs) :: m) (w := w.alloc (.cells ⟨us⟩ e)) m.length 0 len len (by simp)
            simpa [St.name] using this
        · cases h
      · cases h
    · cases h
  · cases h

/-! ### copy of one slice's elements into another -/
theorem flat_get : ∀ {sz : Nat} (rows : List (List D)), (∀ r ∈ rows, r.length = sz) → ∀ i j, j < sz → rows.flatten[i * sz + j]? = (rows[i]?).bind (·[j]?)
  | sz, [], _, i, j, hj => by simp
  | sz, r :: rows, h, 0, j, hj => by
    have := h r (by simp)
    simp only [List.flatten_cons, Nat.zero_mul, Nat.zero_add]
    rw [List.getElem?_append_left (by omega)]
    rfl
  | sz, r :: rows, h, i + 1, j, hj => by
    have hr := h r (by simp)
    simp only [List.flatten_cons]
    rw [List.getElem?_append_right (by rw [Nat.succ_mul]; omega)]
    have := flat_get rows (fun q hq => h q (by simp [hq])) i j hj
    rw [show (i + 1) * sz + j - r.length = i * sz + j by rw [Nat.succ_mul]; omega, this]
    rfl

theorem flat_length : ∀ {sz : Nat} (rows : List (List D)), (∀ r ∈ rows, r.length = sz) → rows.flatten.length = rows.length * sz
  | sz, [], _ => by simp
  | sz, r :: rows, h => by
    have := flat_length rows (fun q hq => h q (by simp [hq]))
    have hr := h r (by simp)
    simp only [List.flatten_cons, List.length_append, List.length_cons, this, hr, Nat.succ_mul]
    omega

/-- How many elements a source has, and their cells. -/
def srcOf (size : Nat) (x : AV) (m : AM) : Option (Nat × List AV) :=
  match x with
  | .lsl n off len _ =>
    match m.get n with
    | some (.cells _ cs) => if off + len * size ≤ cs.length then some (len, (cs.drop off).take (len * size)) else none
    | _ => none
  | x => (newRows size x).map fun rows => (rows.length, rows.flatten.map AV.d)

theorem srcOf_ok {P : Program} {σ : St} {m : AM} {w : World} {size : Nat} {x : AV} {xv : Value} {k : Nat} {as : List AV} (hs : Sim σ m w) (hx : R σ m w xv x) (h : srcOf size x m = some (k, as)) :
    as.length = k * size ∧ (Builtin.lenOf xv).run P w = .ok k w ∧ ∀ n, n ≤ k → ∃ us, (Builtin.firstCells size n xv).run P w = .ok ⟨us⟩ w ∧ Rs σ m w us (as.take (n * size)) ∧ ∀ u ∈ us, u.oneCell' = true := by
  unfold srcOf at h
  split at h
  · rename_i n off len cap
    split at h
    · rename_i ty cs hg
      split at h
      · rename_i hc
        cases h
        cases hx
        rename_i hn
        obtain ⟨hcell, vs, hh, hl, hr⟩ := hs.ok n _ hg
        refine ⟨by simp; omega, by simp [Builtin.lenOf], fun j hj => ⟨(vs.drop off).take (j * size), ?_, ?_, ?_⟩⟩
        · have hjs : j * size ≤ k * size := Nat.mul_le_mul_right _ hj
          have := run_loadCells_list (P := P) w ⟨σ.ρ n, off, none⟩ ((vs.drop off).take (j * size)) (fun q v hq => by
            rw [add_lit']
            rw [List.getElem?_take] at hq
            split at hq
            · rw [List.getElem?_drop] at hq
              simp only [World.cell?, hh]
              simpa using hq
            · cases hq)
          have e : ((vs.drop off).take (j * size)).length = j * size := by simp; omega
          rw [e] at this
          simpa [Builtin.firstCells] using this
        · have hjs : j * size ≤ k * size := Nat.mul_le_mul_right _ hj
          refine ⟨by simp; omega, fun i v a hv ha => ?_⟩
          rw [List.getElem?_take] at hv ha
          split at hv
          · rename_i hlt
            rw [if_pos hlt, List.getElem?_take, if_pos (by omega), List.getElem?_drop] at ha
            rw [List.getElem?_drop] at hv
            exact hr _ v a hv ha
          · cases hv
        · intro u hu
          have hu' := List.mem_of_mem_drop (List.mem_of_mem_take hu)
          obtain ⟨i, hi, rfl⟩ := List.mem_iff_getElem.1 hu'
          have hic : i < cs.length := by omega
          exact (hr i vs[i] cs[i] (by simp) (by simp)).oneCell (hcell _ (List.getElem_mem hic))
      · cases h
    · cases h
  · simp only [Option.map_eq_some_iff] at h
    obtain ⟨rows, hrows, he⟩ := h
    cases he
    rcases newRows_ok hx hrows with ⟨rfl, A, c, rfl⟩ | ⟨a, c, news, rfl, hne, hrl, hnl, hcell, hone, hrd⟩
    · refine ⟨by simp, by simp [Builtin.lenOf], fun n hn => ⟨[], ?_, ?_, by simp⟩⟩
      · have : n = 0 := by simpa using hn
        subst this
        cases A <;> simp [Builtin.firstCells, loadCells, loadCellsFrom]
      · exact ⟨by simp, by simp⟩
    · have hfl := flat_length rows hrl
      refine ⟨by rw [List.length_map, hfl], by simp [Builtin.lenOf], fun n hn => ⟨news.take (n * size), ?_, ?_, fun u hu => hone u (List.mem_of_mem_take hu)⟩⟩
      · have hjs : n * size ≤ rows.length * size := Nat.mul_le_mul_right _ hn
        have := run_loadCells_list (P := P) w a (news.take (n * size)) (fun q v hq => by
          rw [List.getElem?_take] at hq
          split at hq
          · exact hcell q v hq
          · cases hq)
        have e : (news.take (n * size)).length = n * size := by simp; omega
        rw [e] at this
        simpa [Builtin.firstCells] using this
      · have hjs : n * size ≤ rows.length * size := Nat.mul_le_mul_right _ hn
        refine ⟨by rw [List.length_take, List.length_take, List.length_map, hfl, hnl], fun i v b hv hb => ?_⟩
        rw [List.getElem?_take] at hv hb
        split at hv
        · rename_i hlt
          rw [if_pos hlt, List.getElem?_map, Option.map_eq_some_iff] at hb
          obtain ⟨y, hy, rfl⟩ := hb
          have hs0 : 0 < size := by
            rcases Nat.eq_zero_or_pos size with h | h
            · subst h; simp at hlt
            · exact h
          have hm := Nat.mod_lt i hs0
          have hdm : i / size * size + i % size = i := by rw [Nat.mul_comm]; exact Nat.div_add_mod i size
          have hg := flat_get rows hrl (i / size) (i % size) hm
          rw [hdm, hy] at hg
          obtain ⟨row, h1, h2⟩ := Option.bind_eq_some_iff.1 hg.symm
          obtain ⟨u, hu, hur⟩ := hrd _ _ row y h1 h2
          rw [hdm, hv] at hu
          cases hu
          exact .d _ _ hur
        · cases hv

/-- The elements' type of a slice's type, by its size. -/
def slSz (P : Program) (t : TypeId) : Option Nat :=
  match tinf P t with
  | some { desc := .slice e, .. } => (tinf P e).map (·.size)
  | _ => none

def aCpy (P : Program) (t : TypeId) (n off len : Nat) (x : AV) (m : AM) : ARes :=
  match slSz P t with
  | some size =>
    match srcOf size x m, m.get n with
    | some (k, as), some (.cells ty cs) =>
      if off + len * size ≤ cs.length ∧ as.all (·.isCell) then
        .val (.d (.int .i64 (min k len : Nat))) (m.set n (some (.cells ty (cs.take off ++ as.take (min k len * size) ++ cs.drop (off + min k len * size)))))
      else .bad
    | _, _ => .bad
  | none => .bad

theorem aCpy_ok {P : Program} {σ : St} {m : AM} {w : World} {ts : Array TypeId} {t t' ty0 : TypeId} {n off len cap : Nat} {x av : AV} {dv xv : Value} {m' : AM} (hts : ts = #[t, t']) (hs : Sim σ m w) (hd : R σ m w dv (.lsl n off len cap)) (hx : R σ m w xv x)
    (h : aCpy P t n off len x m = .val av m') : VOK P (Builtin.copy_ ts ty0 #[dv, xv]) σ m w av m' := by
  subst hts
  unfold aCpy at h
  split at h
  · rename_i size hsz
    split at h
    · rename_i k as ty cs hsrc hg
      split at h
      · rename_i hc
        obtain ⟨c1, c2⟩ := hc
        cases h
        obtain ⟨s1, s2, s3⟩ := srcOf_ok (P := P) hs hx hsrc
        cases hd
        rename_i hn
        unfold slSz at hsz
        split at hsz
        · rename_i e _ _ _ hti
          obtain ⟨te, hte, rfl⟩ := Option.map_eq_some_iff.1 hsz
          obtain ⟨h1, _⟩ := tinf_spec hti
          obtain ⟨e1, j, e2, e3, _⟩ := tinf_spec hte
          obtain ⟨hcell, vs, hh, hl, hr⟩ := hs.ok n _ hg
          obtain ⟨us, hu, hur, hone⟩ := s3 (min k len) (Nat.min_le_left _ _)
          have hul : us.length = min k len * te.size := by
            rw [hur.1, List.length_take, s1]
            have : min k len * te.size ≤ k * te.size := Nat.mul_le_mul_right _ (Nat.min_le_left _ _)
            omega
          have hfit : min k len * te.size ≤ len * te.size := Nat.mul_le_mul_right _ (Nat.min_le_right _ _)
          have hst := run_storeCells_at P (σ.ρ n) off ty us 0 ⟨vs⟩ w hh (by simp only [List.size_toArray]; omega) hone
          obtain ⟨hS, hE⟩ := sim_setRow hs hg (vs.take off ++ us ++ vs.drop (off + min k len * te.size)) (cs' := cs.take off ++ as.take (min k len * te.size) ++ cs.drop (off + min k len * te.size)) (by
            intro c hc
            rcases List.mem_append.1 hc with hc | hc
            · rcases List.mem_append.1 hc with hc | hc
              · exact hcell c (List.mem_of_mem_take hc)
              · exact List.all_eq_true.1 c2 c (List.mem_of_mem_take hc)
            · exact hcell c (List.mem_of_mem_drop hc)) (Rs.splice ⟨hl, hr⟩ hur off _ (by omega))
          refine ⟨.int .i64 (min k len : Nat), _, σ, ?_, hE, hS, .int _ _⟩
          have hlen : off + 0 + us.length = off + min k len * te.size := by omega
          rw [hlen] at hst
          simp only [Nat.add_zero] at hst
          have hmin : Nat.min k len = min k len := rfl
          simp only [List.append_assoc] at hst
          simp [Builtin.copy_, run_underlying h1, s2, sizeOf, typeInfo, e2, e3, hmin, hu, hst, goInt]
        · cases hsz
      · cases h
    · cases h
  · cases h

end Go.Ab

/- The abstract walk: operations in order, statements, calls. -/
namespace Go.Ab
open Go.RowKit

def aCopy (P : Program) (ts : List TypeId) (d x : AV) (m : AM) : ARes :=
  match ts with
  | [t, _] =>
    match tinf P t with
    | some { desc := .slice e, .. } =>
      match tinf P e, d, x with
      | some te, .lsl n off len _, .d (.str s) =>
        match m.get n with
        | some (.cells ty cs) =>
          if te.size = 1 ∧ off + len ≤ cs.length then
            .val (.d (.int .i64 (min s.length len : Nat))) (m.set n (some (.cells ty (cs.take off ++ (s.take (min s.length len)).map (fun b => AV.d (.int .u8 b.toNat)) ++ cs.drop (off + min s.length len)))))
          else .bad
        | _ => .bad
      | _, .lsl n off len _, x => aCpy P t n off len x m
      | _, _, _ => .bad
    | _ => .bad
  | _ => .bad

theorem aCopy_ok {P : Program} {σ : St} {m : AM} {w : World} {ts : Array TypeId} {ty : TypeId} {d x av : AV} {dv xv : Value} {m' : AM} (hs : Sim σ m w) (hd : R σ m w dv d) (hx : R σ m w xv x)
    (h : aCopy P ts.toList d x m = .val av m') : VOK P (Builtin.copy_ ts ty #[dv, xv]) σ m w av m' := by
  obtain ⟨ts⟩ := ts
  unfold aCopy at h
  split at h
  · rename_i t t' heq
    simp only at heq
    subst heq
    split at h
    · rename_i e _ _ _ hti
      split at h
      · rename_i te n off len cap s hte
        split at h
        · rename_i ty' cs hg
          split at h
          · rename_i hc
            obtain ⟨c1, c2⟩ := hc
            cases h
            obtain rfl := hx.str_inv
            cases hd
            rename_i hn
            obtain ⟨h1, _⟩ := tinf_spec hti
            obtain ⟨e1, j, e2, e3, _⟩ := tinf_spec hte
            obtain ⟨hcell, vs, hh, hl, hr⟩ := hs.ok n _ hg
            let new : List Value := (s.take (min s.length len)).map fun b => Value.int .u8 b.toNat
            have hnl : new.length = min s.length len := by simp [new]
            have hst := run_storeCells_at P (σ.ρ n) off ty' new 0 ⟨vs⟩ w hh (by simp only [List.size_toArray]; omega) (by
              intro v hv
              simp only [new, List.mem_map] at hv
              obtain ⟨b, _, rfl⟩ := hv
              rfl)
            have hRs : Rs σ m w new ((s.take (min s.length len)).map fun b => AV.d (.int .u8 b.toNat)) := by
              refine ⟨by simp [new], fun i v a hv ha => ?_⟩
              simp only [new, List.getElem?_map, Option.map_eq_some_iff] at hv ha
              obtain ⟨b, hb, rfl⟩ := hv
              obtain ⟨b', hb', rfl⟩ := ha
              rw [hb] at hb'
              cases hb'
              exact .int _ _
            obtain ⟨hS, hE⟩ := sim_setRow hs hg (vs.take off ++ new ++ vs.drop (off + min s.length len)) (cs' := cs.take off ++ (s.take (min s.length len)).map (fun b => AV.d (.int .u8 b.toNat)) ++ cs.drop (off + min s.length len)) (by
              intro c hc
              rcases List.mem_append.1 hc with hc | hc
              · rcases List.mem_append.1 hc with hc | hc
                · exact hcell c (List.mem_of_mem_take hc)
                · simp only [List.mem_map] at hc
                  obtain ⟨b, _, rfl⟩ := hc
                  rfl
              · exact hcell c (List.mem_of_mem_drop hc)) (Rs.splice ⟨hl, hr⟩ hRs off _ (by omega))
            refine ⟨.int .i64 (min s.length len : Nat), _, σ, ?_, hE, hS, .int _ _⟩
            have hfirst : (Builtin.firstCells 1 (min s.length len) (.string ⟨⟨s⟩⟩)).run P w = .ok ⟨new⟩ w := by
              simp only [Builtin.firstCells, Sem.run_pure]
              congr 1
              apply Array.ext'
              simp [new, ByteArray.data_extract, List.extract_eq_take_drop]
            have hsz : (ByteArray.mk ⟨s⟩).size = s.length := rfl
            have hlen : off + 0 + new.length = off + min s.length len := by omega
            rw [hlen] at hst
            simp only [Nat.add_zero] at hst
            have hmin : (ByteArray.mk ⟨s⟩).size.min len = min s.length len := rfl
            simp only [List.append_assoc] at hst
            simp [Builtin.copy_, run_underlying h1, Builtin.lenOf, sizeOf, typeInfo, e2, e3, c1, hmin, hfirst, hst, goInt]
          · cases h
        · cases h
      · exact aCpy_ok rfl hs hd hx h
      · cases h
    · cases h
  · cases h

/-! ### one operation -/
def AA.lookO (a : AA) : Option Operand → Option (Option AV)
  | none => some none
  | some o => (a.look o).map some

def AA.lookL (a : AA) : List Operand → Option (List AV)
  | [] => some []
  | o :: rest => match a.look o, a.lookL rest with
    | some v, some vs => some (v :: vs)
    | _, _ => none

def AA.lookP (a : AA) : List (Nat × Operand) → Option (List (Nat × AV))
  | [] => some []
  | (i, o) :: rest => match a.look o, a.lookP rest with
    | some v, some vs => some ((i, v) :: vs)
    | _, _ => none

theorem AR.lookO {σ : St} {m : AM} {w : World} {nt : Nat} {a : Act} {aa : AA} (hr : AR σ m w nt a aa) {x : Option Operand} {v : Option AV} (h : aa.lookO x = some v) : RO σ m w (x.map a.eval) v := by
  cases x with
  | none => cases h; trivial
  | some o =>
    obtain ⟨u, hu, rfl⟩ := Option.map_eq_some_iff.1 h
    exact hr.look hu

theorem AR.lookL {σ : St} {m : AM} {w : World} {nt : Nat} {a : Act} {aa : AA} (hr : AR σ m w nt a aa) : ∀ {x : List Operand} {v : List AV}, aa.lookL x = some v → Rs σ m w (x.map a.eval) v
  | [], v, h => by cases h; exact ⟨rfl, by simp⟩
  | o :: rest, v, h => by
    simp only [AA.lookL] at h
    split at h
    · rename_i u us hu hus
      cases h
      obtain ⟨h1, h2⟩ := hr.lookL hus
      refine ⟨by simp [h1], fun i x y hx hy => ?_⟩
      cases i with
      | zero => simp at hx hy; subst hx; subst hy; exact hr.look hu
      | succ i => exact h2 i x y hx hy
    · cases h

theorem AR.lookP {σ : St} {m : AM} {w : World} {nt : Nat} {a : Act} {aa : AA} (hr : AR σ m w nt a aa) : ∀ {x : List (Nat × Operand)} {v : List (Nat × AV)}, aa.lookP x = some v →
    v.length = (x.map fun (i, o) => (i, a.eval o)).length ∧ ∀ (q : Nat) i b j u, v[q]? = some (i, b) → (x.map fun (i, o) => (i, a.eval o))[q]? = some (j, u) → i = j ∧ R σ m w u b
  | [], v, h => by cases h; exact ⟨rfl, by simp⟩
  | (i, o) :: rest, v, h => by
    simp only [AA.lookP] at h
    split at h
    · rename_i u us hu hus
      cases h
      obtain ⟨h1, h2⟩ := hr.lookP hus
      refine ⟨by simpa using h1, fun q i b j u hx hy => ?_⟩
      cases q with
      | zero =>
        simp at hx hy
        obtain ⟨rfl, rfl⟩ := hx
        obtain ⟨rfl, rfl⟩ := hy
        exact ⟨rfl, hr.look hu⟩
      | succ q => exact h2 q i b j u hx hy
    · cases h

def AV.sure : AV → Bool
  | .ptr _ _ | .eptr _ _ | .lsl _ _ _ _ | .ifc _ _ | .agg _ | .tup _ | .mp _ => true
  | .fn (.func _) _ _ => true
  | _ => false

def aApp (P : Program) (ts : List TypeId) (s x : AV) (m : AM) : ARes :=
  match x with
  | .d (.str t) => aAppendS P ts s t m
  | x => aAppend P ts s x m

def ACall (P : Program) (c : Call) (a : AA) (m : AM) : ARes :=
  match c.callee, a.lookL c.args.toList with
  | .builtin .len, some [x] => .ofOpt m (aLen P c.argTypes.toList x)
  | .builtin .append, some [s, x] => aApp P c.argTypes.toList s x m
  | .builtin .copy, some [d, x] => aCopy P c.argTypes.toList d x m
  | .builtin .min, some [x, y] => .ofOpt m (aMin x y)
  | .builtin .max, some [x, y] => .ofOpt m (aMax x y)
  | .builtin .unsafeSliceData, some [x] => .ofOpt m (aSlData x)
  | .builtin .unsafeString, some [x, n] => aUnStr P c.argTypes.toList x n m
  | .value f, some as =>
    match a.look f with
    | some (.fn (.func k) first cap) => .call k (first ++ as ++ cap)
    | some (.yl n) => .rnd n as
    | _ => .bad
  | _, _ => .bad

def aop (P : Program) (o : Op) (a : AA) (m : AM) : ARes :=
  match o with
  | .move x => .ofOpt m (a.look x)
  | .assign x => .ofOpt m (a.look x)
  | .pick c x y =>
    match a.look c with
    | some (.d (.bool b)) => if b then .ofOpt m (a.look x) else .ofOpt m (a.look y)
    | _ => .bad
  | .alloc t => aAlloc P t m
  | .box t x => match a.look x with | some v => aBox t v m | none => .bad
  | .build t parts => match a.lookP parts.toList with | some ps => .ofOpt m (aBuild P t ps) | none => .bad
  | .buildSlice t len parts => match a.lookP parts.toList with | some ps => .ofOpt m (aBuildSlice P t len ps) | none => .bad
  | .load t x => match a.look x with | some v => aLoad P t v m | none => .bad
  | .store t x y => match a.look x, a.look y with | some u, some v => aStore P t u v m | _, _ => .bad
  | .nilCheck x => match a.look x with | some v => if v.sure then .val v m else .bad | none => .bad
  | .binOp op t x y _ => match a.look x, a.look y with | some u, some v => .ofOpt m (aBin P op t x y u v) | _, _ => .bad
  | .unOp op _ x => match a.look x with | some v => .ofOpt m (aUn op v) | none => .bad
  | .convert s d x => match a.look x with | some v => .ofOpt m (aConv P s d v m) | none => .bad
  | .makeInterface t x => match a.look x with | some v => .ofOpt m (aMkIface P t v) | none => .bad
  | .makeFunc f first cap => match a.lookL first.toList, a.lookL cap.toList with | some fs, some cs => .val (.fn f fs cs) m | _, _ => .bad
  | .makeMap _ none => aMakeMap m
  | .makeSlice t l c => match a.look l, a.look c with | some u, some v => aMake P t u v m | _, _ => .bad
  | .slice t x lo hi mx =>
    match a.look x, a.lookO lo, a.lookO hi, a.lookO mx with
    | some v, some l, some h, some q => .ofOpt m (aSlice P t v l h q)
    | _, _, _, _ => .bad
  | .fieldAddr s x f => match a.look x with | some v => .ofOpt m (aField P s v f) | none => .bad
  | .indexAddr t x i => match a.look x, a.look i with | some u, some v => .ofOpt m (aIndexAddr P t u v) | _, _ => .bad
  | .index t x i => match a.look x, a.look i with | some u, some v => .ofOpt m (aIndex P t u v) | _, _ => .bad
  | .lookup t x k ok => match a.look x, a.look k with | some u, some v => .ofOpt m (aLookup P t u v ok m) | _, _ => .bad
  | .mapUpdate t x k v => match a.look x, a.look k, a.look v with | some x, some k, some v => aMapPut P t x k v m | _, _, _ => .bad
  | .insert t x k v => match a.look x, a.look k, a.look v with | some x, some k, some v => aMapPut P t x k v m | _, _, _ => .bad
  | .typeAssert x _ t ok => match a.look x with | some v => .ofOpt m (aAssert P v t ok) | none => .bad
  | .extract x i => match a.look x with | some v => .ofOpt m (aExtract v i) | none => .bad
  | .call c => ACall P c a m
  | .panic x => match a.look x with | some (.ifc t v) => .pan (.ifc t v) | _ => .bad
  | .defer c =>
    match c.callee, c.args.toList with
    | .value f, [] => match a.look f with | some (.fn (.func k) first cap) => .dfr (.fn (.func k) first cap) | _ => .bad
    | _, _ => .bad
  | _ => .bad

/-- Yield's arguments in the parameters. -/
def rndTmps (r : Loop) (vs : List Value) : Array Value := (r.params.zip (⟨vs⟩ : Array Value)).foldl (fun tmps (t, a) => tmps.setIfInBounds t a) r.tmps

/-- A call of yield of the loop 'n', from every world that realises the abstract arguments. -/
def ARound (P : Program) (n : Nat) (args : List AV) (m : AM) (Q : AE → AM → Prop) : Prop :=
  ∀ σ w vs, Sim σ m w → Rs σ m w vs args → ∃ r, w.heap[σ.ρ n]? = some (.loop r) ∧ vs.length = r.params.size ∧
    RoundIn Fence.wide 0 P (σ.ρ n) r.fn (rndTmps r vs) r.assign r.body w fun e w' => ∃ x σ' m', Ext σ m w σ' m' w' ∧ Sim σ' m' w' ∧ ER σ' m' w' e x ∧ Q x m'

/-- What an operation's result makes of the state. -/
def ACont (P : Program) (dst : Option Tmp) (aa : AA) (m : AM) (K : AA → AM → Prop) (Q : AX → AA → AM → Prop) : ARes → Prop
  | .val v m' => K (aa.put dst v) m'
  | .unit m' => K (aa.put dst (.tup [])) m'
  | .call f args => ACalls P f args m fun
    | .ret v, m' => K (aa.put dst v) m'
    | .pan v, m' => Q (.pan v) aa m'
  | .rnd n args => ARound P n args m fun
    | .ret v, m' => K (aa.put dst v) m'
    | .pan v, m' => Q (.pan v) aa m'
  | .pan v => Q (.pan v) aa m
  | .dfr v => K (({ aa with ds := v :: aa.ds } : AA).put dst (.tup [])) m
  | .bad => False

/-- The post of the operations of a region, over the world in which the region began. -/
def OpsPost (σ : St) (m : AM) (w : World) (nt : Nat) (K : AA → AM → Prop) : Act → World → Prop := fun a' w' => ∃ σ' m' aa', Ext σ m w σ' m' w' ∧ Sim σ' m' w' ∧ AR σ' m' w' nt a' aa' ∧ K aa' m'

theorem OpsPost.of_ext {σ σ1 : St} {m m1 : AM} {w w1 : World} {nt : Nat} {K : AA → AM → Prop} {a : Act} {w' : World} (h : Ext σ m w σ1 m1 w1) (hp : OpsPost σ1 m1 w1 nt K a w') : OpsPost σ m w nt K a w' := by
  obtain ⟨σ', m', aa', h1, h2⟩ := hp
  exact ⟨σ', m', aa', h.trans h1, h2⟩

theorem execOp_value (ρ : Operand → Value) (o : Oper) (s : Sem Value) (P : Program) {σ : St} {m : AM} {w : World} {av : AV} {m' : AM} (ho : execOp ρ o = (do pure (.value (← s)))) (h : VOK P s σ m w av m') :
    ∃ cv w' σ', (execOp ρ o).run P w = .ok (.value cv) w' ∧ Ext σ m w σ' m' w' ∧ Sim σ' m' w' ∧ R σ' m' w' cv av := by
  obtain ⟨cv, w', σ', h1, h2, h3, h4⟩ := h
  exact ⟨cv, w', σ', by rw [ho, Sem.run_bind, h1]; rfl, h2, h3, h4⟩

theorem execOp_unit (ρ : Operand → Value) (o : Oper) (s : Sem Unit) (P : Program) {σ : St} {m : AM} {w : World} {m' : AM} (ho : execOp ρ o = (do s; pure .skip)) (h : UOK P s σ m w m') :
    ∃ w' σ', (execOp ρ o).run P w = .ok .skip w' ∧ Ext σ m w σ' m' w' ∧ Sim σ' m' w' := by
  obtain ⟨w', σ', h1, h2, h3⟩ := h
  exact ⟨w', σ', by rw [ho, Sem.run_bind, h1]; rfl, h2, h3⟩

/-- What the model makes of one operation, by the abstract result. -/
def OpRun (P : Program) (o : Oper) (ρ : Operand → Value) (σ : St) (m : AM) (w : World) : ARes → Prop
  | .val v m' => ∃ cv w' σ', (execOp ρ o).run P w = .ok (.value cv) w' ∧ Ext σ m w σ' m' w' ∧ Sim σ' m' w' ∧ R σ' m' w' cv v
  | .unit m' => ∃ w' σ', (execOp ρ o).run P w = .ok .skip w' ∧ Ext σ m w σ' m' w' ∧ Sim σ' m' w'
  | .call f args => ∃ vs, (execOp ρ o).run P w = (callFunc f ⟨vs⟩).run P w ∧ Rs σ m w vs args
  | .rnd n args => ∃ vs, (∀ r, w.heap[σ.ρ n]? = some (.loop r) → vs.length = r.params.size → (execOp ρ o).run P w = .ok (.round (σ.ρ n) r.fn (rndTmps r vs) r.assign r.body) w) ∧ Rs σ m w vs args
  | .pan v => ∃ cv, (execOp ρ o).run P w = .halt (.panic cv) w ∧ R σ m w cv v
  | .dfr v => ∃ f fs cs, (execOp ρ o).run P w = .ok (.defer { target := .fn f ⟨cs⟩, args := ⟨fs⟩ }) w ∧ R σ m w (.func f ⟨fs⟩ ⟨cs⟩) v
  | .bad => True

theorem opRun_opt {P : Program} {o : Oper} {ρ : Operand → Value} {σ : St} {m : AM} {w : World} {r : Option AV} (h : ∀ v, r = some v → OpRun P o ρ σ m w (.val v m)) : OpRun P o ρ σ m w (.ofOpt m r) := by
  cases r with
  | none => trivial
  | some v => exact h v rfl

/-- A result that can only be a value, or bad. -/
def ARes.onlyVal : ARes → Prop
  | .val _ _ | .bad => True
  | _ => False
def ARes.onlyUnit : ARes → Prop
  | .unit _ | .bad => True
  | _ => False

theorem opRun_val {P : Program} {o : Oper} {ρ : Operand → Value} {σ : St} {m : AM} {w : World} {r : ARes} (hv : r.onlyVal) (h : ∀ v m', r = .val v m' → OpRun P o ρ σ m w (.val v m')) : OpRun P o ρ σ m w r := by
  cases r <;> first | trivial | exact h _ _ rfl | exact hv.elim
theorem opRun_unit {P : Program} {o : Oper} {ρ : Operand → Value} {σ : St} {m : AM} {w : World} {r : ARes} (hv : r.onlyUnit) (h : ∀ m', r = .unit m' → OpRun P o ρ σ m w (.unit m')) : OpRun P o ρ σ m w r := by
  cases r <;> first | trivial | exact h _ rfl | exact hv.elim

theorem onlyVal_opt (m : AM) (r : Option AV) : (ARes.ofOpt m r).onlyVal := by cases r <;> trivial
theorem onlyVal_new (t : TypeId) (cs : List AV) (m : AM) : (aNew t cs m).onlyVal := by unfold aNew; split <;> trivial
theorem onlyVal_alloc (P : Program) (t : TypeId) (m : AM) : (aAlloc P t m).onlyVal := by unfold aAlloc; split <;> first | trivial | exact onlyVal_new ..
theorem onlyVal_load (P : Program) (t : TypeId) (a : AV) (m : AM) : (aLoad P t a m).onlyVal := by
  unfold aLoad
  repeat' (split <;> try exact onlyVal_opt _ _)
  all_goals trivial
theorem onlyUnit_store (P : Program) (t : TypeId) (a x : AV) (m : AM) : (aStore P t a x m).onlyUnit := by
  unfold aStore
  repeat' split
  all_goals trivial
theorem onlyUnit_put (P : Program) (t : TypeId) (a k x : AV) (m : AM) : (aMapPut P t a k x m).onlyUnit := by
  unfold aMapPut
  repeat' split
  all_goals trivial
theorem onlyVal_append (P : Program) (ts : List TypeId) (s x : AV) (m : AM) : (aAppend P ts s x m).onlyVal := by
  unfold aAppend
  repeat' split
  all_goals trivial
theorem onlyVal_appendS (P : Program) (ts : List TypeId) (s : AV) (x : List UInt8) (m : AM) : (aAppendS P ts s x m).onlyVal := by
  unfold aAppendS
  repeat' split
  all_goals trivial
theorem onlyVal_app (P : Program) (ts : List TypeId) (s x : AV) (m : AM) : (aApp P ts s x m).onlyVal := by
  unfold aApp
  split
  · exact onlyVal_appendS ..
  · exact onlyVal_append ..
theorem onlyVal_unStr (P : Program) (ts : List TypeId) (x n : AV) (m : AM) : (aUnStr P ts x n m).onlyVal := by
  unfold aUnStr
  repeat' split
  all_goals trivial
theorem onlyVal_cpy (P : Program) (t : TypeId) (n off len : Nat) (x : AV) (m : AM) : (aCpy P t n off len x m).onlyVal := by
  unfold aCpy
  repeat' split
  all_goals trivial
theorem onlyVal_make (P : Program) (t : TypeId) (l c : AV) (m : AM) : (aMake P t l c m).onlyVal := by
  unfold aMake
  repeat' split
  all_goals trivial
theorem onlyVal_buildL (P : Program) (t : TypeId) (len : Nat) (ps : List (Nat × AV)) (m : AM) : (aBuildL P t len ps m).onlyVal := by
  unfold aBuildL
  repeat' split
  all_goals trivial
theorem onlyVal_copy (P : Program) (ts : List TypeId) (s x : AV) (m : AM) : (aCopy P ts s x m).onlyVal := by
  unfold aCopy
  repeat' (split <;> try exact onlyVal_cpy ..)
  all_goals trivial

theorem R.sure {σ : St} {m : AM} {w : World} {v : Value} {a : AV} (h : R σ m w v a) (hs : a.sure = true) (P : Program) (o : Oper) (ρ : Operand → Value) (x : Operand) (ho : o.op = .nilCheck x) (hv : ρ x = v) : (execOp ρ o).run P w = .ok (.value v) w := by
  unfold execOp
  rw [ho]
  simp only [hv]
  cases h <;> first | rfl | (simp [AV.sure] at hs; done) | skip
  rename_i f _ _ _ _ _ _ _ _
  cases f <;> first | rfl | simp [AV.sure] at hs

theorem call_run {P : Program} {σ : St} {m : AM} {w : World} {nt : Nat} {a : Act} {aa : AA} (hs : Sim σ m w) (ha : AR σ m w nt a aa) (o : Oper) (c : Call) (ho : o.op = .call c) : OpRun P o a.eval σ m w (ACall P c aa m) := by
  have hexec : execOp a.eval o = (do let d ← resolve a.eval c o.type; invoke d.target d.args) := by unfold execOp; rw [ho]
  unfold ACall
  have hargs : ∀ as, aa.lookL c.args.toList = some as → Rs σ m w (c.args.map a.eval).toList as := by
    intro as h
    have := ha.lookL h
    simpa using this
  have two : ∀ {x y : AV}, Rs σ m w (c.args.map a.eval).toList [x, y] → ∃ u v, c.args.map a.eval = #[u, v] ∧ R σ m w u x ∧ R σ m w v y := by
    intro x y h
    obtain ⟨h1, h2⟩ := h
    generalize c.args.map a.eval = q at *
    obtain ⟨q⟩ := q
    match q, h1, h2 with
    | [u, v], _, h2 => exact ⟨u, v, rfl, h2 0 u x rfl rfl, h2 1 v y rfl rfl⟩
  have one : ∀ {x : AV}, Rs σ m w (c.args.map a.eval).toList [x] → ∃ u, c.args.map a.eval = #[u] ∧ R σ m w u x := by
    intro x h
    obtain ⟨h1, h2⟩ := h
    generalize c.args.map a.eval = q at *
    obtain ⟨q⟩ := q
    match q, h1, h2 with
    | [u], _, h2 => exact ⟨u, rfl, h2 0 u x rfl rfl⟩
  have bi : ∀ (b : Builtin) (s : Sem Value), c.callee = .builtin b → builtin b c.argTypes o.type (c.args.map fun | .const _ => true | _ => false) (c.args.map a.eval) = (do pure (.value (← s))) → execOp a.eval o = (do pure (.value (← s))) := by
    intro b s hb hs'
    rw [hexec]
    simp only [resolve, hb, pure_bind]
    exact hs'
  split
  · rename_i x hc hl
    obtain ⟨u, hu, hr⟩ := one (hargs _ hl)
    refine opRun_opt fun v hv => execOp_value _ _ _ P (bi _ (Builtin.len_ c.argTypes o.type (c.args.map a.eval)) hc rfl) ?_
    rw [hu]
    exact aLen_ok hs hr hv
  · rename_i x y hc hl
    obtain ⟨u, v, hu, hr1, hr2⟩ := two (hargs _ hl)
    refine opRun_val (onlyVal_app ..) fun v m' hv => execOp_value _ _ _ P (bi _ (Builtin.append_ c.argTypes o.type (c.args.map a.eval)) hc rfl) ?_
    rw [hu]
    unfold aApp at hv
    split at hv
    · obtain rfl := hr2.str_inv
      exact aAppendS_ok hs hr1 hv
    · exact aAppend_ok hs hr1 hr2 hv
  · rename_i x y hc hl
    obtain ⟨u, v, hu, hr1, hr2⟩ := two (hargs _ hl)
    refine opRun_val (onlyVal_copy ..) fun v m' hv => execOp_value _ _ _ P (bi _ (Builtin.copy_ c.argTypes o.type (c.args.map a.eval)) hc rfl) ?_
    rw [hu]
    exact aCopy_ok hs hr1 hr2 hv
  · rename_i x y hc hl
    obtain ⟨u, v, hu, hr1, hr2⟩ := two (hargs _ hl)
    refine opRun_opt fun q hv => execOp_value _ _ _ P (bi _ (Builtin.min_ c.argTypes o.type (c.args.map a.eval)) hc rfl) ?_
    rw [hu]
    exact aMin_ok hs hr1 hr2 hv
  · rename_i x y hc hl
    obtain ⟨u, v, hu, hr1, hr2⟩ := two (hargs _ hl)
    refine opRun_opt fun q hv => execOp_value _ _ _ P (bi _ (Builtin.max_ c.argTypes o.type (c.args.map a.eval)) hc rfl) ?_
    rw [hu]
    exact aMax_ok hs hr1 hr2 hv
  · rename_i x hc hl
    obtain ⟨u, hu, hr⟩ := one (hargs _ hl)
    refine opRun_opt fun v hv => execOp_value _ _ _ P (bi _ (Builtin.unsafeSliceData_ c.argTypes o.type (c.args.map a.eval)) hc rfl) ?_
    rw [hu]
    exact aSlData_ok hs hr hv
  · rename_i x n hc hl
    obtain ⟨u, v, hu, hr1, hr2⟩ := two (hargs _ hl)
    refine opRun_val (onlyVal_unStr ..) fun v m' hv => execOp_value _ _ _ P (bi _ (Builtin.unsafeString_ c.argTypes o.type (c.args.map a.eval)) hc rfl) ?_
    rw [hu]
    exact aUnStr_ok hs hr1 hr2 hv
  · rename_i f as hc hl
    split
    · rename_i k first cap hf
      have hfv := ha.look hf
      generalize hq : a.eval f = fv at hfv
      cases hfv
      rename_i fs cs hfl hfs hcl hcs
      refine ⟨fs ++ (c.args.map a.eval).toList ++ cs, ?_, ?_⟩
      · rw [hexec]
        simp only [resolve, hc, hq, Deferred.ofValue, pure_bind]
        simp only [invoke]
        have : (⟨fs⟩ : Array Value) ++ Array.map a.eval c.args ++ ⟨cs⟩ = ⟨fs ++ (Array.map a.eval c.args).toList ++ cs⟩ := by
          apply Array.ext'
          simp
        rw [this]
      · obtain ⟨l1, l2⟩ := hargs _ hl
        refine ⟨by simp [hfl, hcl, ← l1], fun i v b hv hb => ?_⟩
        by_cases h1 : i < first.length
        · rw [List.append_assoc, List.getElem?_append_left (by omega)] at hv
          rw [List.append_assoc, List.getElem?_append_left h1] at hb
          exact hfs i v b hv hb
        · by_cases h2 : i < first.length + as.length
          · rw [List.append_assoc, List.getElem?_append_right (by omega), List.getElem?_append_left (by omega)] at hv
            rw [List.append_assoc, List.getElem?_append_right (by omega), List.getElem?_append_left (by omega)] at hb
            rw [hfl] at hv
            exact l2 _ v b hv hb
          · have e1 : (fs ++ (c.args.map a.eval).toList).length = (first ++ as).length := by rw [List.length_append, List.length_append, hfl, l1]
            rw [List.getElem?_append_right (by rw [e1]; simp; omega)] at hv
            rw [List.getElem?_append_right (by simp; omega)] at hb
            rw [e1] at hv
            exact hcs _ v b hv hb
    · rename_i n hf
      have hfv := ha.look hf
      generalize hq : a.eval f = fv at hfv
      cases hfv
      refine ⟨(c.args.map a.eval).toList, fun r hr hl => ?_, hargs _ hl⟩
      rw [hexec]
      simp only [resolve, hc, hq, Deferred.ofValue, pure_bind]
      simp only [invoke]
      have : (⟨[]⟩ : Array Value) ++ Array.map a.eval c.args = ⟨(Array.map a.eval c.args).toList⟩ := by
        apply Array.ext'
        simp
      rw [this]
      exact run_yield hr (by simpa using hl)
    · trivial
  · trivial

theorem aop_run {P : Program} {σ : St} {m : AM} {w : World} {nt : Nat} {a : Act} {aa : AA} (hs : Sim σ m w) (ha : AR σ m w nt a aa) (o : Oper) : OpRun P o a.eval σ m w (aop P o.op aa m) := by
  cases ho : o.op with
  | move x =>
    refine opRun_opt fun v hv => ?_
    exact ⟨a.eval x, w, σ, by unfold execOp; rw [ho]; rfl, Ext.refl .., hs, ha.look hv⟩
  | assign x =>
    refine opRun_opt fun v hv => ?_
    exact ⟨a.eval x, w, σ, by unfold execOp; rw [ho]; rfl, Ext.refl .., hs, ha.look hv⟩
  | pick c x y =>
    simp only [aop]
    split
    · rename_i b hb
      have hc := (ha.look hb).bool_inv
      split
      · rename_i hbt
        refine opRun_opt fun v hv => ?_
        exact ⟨a.eval x, w, σ, by unfold execOp; rw [ho]; simp [hc, asBool, hbt], Ext.refl .., hs, ha.look hv⟩
      · rename_i hbt
        refine opRun_opt fun v hv => ?_
        exact ⟨a.eval y, w, σ, by unfold execOp; rw [ho]; simp [hc, asBool, hbt], Ext.refl .., hs, ha.look hv⟩
    · trivial
  | alloc t => exact opRun_val (onlyVal_alloc ..) fun v m' hv => execOp_value _ _ _ P (by unfold execOp; rw [ho]) (aAlloc_ok hs hv)
  | box t x =>
    simp only [aop]
    split
    · rename_i u hu
      exact opRun_val (onlyVal_new ..) fun v m' hv => execOp_value _ _ _ P (by unfold execOp; rw [ho]) (aBox_ok hs (ha.look hu) hv)
    · trivial
  | build t parts =>
    simp only [aop]
    split
    · rename_i ps hps
      obtain ⟨h1, h2⟩ := ha.lookP hps
      exact opRun_opt fun v hv => execOp_value _ _ _ P (by unfold execOp; rw [ho]) (aBuild_ok hs (by simpa using h1) (by simpa using h2) hv)
    · trivial
  | buildSlice t len parts =>
    simp only [aop]
    split
    · rename_i ps hps
      obtain ⟨h1, h2⟩ := ha.lookP hps
      exact opRun_opt fun v hv => execOp_value _ _ _ P (by unfold execOp; rw [ho]) (aBuildSlice_ok hs (by simpa using h1) (by simpa using h2) hv)
    · trivial
  | load t x =>
    simp only [aop]
    split
    · rename_i u hu
      exact opRun_val (onlyVal_load ..) fun v m' hv => execOp_value _ _ _ P (by unfold execOp; rw [ho]) (aLoad_ok hs (ha.look hu) hv)
    · trivial
  | store t x y =>
    simp only [aop]
    split
    · rename_i u v hu hv
      exact opRun_unit (onlyUnit_store ..) fun m' hm => execOp_unit _ _ _ P (by unfold execOp; rw [ho]) (aStore_ok hs (ha.look hu) (ha.look hv) hm)
    · trivial
  | nilCheck x =>
    simp only [aop]
    split
    · rename_i u hu
      split
      · rename_i hsu
        exact ⟨_, w, σ, (ha.look hu).sure hsu P o a.eval x ho rfl, Ext.refl .., hs, ha.look hu⟩
      · trivial
    · trivial
  | binOp op t x y yt =>
    simp only [aop]
    split
    · rename_i u v hu hv
      exact opRun_opt fun q hq => execOp_value _ _ _ P (by unfold execOp; rw [ho]) (aBin_ok hs (ha.look hu) (ha.look hv) hq)
    · trivial
  | unOp op t x =>
    simp only [aop]
    split
    · rename_i u hu
      exact opRun_opt fun q hq => execOp_value _ _ _ P (by unfold execOp; rw [ho]) (aUn_ok hs (ha.look hu) hq)
    · trivial
  | convert s d x =>
    simp only [aop]
    split
    · rename_i u hu
      exact opRun_opt fun q hq => execOp_value _ _ _ P (by unfold execOp; rw [ho]) (aConv_ok hs (ha.look hu) hq)
    · trivial
  | makeInterface t x =>
    simp only [aop]
    split
    · rename_i u hu
      exact opRun_opt fun q hq => execOp_value _ _ _ P (by unfold execOp; rw [ho]) (aMkIface_ok hs (ha.look hu) hq)
    · trivial
  | makeFunc f first cap =>
    simp only [aop]
    split
    · rename_i fs cs hf hc
      obtain ⟨h1, h2⟩ := ha.lookL hf
      obtain ⟨h3, h4⟩ := ha.lookL hc
      refine ⟨.func f ⟨first.toList.map a.eval⟩ ⟨cap.toList.map a.eval⟩, w, σ, ?_, Ext.refl .., hs, .fn f _ _ fs cs h1 h3 h2 h4⟩
      unfold execOp
      rw [ho]
      have e1 : first.map a.eval = ⟨first.toList.map a.eval⟩ := by apply Array.ext'; simp
      have e2 : cap.map a.eval = ⟨cap.toList.map a.eval⟩ := by apply Array.ext'; simp
      simp [Instr.makeFunc, e1, e2]
    · trivial
  | makeMap t r =>
    cases r with
    | none => exact opRun_val trivial fun v m' hv => execOp_value _ _ _ P (by unfold execOp; rw [ho]; rfl) (aMakeMap_ok (t := t) hs hv)
    | some r => trivial
  | makeSlice t l c =>
    simp only [aop]
    split
    · rename_i u v hu hv
      exact opRun_val (onlyVal_make ..) fun q m' hq => execOp_value _ _ _ P (by unfold execOp; rw [ho]) (aMake_ok hs (ha.look hu) (ha.look hv) hq)
    · trivial
  | slice t x lo hi mx =>
    simp only [aop]
    split
    · rename_i v l h q hv hl hh hq
      exact opRun_opt fun r hr => execOp_value _ _ _ P (by unfold execOp; rw [ho]) (aSlice_ok hs (ha.look hv) (ha.lookO hl) (ha.lookO hh) (ha.lookO hq) hr)
    · trivial
  | fieldAddr s x f =>
    simp only [aop]
    split
    · rename_i u hu
      exact opRun_opt fun q hq => execOp_value _ _ _ P (by unfold execOp; rw [ho]) (aField_ok hs (ha.look hu) hq)
    · trivial
  | indexAddr t x i =>
    simp only [aop]
    split
    · rename_i u v hu hv
      exact opRun_opt fun q hq => execOp_value _ _ _ P (by unfold execOp; rw [ho]) (aIndexAddr_ok hs (ha.look hu) (ha.look hv) hq)
    · trivial
  | index t x i =>
    simp only [aop]
    split
    · rename_i u v hu hv
      exact opRun_opt fun q hq => execOp_value _ _ _ P (by unfold execOp; rw [ho]) (aIndex_ok hs (ha.look hu) (ha.look hv) hq)
    · trivial
  | lookup t x k ok =>
    simp only [aop]
    split
    · rename_i u v hu hv
      exact opRun_opt fun q hq => execOp_value _ _ _ P (by unfold execOp; rw [ho]) (aLookup_ok hs (ha.look hu) (ha.look hv) hq)
    · trivial
  | mapUpdate t x k v =>
    simp only [aop]
    split
    · rename_i x' k' v' hx hk hv
      exact opRun_unit (onlyUnit_put ..) fun m' hm => execOp_unit _ _ _ P (by unfold execOp; rw [ho]) (aMapPut_ok hs (ha.look hx) (ha.look hk) (ha.look hv) hm)
    · trivial
  | insert t x k v =>
    simp only [aop]
    split
    · rename_i x' k' v' hx hk hv
      exact opRun_unit (onlyUnit_put ..) fun m' hm => execOp_unit _ _ _ P (by unfold execOp; rw [ho]) (aMapPut_ok hs (ha.look hx) (ha.look hk) (ha.look hv) hm)
    · trivial
  | typeAssert x xt t ok =>
    simp only [aop]
    split
    · rename_i u hu
      exact opRun_opt fun q hq => execOp_value _ _ _ P (by unfold execOp; rw [ho]) (aAssert_ok hs (ha.look hu) hq)
    · trivial
  | extract x i =>
    simp only [aop]
    split
    · rename_i u hu
      exact opRun_opt fun q hq => execOp_value _ _ _ P (by unfold execOp; rw [ho]) (aExtract_ok hs (ha.look hu) hq)
    · trivial
  | call c => exact call_run hs ha o c ho
  | panic x =>
    simp only [aop]
    split
    · rename_i t v hv
      have hr := ha.look hv
      generalize hq : a.eval x = xv at hr
      cases hr
      rename_i u hu
      refine ⟨_, ?_, .ifc t u v hu⟩
      unfold execOp
      rw [ho]
      simp [hq, Instr.panic]
    · trivial
  | defer c =>
    simp only [aop]
    split
    · rename_i f hf hargs
      split
      · rename_i k first cap hlk
        have hr := ha.look hlk
        generalize hq : a.eval f = fv at hr
        cases hr
        rename_i fs cs h1 h2 h3 h4
        refine ⟨.func k, fs, cs, ?_, .fn _ fs cs first cap h1 h3 h2 h4⟩
        unfold execOp
        rw [ho]
        have hca : c.args.map a.eval = #[] := by apply Array.ext'; simp [hargs]
        simp [resolve, hf, hq, Deferred.ofValue, hca]
      · trivial
    · trivial
  | _ => trivial

/-! ### literals that are written later: where the frame bears a mark -/
def liveT : Nat := 1000000

def aopS (P : Program) (o : Op) (a : AA) (m : AM) : ARes :=
  match o with
  | .buildSlice t len parts =>
    match fget a.fr liveT with
    | some _ => (match a.lookP parts.toList with | some ps => aBuildL P t len ps m | none => .bad)
    | none => aop P (.buildSlice t len parts) a m
  | o => aop P o a m

theorem aopS_run {P : Program} {σ : St} {m : AM} {w : World} {nt : Nat} {a : Act} {aa : AA} (hs : Sim σ m w) (ha : AR σ m w nt a aa) (o : Oper) : OpRun P o a.eval σ m w (aopS P o.op aa m) := by
  have hg := aop_run (P := P) hs ha o
  unfold aopS
  split
  · rename_i t len parts ho
    split
    · split
      · rename_i ps hps
        obtain ⟨h1, h2⟩ := ha.lookP hps
        exact opRun_val (onlyVal_buildL ..) fun v m' hv => execOp_value _ _ _ P (by unfold execOp; rw [ho]) (aBuildL_ok hs (by simpa using h1) (by simpa using h2) hv)
      · trivial
    · rw [ho] at hg
      exact hg
  · exact hg

end Go.Ab
