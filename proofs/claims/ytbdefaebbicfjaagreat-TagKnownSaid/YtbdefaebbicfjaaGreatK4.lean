/- The things that are read, as rows; lists of them. -/
import Derived.Test.YtbdefaebbicfjaaGreatK3
set_option linter.all false
namespace Go.Proofs.YtbdefaebbicfjaaGreat
open Go Go.Ab Go.RowKit
set_option maxHeartbeats 400000
set_option maxRecDepth 10000

abbrev Din (n : Int) : D := .int .i64 n
abbrev ints (l : List Int) : D := .sl 1 (l.map fun v => [Din v])

structure POp where
  code : Int
  arg : Int
  deriving DecidableEq
structure Seg where
  till : Int
  mul : Int
  add : Int
  num : Int
  den : Int
  off : Int
  deriving DecidableEq
structure Cur where
  kind : Int
  table : List Int
  segs : List Seg
  deriving DecidableEq
structure Grd where
  size : List Int
  out : Int
  data : List Int
  deriving DecidableEq
structure Elt where
  kind : Int
  curves : List Cur
  rows : List (List Int)
  offset : List Int
  grid : Grd
  prog : List POp
  nin : Int
  nout : Int
  deriving DecidableEq
structure Chn where
  nin : Int
  elts : List Elt
  deriving DecidableEq
structure Tg where
  sign : List UInt8
  kind : Int
  text : List UInt8
  numbers : List Int
  chain : Chn
  deriving DecidableEq

abbrev POp.row (o : POp) : List D := [Din o.code, Din o.arg]
abbrev POp.enc (o : POp) : AV := .agg [I o.code, I o.arg]
abbrev Seg.row (o : Seg) : List D := [Din o.till, Din o.mul, Din o.add, Din o.num, Din o.den, Din o.off]
abbrev Seg.enc (o : Seg) : AV := .agg [I o.till, I o.mul, I o.add, I o.num, I o.den, I o.off]
abbrev segsD (l : List Seg) : D := .sl 6 (l.map Seg.row)
abbrev Cur.row (c : Cur) : List D := [Din c.kind, ints c.table, segsD c.segs]
abbrev Cur.enc (c : Cur) : AV := .agg [I c.kind, .d (ints c.table), .d (segsD c.segs)]
abbrev curvesD (l : List Cur) : D := .sl 3 (l.map Cur.row)
abbrev rowsD (l : List (List Int)) : D := .sl 1 (l.map fun r => [ints r])
abbrev progD (l : List POp) : D := .sl 2 (l.map POp.row)
abbrev Grd.enc (g : Grd) : AV := .agg [.d (ints g.size), I g.out, .d (ints g.data)]
abbrev Elt.row (x : Elt) : List D := [Din x.kind, curvesD x.curves, rowsD x.rows, ints x.offset, ints x.grid.size, Din x.grid.out, ints x.grid.data, progD x.prog, Din x.nin, Din x.nout]
abbrev Elt.enc (x : Elt) : AV := .agg [I x.kind, .d (curvesD x.curves), .d (rowsD x.rows), .d (ints x.offset), .d (ints x.grid.size), I x.grid.out, .d (ints x.grid.data), .d (progD x.prog), I x.nin, I x.nout]
abbrev eltsD (l : List Elt) : D := .sl 10 (l.map Elt.row)
abbrev Chn.enc (c : Chn) : AV := .agg [I c.nin, .d (eltsD c.elts)]
abbrev Tg.enc (t : Tg) : AV := .agg [S t.sign, I t.kind, S t.text, .d (ints t.numbers), I t.chain.nin, .d (eltsD t.chain.elts)]

def listGo {α : Type} (rd : List UInt8 → Int → RR α) (s : List UInt8) : Nat → List α → Int → RR (List α)
  | 0, acc, a => .ok acc a
  | k + 1, acc, a => (rd s a).bind fun v a' => listGo rd s k (acc ++ [v]) a'
/-- n things, one after the other. -/
def listR {α : Type} (rd : List UInt8 → Int → RR α) (n : Int) (s : List UInt8) (a : Int) : RR (List α) := listGo rd s n.toNat [] a

theorem list65 (rd : List UInt8 → Int → RR Int) (fid : Nat) (fs cs : List AV) (n : Int) (hn : n ≤ 65536) (s : List UInt8) (a : Int) (h0 : 0 ≤ a) (h1 : a ≤ 65536) (nr : Nat) (m : AM) (hr : m.get nr = some (rdr s a))
    (hrd : ∀ (k : Nat) (a : Int) (Q : AE → AM → Prop), 0 ≤ a → a ≤ 65536 → RQ s nr (some (.grow 3 1 k) :: m.set nr (some (rdr s a))) I Q (rd s a) → ACalls Tryz.prog fid (fs ++ cs) (some (.grow 3 1 k) :: m.set nr (some (rdr s a))) Q)
    (Q : AE → AM → Prop) (hQ : RQ s nr m (fun l => .d (.sl 1 (l.map (fun v => [Din v])))) Q (listR rd n s a)) : ACalls Tryz.prog 65 [I n, .fn (.func fid) fs cs] m Q := by
  refine ACalls.fin ?_
  have hlt := AM.get_lt _ _ _ hr
  refine acalls_of_body Tryz.func65 (by rfl) (by rfl) (Nat.le_of_ble_eq_true rfl) ?_
  simp -dsimp (disch := omega) only [go_sem, Tryz.f65]
  refine AW.loop (ι := List Int × Int) (fun i => i.1.length ≤ n.toNat ∧ 0 ≤ i.2 ∧ i.2 ≤ 65536 ∧ RQ s nr m (fun l => .d (.sl 1 (l.map (fun v => [Din v])))) Q (listGo rd s (n.toNat - i.1.length) i.1 i.2))
    (fun i => [(5, .gsl m.length 1 (i.1.map (fun v => [Din v]))), (0, I n), (1, .fn (.func fid) fs cs)])
    (fun i => some (.grow 3 1 i.1.length) :: m.set nr (some (rdr s i.2))) (fun i => n.toNat - i.1.length) [] ⟨([], a), ⟨by simp, h0, h1, hQ⟩, ?_⟩ ?_
  · rw [set_same hr]
    refine (Weak.grow 5 3 1 (by rfl)).trans (Weak.of ?_ (mLe.refl _))
    (simp only [frLe]; repeat' apply And.intro) <;> first | trivial | exact ⟨_, rfl, .refl _⟩
  · rintro ⟨l, a1⟩ ⟨g1, g2, g3, g4⟩
    simp only [] at g1 g2 g3 g4
    simp -dsimp (disch := omega) only [go_sem]
    refine Br.intro (fun h => ?_) (fun h => ?_)
    · have e : n.toNat - l.length = 0 := by omega
      rw [e] at g4
      simp -dsimp (disch := omega) only [go_sem]
      refine ⟨_, _, .ret (.gsl _ _ _), ?_, (Kept.refl m).set ?_, ?_, g4 g2 g3⟩
      · repeat (first | exact Over.refl _ | apply Over.cons)
      · simp only [ABlk.bd, AV.bd, AV.bdL, and_self]
      · simp only [AE.bd, AV.bd, AV.bdL, and_self]
    · obtain ⟨k, e⟩ : ∃ k, n.toNat - l.length = k + 1 := ⟨n.toNat - l.length - 1, by omega⟩
      rw [e] at g4
      simp -dsimp (disch := omega) only [go_sem]
      refine hrd l.length a1 _ g2 g3 ?_
      simp only [listGo] at g4
      cases hv : rd s a1 with
      | bad w e a2 =>
        rw [hv] at g4
        simp only [RQ, RR.bind] at g4 ⊢
        simp -dsimp (disch := omega) only [go_sem]
        refine ⟨_, _, .pan (.refl _), ?_, (Kept.refl m).set ?_, ?_, g4⟩
        · repeat (first | exact Over.refl _ | apply Over.cons)
        · simp only [ABlk.bd, AV.bd, AV.bdL, and_self]
        · simp only [AE.bd, AV.bd, AV.bdL, and_self]
      | ok v a2 =>
        rw [hv] at g4
        simp only [RR.bind] at g4
        intro h2 h3
        simp -dsimp (disch := omega) only [go_sem]
        refine ⟨(l ++ [v], a2), ⟨by simp; omega, h2, h3, ?_⟩, by simp; omega, ?_⟩
        · simpa [show n.toNat - (l.length + 1) = k by omega] using g4
        · refine Weak.of ?_ ?_
          · simp only [List.map_append, List.map_cons, List.map_nil]
            (simp only [frLe]; repeat' apply And.intro) <;> first | trivial | exact ⟨_, rfl, .refl _⟩
          · simp only [List.length_append, List.length_cons, List.length_nil]
            exact mLe.refl _

theorem list180 (rd : List UInt8 → Int → RR Seg) (fid : Nat) (fs cs : List AV) (n : Int) (hn : n ≤ 65536) (s : List UInt8) (a : Int) (h0 : 0 ≤ a) (h1 : a ≤ 65536) (nr : Nat) (m : AM) (hr : m.get nr = some (rdr s a))
    (hrd : ∀ (k : Nat) (a : Int) (Q : AE → AM → Prop), 0 ≤ a → a ≤ 65536 → RQ s nr (some (.grow 65 6 k) :: m.set nr (some (rdr s a))) Seg.enc Q (rd s a) → ACalls Tryz.prog fid (fs ++ cs) (some (.grow 65 6 k) :: m.set nr (some (rdr s a))) Q)
    (Q : AE → AM → Prop) (hQ : RQ s nr m (fun l => .d (.sl 6 (l.map Seg.row))) Q (listR rd n s a)) : ACalls Tryz.prog 180 [I n, .fn (.func fid) fs cs] m Q := by
  refine ACalls.fin ?_
  have hlt := AM.get_lt _ _ _ hr
  refine acalls_of_body Tryz.func180 (by rfl) (by rfl) (Nat.le_of_ble_eq_true rfl) ?_
  simp -dsimp (disch := omega) only [go_sem, Tryz.f180]
  refine AW.loop (ι := List Seg × Int) (fun i => i.1.length ≤ n.toNat ∧ 0 ≤ i.2 ∧ i.2 ≤ 65536 ∧ RQ s nr m (fun l => .d (.sl 6 (l.map Seg.row))) Q (listGo rd s (n.toNat - i.1.length) i.1 i.2))
    (fun i => [(5, .gsl m.length 6 (i.1.map Seg.row)), (0, I n), (1, .fn (.func fid) fs cs)])
    (fun i => some (.grow 65 6 i.1.length) :: m.set nr (some (rdr s i.2))) (fun i => n.toNat - i.1.length) [] ⟨([], a), ⟨by simp, h0, h1, hQ⟩, ?_⟩ ?_
  · rw [set_same hr]
    refine (Weak.grow 5 65 6 (by rfl)).trans (Weak.of ?_ (mLe.refl _))
    (simp only [frLe]; repeat' apply And.intro) <;> first | trivial | exact ⟨_, rfl, .refl _⟩
  · rintro ⟨l, a1⟩ ⟨g1, g2, g3, g4⟩
    simp only [] at g1 g2 g3 g4
    simp -dsimp (disch := omega) only [go_sem]
    refine Br.intro (fun h => ?_) (fun h => ?_)
    · have e : n.toNat - l.length = 0 := by omega
      rw [e] at g4
      simp -dsimp (disch := omega) only [go_sem]
      refine ⟨_, _, .ret (.gsl _ _ _), ?_, (Kept.refl m).set ?_, ?_, g4 g2 g3⟩
      · repeat (first | exact Over.refl _ | apply Over.cons)
      · simp only [ABlk.bd, AV.bd, AV.bdL, and_self]
      · simp only [AE.bd, AV.bd, AV.bdL, and_self]
    · obtain ⟨k, e⟩ : ∃ k, n.toNat - l.length = k + 1 := ⟨n.toNat - l.length - 1, by omega⟩
      rw [e] at g4
      simp -dsimp (disch := omega) only [go_sem]
      refine hrd l.length a1 _ g2 g3 ?_
      simp only [listGo] at g4
      cases hv : rd s a1 with
      | bad w e a2 =>
        rw [hv] at g4
        simp only [RQ, RR.bind] at g4 ⊢
        simp -dsimp (disch := omega) only [go_sem]
        refine ⟨_, _, .pan (.refl _), ?_, (Kept.refl m).set ?_, ?_, g4⟩
        · repeat (first | exact Over.refl _ | apply Over.cons)
        · simp only [ABlk.bd, AV.bd, AV.bdL, and_self]
        · simp only [AE.bd, AV.bd, AV.bdL, and_self]
      | ok v a2 =>
        rw [hv] at g4
        simp only [RR.bind] at g4
        intro h2 h3
        simp -dsimp (disch := omega) only [go_sem]
        refine ⟨(l ++ [v], a2), ⟨by simp; omega, h2, h3, ?_⟩, by simp; omega, ?_⟩
        · simpa [show n.toNat - (l.length + 1) = k by omega] using g4
        · refine Weak.of ?_ ?_
          · simp only [List.map_append, List.map_cons, List.map_nil]
            (simp only [frLe]; repeat' apply And.intro) <;> first | trivial | exact ⟨_, rfl, .refl _⟩
          · simp only [List.length_append, List.length_cons, List.length_nil]
            exact mLe.refl _

theorem list143 (rd : List UInt8 → Int → RR Cur) (fid : Nat) (fs cs : List AV) (n : Int) (hn : n ≤ 65536) (s : List UInt8) (a : Int) (h0 : 0 ≤ a) (h1 : a ≤ 65536) (nr : Nat) (m : AM) (hr : m.get nr = some (rdr s a))
    (hrd : ∀ (k : Nat) (a : Int) (Q : AE → AM → Prop), 0 ≤ a → a ≤ 65536 → RQ s nr (some (.grow 56 3 k) :: m.set nr (some (rdr s a))) Cur.enc Q (rd s a) → ACalls Tryz.prog fid (fs ++ cs) (some (.grow 56 3 k) :: m.set nr (some (rdr s a))) Q)
    (Q : AE → AM → Prop) (hQ : RQ s nr m (fun l => .d (.sl 3 (l.map Cur.row))) Q (listR rd n s a)) : ACalls Tryz.prog 143 [I n, .fn (.func fid) fs cs] m Q := by
  refine ACalls.fin ?_
  have hlt := AM.get_lt _ _ _ hr
  refine acalls_of_body Tryz.func143 (by rfl) (by rfl) (Nat.le_of_ble_eq_true rfl) ?_
  simp -dsimp (disch := omega) only [go_sem, Tryz.f143]
  refine AW.loop (ι := List Cur × Int) (fun i => i.1.length ≤ n.toNat ∧ 0 ≤ i.2 ∧ i.2 ≤ 65536 ∧ RQ s nr m (fun l => .d (.sl 3 (l.map Cur.row))) Q (listGo rd s (n.toNat - i.1.length) i.1 i.2))
    (fun i => [(5, .gsl m.length 3 (i.1.map Cur.row)), (0, I n), (1, .fn (.func fid) fs cs)])
    (fun i => some (.grow 56 3 i.1.length) :: m.set nr (some (rdr s i.2))) (fun i => n.toNat - i.1.length) [] ⟨([], a), ⟨by simp, h0, h1, hQ⟩, ?_⟩ ?_
  · rw [set_same hr]
    refine (Weak.grow 5 56 3 (by rfl)).trans (Weak.of ?_ (mLe.refl _))
    (simp only [frLe]; repeat' apply And.intro) <;> first | trivial | exact ⟨_, rfl, .refl _⟩
  · rintro ⟨l, a1⟩ ⟨g1, g2, g3, g4⟩
    simp only [] at g1 g2 g3 g4
    simp -dsimp (disch := omega) only [go_sem]
    refine Br.intro (fun h => ?_) (fun h => ?_)
    · have e : n.toNat - l.length = 0 := by omega
      rw [e] at g4
      simp -dsimp (disch := omega) only [go_sem]
      refine ⟨_, _, .ret (.gsl _ _ _), ?_, (Kept.refl m).set ?_, ?_, g4 g2 g3⟩
      · repeat (first | exact Over.refl _ | apply Over.cons)
      · simp only [ABlk.bd, AV.bd, AV.bdL, and_self]
      · simp only [AE.bd, AV.bd, AV.bdL, and_self]
    · obtain ⟨k, e⟩ : ∃ k, n.toNat - l.length = k + 1 := ⟨n.toNat - l.length - 1, by omega⟩
      rw [e] at g4
      simp -dsimp (disch := omega) only [go_sem]
      refine hrd l.length a1 _ g2 g3 ?_
      simp only [listGo] at g4
      cases hv : rd s a1 with
      | bad w e a2 =>
        rw [hv] at g4
        simp only [RQ, RR.bind] at g4 ⊢
        simp -dsimp (disch := omega) only [go_sem]
        refine ⟨_, _, .pan (.refl _), ?_, (Kept.refl m).set ?_, ?_, g4⟩
        · repeat (first | exact Over.refl _ | apply Over.cons)
        · simp only [ABlk.bd, AV.bd, AV.bdL, and_self]
        · simp only [AE.bd, AV.bd, AV.bdL, and_self]
      | ok v a2 =>
        rw [hv] at g4
        simp only [RR.bind] at g4
        intro h2 h3
        simp -dsimp (disch := omega) only [go_sem]
        refine ⟨(l ++ [v], a2), ⟨by simp; omega, h2, h3, ?_⟩, by simp; omega, ?_⟩
        · simpa [show n.toNat - (l.length + 1) = k by omega] using g4
        · refine Weak.of ?_ ?_
          · simp only [List.map_append, List.map_cons, List.map_nil]
            (simp only [frLe]; repeat' apply And.intro) <;> first | trivial | exact ⟨_, rfl, .refl _⟩
          · simp only [List.length_append, List.length_cons, List.length_nil]
            exact mLe.refl _

theorem list146 (rd : List UInt8 → Int → RR (List Int)) (fid : Nat) (fs cs : List AV) (n : Int) (hn : n ≤ 65536) (s : List UInt8) (a : Int) (h0 : 0 ≤ a) (h1 : a ≤ 65536) (nr : Nat) (m : AM) (hr : m.get nr = some (rdr s a))
    (hrd : ∀ (k : Nat) (a : Int) (Q : AE → AM → Prop), 0 ≤ a → a ≤ 65536 → RQ s nr (some (.grow 36 1 k) :: m.set nr (some (rdr s a))) (fun l => .d (ints l)) Q (rd s a) → ACalls Tryz.prog fid (fs ++ cs) (some (.grow 36 1 k) :: m.set nr (some (rdr s a))) Q)
    (Q : AE → AM → Prop) (hQ : RQ s nr m (fun l => .d (.sl 1 (l.map (fun l => [ints l])))) Q (listR rd n s a)) : ACalls Tryz.prog 146 [I n, .fn (.func fid) fs cs] m Q := by
  refine ACalls.fin ?_
  have hlt := AM.get_lt _ _ _ hr
  refine acalls_of_body Tryz.func146 (by rfl) (by rfl) (Nat.le_of_ble_eq_true rfl) ?_
  simp -dsimp (disch := omega) only [go_sem, Tryz.f146]
  refine AW.loop (ι := List (List Int) × Int) (fun i => i.1.length ≤ n.toNat ∧ 0 ≤ i.2 ∧ i.2 ≤ 65536 ∧ RQ s nr m (fun l => .d (.sl 1 (l.map (fun l => [ints l])))) Q (listGo rd s (n.toNat - i.1.length) i.1 i.2))
    (fun i => [(5, .gsl m.length 1 (i.1.map (fun l => [ints l]))), (0, I n), (1, .fn (.func fid) fs cs)])
    (fun i => some (.grow 36 1 i.1.length) :: m.set nr (some (rdr s i.2))) (fun i => n.toNat - i.1.length) [] ⟨([], a), ⟨by simp, h0, h1, hQ⟩, ?_⟩ ?_
  · rw [set_same hr]
    refine (Weak.grow 5 36 1 (by rfl)).trans (Weak.of ?_ (mLe.refl _))
    (simp only [frLe]; repeat' apply And.intro) <;> first | trivial | exact ⟨_, rfl, .refl _⟩
  · rintro ⟨l, a1⟩ ⟨g1, g2, g3, g4⟩
    simp only [] at g1 g2 g3 g4
    simp -dsimp (disch := omega) only [go_sem]
    refine Br.intro (fun h => ?_) (fun h => ?_)
    · have e : n.toNat - l.length = 0 := by omega
      rw [e] at g4
      simp -dsimp (disch := omega) only [go_sem]
      refine ⟨_, _, .ret (.gsl _ _ _), ?_, (Kept.refl m).set ?_, ?_, g4 g2 g3⟩
      · repeat (first | exact Over.refl _ | apply Over.cons)
      · simp only [ABlk.bd, AV.bd, AV.bdL, and_self]
      · simp only [AE.bd, AV.bd, AV.bdL, and_self]
    · obtain ⟨k, e⟩ : ∃ k, n.toNat - l.length = k + 1 := ⟨n.toNat - l.length - 1, by omega⟩
      rw [e] at g4
      simp -dsimp (disch := omega) only [go_sem]
      refine hrd l.length a1 _ g2 g3 ?_
      simp only [listGo] at g4
      cases hv : rd s a1 with
      | bad w e a2 =>
        rw [hv] at g4
        simp only [RQ, RR.bind] at g4 ⊢
        simp -dsimp (disch := omega) only [go_sem]
        refine ⟨_, _, .pan (.refl _), ?_, (Kept.refl m).set ?_, ?_, g4⟩
        · repeat (first | exact Over.refl _ | apply Over.cons)
        · simp only [ABlk.bd, AV.bd, AV.bdL, and_self]
        · simp only [AE.bd, AV.bd, AV.bdL, and_self]
      | ok v a2 =>
        rw [hv] at g4
        simp only [RR.bind] at g4
        intro h2 h3
        simp -dsimp (disch := omega) only [go_sem]
        refine ⟨(l ++ [v], a2), ⟨by simp; omega, h2, h3, ?_⟩, by simp; omega, ?_⟩
        · simpa [show n.toNat - (l.length + 1) = k by omega] using g4
        · refine Weak.of ?_ ?_
          · simp only [List.map_append, List.map_cons, List.map_nil]
            (simp only [frLe]; repeat' apply And.intro) <;> first | trivial | exact ⟨_, rfl, .refl _⟩
          · simp only [List.length_append, List.length_cons, List.length_nil]
            exact mLe.refl _

theorem list151 (rd : List UInt8 → Int → RR POp) (fid : Nat) (fs cs : List AV) (n : Int) (hn : n ≤ 65536) (s : List UInt8) (a : Int) (h0 : 0 ≤ a) (h1 : a ≤ 65536) (nr : Nat) (m : AM) (hr : m.get nr = some (rdr s a))
    (hrd : ∀ (k : Nat) (a : Int) (Q : AE → AM → Prop), 0 ≤ a → a ≤ 65536 → RQ s nr (some (.grow 67 2 k) :: m.set nr (some (rdr s a))) POp.enc Q (rd s a) → ACalls Tryz.prog fid (fs ++ cs) (some (.grow 67 2 k) :: m.set nr (some (rdr s a))) Q)
    (Q : AE → AM → Prop) (hQ : RQ s nr m (fun l => .d (.sl 2 (l.map POp.row))) Q (listR rd n s a)) : ACalls Tryz.prog 151 [I n, .fn (.func fid) fs cs] m Q := by
  refine ACalls.fin ?_
  have hlt := AM.get_lt _ _ _ hr
  refine acalls_of_body Tryz.func151 (by rfl) (by rfl) (Nat.le_of_ble_eq_true rfl) ?_
  simp -dsimp (disch := omega) only [go_sem, Tryz.f151]
  refine AW.loop (ι := List POp × Int) (fun i => i.1.length ≤ n.toNat ∧ 0 ≤ i.2 ∧ i.2 ≤ 65536 ∧ RQ s nr m (fun l => .d (.sl 2 (l.map POp.row))) Q (listGo rd s (n.toNat - i.1.length) i.1 i.2))
    (fun i => [(5, .gsl m.length 2 (i.1.map POp.row)), (0, I n), (1, .fn (.func fid) fs cs)])
    (fun i => some (.grow 67 2 i.1.length) :: m.set nr (some (rdr s i.2))) (fun i => n.toNat - i.1.length) [] ⟨([], a), ⟨by simp, h0, h1, hQ⟩, ?_⟩ ?_
  · rw [set_same hr]
    refine (Weak.grow 5 67 2 (by rfl)).trans (Weak.of ?_ (mLe.refl _))
    (simp only [frLe]; repeat' apply And.intro) <;> first | trivial | exact ⟨_, rfl, .refl _⟩
  · rintro ⟨l, a1⟩ ⟨g1, g2, g3, g4⟩
    simp only [] at g1 g2 g3 g4
    simp -dsimp (disch := omega) only [go_sem]
    refine Br.intro (fun h => ?_) (fun h => ?_)
    · have e : n.toNat - l.length = 0 := by omega
      rw [e] at g4
      simp -dsimp (disch := omega) only [go_sem]
      refine ⟨_, _, .ret (.gsl _ _ _), ?_, (Kept.refl m).set ?_, ?_, g4 g2 g3⟩
      · repeat (first | exact Over.refl _ | apply Over.cons)
      · simp only [ABlk.bd, AV.bd, AV.bdL, and_self]
      · simp only [AE.bd, AV.bd, AV.bdL, and_self]
    · obtain ⟨k, e⟩ : ∃ k, n.toNat - l.length = k + 1 := ⟨n.toNat - l.length - 1, by omega⟩
      rw [e] at g4
      simp -dsimp (disch := omega) only [go_sem]
      refine hrd l.length a1 _ g2 g3 ?_
      simp only [listGo] at g4
      cases hv : rd s a1 with
      | bad w e a2 =>
        rw [hv] at g4
        simp only [RQ, RR.bind] at g4 ⊢
        simp -dsimp (disch := omega) only [go_sem]
        refine ⟨_, _, .pan (.refl _), ?_, (Kept.refl m).set ?_, ?_, g4⟩
        · repeat (first | exact Over.refl _ | apply Over.cons)
        · simp only [ABlk.bd, AV.bd, AV.bdL, and_self]
        · simp only [AE.bd, AV.bd, AV.bdL, and_self]
      | ok v a2 =>
        rw [hv] at g4
        simp only [RR.bind] at g4
        intro h2 h3
        simp -dsimp (disch := omega) only [go_sem]
        refine ⟨(l ++ [v], a2), ⟨by simp; omega, h2, h3, ?_⟩, by simp; omega, ?_⟩
        · simpa [show n.toNat - (l.length + 1) = k by omega] using g4
        · refine Weak.of ?_ ?_
          · simp only [List.map_append, List.map_cons, List.map_nil]
            (simp only [frLe]; repeat' apply And.intro) <;> first | trivial | exact ⟨_, rfl, .refl _⟩
          · simp only [List.length_append, List.length_cons, List.length_nil]
            exact mLe.refl _

theorem list111 (rd : List UInt8 → Int → RR Elt) (fid : Nat) (fs cs : List AV) (n : Int) (hn : n ≤ 65536) (s : List UInt8) (a : Int) (h0 : 0 ≤ a) (h1 : a ≤ 65536) (nr : Nat) (m : AM) (hr : m.get nr = some (rdr s a))
    (hrd : ∀ (k : Nat) (a : Int) (Q : AE → AM → Prop), 0 ≤ a → a ≤ 65536 → RQ s nr (some (.grow 63 10 k) :: m.set nr (some (rdr s a))) Elt.enc Q (rd s a) → ACalls Tryz.prog fid (fs ++ cs) (some (.grow 63 10 k) :: m.set nr (some (rdr s a))) Q)
    (Q : AE → AM → Prop) (hQ : RQ s nr m (fun l => .d (.sl 10 (l.map Elt.row))) Q (listR rd n s a)) : ACalls Tryz.prog 111 [I n, .fn (.func fid) fs cs] m Q := by
  refine ACalls.fin ?_
  have hlt := AM.get_lt _ _ _ hr
  refine acalls_of_body Tryz.func111 (by rfl) (by rfl) (Nat.le_of_ble_eq_true rfl) ?_
  simp -dsimp (disch := omega) only [go_sem, Tryz.f111]
  refine AW.loop (ι := List Elt × Int) (fun i => i.1.length ≤ n.toNat ∧ 0 ≤ i.2 ∧ i.2 ≤ 65536 ∧ RQ s nr m (fun l => .d (.sl 10 (l.map Elt.row))) Q (listGo rd s (n.toNat - i.1.length) i.1 i.2))
    (fun i => [(5, .gsl m.length 10 (i.1.map Elt.row)), (0, I n), (1, .fn (.func fid) fs cs)])
    (fun i => some (.grow 63 10 i.1.length) :: m.set nr (some (rdr s i.2))) (fun i => n.toNat - i.1.length) [] ⟨([], a), ⟨by simp, h0, h1, hQ⟩, ?_⟩ ?_
  · rw [set_same hr]
    refine (Weak.grow 5 63 10 (by rfl)).trans (Weak.of ?_ (mLe.refl _))
    (simp only [frLe]; repeat' apply And.intro) <;> first | trivial | exact ⟨_, rfl, .refl _⟩
  · rintro ⟨l, a1⟩ ⟨g1, g2, g3, g4⟩
    simp only [] at g1 g2 g3 g4
    simp -dsimp (disch := omega) only [go_sem]
    refine Br.intro (fun h => ?_) (fun h => ?_)
    · have e : n.toNat - l.length = 0 := by omega
      rw [e] at g4
      simp -dsimp (disch := omega) only [go_sem]
      refine ⟨_, _, .ret (.gsl _ _ _), ?_, (Kept.refl m).set ?_, ?_, g4 g2 g3⟩
      · repeat (first | exact Over.refl _ | apply Over.cons)
      · simp only [ABlk.bd, AV.bd, AV.bdL, and_self]
      · simp only [AE.bd, AV.bd, AV.bdL, and_self]
    · obtain ⟨k, e⟩ : ∃ k, n.toNat - l.length = k + 1 := ⟨n.toNat - l.length - 1, by omega⟩
      rw [e] at g4
      simp -dsimp (disch := omega) only [go_sem]
      refine hrd l.length a1 _ g2 g3 ?_
      simp only [listGo] at g4
      cases hv : rd s a1 with
      | bad w e a2 =>
        rw [hv] at g4
        simp only [RQ, RR.bind] at g4 ⊢
        simp -dsimp (disch := omega) only [go_sem]
        refine ⟨_, _, .pan (.refl _), ?_, (Kept.refl m).set ?_, ?_, g4⟩
        · repeat (first | exact Over.refl _ | apply Over.cons)
        · simp only [ABlk.bd, AV.bd, AV.bdL, and_self]
        · simp only [AE.bd, AV.bd, AV.bdL, and_self]
      | ok v a2 =>
        rw [hv] at g4
        simp only [RR.bind] at g4
        intro h2 h3
        simp -dsimp (disch := omega) only [go_sem]
        refine ⟨(l ++ [v], a2), ⟨by simp; omega, h2, h3, ?_⟩, by simp; omega, ?_⟩
        · simpa [show n.toNat - (l.length + 1) = k by omega] using g4
        · refine Weak.of ?_ ?_
          · simp only [List.map_append, List.map_cons, List.map_nil]
            (simp only [frLe]; repeat' apply And.intro) <;> first | trivial | exact ⟨_, rfl, .refl _⟩
          · simp only [List.length_append, List.length_cons, List.length_nil]
            exact mLe.refl _

end Go.Proofs.YtbdefaebbicfjaaGreat
