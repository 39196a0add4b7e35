/- strings.Repeat, by the shelf's contract. -/
import Derived.Test.YtbdefaebbicfjaaGreatK27
import Derived.Shelf.Strings.Repeat
set_option linter.all false
namespace Go.Proofs.YtbdefaebbicfjaaGreat
open Go Go.Ab Go.RowKit Go.Shelf
set_option maxHeartbeats 400000
set_option maxRecDepth 10000

/- The numbers of strings.Repeat and of what it calls, printed by the shelf's laying. -/
def rep_ren : Go.Shelf.Ren := ⟨fun | 105 => 23 | 212 => 47 | 99 => 48 | 165 => 49 | 166 => 50 | 170 => 39 | 169 => 40 | 263 => 92 | 264 => 93 | 206 => 94 | 240 => 95 | 241 => 96 | 276 => 132 | 277 => 133 | n => n, fun | 9 => 9 | 3 => 3 | 4 => 4 | 20 => 20 | 0 => 0 | 46 => 107 | 109 => 108 | 5 => 5 | 72 => 98 | 76 => 114 | 51 => 141 | 146 => 142 | 53 => 144 | 148 => 145 | 70 => 96 | 37 => 23 | 75 => 113 | 127 => 135 | 164 => 189 | 80 => 103 | n => n, fun | n => n⟩
theorem rep : Go.Proofs.Lays.n105 Tryz.prog rep_ren := {
  mixed := by kernel_rfl
  f99 := Tryz.func48.trans (congrArg some (by kernel_rfl))
  f105 := Tryz.func23.trans (congrArg some (by kernel_rfl))
  f165 := Tryz.func49.trans (congrArg some (by kernel_rfl))
  f166 := Tryz.func50.trans (congrArg some (by kernel_rfl))
  f169 := Tryz.func40.trans (congrArg some (by kernel_rfl))
  f170 := Tryz.func39.trans (congrArg some (by kernel_rfl))
  f206 := Tryz.func94.trans (congrArg some (by kernel_rfl))
  f212 := Tryz.func47.trans (congrArg some (by kernel_rfl))
  f240 := Tryz.func95.trans (congrArg some (by kernel_rfl))
  f241 := Tryz.func96.trans (congrArg some (by kernel_rfl))
  f263 := Tryz.func92.trans (congrArg some (by kernel_rfl))
  f264 := Tryz.func93.trans (congrArg some (by kernel_rfl))
  f276 := Tryz.func132.trans (congrArg some (by kernel_rfl))
  f277 := Tryz.func133.trans (congrArg some (by kernel_rfl))
  t0 := Tryz.underlying0
  a0 := Tryz.isAgg0
  z0 := Tryz.sizeOf0
  v0 := Tryz.zeroValue0
  t3 := Tryz.underlying3
  a3 := Tryz.isAgg3
  z3 := Tryz.sizeOf3
  v3 := Tryz.zeroValue3
  t4 := Tryz.underlying4
  a4 := Tryz.isAgg4
  z4 := Tryz.sizeOf4
  v4 := Tryz.zeroValue4
  t5 := Tryz.underlying5
  a5 := Tryz.isAgg5
  z5 := Tryz.sizeOf5
  v5 := Tryz.zeroValue5
  t9 := Tryz.underlying9
  a9 := Tryz.isAgg9
  z9 := Tryz.sizeOf9
  v9 := Tryz.zeroValue9
  t20 := Tryz.underlying20
  a20 := Tryz.isAgg20
  z20 := Tryz.sizeOf20
  v20 := Tryz.zeroValue20
  t37 := Tryz.underlying23
  a37 := Tryz.isAgg23
  z37 := Tryz.sizeOf23
  v37 := Tryz.zeroValue23
  t46 := Tryz.underlying107
  a46 := Tryz.isAgg107
  z46 := Tryz.sizeOf107
  v46 := Tryz.zeroValue107
  t51 := Tryz.underlying141
  a51 := Tryz.isAgg141
  z51 := Tryz.sizeOf141
  v51 := Tryz.zeroValue141
  t53 := Tryz.underlying144
  a53 := Tryz.isAgg144
  z53 := Tryz.sizeOf144
  v53 := Tryz.zeroValue144
  t70 := Tryz.underlying96
  a70 := Tryz.isAgg96
  z70 := Tryz.sizeOf96
  v70 := Tryz.zeroValue96
  t72 := Tryz.underlying98
  a72 := Tryz.isAgg98
  z72 := Tryz.sizeOf98
  v72 := Tryz.zeroValue98
  t75 := Tryz.underlying113
  a75 := Tryz.isAgg113
  z75 := Tryz.sizeOf113
  v75 := Tryz.zeroValue113
  t76 := Tryz.underlying114
  a76 := Tryz.isAgg114
  z76 := Tryz.sizeOf114
  v76 := Tryz.zeroValue114
  t109 := Tryz.underlying108
  a109 := Tryz.isAgg108
  z109 := Tryz.sizeOf108
  v109 := Tryz.zeroValue108
  t127 := Tryz.underlying135
  a127 := Tryz.isAgg135
  z127 := Tryz.sizeOf135
  v127 := Tryz.zeroValue135
  t146 := Tryz.underlying142
  a146 := Tryz.isAgg142
  z146 := Tryz.sizeOf142
  v146 := Tryz.zeroValue142
  t148 := Tryz.underlying145
  a148 := Tryz.isAgg145
  z148 := Tryz.sizeOf145
  v148 := Tryz.zeroValue145
  t164 := Tryz.underlying189
  a164 := Tryz.isAgg189
  z164 := Tryz.sizeOf189
  v164 := Tryz.zeroValue189 }

theorem repX : Builder.Extra Tryz.prog rep_ren := {
  sizeBuilder := by kernel_rfl
  liesBuilder := by kernel_rfl
  t5 := rep.t5
  a5 := rep.a5
  z5 := rep.z5
  v5 := rep.v5
  infoByte := by kernel_rfl
  cellsByte := by kernel_rfl
  sizeByte := by kernel_rfl
  neB5 := by decide }

theorem ext_below {σ : St} {m : AM} {w w' : World} (hs : Sim σ m w) (h : Below w.heap.size w w') : Ext σ m w σ m w' ∧ Sim σ m w' := by
  have hE : Ext σ m w σ m w' := {
    os := h.os
    tape := h.tape
    output := h.output
    size := h.size
    len := Nat.le_refl _
    rho := fun _ _ => rfl
    gr := fun n _ e sz k' hk => ⟨k', hk, Nat.le_refl _, fun _ => rfl⟩
    imm := fun b o hb => ⟨⟨Nat.lt_of_lt_of_le hb.1 h.size, hb.2⟩, by simp only [World.cell?, h.block b hb.1]⟩
    old := fun b hb hn => ⟨hn, h.block b hb⟩ }
  exact ⟨hE, ⟨fun n x hx => BlkOK.mono_of hE (AM.get_lt _ _ _ hx) (hs.ok n x hx) (fun b hb => h.block b (blkOf_lt hs hx hb)) (fun _ _ _ _ => rfl), hs.inj⟩⟩

theorem strRepeat (s : List UInt8) (c : Nat) (hc : c ≤ 9223372036854775807) (hl : s.length * c ≤ 140737488355328) (m : AM) (Q : AE → AM → Prop) (hQ : Q (.ret (S (Lib.repeatL s c))) m) : ACalls Tryz.prog 23 [S s, I c] m Q := by
  intro σ w vs hs hr
  obtain ⟨h1, h2⟩ := hr
  match vs, h1, h2 with
  | [u, v], _, h2 =>
    have e1 := (h2 0 u _ rfl rfl).str_inv
    have e2 := (h2 1 v _ rfl rfl).int_inv
    subst e1
    subst e2
    have h := Any.strings_Repeat rep repX ⟨⟨s⟩⟩ c w hc hl
    refine .inl ⟨by kernel_rfl, h.mono fun e w' ⟨he, hb⟩ => ?_⟩
    subst he
    obtain ⟨g1, g2⟩ := ext_below hs hb
    exact ⟨_, σ, m, g1, g2, .ret _ _ (.str _), hQ⟩

end Go.Proofs.YtbdefaebbicfjaaGreat
