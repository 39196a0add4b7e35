/- Lemmas on an abstract memory that stands for the worlds of the model: no condition. -/
import Derived.Test.YtbdefaebbicfjaaGreatA4
import Derived.Test.YtbdefaebbicfjaaGreatA6
import Derived.ChangeSame
import Derived.RowKit
import Derived.RowKit3
import Derived.OpenShut
set_option linter.all false
/- What the abstract walk rewrites with. The continuations stand behind tags: the rewriting doesn't look into what it hasn't reached. -/
namespace Go.Ab
open Go.RowKit
universe u

/-- A tag on a term: what a tag's type names is left as it stands. -/
inductive Tag {α : Type} (a : α) : Type
  | mk
inductive TagP (a : Prop) : Type
  | mk

def Br (c A B : Prop) (_ : TagP A) (_ : TagP B) : Prop := (c → A) ∧ (¬ c → B)
theorem br_true (A B : Prop) (a : TagP A) (b : TagP B) : Br True A B a b = A := by simp [Br]
theorem br_false (A B : Prop) (a : TagP A) (b : TagP B) : Br False A B a b = B := by simp [Br]
theorem Br.intro {c A B : Prop} {a : TagP A} {b : TagP B} (h1 : c → A) (h2 : ¬ c → B) : Br c A B a b := ⟨h1, h2⟩
theorem br_pos {c A B : Prop} {a : TagP A} {b : TagP B} (h : c) : Br c A B a b = A := by simp [Br, h]
theorem br_neg {c A B : Prop} {a : TagP A} {b : TagP B} (h : ¬ c) : Br c A B a b = B := by simp [Br, h]

def wC (P : Program) (nt : Nat) (c : Code) (aa : AA) (m : AM) (Q : AX → AA → AM → Prop) (_ : Tag Q) : Prop := awpC P nt c aa m Q
def wO (P : Program) (nt : Nat) (all : Array Oper) (l : List Oper) (aa : AA) (m : AM) (K : AA → AM → Prop) (Q : AX → AA → AM → Prop) (_ : Tag K) (_ : Tag Q) : Prop := awpOps P nt all l aa m K Q
def wK (P : Program) (dst : Option Tmp) (aa : AA) (m : AM) (K : AA → AM → Prop) (Q : AX → AA → AM → Prop) (r : ARes) (_ : Tag K) (_ : Tag Q) : Prop := ACont P dst aa m K Q r
def wCall (P : Program) (f : FuncId) (args : List AV) (m : AM) (Q : AE → AM → Prop) (_ : Tag Q) : Prop := ACalls P f args m Q
def wRnd (P : Program) (n : Nat) (args : List AV) (m : AM) (Q : AE → AM → Prop) (_ : Tag Q) : Prop := ARound P n args m Q
def wDraw (P : Program) (nt : Nat) (ops : Array Oper) (aa : AA) (m : AM) (Q : AX → AA → AM → Prop) (_ : Tag Q) : Prop := ADraw P nt ops aa m Q
def wLoop (P : Program) (nt : Nat) (c : Code) (aa : AA) (m : AM) (Q : AX → AA → AM → Prop) (_ : Tag Q) (_ : Tag c) : Prop := ALoop P nt c aa m Q
def wG (g : Option Bool) (b : Bool) (A B : Prop) (_ : TagP A) (_ : TagP B) : Prop := match g with | some g => if g = b then A else B | none => False
def wIf (v : Option AV) (A B : Prop) (_ : TagP A) (_ : TagP B) : Prop := match v with | some (.d (.bool b)) => if b = true then A else B | _ => False
def wRet (P : Program) (v : Option (List AV)) (m : AM) (Q : AE → AM → Prop) (_ : Tag Q) : Prop := match v with | some vs => Q (.ret (aRet vs)) m | none => False
def wX (x : AX) (aa : AA) (m : AM) (Q : AX → AA → AM → Prop) (_ : Tag Q) : Prop := Q x aa m

section
variable {P : Program} {nt : Nat} {aa : AA} {m : AM} {K : AA → AM → Prop} {Q : AX → AA → AM → Prop} {t : Tag Q} {tk : Tag K} {all : Array Oper}
theorem awpC_w (c : Code) : awpC P nt c aa m Q = wC P nt c aa m Q .mk := rfl
theorem awpOps_w (l : List Oper) : awpOps P nt all l aa m K Q = wO P nt all l aa m K Q .mk .mk := rfl
theorem acont_w (dst : Option Tmp) (r : ARes) : ACont P dst aa m K Q r = wK P dst aa m K Q r .mk .mk := rfl
theorem acalls_w (f : FuncId) (args : List AV) (q : AE → AM → Prop) : ACalls P f args m q = wCall P f args m q .mk := rfl

theorem wC_skip : wC P nt .skip aa m Q t = wX .normal aa m Q .mk := rfl
theorem wC_region (id : Nat) (ops : Array Oper) : wC P nt (.region id ops false) aa m Q t = wO P nt ops ops.toList aa m (fun aa m => wX .normal aa m Q .mk) Q .mk .mk := rfl
theorem wC_draw (id : Nat) (ops : Array Oper) : wC P nt (.region id ops true) aa m Q t = wDraw P nt ops aa m Q .mk := rfl
theorem wC_seq (a b : Code) : wC P nt (.seq a b) aa m Q t = wC P nt a aa m (AX.then (fun aa m => awpC P nt b aa m Q) Q) .mk := rfl
theorem wC_cond (c : Operand) (x y : Code) : wC P nt (.cond c x y) aa m Q t = wIf (aa.look c) (awpC P nt x aa m Q) (awpC P nt y aa m Q) .mk .mk := rfl
theorem wC_block (id : Nat) (c : Code) : wC P nt (.block id c) aa m Q t = wC P nt c aa m (AX.inBlock id Q) .mk := rfl
theorem wC_scope (c : Code) : wC P nt (.scope c) aa m Q t = wC P nt c aa m (AX.noGoto Q) .mk := rfl
theorem wC_loop (c : Code) : wC P nt (.loop c) aa m Q t = wLoop P nt c aa m Q .mk .mk := rfl
theorem wC_exit (id : Nat) : wC P nt (.exit id) aa m Q t = wX (.exit id) aa m Q .mk := rfl
theorem wC_label (l : Nat) : wC P nt (.label l) aa m Q t = wX .normal aa m Q .mk := rfl
theorem wC_ret : wC P nt .ret aa m Q t = wX .ret aa m Q .mk := rfl

theorem wIf_bool (b : Bool) (A B : Prop) (x : TagP A) (y : TagP B) : wIf (some (.d (.bool b))) A B x y = Br (b = true) A B .mk .mk := by
  simp only [wIf, Br]
  cases b <;> simp

theorem wX_then (x : AX) (next : AA → AM → Prop) (t : Tag (AX.then next Q)) : wX x aa m (AX.then next Q) t = AX.then next Q x aa m := rfl
theorem then_normal (next : AA → AM → Prop) : AX.then next Q .normal aa m = next aa m := rfl
theorem then_exit (next : AA → AM → Prop) (id : Nat) : AX.then next Q (.exit id) aa m = wX (.exit id) aa m Q .mk := rfl
theorem then_goto (next : AA → AM → Prop) (id : Nat) : AX.then next Q (.goto id) aa m = wX (.goto id) aa m Q .mk := rfl
theorem then_ret (next : AA → AM → Prop) : AX.then next Q .ret aa m = wX .ret aa m Q .mk := rfl
theorem then_pan (next : AA → AM → Prop) (v : AV) : AX.then next Q (.pan v) aa m = wX (.pan v) aa m Q .mk := rfl
theorem wX_inBlock (x : AX) (id : Nat) (t : Tag (AX.inBlock id Q)) : wX x aa m (AX.inBlock id Q) t = AX.inBlock id Q x aa m := rfl
theorem wX_noGoto (x : AX) (t : Tag (AX.noGoto Q)) : wX x aa m (AX.noGoto Q) t = AX.noGoto Q x aa m := rfl
theorem noGoto_normal : AX.noGoto Q .normal aa m = wX .normal aa m Q .mk := rfl
theorem noGoto_exit (id : Nat) : AX.noGoto Q (.exit id) aa m = wX (.exit id) aa m Q .mk := rfl
theorem noGoto_ret : AX.noGoto Q .ret aa m = wX .ret aa m Q .mk := rfl
theorem noGoto_pan (v : AV) : AX.noGoto Q (.pan v) aa m = wX (.pan v) aa m Q .mk := rfl
theorem inBlock_normal (id : Nat) : AX.inBlock id Q .normal aa m = wX .normal aa m Q .mk := rfl
theorem inBlock_exit (id id' : Nat) : AX.inBlock id Q (.exit id') aa m = Br (id' = id) (wX .normal aa m Q .mk) (wX (.exit id') aa m Q .mk) .mk .mk := by
  simp only [AX.inBlock, Br, wX]
  split <;> simp [*]
theorem inBlock_goto (id id' : Nat) : AX.inBlock id Q (.goto id') aa m = wX (.goto id') aa m Q .mk := rfl
theorem inBlock_ret (id : Nat) : AX.inBlock id Q .ret aa m = wX .ret aa m Q .mk := rfl
theorem inBlock_pan (id : Nat) (v : AV) : AX.inBlock id Q (.pan v) aa m = wX (.pan v) aa m Q .mk := rfl

theorem wO_nil (t : Tag Q) (tk : Tag K) : wO P nt all [] aa m K Q tk t = K aa m := rfl
theorem wO_cons_none (d : Nat) (op : Op) (ty : TypeId) (pos : String) (after : Array Edge) (rest : List Oper) (t : Tag Q) (tk : Tag K) (h : d < nt) :
    wO P nt all ({ dst := some d, op := op, type := ty, pos := pos, after := after, guard := none } :: rest) aa m K Q tk t = wK P (some d) aa m (fun aa m => awpOps P nt all rest aa m K Q) Q (aopS P op aa m) .mk .mk := by
  simp only [wO, awpOps, wK]
  exact propext ⟨fun h => h.2, fun h' => ⟨h, h'⟩⟩
theorem wO_cons_none' (op : Op) (ty : TypeId) (pos : String) (after : Array Edge) (rest : List Oper) (t : Tag Q) (tk : Tag K) :
    wO P nt all ({ dst := none, op := op, type := ty, pos := pos, after := after, guard := none } :: rest) aa m K Q tk t = wK P none aa m (fun aa m => awpOps P nt all rest aa m K Q) Q (aopS P op aa m) .mk .mk := by
  simp only [wO, awpOps, wK]
  exact propext ⟨fun h => h.2, fun h' => ⟨trivial, h'⟩⟩
theorem wO_cons_some (d : Nat) (op : Op) (ty : TypeId) (pos : String) (after : Array Edge) (j : Nat) (b : Bool) (rest : List Oper) (t : Tag Q) (tk : Tag K) (h : d < nt) :
    wO P nt all ({ dst := some d, op := op, type := ty, pos := pos, after := after, guard := some (j, b) } :: rest) aa m K Q tk t =
      wG (gval all aa j) b (wK P (some d) aa m (fun aa m => awpOps P nt all rest aa m K Q) Q (aopS P op aa m) .mk .mk) (awpOps P nt all rest (aa.put (some d) (.tup [])) m K Q) .mk .mk := by
  simp only [wO, awpOps, wK, wG]
  exact propext ⟨fun h => h.2, fun h' => ⟨h, h'⟩⟩
theorem wG_some (g b : Bool) (A B : Prop) (x : TagP A) (y : TagP B) : wG (some g) b A B x y = Br (g = b) A B .mk .mk := by
  simp only [wG, Br]
  split <;> simp [*]

theorem wK_val (dst : Option Tmp) (v : AV) (m' : AM) (tk : Tag K) (t : Tag Q) : wK P dst aa m K Q (.val v m') tk t = K (aa.put dst v) m' := rfl
theorem wK_unit (dst : Option Tmp) (m' : AM) (tk : Tag K) (t : Tag Q) : wK P dst aa m K Q (.unit m') tk t = K (aa.put dst (.tup [])) m' := rfl
theorem wK_call (dst : Option Tmp) (f : FuncId) (args : List AV) (tk : Tag K) (t : Tag Q) : wK P dst aa m K Q (.call f args) tk t = wCall P f args m (fun
    | .ret v, m' => K (aa.put dst v) m'
    | .pan v, m' => wX (.pan v) aa m' Q .mk) .mk := by
  simp only [wK, wCall, ACont]
  congr 1
theorem wK_rnd (dst : Option Tmp) (n : Nat) (args : List AV) (tk : Tag K) (t : Tag Q) : wK P dst aa m K Q (.rnd n args) tk t = wRnd P n args m (fun
    | .ret v, m' => K (aa.put dst v) m'
    | .pan v, m' => wX (.pan v) aa m' Q .mk) .mk := by
  simp only [wK, wRnd, ACont]
  congr 1
theorem wK_pan (dst : Option Tmp) (v : AV) (tk : Tag K) (t : Tag Q) : wK P dst aa m K Q (.pan v) tk t = wX (.pan v) aa m Q .mk := rfl
theorem wK_dfr (dst : Option Tmp) (v : AV) (tk : Tag K) (t : Tag Q) : wK P dst aa m K Q (.dfr v) tk t = K (({ aa with ds := v :: aa.ds } : AA).put dst (.tup [])) m := rfl
theorem wK_ite (dst : Option Tmp) (c : Prop) [Decidable c] (x y : ARes) (tk : Tag K) (t : Tag Q) : wK P dst aa m K Q (if c then x else y) tk t = Br c (wK P dst aa m K Q x .mk .mk) (wK P dst aa m K Q y .mk .mk) .mk .mk := by
  simp only [wK, Br]
  split <;> simp [*]
theorem wK_bad (dst : Option Tmp) (tk : Tag K) (t : Tag Q) : wK P dst aa m K Q .bad tk t = False := rfl

theorem wX_body_ret (fr : List (Nat × AV)) (rs : List ResultVar) (q : AE → AM → Prop) (t : Tag (bodyQ P rs q)) : wX .ret ⟨fr, []⟩ m (bodyQ P rs q) t = wRet P (aRess P ⟨fr, []⟩ m rs) m q .mk := by
  simp only [wX, bodyQ, wRet, true_and] <;> rfl
theorem wX_body_normal (fr : List (Nat × AV)) (rs : List ResultVar) (q : AE → AM → Prop) (t : Tag (bodyQ P rs q)) : wX .normal ⟨fr, []⟩ m (bodyQ P rs q) t = wRet P (aRess P ⟨fr, []⟩ m rs) m q .mk := by
  simp only [wX, bodyQ, wRet, true_and] <;> rfl
theorem wX_body_pan (fr : List (Nat × AV)) (v : AV) (rs : List ResultVar) (q : AE → AM → Prop) (t : Tag (bodyQ P rs q)) : wX (.pan v) ⟨fr, []⟩ m (bodyQ P rs q) t = q (.pan v) m := by
  simp only [wX, bodyQ, true_and]
theorem wRet_some (vs : List AV) (q : AE → AM → Prop) (t : Tag q) : wRet P (some vs) m q t = q (.ret (aRet vs)) m := rfl
end

theorem ofVal_int (k : IntKind) (n : Int) : ofVal (.int k n) = some (.d (.int k n)) := rfl
theorem ofVal_bool (b : Bool) : ofVal (.bool b) = some (.d (.bool b)) := rfl
theorem ofVal_string (s : List UInt8) : ofVal (.string ⟨⟨s⟩⟩) = some (.d (.str s)) := rfl
theorem ofVal_nil : ofVal (.slice none 0 0) = some (.d .nilsl) := rfl
theorem ofVal_nilFunc : ofVal .nilFunc = some (.d (.cst .nilFunc)) := rfl
theorem ofVal_nilIface : ofVal .nilIface = some (.d (.cst .nilIface)) := rfl
theorem ofVal_nilPtr : ofVal (.pointer none) = some (.d (.cst (.pointer none))) := rfl

theorem look_tmp (a : AA) (t : Nat) : a.look (.tmp t) = fget a.fr t := rfl
theorem look_const (a : AA) (v : Value) : a.look (.const v) = ofVal v := rfl
theorem look_func (a : AA) (f : Nat) : a.look (.func f) = some (.fn (.func f) [] []) := rfl
theorem put_some (fr : List (Nat × AV)) (ds : List AV) (d : Nat) (v : AV) : (AA.mk fr ds).put (some d) v = ⟨(d, v) :: fr, ds⟩ := rfl
theorem put_none (aa : AA) (v : AV) : aa.put none v = aa := rfl
theorem fget_nil (s : Nat) : fget [] s = none := rfl
theorem fget_cons (k : Nat) (v : AV) (t : List (Nat × AV)) (s : Nat) : fget ((k, v) :: t) s = if s = k then some v else fget t s := rfl

theorem ofOpt_some (m : AM) (v : AV) : ARes.ofOpt m (some v) = .val v m := rfl
theorem ofOpt_none (m : AM) : ARes.ofOpt m none = .bad := rfl
theorem ofOpt_ite (m : AM) (c : Prop) [Decidable c] (x y : Option AV) : ARes.ofOpt m (if c then x else y) = if c then ARes.ofOpt m x else ARes.ofOpt m y := by split <;> rfl

theorem wrap64_in (x : Int) (h0 : -9223372036854775808 ≤ x) (h1 : x ≤ 9223372036854775807) : IntKind.i64.wrap x = x := by
  unfold IntKind.wrap IntKind.signed IntKind.bits
  simp only [Bool.true_and, decide_eq_true_eq]
  split <;> omega

theorem if_true_eq {α : Sort u} (a b : α) : (if True then a else b) = a := if_pos trivial
theorem if_false_eq {α : Sort u} (a b : α) : (if False then a else b) = b := if_neg id
abbrev I (n : Int) : AV := .d (.int .i64 n)
abbrev S (s : List UInt8) : AV := .d (.str s)
abbrev B (b : Bool) : AV := .d (.bool b)

/-- An array literal's list. -/
theorem toList_lit {α : Type} (l : List α) : l.toArray.toList = l := rfl

attribute [go_sem] wC_scope wX_noGoto noGoto_normal noGoto_exit noGoto_ret noGoto_pan awpC_w awpOps_w acont_w acalls_w wC_skip wC_region wC_draw wC_seq wC_cond wC_block wC_loop wC_exit wC_label wC_ret wIf_bool wX_then then_normal then_exit then_goto then_ret then_pan
  wX_inBlock inBlock_normal inBlock_exit inBlock_goto inBlock_ret inBlock_pan wO_nil wO_cons_none wO_cons_none' wO_cons_some wG_some wK_val wK_unit wK_call wK_rnd wK_pan wK_dfr wK_ite wK_bad wX_body_ret wX_body_normal wX_body_pan wRet_some br_true br_false
  aopS liveT aop ACall AA.lookL AA.lookO AA.lookP
  look_tmp look_const look_func put_some put_none fget_nil fget_cons ofVal_int ofVal_bool ofVal_string ofVal_nil ofVal_nilFunc ofVal_nilIface ofVal_nilPtr
  ofOpt_some ofOpt_none ofOpt_ite
  aLoad_eq aStore_eq aAlloc_eq aField_eq aIndexAddr_eq aIndex_eq aBin_int aBin_str aBin_bool aBin_nilsl aBin_ifc aBin_nilIface aSlice_eq aBuild_eq aBuildSlice_eq aMkIface_eq aAssert_eq aLen_eq aMapPut_eq aLookup_eq
  rdC addOff aIndexAddr' aIndex' aBin2 aInt aShift aStr aEqR aEqFs aSlice' aBnd cutList aBuild' aFill litRows toDs toD aLen' aMin aMax aFind aMakeMap aNew aBox aUn aExtract AV.cells AV.isCell AV.rows AV.sure isConst newRows
  gval aRess aRes1 aRet frOf toList_lit
  Option.map_some Option.map_none Option.isSome_some Option.isSome_none Option.isNone_some Option.isNone_none Bool.not_true Bool.not_false Bool.and_true Bool.and_false Bool.true_and Bool.false_and Bool.false_eq_true true_and and_true false_and and_false if_true_eq if_false_eq
  List.length_cons List.length_nil List.all_cons List.all_nil List.append_eq List.nil_append List.cons_append List.append_nil List.take_zero List.drop_zero List.take_succ_cons List.drop_succ_cons List.take_nil List.drop_nil List.isEmpty_nil
  List.getElem?_toArray List.getElem?_cons_zero List.getElem?_cons_succ Option.bind_some decide_eq_true_eq decide_eq_false_iff_not Bool.not_eq_true' Bool.not_eq_false' Bool.and_eq_true Bool.or_eq_true Bool.or_eq_false_iff Bool.and_eq_false_imp

end Go.Ab

/- What the walk of a region whose order is drawn rewrites with. -/
namespace Go.Ab
open Go.RowKit

/-- The rest of such a region. What the tags' types name is left as it stands. -/
def wD (P : Program) (nt : Nat) (ops : Array Oper) (T : List DI) (Q : AX → AA → AM → Prop) (ds : List AV) (rest : List Oper) (is : List DI) (aa : AA) (hist : List AM) (recs : List Rec) (_ : Tag Q) (_ : Tag recs) (_ : Tag T) (_ : Tag ops) : Prop :=
  drw P nt ops T Q ds rest is aa hist recs

/-- One operation of it. -/
def wDK (P : Program) (eff : Bool) (M : AM) (K : AV → AM → Prop) (r : ARes) (_ : Tag K) : Prop :=
  match r with
  | .val v m' => (if eff = true then True else m' = M) ∧ K v m'
  | .unit m' => (if eff = true then True else m' = M) ∧ K (.tup []) m'
  | .call f args => ∃ v m', ACalls P f args M (fun x m1 => x = .ret v ∧ m1 = (if eff = true then m' else M)) ∧ K v m'
  | _ => False

/-- The call that panics. -/
def wDP (P : Program) (M : AM) (K : AV → AM → Prop) (r : ARes) (_ : Tag K) : Prop :=
  match r with
  | .call f args => ∃ v m', ACalls P f args M (fun x m1 => x = .pan v ∧ m1 = m') ∧ K v m'
  | _ => False

/-- A call of it stands here. -/
def wDCall (P : Program) (f : FuncId) (args : List AV) (M : AM) (eff : Bool) (K : AV → AM → Prop) (_ : Tag K) : Prop :=
  ∃ v m', ACalls P f args M (fun x m1 => x = .ret v ∧ m1 = (if eff = true then m' else M)) ∧ K v m'
def wDPan (P : Program) (f : FuncId) (args : List AV) (M : AM) (K : AV → AM → Prop) (_ : Tag K) : Prop :=
  ∃ v m', ACalls P f args M (fun x m1 => x = .pan v ∧ m1 = m') ∧ K v m'

theorem wDCall.still {P : Program} {f : FuncId} {args : List AV} {M : AM} {K : AV → AM → Prop} {t : Tag K} (v : AV) (h : ACalls P f args M (fun x m1 => x = .ret v ∧ m1 = M)) (k : K v M) : wDCall P f args M false K t := ⟨v, M, h, k⟩
theorem wDCall.turn {P : Program} {f : FuncId} {args : List AV} {M : AM} {K : AV → AM → Prop} {t : Tag K} (v : AV) (m' : AM) (h : ACalls P f args M (fun x m1 => x = .ret v ∧ m1 = m')) (k : K v m') : wDCall P f args M true K t := ⟨v, m', h, k⟩
theorem wDPan.of {P : Program} {f : FuncId} {args : List AV} {M : AM} {K : AV → AM → Prop} {t : Tag K} (v : AV) (m' : AM) (h : ACalls P f args M (fun x m1 => x = .pan v ∧ m1 = m')) (k : K v m') : wDPan P f args M K t := ⟨v, m', h, k⟩

section
variable {P : Program} {nt : Nat} {ops : Array Oper} {T : List DI} {Q : AX → AA → AM → Prop} {ds : List AV} {aa : AA} {recs : List Rec} {t : Tag Q} {tr : Tag recs} {tT : Tag T} {tops : Tag ops} {M : AM} {tl : List AM}

theorem drw_w (rest : List Oper) (is : List DI) (hist : List AM) : drw P nt ops T Q ds rest is aa hist recs = wD P nt ops T Q ds rest is aa hist recs .mk .mk .mk .mk := rfl

theorem wD_nil : wD P nt ops T Q ds [] [] aa (M :: tl) recs t tr tT tops = (obl P (M :: tl).reverse ops.toList T recs.reverse ∧ (if T.any (fun i => i.kind == 1) = true then True else wX .normal aa M Q .mk)) := by
  simp only [wD, drw, List.headD_cons, wX]
  exact propext And.comm

theorem wD_still (d : Nat) (op : Op) (ty : TypeId) (pos : String) (after : Array Edge) (rest : List Oper) (mem : Bool) (lo hi : Nat) (is : List DI) (h : d < nt) :
    wD P nt ops T Q ds ({ dst := some d, op := op, type := ty, pos := pos, after := after, guard := none } :: rest) (DI.mk false mem lo hi 0 :: is) aa (M :: tl) recs t tr tT tops =
      wDK P false M (fun v _ => drw P nt ops T Q ds rest is (aa.put (some d) v) (M :: tl) (⟨aa, true, v, tl.length⟩ :: recs)) (aop P op aa M) .mk := by
  simp only [wD, drw, h, List.headD_cons, wDK, show ((0 : Nat) = 2) = False from by simp, show ((0 : Nat) = 1) = False from by simp, if_false, true_and, Bool.false_eq_true, List.length_cons, Nat.add_sub_cancel]
  cases aop P op aa M <;> rfl

theorem wD_turn (d : Nat) (op : Op) (ty : TypeId) (pos : String) (after : Array Edge) (rest : List Oper) (mem : Bool) (lo hi : Nat) (is : List DI) (h : d < nt) :
    wD P nt ops T Q ds ({ dst := some d, op := op, type := ty, pos := pos, after := after, guard := none } :: rest) (DI.mk true mem lo hi 0 :: is) aa (M :: tl) recs t tr tT tops =
      wDK P true M (fun v m' => drw P nt ops T Q ds rest is (aa.put (some d) v) (m' :: M :: tl) (⟨aa, true, v, tl.length⟩ :: recs)) (aop P op aa M) .mk := by
  simp only [wD, drw, h, List.headD_cons, wDK, show ((0 : Nat) = 2) = False from by simp, show ((0 : Nat) = 1) = False from by simp, if_false, if_true, true_and, List.length_cons, Nat.add_sub_cancel]
  cases aop P op aa M <;> rfl

theorem wD_still' (op : Op) (ty : TypeId) (pos : String) (after : Array Edge) (rest : List Oper) (mem : Bool) (lo hi : Nat) (is : List DI) :
    wD P nt ops T Q ds ({ dst := none, op := op, type := ty, pos := pos, after := after, guard := none } :: rest) (DI.mk false mem lo hi 0 :: is) aa (M :: tl) recs t tr tT tops =
      wDK P false M (fun v _ => drw P nt ops T Q ds rest is aa (M :: tl) (⟨aa, true, v, tl.length⟩ :: recs)) (aop P op aa M) .mk := by
  simp only [wD, drw, List.headD_cons, wDK, show ((0 : Nat) = 2) = False from by simp, show ((0 : Nat) = 1) = False from by simp, if_false, true_and, Bool.false_eq_true, List.length_cons, Nat.add_sub_cancel]
  cases aop P op aa M <;> rfl

theorem wD_turn' (op : Op) (ty : TypeId) (pos : String) (after : Array Edge) (rest : List Oper) (mem : Bool) (lo hi : Nat) (is : List DI) :
    wD P nt ops T Q ds ({ dst := none, op := op, type := ty, pos := pos, after := after, guard := none } :: rest) (DI.mk true mem lo hi 0 :: is) aa (M :: tl) recs t tr tT tops =
      wDK P true M (fun v m' => drw P nt ops T Q ds rest is aa (m' :: M :: tl) (⟨aa, true, v, tl.length⟩ :: recs)) (aop P op aa M) .mk := by
  simp only [wD, drw, List.headD_cons, wDK, show ((0 : Nat) = 2) = False from by simp, show ((0 : Nat) = 1) = False from by simp, if_false, if_true, true_and, List.length_cons, Nat.add_sub_cancel]
  cases aop P op aa M <;> rfl

/-- A guard. -/
theorem wD_guard_still (d : Nat) (op : Op) (ty : TypeId) (pos : String) (after : Array Edge) (j : Nat) (b : Bool) (rest : List Oper) (mem : Bool) (lo hi : Nat) (is : List DI) (h : d < nt) :
    wD P nt ops T Q ds ({ dst := some d, op := op, type := ty, pos := pos, after := after, guard := some (j, b) } :: rest) (DI.mk false mem lo hi 0 :: is) aa (M :: tl) recs t tr tT tops =
      wG (gval ops aa j) b (wDK P false M (fun v _ => drw P nt ops T Q ds rest is (aa.put (some d) v) (M :: tl) (⟨aa, true, v, tl.length⟩ :: recs)) (aop P op aa M) .mk)
        (drw P nt ops T Q ds rest is (aa.put (some d) (.tup [])) (M :: tl) (⟨aa, false, .tup [], tl.length⟩ :: recs)) .mk .mk := by
  simp only [wD, drw, h, List.headD_cons, wDK, wG, show ((0 : Nat) = 2) = False from by simp, show ((0 : Nat) = 1) = False from by simp, if_false, true_and, Bool.false_eq_true, List.length_cons, Nat.add_sub_cancel]
  cases gval ops aa j with
  | none => rfl
  | some g => simp only []; split <;> first | rfl | (cases aop P op aa M <;> rfl)

theorem wD_guard_turn (d : Nat) (op : Op) (ty : TypeId) (pos : String) (after : Array Edge) (j : Nat) (b : Bool) (rest : List Oper) (mem : Bool) (lo hi : Nat) (is : List DI) (h : d < nt) :
    wD P nt ops T Q ds ({ dst := some d, op := op, type := ty, pos := pos, after := after, guard := some (j, b) } :: rest) (DI.mk true mem lo hi 0 :: is) aa (M :: tl) recs t tr tT tops =
      wG (gval ops aa j) b (wDK P true M (fun v m' => drw P nt ops T Q ds rest is (aa.put (some d) v) (m' :: M :: tl) (⟨aa, true, v, tl.length⟩ :: recs)) (aop P op aa M) .mk)
        (drw P nt ops T Q ds rest is (aa.put (some d) (.tup [])) (M :: M :: tl) (⟨aa, false, .tup [], tl.length⟩ :: recs)) .mk .mk := by
  simp only [wD, drw, h, List.headD_cons, wDK, wG, show ((0 : Nat) = 2) = False from by simp, show ((0 : Nat) = 1) = False from by simp, if_false, if_true, true_and, List.length_cons, Nat.add_sub_cancel]
  cases gval ops aa j with
  | none => rfl
  | some g => simp only []; split <;> first | rfl | (cases aop P op aa M <;> rfl)

/-- The call that panics, and what hangs on it. -/
theorem wD_pan (d : Nat) (op : Op) (ty : TypeId) (pos : String) (after : Array Edge) (rest : List Oper) (eff mem : Bool) (lo hi : Nat) (is : List DI) (h : d < nt) :
    wD P nt ops T Q ds ({ dst := some d, op := op, type := ty, pos := pos, after := after, guard := none } :: rest) (DI.mk eff mem lo hi 1 :: is) aa (M :: tl) recs t tr tT tops =
      wDP P M (fun v m' => (∀ fr, wX (.pan v) ⟨fr, ds⟩ m' Q .mk) ∧ drw P nt ops T Q ds rest is aa (M :: tl) (⟨aa, true, v, tl.length⟩ :: recs)) (aop P op aa M) .mk := by
  simp only [wD, drw, h, List.headD_cons, wDP, wX, show ((1 : Nat) = 2) = False from by simp, show ((1 : Nat) = 0) = False from by simp, if_false, if_true, true_and, false_and, List.length_cons, Nat.add_sub_cancel]
  cases aop P op aa M <;> rfl
theorem wD_pan' (op : Op) (ty : TypeId) (pos : String) (after : Array Edge) (rest : List Oper) (eff mem : Bool) (lo hi : Nat) (is : List DI) :
    wD P nt ops T Q ds ({ dst := none, op := op, type := ty, pos := pos, after := after, guard := none } :: rest) (DI.mk eff mem lo hi 1 :: is) aa (M :: tl) recs t tr tT tops =
      wDP P M (fun v m' => (∀ fr, wX (.pan v) ⟨fr, ds⟩ m' Q .mk) ∧ drw P nt ops T Q ds rest is aa (M :: tl) (⟨aa, true, v, tl.length⟩ :: recs)) (aop P op aa M) .mk := by
  simp only [wD, drw, List.headD_cons, wDP, wX, show ((1 : Nat) = 2) = False from by simp, show ((1 : Nat) = 0) = False from by simp, if_false, if_true, true_and, false_and, List.length_cons, Nat.add_sub_cancel]
  cases aop P op aa M <;> rfl
theorem wD_after (d : Nat) (op : Op) (ty : TypeId) (pos : String) (after : Array Edge) (g : Option (Nat × Bool)) (rest : List Oper) (eff mem : Bool) (lo hi : Nat) (is : List DI) (h : d < nt) :
    wD P nt ops T Q ds ({ dst := some d, op := op, type := ty, pos := pos, after := after, guard := g } :: rest) (DI.mk eff mem lo hi 2 :: is) aa (M :: tl) recs t tr tT tops =
      drw P nt ops T Q ds rest is aa (M :: tl) (⟨aa, false, .tup [], tl.length⟩ :: recs) := by
  simp only [wD, drw, h, if_true, true_and, List.length_cons, Nat.add_sub_cancel]
theorem wD_after' (op : Op) (ty : TypeId) (pos : String) (after : Array Edge) (g : Option (Nat × Bool)) (rest : List Oper) (eff mem : Bool) (lo hi : Nat) (is : List DI) :
    wD P nt ops T Q ds ({ dst := none, op := op, type := ty, pos := pos, after := after, guard := g } :: rest) (DI.mk eff mem lo hi 2 :: is) aa (M :: tl) recs t tr tT tops =
      drw P nt ops T Q ds rest is aa (M :: tl) (⟨aa, false, .tup [], tl.length⟩ :: recs) := by
  simp only [wD, drw, if_true, true_and, List.length_cons, Nat.add_sub_cancel]
end

section
variable {P : Program} {M : AM} {K : AV → AM → Prop} {t : Tag K}
theorem wDK_val0 (v : AV) : wDK P false M K (.val v M) t = K v M := by simp [wDK]
theorem wDK_val1 (v : AV) (m' : AM) : wDK P true M K (.val v m') t = K v m' := by simp [wDK]
theorem wDK_unit1 (m' : AM) : wDK P true M K (.unit m') t = K (.tup []) m' := by simp [wDK]
theorem wDK_call (eff : Bool) (f : FuncId) (args : List AV) : wDK P eff M K (.call f args) t = wDCall P f args M eff K .mk := rfl
theorem wDK_bad (eff : Bool) : wDK P eff M K .bad t = False := rfl
theorem wDK_ite (eff : Bool) (c : Prop) [Decidable c] (x y : ARes) : wDK P eff M K (if c then x else y) t = Br c (wDK P eff M K x .mk) (wDK P eff M K y .mk) .mk .mk := by
  simp only [Br]
  split <;> simp [*]
theorem wDP_call (f : FuncId) (args : List AV) : wDP P M K (.call f args) t = wDPan P f args M K .mk := rfl
end

/-- An obligation. -/
def wEv (P : Program) (r : ARes) (M : AM) (v : AV) : Prop :=
  match r with
  | .val u m' => u = v ∧ m' = M
  | .unit m' => v = .tup [] ∧ m' = M
  | .call f args => ACalls P f args M fun x m1 => x = .ret v ∧ m1 = M
  | _ => False
theorem ev_w (P : Program) (o : Op) (aa : AA) (M : AM) (v : AV) : Ev P o aa M v M = wEv P (aop P o aa M) M v := rfl
theorem wEv_val (P : Program) (u : AV) (m' M : AM) (v : AV) : wEv P (.val u m') M v = (u = v ∧ m' = M) := rfl
theorem wEv_call (P : Program) (f : FuncId) (args : List AV) (M : AM) (v : AV) : wEv P (.call f args) M v = ACalls P f args M (fun x m1 => x = .ret v ∧ m1 = M) := rfl

section
variable {P : Program} {H : List AM} {os : List Oper} {is : List DI} {rs : List Rec}
theorem obl_eff (o : Oper) (mem : Bool) (lo hi k : Nat) (r : Rec) : obl P H (o :: os) (DI.mk true mem lo hi k :: is) (r :: rs) = obl P H os is rs := by simp [obl]
theorem obl_pure (o : Oper) (lo hi k : Nat) (r : Rec) : obl P H (o :: os) (DI.mk false false lo hi k :: is) (r :: rs) = obl P H os is rs := by simp [obl]
theorem obl_pan (o : Oper) (eff mem : Bool) (lo hi k : Nat) (r : Rec) : obl P H (o :: os) (DI.mk eff mem lo hi (k + 1) :: is) (r :: rs) = obl P H os is rs := by simp [obl]
theorem obl_unrun (o : Oper) (eff mem : Bool) (lo hi k : Nat) (aa : AA) (v : AV) (t : Nat) : obl P H (o :: os) (DI.mk eff mem lo hi k :: is) (⟨aa, false, v, t⟩ :: rs) = obl P H os is rs := by simp [obl]
theorem obl_mem (d : Option Tmp) (op : Op) (ty : TypeId) (pos : String) (after : Array Edge) (g : Option (Nat × Bool)) (lo hi : Nat) (aa : AA) (v : AV) (t : Nat) :
    obl P H ({ dst := d, op := op, type := ty, pos := pos, after := after, guard := g } :: os) (DI.mk false true lo hi 0 :: is) (⟨aa, true, v, t⟩ :: rs) =
      (allT (fun t => match H[t]? with | some M => Ev P op aa M v M | none => True) t lo (hi + 1 - lo) ∧ obl P H os is rs) := by
  simp [obl]
  intro _
  exact Iff.rfl
theorem obl_nil : obl P H [] is rs = True := by cases is <;> cases rs <;> rfl
theorem allT_zero (p : Nat → Prop) (own lo : Nat) : allT p own lo 0 = True := rfl
theorem allT_succ (p : Nat → Prop) (own lo c : Nat) : allT p own lo (c + 1) = ((if lo = own then True else p lo) ∧ allT p own (lo + 1) c) := rfl
theorem allT_one (p : Nat → Prop) (own : Nat) : allT p own own 1 = True := by simp [allT]
end

theorem get_cons (x : Option ABlk) (t : AM) (n : Nat) : AM.get (x :: t) n = if n = t.length then x else AM.get t n := rfl
theorem set_cons (x : Option ABlk) (t : AM) (n : Nat) (b : Option ABlk) : AM.set (x :: t) n b = if n = t.length then b :: t else x :: AM.set t n b := rfl
theorem set_set (m : AM) (n : Nat) (b b' : Option ABlk) : AM.set (AM.set m n b) n b' = AM.set m n b' := by
  induction m with
  | nil => rfl
  | cons x t ih =>
    simp only [set_cons]
    split
    · simp [set_cons, *]
    · rename_i h
      simp only [set_cons, AM.length_set, if_neg h, ih]
theorem get_set_same {m : AM} {n : Nat} {x : ABlk} (b : Option ABlk) (h : m.get n = some x) : AM.get (AM.set m n b) n = b := AM.get_set_same m n b (AM.get_lt m n x h)

def wU (P : Program) (nt : Nat) (c : Code) (Q : AX → AA → AM → Prop) (n : Nat) (aa : AA) (m : AM) (_ : Tag c) (_ : Tag Q) : Prop := Ab.unr P nt c Q n aa m
theorem unr_w (P : Program) (nt : Nat) (c : Code) (Q : AX → AA → AM → Prop) (n : Nat) (aa : AA) (m : AM) : Ab.unr P nt c Q n aa m = wU P nt c Q n aa m .mk .mk := rfl
theorem wU_succ (P : Program) (nt : Nat) (c : Code) (Q : AX → AA → AM → Prop) (n : Nat) (aa : AA) (m : AM) (t : Tag c) (t' : Tag Q) : wU P nt c Q (n + 1) aa m t t' = awpC P nt c aa m (AX.then (fun aa m => Ab.unr P nt c Q n aa m) Q) := rfl


attribute [go_sem] unr_w wU_succ get_cons set_cons set_set AM.length_set drw_w wD_nil wD_still wD_turn wD_still' wD_turn' wD_guard_still wD_guard_turn wD_pan wD_pan' wD_after wD_after' wDK_val0 wDK_val1 wDK_unit1 wDK_call wDK_bad wDK_ite wDP_call
  ev_w wEv_val wEv_call obl_eff obl_pure obl_pan obl_unrun obl_mem obl_nil allT_zero allT_one allT_succ List.reverse_cons List.reverse_nil List.any_cons List.any_nil over_self over_cons

def aConvX (P : Program) (src dst : TypeId) (v : AV) (m : AM) : Option AV := aConv P src dst v m
def aConvI (c : Option CvK) (P : Program) (src dst : TypeId) (k' : IntKind) (n : Int) (m : AM) : Option AV := match c with
  | some (.int k) => some (.d (.int k (k.wrap n)))
  | _ => aConvX P src dst (.d (.int k' n)) m
theorem aConv_int_eq (P : Program) (src dst : TypeId) (k' : IntKind) (n : Int) (m : AM) : aConv P src dst (.d (.int k' n)) m = aConvI (cvOf P src dst) P src dst k' n m := by
  unfold aConvI
  split
  · rename_i k h
    exact aConv_of h rfl
  · rfl
theorem aConvI_int (P : Program) (src dst : TypeId) (k k' : IntKind) (n : Int) (m : AM) : aConvI (some (.int k)) P src dst k' n m = some (.d (.int k (k.wrap n))) := rfl

def aConvB (c : Option CvK) (P : Program) (src dst : TypeId) (v : AV) (m : AM) : Option AV := match c with
  | some k => (match aConv' k v m with | some av => some av | none => aConvX P src dst v m)
  | _ => aConvX P src dst v m
theorem aConvB_eq (P : Program) (src dst : TypeId) (v : AV) (m : AM) : aConv P src dst v m = aConvB (cvOf P src dst) P src dst v m := by
  unfold aConvB
  split
  · rename_i k h
    split
    · rename_i av ha
      exact aConv_of h ha
    · rfl
  · rfl
theorem aConv_lsl (P : Program) (src dst : TypeId) (n off len cap : Nat) (m : AM) : aConv P src dst (.lsl n off len cap) m = aConvB (cvOf P src dst) P src dst (.lsl n off len cap) m := aConvB_eq ..
theorem aConv_gsl (P : Program) (src dst : TypeId) (n sz : Nat) (rows : List (List D)) (m : AM) : aConv P src dst (.gsl n sz rows) m = aConvB (cvOf P src dst) P src dst (.gsl n sz rows) m := aConvB_eq ..
theorem aConv_sl (P : Program) (src dst : TypeId) (sz : Nat) (rows : List (List D)) (m : AM) : aConv P src dst (.d (.sl sz rows)) m = aConvB (cvOf P src dst) P src dst (.d (.sl sz rows)) m := aConvB_eq ..
theorem aConv_str (P : Program) (src dst : TypeId) (s : List UInt8) (m : AM) : aConv P src dst (.d (.str s)) m = aConvB (cvOf P src dst) P src dst (.d (.str s)) m := aConvB_eq ..
theorem aConvB_some (P : Program) (src dst : TypeId) (k : CvK) (v : AV) (m : AM) : aConvB (some k) P src dst v m = match aConv' k v m with | some av => some av | none => aConvX P src dst v m := rfl

def aAppend2 (c : Option (TypeId × Nat × Nat)) (P : Program) (ts : List TypeId) (s x : AV) (m : AM) : ARes := match c with
  | some (e, size, bytes) => (match s, newRows size x with
    | .gsl n sz rows, some new =>
      (match m.get n with
      | some (.grow e' sz' k) =>
        if e' = e ∧ sz' = size ∧ sz = size ∧ k = rows.length ∧ (rows.length + new.length) * bytes ≤ 140737488355328 then .val (.gsl n sz (rows ++ new)) (m.set n (some (.grow e sz (k + new.length)))) else .bad
      | _ => .bad)
    | _, _ => .bad)
  | none => aAppend P ts s x m
theorem aAppend2_eq (P : Program) (ts : List TypeId) (s x : AV) (m : AM) : aAppend P ts s x m = aAppend2 (apOf P ts) P ts s x m := by
  unfold aAppend2
  split
  · rename_i e size bytes h
    exact aAppend_eq P ts s x m h
  · rfl
/-- To a slice that grows, rows are put. -/
theorem aAppend2_some (P : Program) (ts : List TypeId) (e size bytes : Nat) (n sz : Nat) (rows : List (List D)) (x : AV) (m : AM) : aAppend2 (some (e, size, bytes)) P ts (.gsl n sz rows) x m = match newRows size x with
    | some new => (match m.get n with
      | some (.grow e' sz' k) =>
        if e' = e ∧ sz' = size ∧ sz = size ∧ k = rows.length ∧ (rows.length + new.length) * bytes ≤ 140737488355328 then .val (.gsl n sz (rows ++ new)) (m.set n (some (.grow e sz (k + new.length)))) else .bad
      | _ => .bad)
    | none => .bad := by
  unfold aAppend2
  simp only []
  cases newRows size x <;> rfl

def aCopy2 (c : Bool) (P : Program) (ts : List TypeId) (n off len cap : Nat) (s : List UInt8) (m : AM) : ARes := match c with
  | true => (match m.get n with
    | some (.cells ty cs) =>
      if off + len ≤ cs.length then
        .val (.d (.int .i64 (min s.length len : Nat))) (m.set n (some (.cells ty (cs.take off ++ (s.take (min s.length len)).map (fun b => AV.d (.int .u8 b.toNat)) ++ cs.drop (off + min s.length len)))))
      else .bad
    | _ => .bad)
  | false => aCopy P ts (.lsl n off len cap) (.d (.str s)) m
theorem aCopy2_eq (P : Program) (ts : List TypeId) (n off len cap : Nat) (s : List UInt8) (m : AM) : aCopy P ts (.lsl n off len cap) (.d (.str s)) m = aCopy2 (cpOf P ts) P ts n off len cap s m := by
  unfold aCopy2
  split
  · rename_i h
    exact aCopy_of h n off len cap s m
  · rfl
theorem aCopy2_true (P : Program) (ts : List TypeId) (n off len cap : Nat) (s : List UInt8) (m : AM) : aCopy2 true P ts n off len cap s m = match m.get n with
    | some (.cells ty cs) =>
      if off + len ≤ cs.length then
        .val (.d (.int .i64 (min s.length len : Nat))) (m.set n (some (.cells ty (cs.take off ++ (s.take (min s.length len)).map (fun b => AV.d (.int .u8 b.toNat)) ++ cs.drop (off + min s.length len)))))
      else .bad
    | _ => .bad := rfl

def aBinA (c : Option BK) (P : Program) (op : BinOp) (t : TypeId) (xo yo : Operand) (xs ys : List AV) : Option AV := match c with
  | some (.struct fs) => (aEqFs fs xs ys).bind (aEqR op)
  | _ => aBin P op t xo yo (.agg xs) (.agg ys)
theorem aBinA_eq (P : Program) (op : BinOp) (t : TypeId) (xo yo : Operand) (xs ys : List AV) : aBin P op t xo yo (.agg xs) (.agg ys) = aBinA (bkOf P t) P op t xo yo xs ys := by
  unfold aBinA
  split
  · rename_i fs h
    exact aBin_agg P op t xo yo xs ys fs h
  · rfl
theorem aBinA_struct (fs : List (Nat × FK)) (P : Program) (op : BinOp) (t : TypeId) (xo yo : Operand) (xs ys : List AV) : aBinA (some (.struct fs)) P op t xo yo xs ys = (aEqFs fs xs ys).bind (aEqR op) := rfl

attribute [go_sem] aConv_int_eq aConvI_int aConv_lsl aConv_gsl aConv_sl aConv_str aConvB_some aConv' aAppend2_eq aAppend2_some aCopy2_eq aCopy2_true aBinA_eq aBinA_struct

/-! ### ranges over functions -/
def wEnd (P : Program) (o : Option AM) (aa : AA) (rs : List ResultVar) (Q : AE → AM → Prop) (_ : Tag Q) : Prop := match o with
  | some m' => wRet P (aRess P aa m' rs) m' Q .mk
  | none => False
theorem wEnd_some (P : Program) (m' : AM) (aa : AA) (rs : List ResultVar) (Q : AE → AM → Prop) (t : Tag Q) : wEnd P (some m') aa rs Q t = wRet P (aRess P aa m' rs) m' Q .mk := rfl
def wEndP (o : Option AM) (v : AV) (Q : AE → AM → Prop) (_ : Tag Q) : Prop := match o with
  | some m' => Q (.pan v) m'
  | none => False
theorem wEndP_some (m' : AM) (v : AV) (Q : AE → AM → Prop) (t : Tag Q) : wEndP (some m') v Q t = Q (.pan v) m' := rfl
theorem mrks_nil (m : AM) : mrks [] m = some m := rfl
theorem mrks_mrk (n : Nat) (ds : List AV) (m : AM) : mrks (.mrk n :: ds) m = match m.get n with
    | some .dfr => mrks ds (m.set n none)
    | _ => none := rfl
section
variable {P : Program} {aa : AA} {m : AM} {rs : List ResultVar} {q : AE → AM → Prop}
theorem wX_bodyM_ret (t : Tag (bodyQM P rs q)) : wX .ret aa m (bodyQM P rs q) t = wEnd P (mrks aa.ds m) aa rs q .mk := by
  simp only [wX, bodyQM, wEnd, wRet]
  cases mrks aa.ds m <;> rfl
theorem wX_bodyM_normal (t : Tag (bodyQM P rs q)) : wX .normal aa m (bodyQM P rs q) t = wEnd P (mrks aa.ds m) aa rs q .mk := by
  simp only [wX, bodyQM, wEnd, wRet]
  cases mrks aa.ds m <;> rfl
theorem wX_bodyM_pan (v : AV) (t : Tag (bodyQM P rs q)) : wX (.pan v) aa m (bodyQM P rs q) t = wEndP (mrks aa.ds m) v q .mk := by
  simp only [wX, bodyQM, wEndP]
  cases mrks aa.ds m <;> rfl

/-- The end of a round, by what lies under the loop's name. -/
def wRE (o : Option ABlk) (n : Nat) (fr : List (Nat × AV)) (jump : Option Code) (m : AM) (Q : AE → AM → Prop) (_ : Tag Q) : Prop := match o with
  | some (.loop r fr') => fr' = fr ∧ Q (.ret (.d (.bool jump.isNone))) (m.set n (some (.loop { r with state := if jump.isNone then .ready else .done, pending := jump } fr)))
  | _ => False
theorem wRE_loop (r : Loop) (n : Nat) (fr : List (Nat × AV)) (jump : Option Code) (Q : AE → AM → Prop) (t : Tag Q) : wRE (some (.loop r fr)) n fr jump m Q t = Q (.ret (.d (.bool jump.isNone))) (m.set n (some (.loop { r with state := if jump.isNone then .ready else .done, pending := jump } fr))) := by
  simp only [wRE, true_and]
theorem wRE_ok {n : Nat} {fr : List (Nat × AV)} {jump : Option Code} {v : Bool} (hv : jump.isNone = v) {st : LoopState} (hst : (if jump.isNone then LoopState.ready else .done) = st) :
    (∃ r, m.get n = some (.loop r fr) ∧ q (.ret (.d (.bool v))) (m.set n (some (.loop { r with state := st, pending := jump } fr)))) = wRE (m.get n) n fr jump m q .mk := by
  subst hv hst
  refine propext ⟨fun ⟨r, h1, h2⟩ => by rw [h1]; exact ⟨rfl, h2⟩, fun h => ?_⟩
  unfold wRE at h
  split at h
  · rename_i r fr' hg
    obtain ⟨rfl, h⟩ := h
    exact ⟨r, hg, h⟩
  · exact h.elim
variable {n : Nat} {fr : List (Nat × AV)}
theorem wX_rnd_normal (t : Tag (rndQ n fr q)) : wX .normal aa m (rndQ n fr q) t = wRE (m.get n) n fr none m q .mk := by
  simp only [wX, rndQ]; exact wRE_ok rfl rfl
theorem wX_rnd_ret (t : Tag (rndQ n fr q)) : wX .ret aa m (rndQ n fr q) t = wRE (m.get n) n fr (some .ret) m q .mk := by
  simp only [wX, rndQ]; exact wRE_ok rfl rfl
theorem wX_rnd_exit (id : Nat) (t : Tag (rndQ n fr q)) : wX (.exit id) aa m (rndQ n fr q) t = wRE (m.get n) n fr (some (.exit id)) m q .mk := by
  simp only [wX, rndQ]; exact wRE_ok rfl rfl
end
theorem loop_back {r : Loop} (h1 : r.state = .ready) (h2 : r.pending = none) : ({ r with state := .ready, pending := none } : Loop) = r := by
  cases r; simp_all

attribute [go_sem] wEnd_some wEndP_some mrks_nil mrks_mrk wX_bodyM_ret wX_bodyM_normal wX_bodyM_pan wRE_loop wX_rnd_normal wX_rnd_ret wX_rnd_exit putL

/-! ### pointers, octets of strings -/
def aBinP (c : Bool) (P : Program) (op : BinOp) (t : TypeId) (xo yo : Operand) (x y : AV) : Option AV := match c, x, y with
  | true, .ptr _ _, .d (.cst (.pointer none)) => aEqR op false
  | true, .d (.cst (.pointer none)), .d (.cst (.pointer none)) => aEqR op true
  | true, .ptr n o, .ptr n' o' => if n = n' ∧ o = o' then aEqR op true else none
  | _, _, _ => aBin P op t xo yo x y
theorem aBinP_eq (P : Program) (op : BinOp) (t : TypeId) (xo yo : Operand) (x y : AV) : aBin P op t xo yo x y = aBinP (bpOf P t) P op t xo yo x y := by
  unfold aBinP
  split
  · rename_i h; exact aBin_ptrnil h ..
  · rename_i h; exact aBin_nilnil h ..
  · rename_i h; exact aBin_ptrptr h ..
  · rfl
theorem aBin_w1 (P : Program) (op : BinOp) (t : TypeId) (xo yo : Operand) (n o : Nat) : aBin P op t xo yo (.ptr n o) (.d (.cst (.pointer none))) = aBinP (bpOf P t) P op t xo yo (.ptr n o) (.d (.cst (.pointer none))) := aBinP_eq ..
theorem aBin_w2 (P : Program) (op : BinOp) (t : TypeId) (xo yo : Operand) : aBin P op t xo yo (.d (.cst (.pointer none))) (.d (.cst (.pointer none))) = aBinP (bpOf P t) P op t xo yo (.d (.cst (.pointer none))) (.d (.cst (.pointer none))) := aBinP_eq ..
theorem aBin_w3 (P : Program) (op : BinOp) (t : TypeId) (xo yo : Operand) (n o n' o' : Nat) : aBin P op t xo yo (.ptr n o) (.ptr n' o') = aBinP (bpOf P t) P op t xo yo (.ptr n o) (.ptr n' o') := aBinP_eq ..
theorem aBinP_1 (P : Program) (op : BinOp) (t : TypeId) (xo yo : Operand) (n o : Nat) : aBinP true P op t xo yo (.ptr n o) (.d (.cst (.pointer none))) = aEqR op false := rfl
theorem aBinP_2 (P : Program) (op : BinOp) (t : TypeId) (xo yo : Operand) : aBinP true P op t xo yo (.d (.cst (.pointer none))) (.d (.cst (.pointer none))) = aEqR op true := rfl
theorem aBinP_3 (P : Program) (op : BinOp) (t : TypeId) (xo yo : Operand) (n o n' o' : Nat) : aBinP true P op t xo yo (.ptr n o) (.ptr n' o') = if n = n' ∧ o = o' then aEqR op true else none := rfl
def aConvU (c : Option UcK) (P : Program) (src dst : TypeId) (n off : Nat) (m : AM) : Option AV := match c with
  | some k => aConvU' P k n off m
  | none => aConvX P src dst (.ptr n off) m
theorem aConvU_eq (P : Program) (src dst : TypeId) (n off : Nat) (m : AM) : aConv P src dst (.ptr n off) m = aConvU (ucOf P src dst) P src dst n off m := by
  unfold aConvU
  split
  · rename_i k h; exact aConv_u h n off m
  · rfl
theorem aConvU_to (P : Program) (src dst : TypeId) (n off : Nat) (m : AM) : aConvU (some .to) P src dst n off m = match m.get n with | some (.cells _ cs) => if off < cs.length then some (.ptr n off) else none | _ => none := by
  simp only [aConvU, aConvU']
  cases m.get n with
  | none => rfl
  | some x => cases x <;> rfl
theorem aConvU_frm (P : Program) (src dst u : TypeId) (n off : Nat) (m : AM) : aConvU (some (.frm u)) P src dst n off m = match m.get n with | some (.cells ty cs) => if liesB P ty cs.length off u = true then some (.ptr n off) else none | _ => none := by
  simp only [aConvU, aConvU']
  cases m.get n with
  | none => rfl
  | some x => cases x <;> rfl
def aAppS (c : Option TypeId) (P : Program) (ts : List TypeId) (n sz : Nat) (rows : List (List D)) (x : List UInt8) (m : AM) : ARes := match c with
  | some e => (match m.get n with
    | some (.grow e' sz' k) => if e' = e ∧ sz' = 1 ∧ sz = 1 ∧ k = rows.length ∧ 0 < x.length ∧ rows.length + x.length ≤ 140737488355328 then .val (.gsl n sz (rows ++ octs x)) (m.set n (some (.grow e sz (k + x.length)))) else .bad
    | _ => .bad)
  | none => aAppendS P ts (.gsl n sz rows) x m
theorem aAppS_eq (P : Program) (ts : List TypeId) (n sz : Nat) (rows : List (List D)) (x : List UInt8) (m : AM) : aAppendS P ts (.gsl n sz rows) x m = aAppS (apsOf P ts) P ts n sz rows x m := by
  unfold aAppS
  split
  · rename_i e h; exact aAppendS_eq h ..
  · rfl
theorem aAppS_some (P : Program) (ts : List TypeId) (e : TypeId) (n sz : Nat) (rows : List (List D)) (x : List UInt8) (m : AM) : aAppS (some e) P ts n sz rows x m = match m.get n with
    | some (.grow e' sz' k) => if e' = e ∧ sz' = 1 ∧ sz = 1 ∧ k = rows.length ∧ 0 < x.length ∧ rows.length + x.length ≤ 140737488355328 then .val (.gsl n sz (rows ++ octs x)) (m.set n (some (.grow e sz (k + x.length)))) else .bad
    | _ => .bad := rfl
theorem aApp_str (P : Program) (ts : List TypeId) (s : AV) (t : List UInt8) (m : AM) : aApp P ts s (.d (.str t)) m = aAppendS P ts s t m := rfl
theorem aApp_gsl (P : Program) (ts : List TypeId) (s : AV) (n sz : Nat) (rows : List (List D)) (m : AM) : aApp P ts s (.gsl n sz rows) m = aAppend P ts s (.gsl n sz rows) m := rfl
theorem aApp_sl (P : Program) (ts : List TypeId) (s : AV) (sz : Nat) (rows : List (List D)) (m : AM) : aApp P ts s (.d (.sl sz rows)) m = aAppend P ts s (.d (.sl sz rows)) m := rfl
theorem aApp_nil (P : Program) (ts : List TypeId) (s : AV) (m : AM) : aApp P ts s (.d .nilsl) m = aAppend P ts s (.d .nilsl) m := rfl
def aUnS (c : Option TypeId) (P : Program) (ts : List TypeId) (nm : Nat) (row : List UInt8) (l : Int) (m : AM) : ARes := match c with
  | some e' => (match m.get nm with
    | some (.grow e _ k) => if e' = e ∧ row.length = k ∧ l = row.length ∧ row ≠ [] then .val (.d (.str row)) (m.set nm none) else .bad
    | _ => .bad)
  | none => aUnStr P ts (.dptr nm row) (.d (.int .i64 l)) m
theorem aUnS_eq (P : Program) (ts : List TypeId) (nm : Nat) (row : List UInt8) (l : Int) (m : AM) : aUnStr P ts (.dptr nm row) (.d (.int .i64 l)) m = aUnS (usOf P ts) P ts nm row l m := by
  unfold aUnS
  split
  · rename_i e h; exact aUnStr_eq h ..
  · rfl
theorem aUnS_some (P : Program) (ts : List TypeId) (e' : TypeId) (nm : Nat) (row : List UInt8) (l : Int) (m : AM) : aUnS (some e') P ts nm row l m = match m.get nm with
    | some (.grow e _ k) => if e' = e ∧ row.length = k ∧ l = row.length ∧ row ≠ [] then .val (.d (.str row)) (m.set nm none) else .bad
    | _ => .bad := rfl
theorem aSlData_octs (n : Nat) (b : UInt8) (s : List UInt8) : aSlData (.gsl n 1 (octs (b :: s))) = some (.dptr n (b :: s)) := by
  simp only [aSlData, rowsB_octs]
theorem octs_append (a b : List UInt8) : octs a ++ octs b = octs (a ++ b) := by simp [octs]
theorem octs_length (a : List UInt8) : (octs a).length = a.length := by simp [octs]
attribute [go_sem] aBin_w1 aBin_w2 aBin_w3 aBinP_1 aBinP_2 aBinP_3 aConvU_eq aConvU_to aConvU_frm aAppS_eq aAppS_some aApp_str aApp_gsl aApp_sl aApp_nil aUnS_eq aUnS_some aSlData_octs octs_append octs_length

/-! ### deferred calls -/
def wDef (P : Program) (k : FuncId) (args : List AV) (u : Option AV) (m : AM) (Q : AM → Prop) (_ : Tag Q) : Prop := ADef P k args u m Q
section
variable {P : Program} {fr : List (Nat × AV)} {m : AM} {rs : List ResultVar} {q : AE → AM → Prop} {k : FuncId} {fs cs : List AV}
theorem wX_bodyR_ret0 (t : Tag (bodyQR P rs q)) : wX .ret ⟨fr, []⟩ m (bodyQR P rs q) t = wRet P (aRess P ⟨fr, []⟩ m rs) m q .mk := rfl
theorem wX_bodyR_normal0 (t : Tag (bodyQR P rs q)) : wX .normal ⟨fr, []⟩ m (bodyQR P rs q) t = wRet P (aRess P ⟨fr, []⟩ m rs) m q .mk := rfl
theorem wX_bodyR_pan0 (v : AV) (t : Tag (bodyQR P rs q)) : wX (.pan v) ⟨fr, []⟩ m (bodyQR P rs q) t = q (.pan v) m := rfl
theorem wX_bodyR_ret1 (t : Tag (bodyQR P rs q)) : wX .ret ⟨fr, [.fn (.func k) fs cs]⟩ m (bodyQR P rs q) t = wDef P k (fs ++ cs) none m (retQ P rs ⟨fr, [.fn (.func k) fs cs]⟩ q) .mk := rfl
theorem wX_bodyR_normal1 (t : Tag (bodyQR P rs q)) : wX .normal ⟨fr, [.fn (.func k) fs cs]⟩ m (bodyQR P rs q) t = wDef P k (fs ++ cs) none m (retQ P rs ⟨fr, [.fn (.func k) fs cs]⟩ q) .mk := rfl
theorem wX_bodyR_pan1 (v : AV) (t : Tag (bodyQR P rs q)) : wX (.pan v) ⟨fr, [.fn (.func k) fs cs]⟩ m (bodyQR P rs q) t = wDef P k (fs ++ cs) (some v) m (retQ P rs ⟨fr, [.fn (.func k) fs cs]⟩ q) .mk := rfl
theorem retQ_w (aa : AA) : retQ P rs aa q m = wRet P (aRess P aa m rs) m q .mk := rfl
theorem wX_bodyD_ret (qq : AM → Prop) (t : Tag (bodyQD qq)) : wX .ret ⟨fr, []⟩ m (bodyQD qq) t = qq m := by simp [wX, bodyQD]
theorem wX_bodyD_normal (qq : AM → Prop) (t : Tag (bodyQD qq)) : wX .normal ⟨fr, []⟩ m (bodyQD qq) t = qq m := by simp [wX, bodyQD]
end
attribute [go_sem] wX_bodyR_ret0 wX_bodyR_normal0 wX_bodyR_pan0 wX_bodyR_ret1 wX_bodyR_normal1 wX_bodyR_pan1 retQ_w wX_bodyD_ret wX_bodyD_normal recV

/-! ### numbers -/
attribute [go_sem] List.getElem?_nil not_true_eq_false not_false_eq_true Nat.reduceBEq or_self or_false false_or if_pos if_neg br_pos br_neg wrap64_in Nat.reduceEqDiff Nat.reduceLT Nat.reduceLeDiff Nat.reduceAdd Nat.reduceSub Nat.reduceMul Int.reduceToNat Int.toNat_natCast Int.cast_ofNat_Int Int.reduceLT Int.reduceLE Int.reduceEq Int.reduceAdd Int.reduceSub Int.reduceMul Int.reducePow Int.reduceNeg Nat.min_eq_left List.map_cons List.map_nil List.length_map Int.zero_mul Int.zero_add Int.add_zero Int.sub_zero IntKind.bits reduceCtorEq decide_true decide_false
attribute [go_sem ↓] reduceIte

/-! ### slices that are written -/
def slSzs (P : Program) (ts : List TypeId) : Option Nat := match ts with | [t, _] => slSz P t | _ => none
def aCopyX (c : Option Nat) (P : Program) (ts : List TypeId) (n off len cap : Nat) (x : AV) (m : AM) : ARes := match c with
  | some size => (match srcOf size x m, m.get n with
    | some (k, as), some (.cells ty cs) =>
      if off + len * size ≤ cs.length ∧ as.all (·.isCell) then
        .val (.d (.int .i64 (min k len : Nat))) (m.set n (some (.cells ty (cs.take off ++ as.take (min k len * size) ++ cs.drop (off + min k len * size)))))
      else .bad
    | _, _ => .bad)
  | none => aCopy P ts (.lsl n off len cap) x m
theorem aCopyX_eq (P : Program) (ts : List TypeId) (n off len cap : Nat) (x : AV) (m : AM) (hx : ∀ s, x ≠ .d (.str s)) : aCopy P ts (.lsl n off len cap) x m = aCopyX (slSzs P ts) P ts n off len cap x m := by
  unfold aCopyX
  split
  · rename_i size h
    unfold slSzs at h
    split at h
    · rename_i t t'
      have h' := h
      unfold slSz at h
      split at h
      · rename_i e _ _ _ hti
        obtain ⟨te, hte, _⟩ := Option.map_eq_some_iff.1 h
        simp only [aCopy, hti, hte, aCpy, h']
        split
        · rename_i heq
          cases heq
          exact absurd rfl (hx _)
        · rename_i heq1 heq2
          cases heq1
          rfl
        · rename_i hno1 hno
          exact (hno1 n off len cap rfl).elim
      · cases h
    · cases h
  · rfl
theorem aCopy_lsl (P : Program) (ts : List TypeId) (n off len cap n' off' len' cap' : Nat) (m : AM) : aCopy P ts (.lsl n off len cap) (.lsl n' off' len' cap') m = aCopyX (slSzs P ts) P ts n off len cap (.lsl n' off' len' cap') m := aCopyX_eq _ _ _ _ _ _ _ _ (by intro s h; cases h)
theorem aCopy_sl (P : Program) (ts : List TypeId) (n off len cap sz : Nat) (rows : List (List D)) (m : AM) : aCopy P ts (.lsl n off len cap) (.d (.sl sz rows)) m = aCopyX (slSzs P ts) P ts n off len cap (.d (.sl sz rows)) m := aCopyX_eq _ _ _ _ _ _ _ _ (by intro s h; cases h)
theorem aCopyX_some (P : Program) (ts : List TypeId) (size n off len cap : Nat) (x : AV) (m : AM) : aCopyX (some size) P ts n off len cap x m = match srcOf size x m, m.get n with
    | some (k, as), some (.cells ty cs) =>
      if off + len * size ≤ cs.length ∧ as.all (·.isCell) then
        .val (.d (.int .i64 (min k len : Nat))) (m.set n (some (.cells ty (cs.take off ++ as.take (min k len * size) ++ cs.drop (off + min k len * size)))))
      else .bad
    | _, _ => .bad := rfl
theorem srcOf_lsl (size n off len cap : Nat) (m : AM) : srcOf size (.lsl n off len cap) m = match m.get n with
    | some (.cells _ cs) => if off + len * size ≤ cs.length then some (len, (cs.drop off).take (len * size)) else none
    | _ => none := rfl
theorem srcOf_sl (size sz : Nat) (rows : List (List D)) (m : AM) : srcOf size (.d (.sl sz rows)) m = if sz = size then some (rows.length, rows.flatten.map AV.d) else none := by
  simp only [srcOf, newRows, AV.rows]
  split <;> rfl
attribute [go_sem] aCopy_lsl aCopy_sl aCopyX_some srcOf_lsl srcOf_sl aMake aBuildL aFill

end Go.Ab

/- Resting places: a walk that has parted comes together again. -/
namespace Go.Ab
open Go.RowKit

/-- What remains to be walked. -/
def wAW (P : Program) (nt : Nat) (c : Code) (aa : AA) (m : AM) (Q : AX → AA → AM → Prop) (_ : Tag c) (_ : Tag Q) : Prop := AW P nt c aa m Q

theorem AW.seq {P : Program} {nt : Nat} {a b : Code} {aa : AA} {m : AM} {Q : AX → AA → AM → Prop} (h : AW P nt a aa m (AX.then (fun aa m => AW P nt b aa m Q) Q)) : AW P nt (.seq a b) aa m Q := fun ρ hρ σ w a1 hs ha => by
  have hx : ρ = none ∨ noDef a = true := hρ.imp_right fun h => by simp only [noDef, Bool.and_eq_true] at h; exact h.1
  have hy : ρ = none ∨ noDef b = true := hρ.imp_right fun h => by simp only [noDef, Bool.and_eq_true] at h; exact h.2
  refine wpIn_seq (wpIn_mono (h ρ hx σ w a1 hs ha) fun e a' w' hp => ?_)
  obtain ⟨x', σ', m', aa', e1, e2, e3, e4, e5⟩ := hp
  cases e4 with
  | normal => exact wp_post e1 (e5 ρ hy σ' w' a' e2 e3)
  | exit id => exact ⟨_, σ', m', aa', e1, e2, e3, .exit id, e5⟩
  | goto l => exact ⟨_, σ', m', aa', e1, e2, e3, .goto l, e5⟩
  | ret => exact ⟨_, σ', m', aa', e1, e2, e3, .ret, e5⟩
  | pan v b hr => exact ⟨_, σ', m', aa', e1, e2, e3, .pan v b hr, e5⟩

/-- One statement is walked. -/
theorem AW.step {P : Program} {nt : Nat} {a b : Code} {aa : AA} {m : AM} {Q : AX → AA → AM → Prop} (h : awpC P nt a aa m (AX.then (fun aa m => wAW P nt b aa m Q .mk .mk) Q)) : AW P nt (.seq a b) aa m Q := AW.seq (awpC_ok _ _ _ _ h)

/-- A resting place behind a statement. -/
theorem AW.chk {P : Program} {nt : Nat} {a b : Code} {aa : AA} {m : AM} {Q : AX → AA → AM → Prop} {ι : Type} (I : ι → Prop) (fr : ι → List (Nat × AV)) (mm : ι → AM) (ds : List AV)
    (h1 : awpC P nt a aa m (AX.then (fun aa' m' => ∃ i, I i ∧ Weak aa' m' ⟨fr i, ds⟩ (mm i)) Q)) (h2 : ∀ i, I i → AW P nt b ⟨fr i, ds⟩ (mm i) Q) : AW P nt (.seq a b) aa m Q :=
  AW.seq (AW.mono (awpC_ok _ _ _ _ h1) fun x aa' m' hx => by
    cases x with
    | normal =>
      obtain ⟨i, hi, hw⟩ := hx
      exact AW.weak hw (h2 i hi)
    | _ => exact hx)

/-- One place, always the same. -/
theorem AW.chk1 {P : Program} {nt : Nat} {a b : Code} {aa : AA} {m : AM} {Q : AX → AA → AM → Prop} (fr : List (Nat × AV)) (mm : AM) (ds : List AV)
    (h1 : awpC P nt a aa m (AX.then (fun aa' m' => Weak aa' m' ⟨fr, ds⟩ mm) Q)) (h2 : AW P nt b ⟨fr, ds⟩ mm Q) : AW P nt (.seq a b) aa m Q :=
  AW.seq (AW.mono (awpC_ok _ _ _ _ h1) fun x aa' m' hx => by
    cases x with
    | normal => exact AW.weak hx h2
    | _ => exact hx)
/-- A nil slice in a cell, to which will be appended. -/
theorem Weak.growCell {fr : List (Nat × AV)} {ds : List AV} {m : AM} (n : Nat) (T e : TypeId) (sz i : Nat) (cs : List AV) (hn : m.get n = some (.cells T cs)) (hi : cs[i]? = some (.d .nilsl)) :
    Weak ⟨fr, ds⟩ m ⟨fr, ds⟩ (AM.set (some (.grow e sz 0) :: m) n (some (.cells T (cs.set i (.gsl m.length sz []))))) := fun nt σ w a hs ha => by
  obtain ⟨σ', e1, e2, e3⟩ := mkGrow hs e sz
  have hlt := AM.get_lt _ _ _ hn
  have hg : AM.get (some (.grow e sz 0) :: m) n = some (.cells T cs) := by
    simp only [AM.get]
    rw [if_neg (by omega)]
    exact hn
  have hE := Ext.write (σ := σ') (w := w) (w' := w) (y := .cells T (cs.set i (.gsl m.length sz []))) hg (by intros; simp) (by intros; simp) rfl rfl rfl rfl (fun _ _ => rfl)
  have hS : Sim σ' (AM.set (some (.grow e sz 0) :: m) n (some (.cells T (cs.set i (.gsl m.length sz []))))) w := by
    refine Sim.write e2 hg (by intros; simp) (by intros; simp) rfl rfl rfl rfl (fun _ _ => rfl) ?_
    obtain ⟨h1, vs, h2, h3, h4⟩ := e2.ok n _ hg
    refine ⟨fun c hc => ?_, vs, h2, by simp [h3], fun j v c hv hc => ?_⟩
    · rcases List.mem_or_eq_of_mem_set hc with hc | rfl
      · exact h1 c hc
      · rfl
    · by_cases hj : i = j
      · subst hj
        have hil : i < cs.length := (List.getElem?_eq_some_iff.1 hi).1
        rw [List.getElem?_set_self hil] at hc
        cases hc
        have := h4 i v _ hv hi
        rw [this.nilsl_inv]
        exact e3.mono hE
      · rw [List.getElem?_set_ne hj] at hc
        exact (h4 j v c hv hc).mono hE
  exact ⟨σ', e1.trans hE, hS, ha.mono (e1.trans hE)⟩

/-- What the arguments tell. -/
theorem ACalls.tell {P : Program} {f : FuncId} {args : List AV} {m : AM} {Q : AE → AM → Prop} {p : Prop} (hp : ∀ σ w vs, Sim σ m w → Rs σ m w vs args → p) (h : p → ACalls P f args m Q) : ACalls P f args m Q := fun σ w vs hs hr => h (hp σ w vs hs hr) σ w vs hs hr
theorem R.len {σ : St} {m : AM} {w : World} {v : Value} {sz : Nat} {rows : List (List D)} (h : R σ m w v (.d (.sl sz rows))) : rows.length ≤ maxLen := by
  cases h with
  | d v x hd =>
    obtain ⟨_, _, _, h1, h2, _⟩ := hd.sl_inv
    omega
theorem Rs.len {σ : St} {m : AM} {w : World} {vs : List Value} {args : List AV} (hr : Rs σ m w vs args) (i : Nat) {sz : Nat} {rows : List (List D)} (hi : args[i]? = some (.d (.sl sz rows))) : rows.length ≤ maxLen := by
  have hlt : i < vs.length := by rw [hr.1]; exact (List.getElem?_eq_some_iff.1 hi).1
  exact (hr.2 i vs[i] _ (List.getElem?_eq_getElem hlt) hi).len

/-! ### nil slices inside data -/
mutual
inductive DLe : D → D → Prop
  | refl (x : D) : DLe x x
  | nilsl (sz : Nat) : DLe .nilsl (.sl sz [])
  | sl (sz : Nat) {r r' : List (List D)} : DLeR r r' → DLe (.sl sz r) (.sl sz r')
inductive DLeL : List D → List D → Prop
  | nil : DLeL [] []
  | cons {x y : D} {l l' : List D} : DLe x y → DLeL l l' → DLeL (x :: l) (y :: l')
inductive DLeR : List (List D) → List (List D) → Prop
  | nil : DLeR [] []
  | cons {x y : List D} {l l' : List (List D)} : DLeL x y → DLeR l l' → DLeR (x :: l) (y :: l')
end

theorem RD.le {I : Nat → Nat → Prop} {w : World} {x y : D} (h : DLe x y) : ∀ v, RD I w v x → RD I w v y := by
  refine DLe.rec (motive_1 := fun x y _ => ∀ v, RD I w v x → RD I w v y)
    (motive_2 := fun l l' _ => l.length = l'.length ∧ ∀ (i : Nat) x y, l[i]? = some x → l'[i]? = some y → ∀ v, RD I w v x → RD I w v y)
    (motive_3 := fun r r' _ => r.length = r'.length ∧ ∀ (i : Nat) l l', r[i]? = some l → r'[i]? = some l' → l.length = l'.length ∧ ∀ (j : Nat) x y, l[j]? = some x → l'[j]? = some y → ∀ v, RD I w v x → RD I w v y)
    (fun x v hv => hv) (fun sz v hv => ?_) (fun sz r r' hr ih v hv => ?_) ⟨rfl, by simp⟩ (fun {x y l l'} h1 h2 i1 i2 => ⟨by simp [i2.1], fun i a b ha hb => ?_⟩) ⟨rfl, by simp⟩ (fun {x y l l'} h1 h2 i1 i2 => ⟨by simp [i2.1], fun i a b ha hb => ?_⟩) h
  · cases hv
    exact .slNil _ _ _ (Nat.zero_le _)
  · obtain ⟨hl, ih⟩ := ih
    cases hv with
    | slNil a cap _ hc =>
      obtain rfl : r' = [] := List.eq_nil_of_length_eq_zero hl.symm
      exact .slNil a cap sz hc
    | sl b o cap _ _ cv hlen hmax hrow hc hrd =>
      have get : ∀ (i : Nat) l', r'[i]? = some l' → ∃ l, r[i]? = some l := fun i l' hi => ⟨r[i]'(by rw [hl]; exact (List.getElem?_eq_some_iff.1 hi).1), List.getElem?_eq_getElem _⟩
      have get2 : ∀ (l l' : List D), l.length = l'.length → ∀ (j : Nat) y, l'[j]? = some y → ∃ x, l[j]? = some x := fun l l' hll j y hj => ⟨l[j]'(by rw [hll]; exact (List.getElem?_eq_some_iff.1 hj).1), List.getElem?_eq_getElem _⟩
      rw [hl]
      refine .sl b o cap sz r' cv (by rw [← hl]; exact hlen) hmax (fun l' hm => ?_) (fun i j l' y hi hj => ?_) (fun i j l' y hi hj => ?_)
      · obtain ⟨i, hi⟩ := List.mem_iff_getElem?.1 hm
        obtain ⟨l, hli⟩ := get i l' hi
        rw [← (ih i l l' hli hi).1]
        exact hrow l (List.mem_of_getElem? hli)
      · obtain ⟨l, hli⟩ := get i l' hi
        obtain ⟨x, hx⟩ := get2 l l' (ih i l l' hli hi).1 j y hj
        exact hc i j l x hli hx
      · obtain ⟨l, hli⟩ := get i l' hi
        obtain ⟨x, hx⟩ := get2 l l' (ih i l l' hli hi).1 j y hj
        exact (ih i l l' hli hi).2 j x y hx hj _ (hrd i j l x hli hx)
  · cases i with
    | zero => simp at ha hb; subst ha hb; exact i1
    | succ i => exact i2.2 i a b (by simpa using ha) (by simpa using hb)
  · cases i with
    | zero => simp at ha hb; subst ha hb; exact i1
    | succ i => exact i2.2 i a b (by simpa using ha) (by simpa using hb)

theorem AVle.ofD {x y : D} (h : DLe x y) : AVle (.d x) (.d y) := fun _ _ _ _ hr => by
  cases hr with
  | d v x hd => exact .d _ _ (hd.le h)

end Go.Ab

/- What a law's statement wants of a walk: the call returns true, and of what was there nothing turns. -/
namespace Go.Ab
open Go.ChangeShapes Go.WideShapes Go.RowKit

/-- Nothing that was there is turned. -/
def Stays (w w' : World) : Prop := w'.os = w.os ∧ w'.output = w.output ∧ w.heap.size ≤ w'.heap.size ∧ ∀ b, b < w.heap.size → w'.heap[b]? = w.heap[b]?

/-- From an empty abstract memory every block stays as it is. -/
theorem stays_of_ext {σ σ' : St} {m' : AM} {w w' : World} (h : Ext σ [] w σ' m' w') : Stays w w' :=
  ⟨h.os, h.output, h.size, fun b hb => (h.old b hb (fun n x hx => by simp [AM.get] at hx)).2⟩

theorem Stays.kept {w w' : World} (h : Stays w w') (may : MemPlace → Prop) : w.keptBut w' may := by
  refine ⟨h.1, h.2.1, fun i hi => ?_⟩
  rw [h.2.2.2 i hi]
  have : w.heap[i]? = some w.heap[i] := Array.getElem?_eq_getElem hi
  rw [this]
  cases w.heap[i] with
  | cells c t fr => exact ⟨rfl, rfl, rfl, fun _ _ => rfl⟩
  | map es clock => exact .inr ⟨rfl, rfl⟩
  | _ => rfl

theorem Stays.frozen {w w' : World} (h : Stays w w') {a : Addr} (ha : a.block < w.heap.size) : w'.frozen? a = w.frozen? a := by
  simp only [World.frozen?, h.2.2.2 _ ha]

/-- A walk that ends in true, from arguments that are read as data. -/
theorem calls_of_true {P : Program} {f : FuncId} {args : List AV} {vs : List Value} {w : World} (he : entersB P f = true)
    (h : ACalls P f args [] fun x _ => x = .ret (.d (.bool true))) (hr : ∀ σ, Rs σ [] w vs args) :
    Calls P f ⟨vs⟩ w fun e w' => e = .returned (.bool true) ∧ Stays w w' := by
  have hs : Sim ⟨fun _ => 0, fun _ => none⟩ [] w := ⟨fun n x hx => by simp [AM.get] at hx, fun n n' x x' b hx => by simp [AM.get] at hx⟩
  refine ((h _ w vs hs (hr _)).calls he).mono fun e w' ⟨x, σ', m', h1, h2, h3, h4⟩ => ?_
  subst h4
  refine ⟨?_, stays_of_ext h1⟩
  cases h3 with
  | ret v a hr =>
    cases hr with
    | d v x hd => cases hd; rfl

/-- A law without variables: its result is true, and its arguments read as they read. -/
theorem law_post {H : Type} {enc : TypeId × Value → H} {P : Program} {f : Func} {s : ChangeSpec} {t : TypeId} {W W' : World} {args : Array Value} {ds gs : List (DataW H)} {before : List MemPlace}
    (hW : DataW.Whole enc P f.params.toList s.vars false W args.toList ds gs before) (hv : s.vars = []) (ht : f.resultTypes = #[t]) (htb : P.underlying t = some .bool)
    (hs : s.fn H (ds ++ gs) = { results := [.lit (.bool true)], args := ds })
    (hargs : ∀ sp : Nat → Bool, (∀ p ∈ before, sp p.block = true) → DataW.TrodAll enc P W' 0 sp true f.params.toList args.toList ds before)
    (hk : Stays W W') :
    s.post enc P f false true false false W args (.bool true) W' := by
  have hold : ∀ p ∈ before, (fun b => decide (b < W.heap.size)) p.block = true := fun p hp => by simpa using hW.lt p hp
  have hg : DataW.TrodVars enc P W' (fun b => decide (b < W.heap.size)) s.vars [] [] := by rw [hv]; exact (rfl : ([] : List MemPlace) = [])
  refine ⟨ds, gs, before, [], before, [], hW, ?_, ?_, ?_, World.keptBut_mono (fun p hp => ⟨hp, .inr (.inl hp)⟩) (hk.kept _), fun h => by cases h⟩
  · rw [hs, ht]
    exact trodAll_cons_mk (shut_bool htb _) trodAll_mk0
  · rw [hs]
    exact hargs _ hold
  · rw [hs]
    exact hg

end Go.Ab

/- Slices that were written are given up as data; a function whose literals are written later. -/
namespace Go.Ab
open Go.RowKit

/-- A block that nobody writes any more is data. -/
theorem freeze_R {σ : St} {m : AM} {w : World} (hs : Sim σ m w) {n : Nat} {ty : TypeId} {cs : List AV} {off len cap sz : Nat} {rows : List (List D)} (hg : m.get n = some (.cells ty cs))
    (hrows : (cs.drop off).take (len * sz) = rows.flatten.map AV.d) (hl : rows.length = len) (hrl : ∀ r ∈ rows, r.length = sz) (h1 : len ≤ cap) (h2 : cap ≤ maxLen) {v : Value} (hv : R σ m w v (.lsl n off len cap)) :
    R σ (m.set n none) w v (.d (.sl sz rows)) := by
  cases hv
  rename_i hn
  subst hl
  obtain ⟨hcell, vs, hh, hl', hr⟩ := hs.ok n _ hg
  have hE := Ext.drop σ m w n
  have key : ∀ (i j : Nat) row x, rows[i]? = some row → row[j]? = some x → ∃ u, vs[off + (i * sz + j)]? = some u ∧ R σ m w u (.d x) := by
    intro i j row x hi hj
    have hjl : j < sz := by rw [← hrl row (List.mem_of_getElem? hi)]; exact (List.getElem?_eq_some_iff.1 hj).1
    have hf := flat_get rows hrl i j hjl
    rw [hi] at hf
    have hf' : rows.flatten[i * sz + j]? = some x := hf.trans hj
    have hm : (rows.flatten.map AV.d)[i * sz + j]? = some (.d x) := by rw [List.getElem?_map, hf']; rfl
    rw [← hrows, List.getElem?_take] at hm
    split at hm
    · rw [List.getElem?_drop] at hm
      have hlt : off + (i * sz + j) < vs.length := by rw [hl']; exact (List.getElem?_eq_some_iff.1 hm).1
      exact ⟨_, List.getElem?_eq_getElem hlt, hr _ _ _ (List.getElem?_eq_getElem hlt) hm⟩
    · cases hm
  refine .d _ _ (.sl (σ.ρ n) off cap sz rows (fun p q => vs.getD (off + (p * sz + q)) (.bool false)) h1 h2 hrl ?_ ?_)
  · intro i j row x hi hj
    obtain ⟨u, hu, _⟩ := key i j row x hi hj
    refine ⟨⟨blkOf_lt hs hg rfl, fun k y hk hb => ?_⟩, ?_⟩
    · rw [AM.get_set] at hk
      split at hk
      · cases hk
      · rename_i hne
        exact absurd (hs.inj k n y _ _ hk hg hb rfl) hne
    · simp only [World.cell?, hh, List.getD_eq_getElem?_getD, hu]
      simpa using hu
  · intro i j row x hi hj
    obtain ⟨u, hu, hru⟩ := key i j row x hi hj
    simp only [List.getD_eq_getElem?_getD, hu, Option.getD_some]
    cases hru.mono hE with
    | d v x hd => exact hd

/-- .. in a slot. -/
theorem Weak.freeze {fr : List (Nat × AV)} {ds : List AV} {m : AM} (s n : Nat) {ty : TypeId} {cs : List AV} {off len cap : Nat} (sz : Nat) (rows : List (List D)) (hsl : fget fr s = some (.lsl n off len cap)) (hg : m.get n = some (.cells ty cs))
    (hrows : (cs.drop off).take (len * sz) = rows.flatten.map AV.d) (hl : rows.length = len) (hrl : ∀ r ∈ rows, r.length = sz) (h1 : len ≤ cap) (h2 : cap ≤ maxLen) : Weak ⟨fr, ds⟩ m ⟨(s, .d (.sl sz rows)) :: fr, ds⟩ (m.set n none) := fun nt σ w a hs ha => by
  have hE := Ext.drop σ m w n
  have hm := ha.mono hE
  refine ⟨σ, hE, hs.drop n, hm.size, fun t v hv => ?_, hm.dl, hm.ds⟩
  simp only [fget] at hv
  split at hv
  · rename_i et
    cases hv
    subst et
    exact freeze_R hs hg hrows hl hrl h1 h2 (ha.fr t _ hsl)
  · exact hm.fr t v hv

/-- .. in a cell. -/
theorem Weak.freezeCell {fr : List (Nat × AV)} {ds : List AV} {m : AM} (k i n : Nat) {T ty : TypeId} {cc cs : List AV} {off len cap : Nat} (sz : Nat) (rows : List (List D)) (hk : m.get k = some (.cells T cc)) (hi : cc[i]? = some (.lsl n off len cap))
    (hg : m.get n = some (.cells ty cs)) (hkn : k ≠ n) (hrows : (cs.drop off).take (len * sz) = rows.flatten.map AV.d) (hl : rows.length = len) (hrl : ∀ r ∈ rows, r.length = sz) (h1 : len ≤ cap) (h2 : cap ≤ maxLen) :
    Weak ⟨fr, ds⟩ m ⟨fr, ds⟩ ((m.set n none).set k (some (.cells T (cc.set i (.d (.sl sz rows)))))) := fun nt σ w a hs ha => by
  have hE0 := Ext.drop σ m w n
  have hS0 := hs.drop n
  have hgk : (m.set n none).get k = some (.cells T cc) := by rw [AM.get_set, if_neg hkn]; exact hk
  have hE := Ext.write (σ := σ) (w := w) (w' := w) (y := .cells T (cc.set i (.d (.sl sz rows)))) hgk (by intros; simp) (by intros; simp) rfl rfl rfl rfl (fun _ _ => rfl)
  have hS : Sim σ ((m.set n none).set k (some (.cells T (cc.set i (.d (.sl sz rows)))))) w := by
    refine Sim.write hS0 hgk (by intros; simp) (by intros; simp) rfl rfl rfl rfl (fun _ _ => rfl) ?_
    obtain ⟨g1, vs, g2, g3, g4⟩ := hS0.ok k _ hgk
    obtain ⟨_, vs', g2', _, g4'⟩ := hs.ok k _ hk
    have hvv : vs' = vs := by rw [g2] at g2'; cases g2'; rfl
    subst hvv
    refine ⟨fun c hc => ?_, vs', g2, by simp [g3], fun j v c hv hc => ?_⟩
    · rcases List.mem_or_eq_of_mem_set hc with hc | rfl
      · exact g1 c hc
      · rfl
    · by_cases hj : i = j
      · subst hj
        have hil : i < cc.length := (List.getElem?_eq_some_iff.1 hi).1
        rw [List.getElem?_set_self hil] at hc
        cases hc
        exact (freeze_R hs hg hrows hl hrl h1 h2 (g4' i v _ hv hi)).mono hE
      · rw [List.getElem?_set_ne hj] at hc
        exact (g4 j v c hv hc).mono hE
  exact ⟨σ, hE0.trans hE, hS, ha.mono (hE0.trans hE)⟩

/-- A function whose literals are written later: its frame bears the mark. -/
theorem AW.live {P : Program} {nt : Nat} {c : Code} {fr : List (Nat × AV)} {ds : List AV} {m : AM} {Q : AX → AA → AM → Prop} (hn : nt ≤ liveT) (h : AW P nt c ⟨(liveT, .tup []) :: fr, ds⟩ m Q) : AW P nt c ⟨fr, ds⟩ m Q := fun ρ hρ σ w a hs ha => by
  refine h ρ hρ σ w a hs ⟨ha.size, fun s v hv => ?_, ha.dl, ha.ds⟩
  simp only [fget] at hv
  split at hv
  · rename_i hs'
    cases hv
    subst hs'
    have : a.tmps.getD liveT undef = undef := by
      have hsz := ha.size
      simp only [Array.getD_eq_getD_getElem?, Array.getElem?_eq_none (show a.tmps.size ≤ liveT by omega), Option.getD_none]
    rw [this]
    exact .undef
  · exact ha.fr s v hv

theorem acalls_of_AWL {P : Program} {f : FuncId} {fn : Func} {c : Code} {args : List AV} {m : AM} {Q : AE → AM → Prop} (hf : P.funcs[f]? = some fn) (hname : (fn.name == "runtime.NumGoroutine") = false) (hb : fn.body = some c)
    (hn : args.length ≤ fn.ntmps) (hl : fn.ntmps ≤ liveT) (h : AW P fn.ntmps c ⟨(liveT, .tup []) :: frOf 0 args, []⟩ m (bodyQ P fn.results.toList Q)) : ACalls P f args m Q := acalls_of_AW hf hname hb hn (AW.live hl h)
theorem acalls_of_bodyL {P : Program} {f : FuncId} {fn : Func} {c : Code} {args : List AV} {m : AM} {Q : AE → AM → Prop} (hf : P.funcs[f]? = some fn) (hname : (fn.name == "runtime.NumGoroutine") = false) (hb : fn.body = some c)
    (hn : args.length ≤ fn.ntmps) (hl : fn.ntmps ≤ liveT) (h : awpC P fn.ntmps c ⟨(liveT, .tup []) :: frOf 0 args, []⟩ m (bodyQ P fn.results.toList Q)) : ACalls P f args m Q := acalls_of_AWL hf hname hb hn hl (awpC_ok _ _ _ _ h)

end Go.Ab
