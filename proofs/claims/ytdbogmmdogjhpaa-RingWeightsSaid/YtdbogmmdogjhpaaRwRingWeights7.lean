/-
  Part RingWeights 7 of the texts that the statement's proof stands on: what memory holds, how code is walked, what the functions reckon. In the order in which they build.
-/
import Derived.Test.YtdbogmmdogjhpaaProg
import Derived.Recover
import Derived.Tactics
import Derived.Tactics2
import Derived.Test.YtdbogmmdogjhpaaRwRingWeights6
set_option linter.unusedVariables false
set_option linter.unusedSectionVars false
set_option maxRecDepth 20000
set_option maxHeartbeats 4000000
namespace Go.Proofs.Ytdbogmmdogjhpaa
open Go Go.Sx Go.Rx Go.RowKit
variable [Trk]
@[ext] structure Hunt where
  window : Int
  common : Int
  size : Int
  deriving DecidableEq
def HuntE : Enc Hunt := mapE (fun x => (x.window, (x.common, x.size))) (prodE (intE .i64) (prodE (intE .i64) (intE .i64)))
@[ext] structure Filing where
  id : Int
  day : Int
  parts : (List Int)
  deriving DecidableEq
def FilingE : Enc Filing := mapE (fun x => (x.id, (x.day, x.parts))) (prodE (intE .i64) (prodE (intE .i64) (sliceE (intE .i64))))
@[ext] structure Tie where
  from_ : Int
  to_ : Int
  weight : Int
def TieE : Enc Tie := mapE (fun x => (x.from_, (x.to_, x.weight))) (prodE (intE .i64) (prodE (intE .i64) ((intE .i64))))
attribute [grind ext] Tie.ext
instance : DecidableEq Tie := fun x y => decidable_of_iff (x.from_ = y.from_ ∧ x.to_ = y.to_ ∧ x.weight = y.weight) ⟨fun ⟨h0, h1, h2⟩ => Tie.ext h0 h1 h2, fun h => by subst h; exact ⟨rfl, rfl, rfl⟩⟩
theorem TieE_R {M : List Nat} {w : World} {cs : List Value} {x : Tie} : TieE.R M w cs x ↔ cs = [Value.int IntKind.i64 x.from_, Value.int IntKind.i64 x.to_, Value.int IntKind.i64 x.weight] ∧ InK .i64 x.from_ ∧ InK .i64 x.to_ ∧ InK .i64 x.weight := by
  simp only [TieE, mapE_R, prodE_R, intE_R, boolE_R, sliceE_R]
  constructor
  · rintro ⟨_, _, rfl, ⟨rfl, h0⟩, ⟨_, _, rfl, ⟨rfl, h1⟩, ⟨rfl, h2⟩⟩⟩
    exact ⟨rfl, h0, h1, h2⟩
  · rintro ⟨rfl, h0, h1, h2⟩
    exact ⟨[Value.int IntKind.i64 x.from_], [Value.int IntKind.i64 x.to_, Value.int IntKind.i64 x.weight], rfl, ⟨rfl, h0⟩, ⟨[Value.int IntKind.i64 x.to_], [Value.int IntKind.i64 x.weight], rfl, ⟨rfl, h1⟩, ⟨rfl, h2⟩⟩⟩
theorem Tie_eq (x y : Tie) (w : World) : (Op.equalIn 10000 71 (.agg (List.toArray [Value.int IntKind.i64 x.from_, Value.int IntKind.i64 x.to_, Value.int IntKind.i64 x.weight])) (.agg (List.toArray [Value.int IntKind.i64 y.from_, Value.int IntKind.i64 y.to_, Value.int IntKind.i64 y.weight]))).run Try.prog w = .ok (decide (x = y)) w := by
  have hf : Try.prog.underlying 71 = some (.struct (Try.prog.fieldsOf 71)) := by simp [Program.fieldsOf, Try.underlying71]
  rw [show (10000 : Nat) = 9999 + 1 from rfl, run_equalIn_agg w 9999 71 _ _ hf Try.stoodInHeld71]
  have h0 : decide (x = y) = (decide (x.from_ = y.from_) && decide (x.to_ = y.to_) && decide (x.weight = y.weight)) := by
    rw [Bool.eq_iff_iff]; simp only [decide_eq_true_eq, Bool.and_eq_true]; constructor
    · rintro rfl; simp
    · intro h; apply Tie.ext <;> simp_all
  rw [h0]
  simp [Program.fieldsOf, Try.underlying71, Op.eqFields, part, Try.isAgg3, run_equalIn_int w 9998 3 .i64 .i64 _ _ Try.underlying3]
  repeat' split
  all_goals simp_all
@[ext] structure Hunt_94 where
  hunt : Hunt
  ids : (List Int)
  weights : (List Int)
  deriving DecidableEq
def Hunt_94E : Enc Hunt_94 := mapE (fun x => (x.hunt.window, (x.hunt.common, (x.hunt.size, (x.ids, x.weights))))) (prodE (intE .i64) (prodE (intE .i64) (prodE (intE .i64) (prodE (sliceE (intE .i64)) (arrE .i64 576)))))
@[ext] structure Apart where
  from_ : Int
  to_ : Int
  deriving DecidableEq
def ApartE : Enc Apart := mapE (fun x => (x.from_, x.to_)) (prodE (intE .i64) (intE .i64))
instance : Sg where
  S := fun
    | 0 => Hunt
    | 1 => Filing
    | 2 => Tie
    | 3 => Hunt_94
    | 4 => Apart
    | _ + 5 => Bool
instance : Sf where
  ft := fun
    | 0 => [(.int .i64), (.int .i64), (.int .i64)]
    | 1 => [(.int .i64), (.int .i64), (.sl (.int .i64))]
    | 2 => [(.int .i64), (.int .i64), (.int .i64)]
    | 3 => [(.int .i64), (.int .i64), (.int .i64), (.sl (.int .i64)), (.arr .i64 576)]
    | 4 => [(.int .i64), (.int .i64)]
    | _ + 5 => [.bool]
  un := fun
    | 0 => fun (x : Hunt) => (x.window, (x.common, x.size))
    | 1 => fun (x : Filing) => (x.id, (x.day, x.parts))
    | 2 => fun (x : Tie) => (x.from_, (x.to_, x.weight))
    | 3 => fun (x : Hunt_94) => (x.hunt.window, (x.hunt.common, (x.hunt.size, (x.ids, x.weights))))
    | 4 => fun (x : Apart) => (x.from_, x.to_)
    | _ + 5 => fun (x : Bool) => x
  mkS := fun
    | 0 => fun (x : Int × Int × Int) => (Hunt.mk x.1 x.2.1 x.2.2)
    | 1 => fun (x : Int × Int × (List Int)) => (Filing.mk x.1 x.2.1 x.2.2)
    | 2 => fun (x : Int × Int × Int) => (Tie.mk x.1 x.2.1 x.2.2)
    | 3 => fun (x : Int × Int × Int × (List Int) × (List Int)) => (Hunt_94.mk (Hunt.mk x.1 x.2.1 x.2.2.1) x.2.2.2.1 x.2.2.2.2)
    | 4 => fun (x : Int × Int) => (Apart.mk x.1 x.2)
    | _ + 5 => fun (x : Bool) => x
  eq := fun
    | 0 => fun (x y : Hunt) => decide (x = y)
    | 1 => fun (x y : Filing) => decide (x = y)
    | 2 => fun (x y : Tie) => decide (x = y)
    | 3 => fun (x y : Hunt_94) => decide (x = y)
    | 4 => fun (x y : Apart) => decide (x = y)
    | _ + 5 => fun _ _ => false
  dec := fun
    | 0 => inferInstanceAs (DecidableEq Hunt)
    | 1 => inferInstanceAs (DecidableEq Filing)
    | 2 => inferInstanceAs (DecidableEq Tie)
    | 3 => inferInstanceAs (DecidableEq Hunt_94)
    | 4 => inferInstanceAs (DecidableEq Apart)
    | _ + 5 => inferInstanceAs (DecidableEq Bool)
  un_mk := fun n x => by
    match n, x with
    | 0, _ => rfl
    | 1, _ => rfl
    | 2, _ => rfl
    | 3, _ => rfl
    | 4, _ => rfl
    | _ + 5, _ => rfl
  leaf := fun n => by
    match n with
    | 0 => rfl
    | 1 => rfl
    | 2 => rfl
    | 3 => rfl
    | 4 => rfl
    | _ + 5 => rfl
  nm := fun
    | 0 => true
    | 1 => true
    | 2 => true
    | 3 => true
    | 4 => true
    | _ + 5 => false
instance : Se Try.prog where
  E := fun
    | 0 => HuntE
    | 1 => FilingE
    | 2 => TieE
    | 3 => Hunt_94E
    | 4 => ApartE
    | _ + 5 => boolE
  ky := fun m k => match m, k with
    | 3, .int .i64 => some (intKy .i64 Try.underlying3)
    | _, _ => none
instance : Sl (P := Try.prog) where
  is := fun n M w cs x => by
    match n, x with
    | 0, _ => exact Iff.rfl
    | 1, _ => exact Iff.rfl
    | 2, _ => exact Iff.rfl
    | 3, _ => exact Iff.rfl
    | 4, _ => exact Iff.rfl
    | _ + 5, _ => exact Iff.rfl
instance : TnE HuntE := by unfold HuntE; infer_instance
instance : TnE FilingE := by unfold FilingE; infer_instance
instance : TnE TieE := by unfold TieE; infer_instance
instance : TnE Hunt_94E := by unfold Hunt_94E; infer_instance
instance : TnE ApartE := by unfold ApartE; infer_instance
instance : Sn Try.prog where
  tn := fun n h => by
    match n, h with
    | 0, _ => exact inferInstanceAs (TnE HuntE)
    | 1, _ => exact inferInstanceAs (TnE FilingE)
    | 2, _ => exact inferInstanceAs (TnE TieE)
    | 3, _ => exact inferInstanceAs (TnE Hunt_94E)
    | 4, _ => exact inferInstanceAs (TnE ApartE)
    | _ + 5, h => cases h
theorem rsl24 : SlT Try.prog 24 65 (enc (P := Try.prog) (.st 1)).n 40 := ⟨Try.underlying24, Try.t65, _, by kernel_rfl, rfl, rfl, rfl, rfl⟩
theorem rsl32 : SlT Try.prog 32 71 (enc (P := Try.prog) (.st 2)).n 24 := ⟨Try.underlying32, Try.t71, _, by kernel_rfl, rfl, rfl, rfl, rfl⟩
theorem rsl42 : SlT Try.prog 42 3 (enc (P := Try.prog) (.int .i64)).n 8 := ⟨Try.underlying42, Try.t3, _, by kernel_rfl, rfl, rfl, rfl, rfl⟩
theorem rsl43 : SlT Try.prog 43 42 (enc (P := Try.prog) (.sl (.int .i64))).n 24 := ⟨Try.underlying43, Try.t42, _, by kernel_rfl, rfl, rfl, rfl, rfl⟩
theorem rsl73 : SlT Try.prog 73 5 (enc (P := Try.prog) (.int .u8)).n 1 := ⟨Try.underlying73, Try.t5, _, by kernel_rfl, rfl, rfl, rfl, rfl⟩
theorem rsl76 : SlT Try.prog 76 43 (enc (P := Try.prog) (.sl (.sl (.int .i64)))).n 24 := ⟨Try.underlying76, Try.t43, _, by kernel_rfl, rfl, rfl, rfl, rfl⟩
theorem rsl83 : SlT Try.prog 83 24 (enc (P := Try.prog) (.sl (.st 1))).n 24 := ⟨Try.underlying83, Try.t24, _, by kernel_rfl, rfl, rfl, rfl, rfl⟩
def gxb : Gx where
  tb := ⟨[(23, [(0, 3), (1, 3), (2, 3)]), (65, [(0, 3), (1, 3), (2, 42)]), (71, [(0, 3), (1, 3), (2, 3)]), (94, [(0, 23), (3, 42), (4, 92)])], [(3, 0), (4, 0), (5, 0), (23, 4), (24, 0), (27, 0), (32, 0), (42, 0), (43, 0), (65, 4), (69, 0), (71, 4), (73, 0), (75, 0), (76, 0), (80, 0), (83, 0), (86, 0), (92, 577), (94, 581), (97, 3), (117, 0), (129, 0), (131, 0), (139, 0), (140, 0), (144, 0), (146, 0)]⟩
  sl := [(24, 65, (.st 1), 40), (32, 71, (.st 2), 24), (42, 3, (.int .i64), 8), (43, 42, (.sl (.int .i64)), 24), (73, 5, (.int .u8), 1), (76, 43, (.sl (.sl (.int .i64))), 24), (83, 24, (.sl (.st 1)), 24)]
  sz := [(3, 1), (4, 1), (5, 1), (23, 3), (24, 1), (27, 1), (32, 1), (42, 1), (43, 1), (65, 3), (69, 1), (71, 3), (73, 1), (75, 1), (76, 1), (80, 1), (83, 1), (92, 576), (94, 580), (97, 2), (117, 1), (129, 1), (131, 1), (139, 1), (140, 1), (86, 1), (144, 1), (146, 1)]
  ty := [(3, (.int .i64)), (4, .bool), (5, (.int .u8)), (23, (.st 0)), (24, (.sl (.st 1))), (27, (.int .i64)), (32, (.sl (.st 2))), (42, (.sl (.int .i64))), (43, (.sl (.sl (.int .i64)))), (65, (.st 1)), (69, (.mp 3 (.int .i64) .bool)), (71, (.st 2)), (73, (.sl (.int .u8))), (75, (.int .u16)), (76, (.sl (.sl (.sl (.int .i64))))), (80, (.int .u32)), (83, (.sl (.sl (.st 1)))), (92, (.arr .i64 576)), (94, (.st 3)), (97, (.st 4)), (117, (.mp 3 (.int .i64) (.int .i64))), (129, (.int .u64)), (131, (.int .i64)), (139, (.int .u64)), (140, (.int .u64))]
  fs := []
  bd := [(23, [(0, 1), (1, 1), (2, 1)]), (65, [(0, 1), (1, 1), (2, 1)]), (71, [(0, 1), (1, 1), (2, 1)]), (94, [(0, 3), (3, 1), (4, 576)]), (97, [(0, 1), (1, 1)])]
  eq := [(71, 2)]
  mp := [(69, 3, 4, (.int .i64), .bool), (117, 3, 3, (.int .i64), (.int .i64))]
  ar := [(91, 24, 1), (92, 24, 24)]
  pz := [(86, 0), (144, 0), (146, 0)]
  pf := []
theorem gx_st : StOk Try.prog gxb.tb.st := ⟨⟨_, Try.underlying23, ⟨⟨_, _, rfl, rfl, rfl, Try.sizeOf3⟩, ⟨⟨_, _, rfl, rfl, rfl, Try.sizeOf3⟩, ⟨⟨_, _, rfl, rfl, rfl, Try.sizeOf3⟩, trivial⟩⟩⟩⟩, ⟨⟨_, Try.underlying65, ⟨⟨_, _, rfl, rfl, rfl, Try.sizeOf3⟩, ⟨⟨_, _, rfl, rfl, rfl, Try.sizeOf3⟩, ⟨⟨_, _, rfl, rfl, rfl, Try.sizeOf42⟩, trivial⟩⟩⟩⟩, ⟨⟨_, Try.underlying71, ⟨⟨_, _, rfl, rfl, rfl, Try.sizeOf3⟩, ⟨⟨_, _, rfl, rfl, rfl, Try.sizeOf3⟩, ⟨⟨_, _, rfl, rfl, rfl, Try.sizeOf3⟩, trivial⟩⟩⟩⟩, ⟨⟨_, Try.underlying94, ⟨⟨_, _, rfl, rfl, rfl, Try.sizeOf23⟩, ⟨⟨_, _, rfl, rfl, rfl, Try.sizeOf42⟩, ⟨⟨_, _, rfl, rfl, rfl, Try.sizeOf92⟩, trivial⟩⟩⟩⟩, trivial⟩⟩⟩⟩
theorem gx_ag : AgOk Try.prog gxb.tb.ag := ⟨Try.isAgg3, ⟨Try.isAgg4, ⟨Try.isAgg5, ⟨⟨Try.isAgg23, Try.sizeOf23⟩, ⟨Try.isAgg24, ⟨Try.isAgg27, ⟨Try.isAgg32, ⟨Try.isAgg42, ⟨Try.isAgg43, ⟨⟨Try.isAgg65, Try.sizeOf65⟩, ⟨Try.isAgg69, ⟨⟨Try.isAgg71, Try.sizeOf71⟩, ⟨Try.isAgg73, ⟨Try.isAgg75, ⟨Try.isAgg76, ⟨Try.isAgg80, ⟨Try.isAgg83, ⟨Try.isAgg86, ⟨⟨Try.isAgg92, Try.sizeOf92⟩, ⟨⟨Try.isAgg94, Try.sizeOf94⟩, ⟨⟨Try.isAgg97, Try.sizeOf97⟩, ⟨Try.isAgg117, ⟨Try.isAgg129, ⟨Try.isAgg131, ⟨Try.isAgg139, ⟨Try.isAgg140, ⟨Try.isAgg144, ⟨Try.isAgg146, trivial⟩⟩⟩⟩⟩⟩⟩⟩⟩⟩⟩⟩⟩⟩⟩⟩⟩⟩⟩⟩⟩⟩⟩⟩⟩⟩⟩⟩
theorem gx_sl : SlOk Try.prog gxb.sl := ⟨rsl24, ⟨rsl32, ⟨rsl42, ⟨rsl43, ⟨rsl73, ⟨rsl76, ⟨rsl83, trivial⟩⟩⟩⟩⟩⟩⟩
theorem gx_sz : SzOk Try.prog gxb.sz := ⟨Try.sizeOf3, ⟨Try.sizeOf4, ⟨Try.sizeOf5, ⟨Try.sizeOf23, ⟨Try.sizeOf24, ⟨Try.sizeOf27, ⟨Try.sizeOf32, ⟨Try.sizeOf42, ⟨Try.sizeOf43, ⟨Try.sizeOf65, ⟨Try.sizeOf69, ⟨Try.sizeOf71, ⟨Try.sizeOf73, ⟨Try.sizeOf75, ⟨Try.sizeOf76, ⟨Try.sizeOf80, ⟨Try.sizeOf83, ⟨Try.sizeOf92, ⟨Try.sizeOf94, ⟨Try.sizeOf97, ⟨Try.sizeOf117, ⟨Try.sizeOf129, ⟨Try.sizeOf131, ⟨Try.sizeOf139, ⟨Try.sizeOf140, ⟨Try.sizeOf86, ⟨Try.sizeOf144, ⟨Try.sizeOf146, trivial⟩⟩⟩⟩⟩⟩⟩⟩⟩⟩⟩⟩⟩⟩⟩⟩⟩⟩⟩⟩⟩⟩⟩⟩⟩⟩⟩⟩
theorem gx_ty : TyOk Try.prog gxb.ty := ⟨⟨(fun k h => by cases h; exact Try.underlying3), (fun h => by cases h), Try.zeroValue3⟩, ⟨⟨(fun k h => by cases h), (fun _ => Try.underlying4), Try.zeroValue4⟩, ⟨⟨(fun k h => by cases h; exact Try.underlying5), (fun h => by cases h), Try.zeroValue5⟩, ⟨⟨(fun k h => by cases h), (fun h => by cases h), Try.zeroValue23⟩, ⟨⟨(fun k h => by cases h), (fun h => by cases h), Try.zeroValue24⟩, ⟨⟨(fun k h => by cases h; exact Try.underlying27), (fun h => by cases h), Try.zeroValue27⟩, ⟨⟨(fun k h => by cases h), (fun h => by cases h), Try.zeroValue32⟩, ⟨⟨(fun k h => by cases h), (fun h => by cases h), Try.zeroValue42⟩, ⟨⟨(fun k h => by cases h), (fun h => by cases h), Try.zeroValue43⟩, ⟨⟨(fun k h => by cases h), (fun h => by cases h), Try.zeroValue65⟩, ⟨⟨(fun k h => by cases h), (fun h => by cases h), Try.zeroValue69⟩, ⟨⟨(fun k h => by cases h), (fun h => by cases h), Try.zeroValue71⟩, ⟨⟨(fun k h => by cases h), (fun h => by cases h), Try.zeroValue73⟩, ⟨⟨(fun k h => by cases h; exact Try.underlying75), (fun h => by cases h), Try.zeroValue75⟩, ⟨⟨(fun k h => by cases h), (fun h => by cases h), Try.zeroValue76⟩, ⟨⟨(fun k h => by cases h; exact Try.underlying80), (fun h => by cases h), Try.zeroValue80⟩, ⟨⟨(fun k h => by cases h), (fun h => by cases h), Try.zeroValue83⟩, ⟨⟨(fun k h => by cases h), (fun h => by cases h), Try.zeroValue92⟩, ⟨⟨(fun k h => by cases h), (fun h => by cases h), Try.zeroValue94⟩, ⟨⟨(fun k h => by cases h), (fun h => by cases h), Try.zeroValue97⟩, ⟨⟨(fun k h => by cases h), (fun h => by cases h), Try.zeroValue117⟩, ⟨⟨(fun k h => by cases h; exact Try.underlying129), (fun h => by cases h), Try.zeroValue129⟩, ⟨⟨(fun k h => by cases h; exact Try.underlying131), (fun h => by cases h), Try.zeroValue131⟩, ⟨⟨(fun k h => by cases h; exact Try.underlying139), (fun h => by cases h), Try.zeroValue139⟩, ⟨⟨(fun k h => by cases h; exact Try.underlying140), (fun h => by cases h), Try.zeroValue140⟩, trivial⟩⟩⟩⟩⟩⟩⟩⟩⟩⟩⟩⟩⟩⟩⟩⟩⟩⟩⟩⟩⟩⟩⟩⟩⟩
theorem gx_bd : BdOk Try.prog gxb.bd := ⟨⟨_, Try.underlying23, fun _ => by simp [Try.sizeOf3]⟩, ⟨⟨_, Try.underlying65, fun _ => by simp [Try.sizeOf3, Try.sizeOf42]⟩, ⟨⟨_, Try.underlying71, fun _ => by simp [Try.sizeOf3]⟩, ⟨⟨_, Try.underlying94, fun _ => by simp [Try.sizeOf23, Try.sizeOf42, Try.sizeOf92]⟩, ⟨⟨_, Try.underlying97, fun _ => by simp [Try.sizeOf3]⟩, trivial⟩⟩⟩⟩⟩
theorem req71 {M : List Nat} {w : World} {cs cs' : List Value} {x y : Tie} (hx : TieE.R M w cs x) (hy : TieE.R M w cs' y) (w' : World) : (Op.equalIn 10000 71 (.agg (List.toArray cs)) (.agg (List.toArray cs'))).run Try.prog w' = .ok (decide (x = y)) w' := by
  obtain ⟨rfl, _⟩ := (TieE_R (x := x)).1 hx
  obtain ⟨rfl, _⟩ := (TieE_R (x := y)).1 hy
  exact Tie_eq x y w'
theorem gx_eq : EqOk Try.prog gxb.eq := ⟨⟨Try.eqGuardType71, fun _ _ _ _ _ _ hx hy w' => req71 hx hy w'⟩, trivial⟩
theorem gx_mp : MpOk Try.prog gxb.mp := ⟨⟨_, rfl, int_key (hk := Try.underlying3), Try.underlying69, Try.zeroValue4⟩, ⟨⟨_, rfl, int_key (hk := Try.underlying3), Try.underlying117, Try.zeroValue3⟩, trivial⟩⟩
theorem gx_ar : ArOk Try.prog gxb.ar := ⟨⟨_, Try.underlying91, Try.sizeOf3⟩, ⟨⟨_, Try.underlying92, Try.sizeOf91⟩, trivial⟩⟩
theorem gx_pz : PzOk Try.prog gxb.pz := ⟨Try.zeroValue86, ⟨Try.zeroValue144, ⟨Try.zeroValue146, trivial⟩⟩⟩
theorem gx_mix : Try.prog.follows .mixedOrders = true := by kernel_rfl
theorem gx_okp {fs : List (Nat × Ctr)} {pf : List (Nat × CtrP)} (h : FsOk Try.prog fs) (hp : PfOk Try.prog pf) : GxOk Try.prog { gxb with fs := fs, pf := pf } := ⟨gx_st, gx_ag, gx_sl, gx_sz, gx_ty, h, gx_bd, gx_eq, gx_mp, gx_ar, gx_pz, hp, gx_mix⟩
theorem gx_ok {fs : List (Nat × Ctr)} (h : FsOk Try.prog fs) : GxOk Try.prog { gxb with fs := fs } := gx_okp (pf := []) h trivial
end Go.Proofs.Ytdbogmmdogjhpaa
namespace Go.Sx
open Go Go.RowKit
variable [Trk]
theorem Rgi.yield2 {n : Nat} {P : Program} {N : Nat} {ops : Array Oper} {rest : List Oper} {ds : List Deferred} {L : Env} {w : World} {A B : Out} {X : Nat → Out} {Z : List PanicEntry → Out} {f x y : Operand} {l d : Nat} {v u : Value} {ts : Array TypeId} {ty : TypeId} {pos : String} {af : Array Edge} {R : Ending → World → Prop} (hf : ev L f = some (.func (.yield l) #[] #[])) (hx : ev L x = some v) (hy : ev L y = some u) (hN : Nat.blt d N = true)
    (hY : YieldAt Fence.wide (n - 1) P l #[v, u] w R) (h : ∀ e w', R e w' → ∃ q, e = .returned q ∧ Rgi n P N ops rest ds ((d, q) :: L) w' A B X Z) :
    Rgi n P N ops (⟨some d, .call ⟨.value f, #[x, y], ts⟩, ty, pos, af, none⟩ :: rest) ds L w A B X Z := fun a ha => by
  obtain ⟨fn, tmps, assign, body, hy', hR⟩ := hY
  unfold wpListIn
  rw [if_pos (by rfl)]
  refine ⟨fun _ _ => trivial, ?_⟩
  have hs : ∀ o : Oper, noDefer o.op = true → Oper.semAt Fence.wide.round a.eval o = execOp a.eval o := fun o hdf => Oper.semAt_eq _ _ _ fun c hc => by rw [hc] at hdf; simp [noDefer] at hdf
  rw [hs _ rfl]
  have hrun : (execOp a.eval ⟨some d, .call ⟨.value f, #[x, y], ts⟩, ty, pos, af, none⟩).run P w = .ok (.round l fn tmps assign body) w := by
    simp [execOp, resolve, ha.eval hf, ha.eval hx, ha.eval hy, Deferred.ofValue, invoke, hy']
  rw [hrun]
  refine ⟨fun e => (by cases e), hR.mono fun e w' h' => ?_⟩
  obtain ⟨q, rfl, h2⟩ := h e w' h'
  exact h2 _ (ha.put hN q)
end Go.Sx
namespace Go.Proofs.Ytdbogmmdogjhpaa
open Go Go.Sx Go.Rx Go.RowKit
variable [Trk]
def prs : Nat → List (Int × Int)
  | 0 => []
  | n + 1 => prs n ++ (List.range n).map fun (k : Nat) => ((n : Int), (k : Int))
def tri : Nat → Nat
  | 0 => 0
  | n + 1 => tri n + n
theorem prs_len : ∀ n, (prs n).length = tri n
  | 0 => rfl
  | n + 1 => by simp [prs, tri, prs_len n]
theorem tri_lt {i k : Nat} : ∀ {n : Nat}, i < n → k < i → tri i + k < tri n
  | n + 1, h, hk => by
    simp only [tri]
    rcases Nat.lt_or_ge i n with h1 | h1
    · have := tri_lt (n := n) h1 hk; omega
    · have : i = n := by omega
      subst this; omega
theorem prs_get {i k : Nat} : ∀ {n : Nat}, i < n → k < i → (prs n)[tri i + k]? = some ((i : Int), (k : Int))
  | n + 1, h, hk => by
    simp only [prs]
    rcases Nat.lt_or_ge i n with h1 | h1
    · rw [List.getElem?_append_left (by rw [prs_len]; exact tri_lt h1 hk)]
      exact prs_get h1 hk
    · have : i = n := by omega
      subst this
      rw [List.getElem?_append_right (by rw [prs_len]; omega), prs_len, show tri i + k - tri i = k by omega, List.getElem?_map, List.getElem?_range hk]
      rfl
theorem take_get {α : Type} {l : List α} {n : Nat} {x : α} (h : l[n]? = some x) : l.take (n + 1) = l.take n ++ [x] := by
  rw [List.take_add_one, h]; rfl
theorem pairs_stops {M : List Nat} {w : World} {bs len c : Nat} {a : Option Addr} (hC : RdC M w bs 0 [.slice a len c]) (hlen : len ≤ 1000000000) {α : Type} (val : α → Int × Int) (zs : List α) (hzs : zs.map val = prs len) :
    SeqStopsK Fence.wide 2 Try.prog 75 #[.pointer (some ⟨bs, 0, none⟩)] (fun x => #[Value.int .i64 (val x).1, Value.int .i64 (val x).2]) (KI M w.heap.size) (fun ys => ys = zs) (fun pre => pre <+: zs) zs.length w := by
  intro l J Jx W hW _ _ hY h0
  have hBs : W.cell? ⟨bs, 0, none⟩ = some (.slice a len c) := (hW.cell (p := ⟨bs, 0, none⟩) hC.lt).trans (hC.cells.at 0 rfl)
  have hzl : zs.length = tri len := by rw [← prs_len, ← hzs, List.length_map]
  have hget : ∀ {i k : Nat}, i < len → k < i → ∃ x, zs[tri i + k]? = some x ∧ val x = ((i : Int), (k : Int)) := fun {i k} hi hk => by
    have h1 := prs_get hi hk
    rw [← hzs, List.getElem?_map] at h1
    cases hx : zs[tri i + k]? with
    | none => rw [hx] at h1; cases h1
    | some x => rw [hx] at h1; exact ⟨x, rfl, Option.some.inj h1⟩
  refine callsIn_wide.2 ?_
  let R : Ending → World → Prop := fun e W' => (∃ v, e = .returned v) ∧ ((∃ xs, xs = zs ∧ J xs W') ∨ (∃ pre, pre <+: zs ∧ Jx pre W'))
  have hret : ∀ (pre : List α) (L : Sx.Env) (W' : World), pre <+: zs → Jx pre W' → FinR Try.prog Try.f75 R [] L W' := fun pre L W' h1 h2 => fin_any (rs := []) (vs := []) rfl .nil rfl ⟨⟨_, rfl⟩, .inr ⟨pre, h1, h2⟩⟩
  refine calls_cw (l := [.func (.yield l) #[] #[], .pointer (some ⟨bs, 0, none⟩)]) (fn := Try.f75) Try.func75 rfl rfl rfl ?_
  refine cw_seq ?_
  refine cw_regF ?_
  refine s_ld rfl hBs Try.isAgg24 rfl ?_
  refine s_lenV rfl Try.underlying24 rfl ?_
  refine s_mv rfl rfl ?_
  refine Reg.nil ?_
  refine cw_block ?_
  refine cw_loop (ι := Nat) (fun i => [(7, .int .i64 (i : Int)), (6, .int .i64 (len : Int)), (0, .func (.yield l) #[] #[])]) (fun i W => J (zs.take (tri i)) W ∧ i ≤ len) (fun i => len - i) 0 ⟨by simpa [tri] using h0, Nat.zero_le _⟩ (Sub.cons rfl (Sub.cons rfl (Sub.cons rfl (Sub.nil _)))) ?_
  rintro i W1 ⟨hJ, hi⟩
  refine cw_seq ?_
  refine cw_regF ?_
  refine s_lss rfl rfl rfl ?_
  refine Reg.nil ?_
  refine cw_seq ?_
  refine cw_cond rfl (fun hlt => ?_) (fun hge => ?_)
  · have hlt : i < len := by simpa using hlt
    refine cw_skip ?_
    refine cw_seq ?_
    refine cw_block ?_
    refine cw_seq ?_
    refine cw_regF ?_
    refine s_mv rfl rfl ?_
    refine s_as rfl rfl ?_
    refine Reg.nil ?_
    refine cw_seq ?_
    refine cw_regF ?_
    refine s_mv rfl rfl ?_
    refine s_mv rfl rfl ?_
    refine Reg.nil ?_
    refine cw_block ?_
    refine cw_loop (ι := Nat) (fun k => [(11, .int .i64 (k : Int)), (10, .int .i64 (i : Int)), (3, .int .i64 (i : Int)), (7, .int .i64 (i : Int)), (6, .int .i64 (len : Int)), (0, .func (.yield l) #[] #[])]) (fun k W => J (zs.take (tri i + k)) W ∧ k ≤ i) (fun k => i - k) 0 ⟨by simpa using hJ, Nat.zero_le _⟩ (Sub.cons rfl (Sub.cons rfl (Sub.cons rfl (Sub.cons rfl (Sub.cons rfl (Sub.cons rfl (Sub.nil _))))))) ?_
    rintro k W2 ⟨hJ2, hk⟩
    refine cw_seq ?_
    refine cw_regF ?_
    refine s_lss rfl rfl rfl ?_
    refine Reg.nil ?_
    refine cw_seq ?_
    refine cw_cond rfl (fun hlt2 => ?_) (fun hge2 => ?_)
    · have hlt2 : k < i := by simpa using hlt2
      refine cw_skip ?_
      refine cw_seq ?_
      refine cw_block ?_
      refine cw_seq ?_
      refine cw_regF ?_
      refine s_mv rfl rfl ?_
      refine s_as rfl rfl ?_
      refine Reg.nil ?_
      refine cw_seq ?_
      obtain ⟨x, hx, hv⟩ := hget hlt hlt2
      have hpos : tri i + k < zs.length := by rw [hzl]; exact tri_lt hlt hlt2
      have htk : zs.take (tri i + (k + 1)) = zs.take (tri i + k) ++ [x] := take_get hx
      have hY2 := hY (zs.take (tri i + k)) x W2 hJ2 (by rw [List.length_take]; omega)
      dsimp only at hY2
      rw [hv] at hY2
      refine cw_regI 2 ?_
      refine Rgi.val (.func (.yield l) #[] #[]) rfl rfl rfl rfl (fun a ha => by simp [execOp, ha.eval (x := .tmp 0) rfl]) ?_
      refine Rgi.val (.int .i64 (i : Int)) rfl rfl rfl rfl (fun a ha => by simp [execOp, ha.eval (x := .tmp 3) rfl]) ?_
      refine Rgi.val (.int .i64 (k : Int)) rfl rfl rfl rfl (fun a ha => by simp [execOp, ha.eval (x := .tmp 4) rfl]) ?_
      refine Rgi.yield2 rfl rfl rfl rfl hY2 ?_
      rintro e W3 (⟨rfl, hJ3, hk3⟩ | ⟨rfl, hJx3⟩)
      · refine ⟨_, rfl, ?_⟩
        refine Rgi.val (.bool false) rfl rfl rfl rfl (fun a ha => by simp [execOp, ha.eval (x := .tmp 17) rfl, Op.unary]) ?_
        refine Rgi.nil ?_
        refine cw_condF rfl ?_
        refine cw_skip ?_
        refine cw_regF ?_
        refine s_add rfl rfl rfl (InK.i64.2 (by omega)) ?_
        refine s_mv rfl rfl ?_
        refine Reg.nil ⟨rfl, k + 1, ⟨by rw [htk]; exact hJ3, hlt2⟩, Sub.cons rfl (Sub.cons rfl (Sub.cons rfl (Sub.cons rfl (Sub.cons rfl (Sub.cons rfl (Sub.nil _)))))), by omega⟩
      · refine ⟨_, rfl, ?_⟩
        refine Rgi.val (.bool true) rfl rfl rfl rfl (fun a ha => by simp [execOp, ha.eval (x := .tmp 17) rfl, Op.unary]) ?_
        refine Rgi.nil ?_
        refine cw_condT rfl ?_
        refine cw_ret ?_
        exact hret _ _ _ (htk ▸ List.take_prefix _ _) hJx3
    · have hge2 : ¬ k < i := by simpa using hge2
      obtain rfl : k = i := by omega
      refine cw_exit (exB_same ?_)
      refine cw_regF ?_
      refine s_add rfl rfl rfl (InK.i64.2 (by omega)) ?_
      refine s_mv rfl rfl ?_
      refine Reg.nil ⟨rfl, k + 1, ⟨hJ2, hlt⟩, Sub.cons rfl (Sub.cons rfl (Sub.cons rfl (Sub.nil _))), by omega⟩
  · have hge : ¬ i < len := by simpa using hge
    obtain rfl : i = len := by omega
    refine cw_exit (exB_same ?_)
    refine fin_any (rs := []) (vs := []) rfl .nil rfl ⟨⟨_, rfl⟩, .inl ⟨zs, rfl, ?_⟩⟩
    rwa [List.take_of_length_le (by omega)] at hJ
/-- The pairs of some filings. -/
def P.ring_pairs (l : List Filing) : Option (List (Int × Int)) := if l.length ≤ 1000000000 then some (prs l.length) else none
def ctr67 : Ctr := ⟨[.d (.sl (.st 1))], [.it [.int .i64, .int .i64]], fun a => P.ring_pairs a.1⟩
theorem prs_in : ∀ {n : Nat} {x : Int × Int}, x ∈ prs n → n ≤ 1000000000 → InK .i64 x.1 ∧ InK .i64 x.2
  | n + 1, x, h, hn => by
    rcases List.mem_append.1 h with h | h
    · exact prs_in h (by omega)
    · obtain ⟨k, hk, rfl⟩ := List.mem_map.1 h
      have := List.mem_range.1 hk
      exact ⟨InK.i64.2 (by omega), InK.i64.2 (by omega)⟩
theorem ok67 : Ctr.ok Try.prog 67 ctr67 := by
  refine ⟨by decide, fun M w a vals r hM ha hr => ?_⟩
  obtain ⟨v, q, rfl, hv, ha⟩ := ha
  have ha : q = [] := ha
  subst ha
  have hr : P.ring_pairs a.1 = some r := hr
  unfold P.ring_pairs at hr
  split at hr
  · rename_i hlen
    cases hr
    obtain ⟨sa, c, hvv, _⟩ := (OkD.rds hv)
    subst hvv
    refine calls_cw (l := [_]) (fn := Try.f67) Try.func67 rfl rfl rfl ?_
    have hI := Hp.start (Mu := []) hM
    refine cw_seq ?_
    refine cw_regF ?_
    refine y_box hI rfl rfl rfl ?_
    intro b w2 hI2 x2
    have hC := hI2.freezeRow 0 rfl
    have hI3 := hI2.erase 0
    refine s_as rfl rfl ?_
    refine Reg.nil ?_
    refine cw_seq ?_
    refine cw_regF ?_
    refine s_mf (xs := [.tmp 1]) rfl rfl ?_
    refine s_as rfl rfl ?_
    refine Reg.nil ?_
    refine cw_ret ?_
    refine fin_any (rs := [.tmp 2]) (vs := [_]) rfl (.cons (.tmp rfl) .nil) rfl ⟨[_], rfl, ⟨_, rfl, ⟨_, _, rfl, Try.call75, fun x hx => ?_, fun M1 w1 hA hM1 α val zs hzs => ?_⟩, rfl, rfl⟩, hI3.kp⟩
    · exact prs_in hx hlen
    · exact pairs_stops (hC.adv hA) hlen val zs hzs
  · cases hr
end Go.Proofs.Ytdbogmmdogjhpaa
namespace Go.Proofs.Ytdbogmmdogjhpaa
open Go Go.Sx
instance trkF : Trk := ⟨False⟩
end Go.Proofs.Ytdbogmmdogjhpaa
namespace Go.Rx
open Go Go.Sx Go.RowKit
/-- The operations that defer: what, what it captures, the slot of the closure. -/
def deferO : List Oper → Option (Nat × List Nat × Nat)
  | [m, d] => match m.guard, m.dst, m.op, d.guard, d.dst, d.op with
    | none, some t, .makeFunc (.func g) fs cs, none, none, .defer ⟨.value (.tmp u), ax, _⟩ => match fs.toList, ax.toList, Nat.beq t u with
      | [], [], true => match tmpsL cs.toList with
        | some l => some (g, l, t)
        | none => none
      | _, _, _ => none
    | _, _, _, _, _, _ => none
  | _ => none
where tmpsL : List Operand → Option (List Nat)
  | [] => some []
  | .tmp t :: l => match tmpsL l with
    | some r => some (t :: r)
    | none => none
  | _ :: _ => none
def defC : Code → Option (Nat × List Nat × Nat)
  | .seq a b => match defC a with
    | some q => some q
    | none => defC b
  | .region _ ops false => deferO ops.toList
  | _ => none
section
variable [Sg] [Sf] (G : Gx)
noncomputable def execD (N : Nat) {ρ : Type} (pr : AS → Option ρ) (g : Nat) (cs : List Nat) : Code → An → {Z : Type} → (AS → Option Z) → (ρ → Option Z) → (Nat → AS → Option Z) → AS → Option Z
  | .seq a b, an, _, KN, KR, KX, σ => match defC a with
    | some _ => match disB cs (wrOf b ++ wrAn an.r) with
      | true => execD N pr g cs a an.l (fun σ' => exec G N pr b an.r KN KX KR σ') KR KX σ
      | false => none
    | none => exec G N pr a an.l (fun σ' => execD N pr g cs b an.r KN KR KX σ') (fun _ _ => none) KR σ
  | .region _ ops dr, _, _, KN, _, _, σ => match dr, deferO ops.toList with
    | false, some (g', cs', t) => match Nat.beq g' g && decide (cs' = cs) && Nat.blt t N && disB cs [t] && (cs.all fun s => match fnd σ.env s with
        | some _ => true
        | none => false) && (match fnd σ.env t with
        | some _ => false
        | none => true) with
      | true => KN σ
      | false => none
    | _, _ => none
  | _, _, _, _, _, _, _ => none
/-- What is stored when something was thrown. -/
def stoO (cs : List Nat) (x : TypeId × Nat × Value) : Option Oper := match nth cs x.2.1 with
  | some c => some ⟨none, .store x.1 (.tmp c) (.const x.2.2), 0, "", #[], none⟩
  | none => none
noncomputable def stoD (N : Nat) (cs : List Nat) {Z : Type} (K : AS → Option Z) : List (TypeId × Nat × Value) → AS → Option Z
  | [], σ => K σ
  | x :: r, σ => match stoO cs x with
    | some o => runOps G N [] (stoD N cs K r) [o] σ
    | none => none
def dropE (t : Nat) : List (Nat × SV) → List (Nat × SV)
  | [] => []
  | p :: l => bif Nat.beq p.1 t then dropE t l else p :: dropE t l
noncomputable def runDf [Trk] (f : Func) (an : An) (ps : List Pt) (cs : List Ck) (g : Nat) (caps : List Nat) (T t : Nat) (u : Ty) (eff : List (TypeId × Nat × Value)) (a : denP ps) : Option (denK cs) := match f.body with
  | some c => execD G f.ntmps (retS G cs f.results.toList) g caps c an (retS G cs f.results.toList) some (fun j σ => bif Nat.beq j (panX T t) then (match throwS t u σ with
      | some _ => stoD G f.ntmps caps (retS G cs f.results.toList) eff { σ with env := dropE t σ.env }
      | none => none) else none) ⟨argS 0 ps a, [], [], []⟩
  | none => none
end
variable [Trk] [Sg] [Sf] {P : Program} [Se P]
/-- What a deferred closure does: nothing, where nothing was thrown. -/
def DefN (P : Program) (g : Nat) (n : Nat) : Prop := ∀ (vals : List Value) (w : World), vals.length = n → CallsD P g (List.toArray vals) .returning w fun e u w' => (∃ x, e = .returned x) ∧ u = .returning ∧ w' = w
def stosV (P : Program) : List (TypeId × Value × Value) → World → World → Prop
  | [], w, w' => w' = w
  | (t, p, v) :: r, w, w' => ∃ w1, (Instr.storeAt t p v).run P w = .ok () w1 ∧ stosV P r w1 w'
def DefP (P : Program) [Se P] (g : Nat) (n : Nat) (T : TypeId) (u : Ty) (eff : List (TypeId × Nat × Value)) : Prop := ∀ (M : List Nat) (w : World) (vals : List Value) (e : den u) (v : Value), vals.length = n → OkD (P := P) M w u e v →
  ∃ w1, Ext w w1 ∧ ∀ w2, stosV P (eff.map fun x => (x.1, vals.getD x.2.1 undef, x.2.2)) w1 w2 → CallsD P g (List.toArray vals) (.panicking [{ v := .iface T v, recovered := false }]) w fun en um w' => (∃ x, en = .returned x) ∧ um = .panicking [{ v := .iface T v, recovered := true }] ∧ w' = w2
section
variable [Anch]
variable {N : Nat} {G : Gx} {Γ : Type} {pr : AS → Option Γ} {w0 : World} {M : List Nat}
/-- What slots hold. -/
def slotsV (L : Env) (cs : List Nat) (vals : List Value) : Prop := vals.length = cs.length ∧ ∀ (i c : Nat), cs[i]? = some c → ∃ v, vals[i]? = some v ∧ Sx.look L c = some v
theorem slotsV.of {L L' : Env} {W cs : List Nat} {vals : List Value} (h : slotsV L cs vals) (hE : EnvS W L L') (hd : disB cs W = true) : slotsV L' cs vals := ⟨h.1, fun i c hc => by
  obtain ⟨v, h1, h2⟩ := h.2 i c hc
  exact ⟨v, h1, by rw [hE c (disB_out hd c (List.mem_of_getElem? hc))]; exact h2⟩⟩
theorem tmpsL_out : ∀ {xs : List Operand} {l : List Nat}, deferO.tmpsL xs = some l → xs = l.map Operand.tmp
  | [], l, h => by cases h; rfl
  | x :: r, l, h => by
    cases x with
    | tmp t =>
      have h : (match deferO.tmpsL r with
        | some q => some (t :: q)
        | none => none) = some l := h
      cases hr : deferO.tmpsL r with
      | none => rw [hr] at h; exact (noS h).elim
      | some q =>
        rw [hr] at h
        cases h
        rw [tmpsL_out hr]; rfl
    | const _ => exact (noS h).elim
    | func _ => exact (noS h).elim
    | global _ => exact (noS h).elim
theorem deferO_out {ops : List Oper} {g t : Nat} {cs : List Nat} (h : deferO ops = some (g, cs, t)) : ∃ m d ax ts, ops = [m, d] ∧ m.guard = none ∧ m.dst = some t ∧ m.op = .makeFunc (.func g) #[] (List.toArray (cs.map Operand.tmp)) ∧ d.guard = none ∧ d.dst = none ∧ d.op = .defer ⟨.value (.tmp t), ax, ts⟩ ∧ ax = #[] := by
  unfold deferO at h
  split at h
  · split at h
    · rename_i h1 h2 h3 h4 h5 h6
      split at h
      · rename_i h7 h8 h9
        split at h
        · rename_i h10
          have e := Nat.eq_of_beq_eq_true h9
          subst e
          cases h
          refine ⟨_, _, _, _, rfl, h1, h2, ?_, h4, h5, h6, ?_⟩
          · rw [h3, ← tmpsL_out h10]
            congr 1
            · exact Array.ext' h7
          · exact Array.ext' h8
        · exact (noS h).elim
      · exact (noS h).elim
    · exact (noS h).elim
  · exact (noS h).elim
theorem fnd_dropE {t u : Nat} : ∀ {l : List (Nat × SV)}, fnd (dropE t l) u = if u = t then none else fnd l u
  | [] => by simp [dropE, fnd]
  | p :: l => by
    obtain ⟨k, s⟩ := p
    have ih := fnd_dropE (t := t) (u := u) (l := l)
    simp only [dropE]
    cases hb : Nat.beq k t with
    | true =>
      have e := Nat.eq_of_beq_eq_true hb
      subst e
      rw [cond_true, ih, fnd_cons]
      by_cases hu : u = k
      · rw [if_pos hu, if_pos hu]
      · rw [if_neg hu, if_neg hu, if_neg (fun e => hu e.symm)]
    | false =>
      have hne : k ≠ t := fun e => by subst e; simp at hb
      rw [cond_false, fnd_cons, fnd_cons, ih]
      by_cases hk : k = u
      · subst hk; rw [if_pos rfl, if_pos rfl, if_neg hne]
      · rw [if_neg hk, if_neg hk]
theorem evs_tmps {L : Env} : ∀ {cs : List Nat}, (∀ c ∈ cs, ∃ v, Sx.look L c = some v) → ∃ vals, evs L (cs.map Operand.tmp) = some vals ∧ slotsV L cs vals
  | [], _ => ⟨[], rfl, rfl, fun i c h => by cases h⟩
  | c :: cs, h => by
    obtain ⟨v, h1⟩ := h c (List.mem_cons_self ..)
    obtain ⟨vals, h2, h3, h4⟩ := evs_tmps (cs := cs) fun c hc => h c (List.mem_cons_of_mem _ hc)
    refine ⟨v :: vals, ?_, by simp [h3], fun i c' hc => ?_⟩
    · show (match ev L (.tmp c) with
        | some v => (match evs L (cs.map Operand.tmp) with
          | some vs => some (v :: vs)
          | none => none)
        | none => none) = _
      rw [show ev L (.tmp c) = some v from h1, h2]
    · cases i with
      | zero => cases hc; exact ⟨v, rfl, h1⟩
      | succ i => exact h4 i c' hc
theorem execD_ok [Sl (P := P)] (hG : GxOk P G) {g : Nat} {cs : List Nat} : ∀ (c : Code) (an : An) {Y : Type} {KN : AS → Option Y} {KR : Γ → Option Y} {KX : Nat → AS → Option Y} {σ : AS} {L : Env} {w : World} {z : Y} {A B : Out} {X X1 : Nat → Out} {Z : List PanicEntry → Out}, execD G N pr g cs c an KN KR KX σ = some z → Holds (P := P) w0 [] M σ L w →
    (∀ vals σ' L' w', KN σ' = some z → slotsV L' cs vals → Holds (P := P) w0 [] M σ' L' w' → A [{ target := .fn (.func g) (List.toArray vals), args := #[] }] L' w') →
    (∀ r σ' L' w', pr σ' = some r → KR r = some z → Holds (P := P) w0 [] M σ' L' w' → B [] L' w') →
    (∀ vals r σ' L' w', pr σ' = some r → KR r = some z → slotsV L' cs vals → Holds (P := P) w0 [] M σ' L' w' → B [{ target := .fn (.func g) (List.toArray vals), args := #[] }] L' w') →
    (∀ vals i σ' L' w', KX i σ' = some z → slotsV L' cs vals → Holds (P := P) w0 [] M σ' L' w' → X i [{ target := .fn (.func g) (List.toArray vals), args := #[] }] L' w') →
    (∀ vals, PZ X NoX Z [{ target := .fn (.func g) (List.toArray vals), args := #[] }]) → CW P N c [] L w A B X1 Z
  | .seq a b, an, Y, KN, KR, KX, σ, L, w, z, A, B, X, X1, Z, h, hH, hA, hB, hD, hX, hP => by
    have h : (match defC a with
      | some _ => match disB cs (wrOf b ++ wrAn an.r) with
        | true => execD G N pr g cs a an.l (fun σ' => exec G N pr b an.r KN KX KR σ') KR KX σ
        | false => none
      | none => exec G N pr a an.l (fun σ' => execD G N pr g cs b an.r KN KR KX σ') (fun _ _ => none) KR σ) = some z := h
    cases ha : defC a with
    | some q =>
      rw [ha] at h
      simp only at h
      cases hd : disB cs (wrOf b ++ wrAn an.r) with
      | false => rw [hd] at h; exact (noS h).elim
      | true =>
        rw [hd] at h
        refine cw_seq (execD_ok hG a an.l (X := X) h hH (fun vals σ1 L1 w1 h1 hv hH1 => ?_) hB hD hX hP)
        refine cf_wide (n := 3) (cf_noX (exec_ok hG b an.r _ _ _ _ _ _ _ _ _ _ X _ _ h1 hH1 (fun σ2 L2 w2 h2 _ hE hH2 => hA vals σ2 L2 w2 h2 (hv.of hE hd) hH2) (fun i σ2 L2 w2 h2 _ hE hH2 => hX vals i σ2 L2 w2 h2 (hv.of hE hd) hH2) (fun r σ2 L2 w2 h2 h3 hE hH2 => hD vals r σ2 L2 w2 h2 h3 (hv.of hE hd) hH2) ⟨fun T t L1 L2 w v ht hl hx => (hP vals).z T t L1 L2 w v ht hl hx, fun i L w hi hx => (hP vals).x i L w hi hx⟩))
    | none =>
      rw [ha] at h
      refine cw_seq (cf_wide (n := 3) (cf_noX (exec_ok hG a an.l _ _ _ _ _ _ _ _ _ _ _ _ _ h hH (fun σ1 L1 w1 h1 _ _ hH1 => ?_) (fun i σ2 L2 w2 h2 => by cases h2) (fun r σ2 L2 w2 h2 h3 _ hH2 => hB r σ2 L2 w2 h2 h3 hH2) PZ.no)))
      exact execD_ok hG b an.r h1 hH1 hA hB hD hX hP
  | .region i ops dr, an, Y, KN, KR, KX, σ, L, w, z, A, B, X, X1, Z, h, hH, hA, hB, hD, hX, hP => by
    obtain ⟨ops⟩ := ops
    have hq : (match (generalizing := false) dr, deferO ops with
      | false, some (g', cs', t) => match Nat.beq g' g && decide (cs' = cs) && Nat.blt t N && disB cs [t] && (cs.all fun s => match fnd σ.env s with
          | some _ => true
          | none => false) && (match fnd σ.env t with
          | some _ => false
          | none => true) with
        | true => KN σ
        | false => none
      | _, _ => none) = some z := h
    clear h
    cases dr with
    | true => exact (noS hq).elim
    | false =>
      cases ho : deferO ops with
      | none => rw [ho] at hq; exact (noS hq).elim
      | some q =>
        obtain ⟨g', cs', t⟩ := q
        rw [ho] at hq
        simp only at hq
        cases hb : (Nat.beq g' g && decide (cs' = cs) && Nat.blt t N && disB cs [t] && (cs.all fun s => match fnd σ.env s with
            | some _ => true
            | none => false) && (match fnd σ.env t with
            | some _ => false
            | none => true)) with
        | false => rw [hb] at hq; exact (noS hq).elim
        | true =>
          rw [hb] at hq
          simp only [Bool.and_eq_true, decide_eq_true_eq] at hb
          obtain ⟨⟨⟨⟨⟨b1, b2⟩, b3⟩, b4⟩, b5⟩, b6⟩ := hb
          have b1 := Nat.eq_of_beq_eq_true b1
          subst b1
          subst b2
          obtain ⟨m, d, ax, ts, rfl, h1, h2, h3, h4, h5, h6, rfl⟩ := deferO_out ho
          obtain ⟨S, ρ, γ, μ, ι, hS⟩ := hH
          have hin : ∀ c ∈ cs', ∃ v, Sx.look L c = some v := fun c hc => by
            have := List.all_eq_true.1 b5 c hc
            cases hf : fnd σ.env c with
            | none => rw [hf] at this; cases this
            | some s => obtain ⟨v, hv, _⟩ := hS.env c s hf; exact ⟨v, hv⟩
          obtain ⟨vals, hv, hsl⟩ := evs_tmps hin
          obtain ⟨md, mop, mt, mpos, maf, mg⟩ := m
          have h1 : mg = none := h1
          have h2 : md = some t := h2
          have h3 : mop = _ := h3
          subst h1; subst h2; subst h3
          refine cw_regF (s_mf hv b3 ?_)
          intro a ha
          simp only [wpList]
          rw [if_pos (show Region.wanted d (yielded _ a.tmps) = true by simp [Region.wanted, h4])]
          left
          have hx : a.eval (.tmp t) = .func (.func g') #[] (List.toArray vals) := ha.eval (by show Sx.look _ t = _; rw [look_cons, if_pos rfl])
          have e1 : (execOp a.eval d).run P w = .ok (.defer { target := .fn (.func g') (List.toArray vals), args := #[] }) w := by
            obtain ⟨dd, dop, dt, dpos, daf, dg⟩ := d
            have h6 : dop = _ := h6
            subst h6
            simp [execOp, resolve, hx, Deferred.ofValue]
          unfold Oper.wp
          rw [e1, Oper.upon_defer, h5]
          have hfn : fnd σ.env t = none := by
            cases hf : fnd σ.env t with
            | none => rfl
            | some s => rw [hf] at b6; cases b6
          have hdead : Holds (P := P) w0 [] M σ ((t, .func (.func g') #[] (List.toArray vals)) :: L) w := ⟨S, ρ, γ, μ, ι, hS.envTo fun u s hu => by
            rw [look_cons, if_neg]
            rintro rfl
            rw [hfn] at hu; cases hu⟩
          have hA2 := hA vals _ _ w hq (hsl.of (EnvS.put t L _) b4) hdead
          exact ⟨_, _, ⟨ha.size, by show _ :: a.defers = _; rw [ha.defers], ha.val⟩, hA2⟩
  | .skip, _, _, _, _, _, _, _, _, _, _, _, _, _, _, h, _, _, _, _, _, _ | .cond _ _ _, _, _, _, _, _, _, _, _, _, _, _, _, _, _, h, _, _, _, _, _, _ | .loop _, _, _, _, _, _, _, _, _, _, _, _, _, _, _, h, _, _, _, _, _, _ | .exit _, _, _, _, _, _, _, _, _, _, _, _, _, _, _, h, _, _, _, _, _, _ | .ret, _, _, _, _, _, _, _, _, _, _, _, _, _, _, h, _, _, _, _, _, _
  | .block _ _, _, _, _, _, _, _, _, _, _, _, _, _, _, _, h, _, _, _, _, _, _ | .rangeFunc _ _ _ _, _, _, _, _, _, _, _, _, _, _, _, _, _, _, h, _, _, _, _, _, _ | .scope _, _, _, _, _, _, _, _, _, _, _, _, _, _, _, h, _, _, _, _, _, _ | .label _, _, _, _, _, _, _, _, _, _, _, _, _, _, _, h, _, _, _, _, _, _ | .goto _, _, _, _, _, _, _, _, _, _, _, _, _, _, _, h, _, _, _, _, _, _ | .refuse _, _, _, _, _, _, _, _, _, _, _, _, _, _, _, h, _, _, _, _, _, _ => (noS h).elim
theorem stoD_ok [Sl (P := P)] (hG : GxOk P G) {cs : List Nat} {vals : List Value} {Y : Type} {K : AS → Option Y} {z : Y} {ds : List Deferred} {L : Env} {a : Act} (ha : Knows N ds L a) (hv : slotsV L cs vals) : ∀ (l : List (TypeId × Nat × Value)) {σ : AS} {w : World}, stoD G N cs K l σ = some z → Holds (P := P) w0 [] M σ L w → ∃ σ' w', stosV P (l.map fun x => (x.1, vals.getD x.2.1 undef, x.2.2)) w w' ∧ K σ' = some z ∧ Holds (P := P) w0 [] M σ' L w'
  | [], σ, w, h, hH => ⟨σ, w, rfl, h, hH⟩
  | x :: r, σ, w, h, hH => by
    have h : (match stoO cs x with
      | some o => runOps G N [] (stoD G N cs K r) [o] σ
      | none => none) = some z := h
    cases ho : stoO cs x with
    | none => rw [ho] at h; exact (noS h).elim
    | some o =>
      rw [ho] at h
      have h : runOps G N [] (stoD G N cs K r) [o] σ = some z := h
      unfold stoO at ho
      rw [nth_eq] at ho
      cases hc : cs[x.2.1]? with
      | none => rw [hc] at ho; exact (noS ho).elim
      | some c =>
        rw [hc] at ho
        have ho : (⟨none, .store x.1 (.tmp c) (.const x.2.2), 0, "", #[], none⟩ : Oper) = o := Option.some.inj ho
        obtain ⟨v, hv1, hv2⟩ := hv.2 _ c hc
        have key := runOps_ok (P := P) (ops := []) (ds := ds) (B := fun _ _ _ => False) (X := NoX) (Z := fun _ _ _ _ => False) (W := []) hG [o] σ L w h (fun t ht => by subst ho; cases ht) hH (A := fun _ L' w' => ∃ σ', stoD G N cs K r σ' = some z ∧ EnvS [] L L' ∧ Holds (P := P) w0 [] M σ' L' w') fun σ' L' w' hK _ hE hH' => ⟨σ', hK, hE, hH'⟩
        have k1 := key a ha
        subst ho
        simp only [wpList] at k1
        rw [if_pos (by simp [Region.wanted])] at k1
        have k2 := k1.resolve_right fun hh => noLet hh.2
        unfold Oper.wp at k2
        have e1 : (execOp a.eval ⟨none, .store x.1 (.tmp c) (.const x.2.2), 0, "", #[], none⟩).run P w = ((Instr.storeAt x.1 v x.2.2).run P w).andThen fun _ w1 => .ok .skip w1 := by
          have h1 : a.eval (.tmp c) = v := ha.eval hv2
          have h2 : a.eval (.const x.2.2) = x.2.2 := rfl
          simp [execOp, h1, h2]
        rw [e1] at k2
        cases hr : (Instr.storeAt x.1 v x.2.2).run P w with
        | ok q w1 =>
          rw [hr] at k2
          obtain ⟨ds', L', hk, σ', h1, hE, h2⟩ := k2
          have hL : ∀ t, Sx.look L' t = Sx.look L t := fun t => hE t (by simp)
          obtain ⟨S, ρ, γ, μ, ι, h2⟩ := h2
          obtain ⟨σ2, w2, h3, h4, h5⟩ := stoD_ok hG ha hv r h1 ⟨S, ρ, γ, μ, ι, h2.envTo (L := L) fun t s _ => hL t⟩
          refine ⟨σ2, w2, ⟨w1, ?_, h3⟩, h4, h5⟩
          have : vals.getD x.2.1 undef = v := by simp [List.getD, hv1]
          rw [this, hr]
        | halt q w1 =>
          rw [hr] at k2
          cases q with
          | panic v => obtain ⟨_, _, _, hz⟩ := k2; exact hz.elim
          | _ => exact k2.elim
end
/-- The contract of a function that defers a closure, which recovers. -/
theorem funD_ok [Sl (P := P)] {G : Gx} (hG : GxOk P G) {k : Nat} {f : Func} {c : Code} {an : An} {ps : List Pt} {cs : List Ck} {g : Nat} {caps : List Nat} {T t : Nat} {u : Ty} {eff : List (TypeId × Nat × Value)} {F : denP ps → Option (denK cs)} (hdn : DefN P g caps.length) (hdp : DefP P g caps.length T u eff) (hen : ∀ args w, (callFunc g args).run P w = .ok (.enter g args) w) (hf : P.funcs[k]? = some f) (hb : f.body = some c) (hl : Nat.ble ps.length f.ntmps = true) (hn : Nat.ble cs.length 4 = true) (ho : Nat.ble (own1 cs) 1 = true) (hnt : Nat.ble f.ntmps pnc = true) (ht : Nat.blt t f.ntmps = true) (hct : disB caps [t] = true) (hF : ∀ a, F a = runDf G f an ps cs g caps T t u eff a) : Ctr.ok P k ⟨ps, cs, F⟩ := by
  refine ⟨Nat.le_of_ble_eq_true ho, fun M w a vals r hM ha hr => ?_⟩
  have hr : F a = some r := hr
  rw [hF] at hr
  unfold runDf at hr
  rw [hb] at hr
  have hlen : ∀ (ps : List Pt) {a : denP ps} {vals : List Value}, ArgsOk M w ps a vals → vals.length = ps.length := by
    intro ps
    induction ps with
    | nil => intro a vals h; have h : vals = [] := h; rw [h]; rfl
    | cons p ps ih => intro a vals h; obtain ⟨v, r, rfl, _, h3⟩ := h; simp [ih h3]
  have h0 : Holds (P := P) w [] M ⟨argS 0 ps a, [], [], []⟩ (argEnv 0 vals) w := by
    refine ⟨[], fun _ => undef, fun _ => [], fun _ => [], fun _ => 0, ⟨Hp.start hM, (fun i a h => by cases h), (fun i j a b h => by cases h), (fun i a h => by cases h), fun t s h => ?_, trivial⟩⟩
    exact argS_ok ps 0 ha t s h
  have ht2 : Nat.blt t pnc = true := by
    have h1 : t < f.ntmps := by simpa [Nat.blt_eq] using ht
    have h2 := Nat.le_of_ble_eq_true hnt
    simpa [Nat.blt_eq] using (by omega : t < pnc)
  let R : Ending → World → Prop := fun e w' => ∃ vs, e = .returned (tupV vs) ∧ KsOk (P := P) M (obK cs vs ++ M) w w' cs r vs ∧ Ext w w'
  have fin : ∀ σ' L' w', retS G cs f.results.toList σ' = some r → Holds (P := P) w [] M σ' L' w' → FinR P f R [] L' w' := fun σ' L' w' h1 hH => by
    obtain ⟨vs, h2, h3, h4, h5⟩ := retS_ok hG hH h1
    exact fin_any (by simp) h2 (by rw [h3]; exact hn) ⟨vs, by rw [tup_pack], h4, h5⟩
  have res : ∀ σ' L' w' ds (b : Act), retS G cs f.results.toList σ' = some r → Holds (P := P) w [] M σ' L' w' → Knows f.ntmps ds L' b → ∃ v, (results f b.tmps).run P w' = .ok v w' ∧ R (.returned v) w' := fun σ' L' w' ds b h1 hH hk => by
    obtain ⟨_, v, h2, h3⟩ := fin σ' L' w' h1 hH
    exact ⟨v, h2 { tmps := b.tmps, defers := [] } ⟨hk.size, rfl, hk.val⟩, h3⟩
  let Dv : List Value → Deferred := fun vals => { target := .fn (.func g) (List.toArray vals), args := #[] }
  have inv : ∀ (vals : List Value) (w' : World), (invoke (.fn (.func g) (List.toArray vals)) #[]).run P w' = .ok (.enter g (List.toArray vals)) w' := fun vals w' => by
    have := hen (List.toArray vals) w'
    simpa [invoke] using this
  let A : Out := fun ds L' w' => ∀ b, Knows f.ntmps ds L' b → Leaves P f b.tmps R ds .returning w'
  let Z : List PanicEntry → Out := fun ch ds L' w' => ∀ b, Knows f.ntmps ds L' b → Leaves P f b.tmps R ds (.panicking ch) w'
  have norm : ∀ vals σ' L' w', retS G cs f.results.toList σ' = some r → slotsV L' caps vals → Holds (P := P) w [] M σ' L' w' → A [Dv vals] L' w' := fun vals σ' L' w' h1 hs hH b hk => by
    refine leaves_cons (f := g) (args := List.toArray vals) (by simp) (inv vals w') ((hdn vals w' hs.1).mono ?_)
    rintro e um w2 ⟨⟨x, rfl⟩, rfl, rfl⟩
    exact res σ' L' w2 _ b h1 hH hk
  have key : CW P f.ntmps c [] (argEnv 0 vals) w A A NoX Z := by
    refine execD_ok (X := fun j ds L' w' => ∃ vals, ds = [Dv vals] ∧ j = panX T t ∧ ∃ σ', slotsV L' caps vals ∧ Holds (P := P) w [] M σ' L' w' ∧ (match throwS t u σ' with
      | some _ => stoD G f.ntmps caps (retS G cs f.results.toList) eff { σ' with env := dropE t σ'.env }
      | none => none) = some r) hG c an hr h0 (fun vals σ' L' w' h1 hs hH => norm vals σ' L' w' h1 hs hH) (fun r' σ' L' w' hp hk hH => ?_) (fun vals r' σ' L' w' hp hk hs hH => ?_) (fun vals j σ' L' w' h1 hs hH => ?_) (fun vals => ?_)
    · have hk : r' = r := Option.some.inj hk
      subst hk
      exact fun b hk => res σ' L' w' _ b hp hH hk
    · have hk : r' = r := Option.some.inj hk
      subst hk
      exact norm vals σ' L' w' hp hs hH
    · have h1 : (bif Nat.beq j (panX T t) then (match throwS t u σ' with
        | some _ => stoD G f.ntmps caps (retS G cs f.results.toList) eff { σ' with env := dropE t σ'.env }
        | none => none) else none) = some r := h1
      cases hj : Nat.beq j (panX T t) with
      | false => rw [hj] at h1; exact (noS h1).elim
      | true =>
        rw [hj, cond_true] at h1
        exact ⟨vals, rfl, Nat.eq_of_beq_eq_true hj, σ', hs, hH, h1⟩
    · refine ⟨?_, fun i L w hi h => ?_⟩
      · rintro T' t' L1 L2 w' v ht' hl2 ⟨vals', hv', hj, σ', hs, hH, h1⟩ b hk
        obtain ⟨rfl, rfl⟩ := panX_inj ht' ht2 hj
        have hv' : vals = vals' := by
          have := List.cons.inj hv'
          simpa [Dv] using this.1
        subst hv'
        cases hth : throwS t' u σ' with
        | none => rw [hth] at h1; exact (noS h1).elim
        | some e =>
          rw [hth] at h1
          simp only at h1
          obtain ⟨S, ρ, γ, μ, ι, hS⟩ := hH
          have hval : OkD (P := P) M w' u e v := by
            unfold throwS at hth
            cases hs2 : fnd σ'.env t' with
            | none => rw [hs2] at hth; exact (noS hth).elim
            | some s =>
              rw [hs2] at hth
              simp only at hth
              obtain ⟨v2, hv2, hok⟩ := hS.env t' s hs2
              rw [look_cons, if_pos rfl] at hv2
              cases hv2
              cases ho2 : owns s with
              | cons _ _ => rw [ho2] at hth; exact (noS hth).elim
              | nil =>
                rw [ho2] at hth
                exact toD_ok (M' := M) (fun b hb => mem_mm.2 (.inr hb)) u s (by rw [ho2]; exact fun i hi => by cases hi) hth hok
          have hlk : ∀ u, u ≠ t' → Sx.look L2 u = Sx.look ((t', v) :: L1) u := fun u hu => by
            rw [hl2 u hu, look_cons, if_neg (fun e => hu e.symm)]
          have hS2 : HS (P := P) w [] M { σ' with env := dropE t' σ'.env } L2 w' S ρ γ μ ι := by
            refine ⟨hS.hp, hS.res, hS.inj, hS.row, fun x s hx => ?_, hS.anch⟩
            have hx : fnd (dropE t' σ'.env) x = some s := hx
            rw [fnd_dropE] at hx
            by_cases hxt : x = t'
            · rw [if_pos hxt] at hx; cases hx
            · rw [if_neg hxt] at hx
              obtain ⟨v2, h3, h4⟩ := hS.env x s hx
              exact ⟨v2, by rw [hlk x hxt]; exact h3, h4⟩
          have hs2 : slotsV L2 caps vals := ⟨hs.1, fun i c hc => by
            obtain ⟨v2, h3, h4⟩ := hs.2 i c hc
            refine ⟨v2, h3, ?_⟩
            rw [hlk c fun e => disB_out hct c (List.mem_of_getElem? hc) (by rw [e]; exact List.mem_singleton.2 rfl)]
            exact h4⟩
          obtain ⟨w1, hx1, hcall⟩ := hdp M w' vals e v hs.1 hval
          obtain ⟨σ2, w2, h3, h4, h5⟩ := stoD_ok hG hk hs2 eff h1 ⟨S, ρ, γ, μ, ι, hS2.ext hx1⟩
          refine leaves_cons (f := g) (args := List.toArray vals) (by simp) (inv vals w') ((hcall w2 h3).mono ?_)
          rintro en um w3 ⟨⟨x, rfl⟩, rfl, rfl⟩
          exact res σ2 L2 w3 _ b h4 h5 hk
      · obtain ⟨_, _, hj, _⟩ := h
        have h1 : i < pnc := by simpa [Nat.blt_eq] using hi
        have h2 : pnc ≤ panX T t := Nat.le_trans (Nat.le_mul_of_pos_right _ (Nat.succ_pos T)) (Nat.le_add_right _ _)
        omega
  refine calls_of_wp_defers hf hb (wp_mono (key _ ⟨?_, rfl, ?_⟩) ?_)
  · have : vals.length ≤ f.ntmps := by rw [hlen ps ha]; exact Nat.le_of_ble_eq_true hl
    simp; omega
  · intro t v ht
    obtain ⟨j, rfl, hj⟩ := look_argEnv vals 0 t v ht
    have hlt : j < vals.length := by
      rcases Nat.lt_or_ge j vals.length with h | h
      · exact h
      · simp [List.getElem?_eq_none h] at hj
    simp only [Nat.zero_add]
    rw [Array.getElem?_append_left (by simpa using hlt)]
    simpa using hj
  · intro e b w' hq
    cases e with
    | normal => obtain ⟨ds, L, hk, h⟩ := hq; have := h b hk; rw [← hk.defers] at this; exact this
    | ret => obtain ⟨ds, L, hk, h⟩ := hq; have := h b hk; rw [← hk.defers] at this; exact this
    | panic ch => obtain ⟨ds, L, hk, h⟩ := hq; have := h b hk; rw [← hk.defers] at this; exact this
    | exit i => obtain ⟨_, _, _, hx⟩ := hq; exact hx.elim
    | goto l => exact hq.elim
    | outgrown => exact hq.elim
end Go.Rx
set_option maxRecDepth 20000
set_option maxHeartbeats 4000000
namespace Go.Proofs.Ytdbogmmdogjhpaa
open Go Go.Sx Go.Rx Go.RowKit
theorem two_vals {vals : List Value} (h : vals.length = 2) : ∃ p q, vals = [p, q] := by
  match vals, h with
  | [p, q], _ => exact ⟨p, q, rfl⟩
theorem dn43 : DefN Try.prog 43 2 := fun vals w hv => by
  obtain ⟨p, q, rfl⟩ := two_vals hv
  refine callsD_of_wpS Try.func43 rfl fun c₀ cs hu => ?_
  apply wpS_seq
  apply wpS_region
  simp [wpOpsS, go_sem, recoverD, hu, Try.ntmps43, Exit.thenS]
  apply wpS_seq
  apply wpS_region
  simp [wpOpsS, go_sem, Exit.thenS]
  refine wpS_cond (t := false) (by simp [Act.eval, Array.replicate]) ?_
  simp only [Bool.false_eq_true, if_false]
  refine wpS_of_wp (wp_skip ?_)
  cases c₀
  simp_all [bodyPostS, results, Try.results43]
theorem dp43 : DefP Try.prog 43 2 97 (.st 4) [(32, 0, .slice none 0 0), (27, 1, .int .i64 6)] := fun M w vals e v hv hd => by
  obtain ⟨p, q, rfl⟩ := two_vals hv
  obtain ⟨cs, h1, h2 | ⟨h2, _⟩⟩ := hd
  · obtain ⟨_, rfl⟩ := h2
    obtain ⟨c1, c2, rfl, h3, h4⟩ := h1
    obtain ⟨rfl, h5⟩ := h3
    obtain ⟨rfl, h6⟩ := h4
    refine ⟨w.alloc (Obj.cells #[Value.int IntKind.i64 e.from_, Value.int IntKind.i64 e.to_] 97), Kp.alloc _ _ _, fun w2 hs => ?_⟩
    · obtain ⟨wa, h7, wb, h8, rfl⟩ := hs
      refine callsD_of_wpS Try.func43 rfl fun c₀ cs hu => ?_
      apply wpS_seq
      apply wpS_region
      simp [wpOpsS, go_sem, recoverD, hu, Try.ntmps43, Exit.thenS]
      apply wpS_seq
      apply wpS_region
      simp [wpOpsS, go_sem, Exit.thenS]
      refine wpS_cond (t := true) (by simp [Act.eval, Array.replicate]) ?_
      simp only [if_true]
      apply wpS_seq
      apply wpS_seq
      apply wpS_region
      simp [wpOpsS, go_sem, Exit.thenS, Instr.typeAssert, run_underlying Try.underlying97, Instr.alloc, Instr.storeAt, Instr.sureAddr, storeVar, Try.zeroValue97, Try.sizeOf97, Try.isAgg97]
      apply wpS_seq
      apply wpS_region
      simp [wpOpsS, go_sem, Exit.thenS]
      refine wpS_cond (t := false) (by simp [Act.eval, Array.replicate]) ?_
      simp only [Bool.false_eq_true, if_false]
      refine wpS_of_wp (wp_skip ?_)
      simp only [Exit.thenS]
      apply wpS_region
      have h7 : (Instr.storeAt 32 p (.slice none 0 0)).run Try.prog (w.alloc (Obj.cells #[Value.int IntKind.i64 e.from_, Value.int IntKind.i64 e.to_] 97)) = .ok () wa := h7
      have h8 : (Instr.storeAt 27 q (.int .i64 6)).run Try.prog wa = .ok () w2 := h8
      generalize w.alloc (Obj.cells #[Value.int IntKind.i64 e.from_, Value.int IntKind.i64 e.to_] 97) = w1 at h7
      simp [List.range, List.range.loop, wpOpsS, execOp, Region.wanted, h7, h8, Oper.upon, bodyPostS, results, Try.results43, Act.put, Act.eval]
  · cases h2
end Go.Proofs.Ytdbogmmdogjhpaa
set_option maxRecDepth 20000
set_option maxHeartbeats 4000000
namespace Go.Proofs.Ytdbogmmdogjhpaa
open Go Go.Sx Go.Rx Go.RowKit
noncomputable def P.ref08_Great (l : (List Filing)) : Option Bool := cond (decide (30 < (l.length : Int))) (some true) (Option.bind (loopM (S := (Int)) (R := (Unit ⊕ Bool)) (fun x4 => cond (decide (x4 < (l.length : Int))) (Option.bind (ixo l x4) fun y5 => cond (decide (20 < (y5.parts.length : Int))) (some (Sum.inr (Sum.inr true))) (Option.bind (chk .i64 (x4 + 1)) fun n6 => some (Sum.inl n6))) (some (Sum.inr (Sum.inl ())))) (0 : Int)) ((Sum.elim (fun _ => some false) (fun r7 => some r7))))
def an13 : An := .nd (.x) (.nd (.x) (.nd (.nd (.x) (.lp ⟨[(.slot 3, .d (.int .i64))], []⟩ [.exit 0 ⟨[], []⟩, .ret] (.x))) (.x)))
noncomputable def ctr13 : Ctr := ⟨[.d (.sl (.st 1))], [.d .bool], fun a => P.ref08_Great a.1⟩
theorem ok13 : Ctr.ok Try.prog 13 ctr13 := fun_ok (G := { gxb with fs := [] }) (an := an13) (gx_ok trivial) Try.func13 rfl rfl rfl rfl (fun a => by kernel_rfl)
noncomputable def P.ref08_Twin (l : (List Filing)) : Option (List Filing) := Option.bind (appo 40 ([] : (List Filing)) l) fun l1 => Option.bind (loopM (S := (Int × (List Filing))) (R := ((List Filing))) (fun (x15, x16) => cond (decide (x15 < (x16.length : Int))) (Option.bind (ixo x16 x15) fun y17 => Option.bind (appo 8 ([] : (List Int)) y17.parts) fun l18 => Option.bind (ixo x16 x15) fun y19 => Option.bind (seto x16 x15 (Filing.mk y19.id y19.day l18)) fun l20 => Option.bind (chk .i64 (x15 + 1)) fun n21 => some (Sum.inl (n21, l20))) (some (Sum.inr x16))) ((0 : Int), l1)) ((fun x22 => some x22))
def an14 : An := .nd (.x) (.nd (.x) (.nd (.nd (.x) (.lp ⟨[(.slot 4, .d (.int .i64)), (.cont 5, .own (.sl 65 (.st 1)))], [5]⟩ [.exit 0 ⟨[(.cont 5, .own (.sl 65 (.st 1)))], [5]⟩] (.x))) (.x)))
noncomputable def ctr14 : Ctr := ⟨[.d (.sl (.st 1))], [.own (.sl 65 (.st 1))], fun a => P.ref08_Twin a.1⟩
theorem ok14 : Ctr.ok Try.prog 14 ctr14 := fun_ok (G := { gxb with fs := [] }) (an := an14) (gx_ok trivial) Try.func14 rfl rfl rfl rfl (fun a => by kernel_rfl)
noncomputable def P.slices_IndexFunc_73 (s : (List Int)) (f : Int → Option Bool) : Option Int := Option.bind (loopM (S := (Int)) (R := (Unit ⊕ Int)) (fun x5 => cond (decide (x5 < (s.length : Int))) (Option.bind (ixo s x5) fun y6 => Option.bind (f y6) fun y7 => cond (y7) (some (Sum.inr (Sum.inr x5))) (Option.bind (chk .i64 (x5 + 1)) fun n8 => some (Sum.inl n8))) (some (Sum.inr (Sum.inl ())))) (0 : Int)) ((Sum.elim (fun _ => some ((-1) : Int)) (fun r9 => some r9)))
def an73 : An := .nd (.x) (.nd (.nd (.x) (.lp ⟨[(.slot 8, .d (.int .i64))], []⟩ [.exit 0 ⟨[], []⟩, .ret] (.x))) (.x))
noncomputable def ctr73 : Ctr := ⟨[.d (.sl (.int .i64)), .fn [(.int .i64)] .bool], [.d (.int .i64)], fun a => P.slices_IndexFunc_73 a.1 a.2.1⟩
theorem ok73 : Ctr.ok Try.prog 73 ctr73 := fun_ok (G := { gxb with fs := [] }) (an := an73) (gx_ok trivial) Try.func73 rfl rfl rfl rfl (fun a => by kernel_rfl)
noncomputable def P.slices_ContainsFunc_59 (s : (List Int)) (f : Int → Option Bool) : Option Bool := Option.bind (P.slices_IndexFunc_73 s f) fun r1 => some (decide (0 ≤ r1))
def an59 : An := .x
noncomputable def ctr59 : Ctr := ⟨[.d (.sl (.int .i64)), .fn [(.int .i64)] .bool], [.d .bool], fun a => P.slices_ContainsFunc_59 a.1 a.2.1⟩
theorem ok59 : Ctr.ok Try.prog 59 ctr59 := fun_ok (G := { gxb with fs := [(73, ctr73)] }) (an := an59) (gx_ok ⟨⟨ok73, Try.call73⟩, trivial⟩) Try.func59 rfl rfl rfl rfl (fun a => by kernel_rfl)
noncomputable def P.ring_in_in1 (n : Int) (a1_ : Int) (a2_ : Int) : Option Bool := Option.bind (α := (Bool)) (cond (decide (n < a1_)) (some true) (some (decide (a2_ < n)))) ((fun x1 => some x1))
def an70 : An := .nd (.x) (.nd (.jn [.norm ⟨[(.slot 4, .d .bool)], []⟩] (.x)) (.x))
noncomputable def ctr70 : Ctr := ⟨[.d (.int .i64), .pt (.int .i64), .pt (.int .i64)], [.d .bool], fun a => P.ring_in_in1 a.1 a.2.1 a.2.2.1⟩
theorem ok70 : Ctr.ok Try.prog 70 ctr70 := fun_ok (G := { gxb with fs := [] }) (an := an70) (gx_ok trivial) Try.func70 rfl rfl rfl rfl (fun a => by kernel_rfl)
noncomputable def P.ring_in (lo : Int) (hi : Int) (all : (List Int)) : Option Bool := Option.bind (P.slices_ContainsFunc_59 all (fun a1 => P.ring_in_in1 a1 lo hi)) fun r2 => some (!r2)
def an47 : An := .x
noncomputable def ctr47 : Ctr := ⟨[.d (.int .i64), .d (.int .i64), .d (.sl (.int .i64))], [.d .bool], fun a => P.ring_in a.1 a.2.1 a.2.2.1⟩
theorem ok47 : Ctr.ok Try.prog 47 ctr47 := fun_ok (G := { gxb with fs := [(59, ctr59), (70, ctr70)] }) (an := an47) (gx_ok ⟨⟨ok59, Try.call59⟩, ⟨⟨ok70, Try.call70⟩, trivial⟩⟩) Try.func47 rfl rfl rfl rfl (fun a => by kernel_rfl)
noncomputable def P.ring_rising (l : (List Int)) : Option Bool := Option.bind (loopM (S := (Int × Int)) (R := (Unit ⊕ Bool)) (fun (x7, x8) => cond (decide (x8 < (l.length : Int))) (Option.bind (ixo l x8) fun y9 => Option.bind (chk .i64 (x7 + 1)) fun n10 => Option.bind (P.ring_in n10 (999999 : Int) ([y9])) fun r11 => cond ((!r11)) (some (Sum.inr (Sum.inr false))) (Option.bind (chk .i64 (x8 + 1)) fun n12 => some (Sum.inl (y9, n12)))) (some (Sum.inr (Sum.inl ())))) (((-1) : Int), (0 : Int))) ((Sum.elim (fun _ => some true) (fun r13 => some r13)))
def an48 : An := .nd (.x) (.nd (.x) (.nd (.nd (.x) (.lp ⟨[(.slot 3, .d (.int .i64)), (.slot 8, .d (.int .i64))], []⟩ [.exit 0 ⟨[], []⟩, .ret] (.x))) (.x)))
noncomputable def ctr48 : Ctr := ⟨[.d (.sl (.int .i64))], [.d .bool], fun a => P.ring_rising a.1⟩
theorem ok48 : Ctr.ok Try.prog 48 ctr48 := fun_ok (G := { gxb with fs := [(47, ctr47)] }) (an := an48) (gx_ok ⟨⟨ok47, Try.call47⟩, trivial⟩) Try.func48 rfl rfl rfl rfl (fun a => by kernel_rfl)
noncomputable def P.ring_Check (h_ : Hunt) (l : (List Filing)) : Option Int := Option.bind (α := (Bool)) (Option.bind (P.ring_in (0 : Int) (100000 : Int) ([h_.window])) fun r3 => cond ((!r3)) (some true) (Option.bind (P.ring_in (2 : Int) (24 : Int) ([h_.common, h_.size])) fun r4 => some (!r4))) ((fun x5 => cond (x5) (some (80 : Int)) (Option.bind (loopM (S := (Int × (List Int))) (R := (((List Int)) ⊕ Int)) (fun (x14, x15) => cond (decide (x14 < (l.length : Int))) (Option.bind (ixo l x14) fun y16 => Option.bind (appo 8 x15 ([y16.id])) fun l17 => Option.bind (α := (Bool)) (Option.bind (P.ring_in (0 : Int) (100000 : Int) ([y16.day])) fun r18 => cond ((!r18)) (some true) (cond (decide (6 < (y16.parts.length : Int))) (some true) (Option.bind (P.ring_rising y16.parts) fun r19 => some (!r19)))) ((fun x20 => cond (x20) (some (Sum.inr (Sum.inr (81 : Int)))) (Option.bind (chk .i64 (x14 + 1)) fun n21 => some (Sum.inl (n21, l17)))))) (some (Sum.inr (Sum.inl x15)))) ((0 : Int), ([] : (List Int)))) ((Sum.elim (fun x22 => Option.bind (α := (Bool)) (cond (decide (24 < (l.length : Int))) (some true) (Option.bind (P.ring_rising x22) fun r24 => some (!r24))) ((fun x25 => cond (x25) (some (81 : Int)) (some (0 : Int))))) (fun r26 => some r26))))))
def an19 : An := .nd (.x) (.nd (.nd (.jn [.norm ⟨[(.slot 21, .d .bool)], []⟩] (.x)) (.x)) (.nd (.x) (.nd (.nd (.x) (.lp ⟨[(.slot 24, .d (.int .i64)), (.slot 5, .own (.sl 3 (.int .i64)))], []⟩ [.exit 0 ⟨[(.slot 5, .own (.sl 3 (.int .i64)))], []⟩, .ret] (.nd (.x) (.nd (.x) (.nd (.nd (.x) (.nd (.x) (.nd (.jn [.norm ⟨[(.slot 49, .d .bool)], [5]⟩] (.x)) (.x)))) (.x)))))) (.nd (.nd (.jn [.norm ⟨[(.slot 58, .d .bool)], []⟩] (.x)) (.x)) (.x)))))
noncomputable def ctr19 : Ctr := ⟨[.d (.st 0), .d (.sl (.st 1))], [.d (.int .i64)], fun a => P.ring_Check a.1 a.2.1⟩
theorem ok19 : Ctr.ok Try.prog 19 ctr19 := fun_ok (G := { gxb with fs := [(47, ctr47), (48, ctr48)] }) (an := an19) (gx_ok ⟨⟨ok47, Try.call47⟩, ⟨⟨ok48, Try.call48⟩, trivial⟩⟩) Try.func19 rfl rfl rfl rfl (fun a => by kernel_rfl)
noncomputable def P.slices_Index_52 (s : (List Int)) (v : Int) : Option Int := Option.bind (loopM (S := (Int)) (R := (Unit ⊕ Int)) (fun x4 => cond (decide (x4 < (s.length : Int))) (Option.bind (ixo s x4) fun y5 => cond (decide (v = y5)) (some (Sum.inr (Sum.inr x4))) (Option.bind (chk .i64 (x4 + 1)) fun n6 => some (Sum.inl n6))) (some (Sum.inr (Sum.inl ())))) (0 : Int)) ((Sum.elim (fun _ => some ((-1) : Int)) (fun r7 => some r7)))
def an52 : An := .nd (.x) (.nd (.nd (.x) (.lp ⟨[(.slot 8, .d (.int .i64))], []⟩ [.exit 0 ⟨[], []⟩, .ret] (.x))) (.x))
noncomputable def ctr52 : Ctr := ⟨[.d (.sl (.int .i64)), .d (.int .i64)], [.d (.int .i64)], fun a => P.slices_Index_52 a.1 a.2.1⟩
theorem ok52 : Ctr.ok Try.prog 52 ctr52 := fun_ok (G := { gxb with fs := [] }) (an := an52) (gx_ok trivial) Try.func52 rfl rfl rfl rfl (fun a => by kernel_rfl)
noncomputable def P.slices_Contains_61 (s : (List Int)) (v : Int) : Option Bool := Option.bind (P.slices_Index_52 s v) fun r1 => some (decide (0 ≤ r1))
def an61 : An := .x
noncomputable def ctr61 : Ctr := ⟨[.d (.sl (.int .i64)), .d (.int .i64)], [.d .bool], fun a => P.slices_Contains_61 a.1 a.2.1⟩
theorem ok61 : Ctr.ok Try.prog 61 ctr61 := fun_ok (G := { gxb with fs := [(52, ctr52)] }) (an := an61) (gx_ok ⟨⟨ok52, Try.call52⟩, trivial⟩) Try.func61 rfl rfl rfl rfl (fun a => by kernel_rfl)
noncomputable def P.ring_open (h_ : Hunt) (l : (List Filing)) : Option ((Option Hunt_94) × Int) := Option.bind (P.ring_Check h_ l) fun r1 => cond ((!decide (r1 = 0))) (some ((none : Option Hunt_94), r1)) (Option.bind (loopM (S := (Int × (List Int) × (FMap Int Int))) (R := ((FMap Int Int) × (List Int))) (fun (x24, x25, x26) => cond (decide (x24 < (l.length : Int))) (Option.bind (ixo l x24) fun y27 => Option.bind (appo 8 x25 ([y27.id])) fun l28 => Option.bind (loopM (S := (Int × (FMap Int Int))) (R := ((FMap Int Int))) (fun (x29, x30) => cond (decide (x29 < (y27.parts.length : Int))) (Option.bind (ixo y27.parts x29) fun y31 => Option.bind (chk .i64 (((x30 y31).getD 0) + 1)) fun n32 => Option.bind (chk .i64 (x29 + 1)) fun n33 => some (Sum.inl (n33, (fput x30 y31 n32)))) (some (Sum.inr x30))) ((0 : Int), x26)) ((fun x34 => Option.bind (chk .i64 (x24 + 1)) fun n35 => some (Sum.inl (n35, l28, x34))))) (some (Sum.inr (x26, x25)))) ((0 : Int), ([] : (List Int)), (fnone : (FMap Int Int)))) ((fun (x36, x37) => Option.bind (P.ring_pairs l) fun r38 => Option.bind (overM (S := ((List Int))) (fun x228 (i229, i230) => Option.bind (α := ((List Int))) (Option.bind (ixo l i229) fun y232 => Option.bind (ixo l i230) fun y233 => Option.bind (chk .i64 (y232.day - y233.day)) fun n234 => Option.bind (chk .i64 (-n234)) fun n235 => cond (decide (h_.window < (max n234 n235))) (some x228) (Option.bind (ixo l i229) fun y236 => Option.bind (loopM (S := (Int × (List Int))) (R := ((List Int))) (fun (x237, x238) => cond (decide (x237 < (y236.parts.length : Int))) (Option.bind (ixo y236.parts x237) fun y239 => Option.bind (α := (Bool)) (cond (decide (((x36 y239).getD 0) < h_.common)) (Option.bind (ixo l i230) fun y240 => Option.bind (P.slices_Contains_61 y240.parts y239) fun r241 => some r241) (some false)) ((fun x242 => Option.bind (α := ((List Int))) (cond (x242) (Option.bind (ixA 24 i229) fun i243 => Option.bind (ixA 24 i230) fun i244 => Option.bind (ixo x238 (i243 * 24 + i244 * 1)) fun y245 => Option.bind (chk .i64 (((x36 y239).getD 0) - 1)) fun n246 => Option.bind (quoO .i64 1000 n246) fun n247 => Option.bind (chk .i64 (y245 + n247)) fun n248 => Option.bind (ixA 24 i229) fun i249 => Option.bind (ixA 24 i230) fun i250 => Option.bind (seto x238 (i249 * 24 + i250 * 1) n248) fun l251 => some l251) (some x238)) ((fun x252 => Option.bind (chk .i64 (x237 + 1)) fun n253 => some (Sum.inl (n253, x252))))))) (some (Sum.inr x238))) ((0 : Int), x228)) ((fun x254 => Option.bind (ixA 24 i229) fun i255 => Option.bind (ixA 24 i230) fun i256 => Option.bind (ixo x254 (i255 * 24 + i256 * 1)) fun y257 => Option.bind (ixA 24 i230) fun i258 => Option.bind (ixA 24 i229) fun i259 => Option.bind (seto x254 (i258 * 24 + i259 * 1) y257) fun l260 => some l260)))) ((fun x261 => some x261))) (List.replicate 576 (0 : Int)) r38) fun x231 => some ((some (Hunt_94.mk (Hunt.mk h_.window h_.common h_.size) x37 x231)), (0 : Int)))))
def an40 : An := .nd (.x) (.nd (.x) (.nd (.x) (.nd (.x) (.nd (.nd (.x) (.lp ⟨[(.slot 31, .d (.int .i64)), (.cell 27 3, .own (.sl 3 (.int .i64))), (.cont 28, .own (.mp 3 (.int .i64) (.int .i64)))], [8, 28, 7, 27, 3, 2]⟩ [.exit 0 ⟨[(.cont 28, .own (.mp 3 (.int .i64) (.int .i64))), (.cell 27 3, .own (.sl 3 (.int .i64)))], [8, 28, 7, 27, 3, 2]⟩] (.nd (.x) (.nd (.x) (.nd (.nd (.x) (.nd (.x) (.nd (.x) (.lp ⟨[(.slot 49, .d (.int .i64)), (.cont 28, .own (.mp 3 (.int .i64) (.int .i64)))], [12703, 8, 28, 7, 27, 3, 2]⟩ [.exit 2 ⟨[(.cont 28, .own (.mp 3 (.int .i64) (.int .i64)))], [12703, 8, 28, 7, 27, 3, 2]⟩] (.x))))) (.x)))))) (.nd (.nd (.x) (.lp ⟨[(.cell 27 4, .d (.arr .i64 576))], [12703, 8, 28, 7, 27, 3, 2]⟩ [] (.jn [.norm ⟨[(.cell 27 4, .d (.arr .i64 576))], [12703, 8, 28, 7, 27, 3, 2]⟩] (.nd (.x) (.nd (.nd (.x) (.lp ⟨[(.slot 87, .d (.int .i64)), (.cell 27 4, .d (.arr .i64 576))], [12703, 8, 28, 7, 27, 3, 2]⟩ [.exit 6 ⟨[(.cell 27 4, .d (.arr .i64 576))], [12703, 8, 28, 7, 27, 3, 2]⟩] (.nd (.x) (.nd (.x) (.nd (.nd (.x) (.nd (.x) (.nd (.jn [.norm ⟨[(.slot 106, .d .bool)], [12703, 8, 28, 7, 27, 3, 2]⟩] (.x)) (.jn [.norm ⟨[(.cell 27 4, .d (.arr .i64 576))], [12703, 8, 28, 7, 27, 3, 2]⟩] (.x))))) (.x)))))) (.x)))))) (.x))))))
noncomputable def ctr40 : Ctr := ⟨[.d (.st 0), .d (.sl (.st 1))], [.np (.st 3), .d (.int .i64)], fun a => P.ring_open a.1 a.2.1⟩
theorem ok40 : Ctr.ok Try.prog 40 ctr40 := funR_ok (fun h => h) (G := { gxb with fs := [(19, ctr19), (61, ctr61), (67, ctr67)] }) (an := an40) (gx_ok ⟨⟨ok19, Try.call19⟩, ⟨⟨ok61, Try.call61⟩, ⟨⟨ok67, Try.call67⟩, trivial⟩⟩⟩) Try.func40 rfl rfl rfl rfl rfl (fun a => by kernel_rfl)
noncomputable def P.ring_hunt_two (h_ : Hunt_94) (a : Int) (b : Int) : Option (Int × Int × Int) := Option.bind (P.slices_Index_52 h_.ids a) fun r1 => Option.bind (P.slices_Index_52 h_.ids b) fun r2 => Option.bind (α := (Bool)) (cond (decide (r1 < 0)) (some true) (some (decide (r2 < 0)))) ((fun x3 => cond (x3) (some ((0 : Int), (0 : Int), (6 : Int))) (cond (decide (r1 = r2)) (some ((0 : Int), (0 : Int), (2 : Int))) (some (r1, r2, (0 : Int))))))
def an41 : An := .nd (.x) (.nd (.x) (.nd (.nd (.jn [.norm ⟨[(.slot 21, .d .bool)], []⟩] (.x)) (.x)) (.x)))
noncomputable def ctr41 : Ctr := ⟨[.pt (.st 3), .d (.int .i64), .d (.int .i64)], [.d (.int .i64), .d (.int .i64), .d (.int .i64)], fun a => P.ring_hunt_two a.1 a.2.1 a.2.2.1⟩
theorem ok41 : Ctr.ok Try.prog 41 ctr41 := fun_ok (G := { gxb with fs := [(52, ctr52)] }) (an := an41) (gx_ok ⟨⟨ok52, Try.call52⟩, trivial⟩) Try.func41 rfl rfl rfl rfl (fun a => by kernel_rfl)
noncomputable def P.ring_Weight (h_ : Hunt) (l : (List Filing)) (a : Int) (b : Int) : Option (Int × Int) := Option.bind (P.ring_open h_ l) fun (r1, r2) => cond ((!decide (r2 = 0))) (some ((0 : Int), r2)) (Option.bind (r1) fun x3 => Option.bind (P.ring_hunt_two x3 a b) fun (r4, r5, r6) => cond ((!decide (r6 = 0))) (some ((0 : Int), r6)) (Option.bind (r1) fun x7 => Option.bind (ixA 24 r4) fun i8 => Option.bind (ixA 24 r5) fun i9 => Option.bind (ixo x7.weights (i8 * 24 + i9 * 1)) fun y10 => some (y10, (0 : Int))))
def an15 : An := .x
noncomputable def ctr15 : Ctr := ⟨[.d (.st 0), .d (.sl (.st 1)), .d (.int .i64), .d (.int .i64)], [.d (.int .i64), .d (.int .i64)], fun a => P.ring_Weight a.1 a.2.1 a.2.2.1 a.2.2.2.1⟩
theorem ok15 : Ctr.ok Try.prog 15 ctr15 := fun_ok (G := { gxb with fs := [(40, ctr40), (41, ctr41)] }) (an := an15) (gx_ok ⟨⟨ok40, Try.call40⟩, ⟨⟨ok41, Try.call41⟩, trivial⟩⟩) Try.func15 rfl rfl rfl rfl (fun a => by kernel_rfl)
noncomputable def P.ref08_within (n : Int) (lo : Int) (hi : Int) : Option Bool := Option.bind (α := (Bool)) (cond (decide (lo ≤ n)) (some (decide (n ≤ hi))) (some false)) ((fun x1 => some x1))
def an49 : An := .nd (.x) (.nd (.jn [.norm ⟨[(.slot 6, .d .bool)], []⟩] (.x)) (.x))
noncomputable def ctr49 : Ctr := ⟨[.d (.int .i64), .d (.int .i64), .d (.int .i64)], [.d .bool], fun a => P.ref08_within a.1 a.2.1 a.2.2.1⟩
theorem ok49 : Ctr.ok Try.prog 49 ctr49 := fun_ok (G := { gxb with fs := [] }) (an := an49) (gx_ok trivial) Try.func49 rfl rfl rfl rfl (fun a => by kernel_rfl)
noncomputable def P.ref08_Check (h_ : Hunt) (l : (List Filing)) : Option Int := Option.bind (α := (Bool)) (Option.bind (P.ref08_within h_.window (0 : Int) (100000 : Int)) fun r4 => cond ((!r4)) (some true) (Option.bind (P.ref08_within h_.common (2 : Int) (24 : Int)) fun r5 => cond ((!r5)) (some true) (Option.bind (P.ref08_within h_.size (2 : Int) (24 : Int)) fun r6 => some (!r6)))) ((fun x7 => cond (x7) (some (80 : Int)) (cond (decide (24 < (l.length : Int))) (some (81 : Int)) (Option.bind (loopM (S := (Int)) (R := (Unit ⊕ Int)) (fun x26 => cond (decide (x26 < (l.length : Int))) (Option.bind (ixo l x26) fun y27 => Option.bind (α := (Bool)) (Option.bind (P.ref08_within y27.id (0 : Int) (999999 : Int)) fun r28 => cond ((!r28)) (some true) (cond (decide (0 < x26)) (Option.bind (chk .i64 (x26 - 1)) fun n29 => Option.bind (ixo l n29) fun y30 => cond (decide (y27.id ≤ y30.id)) (some true) (Option.bind (P.ref08_within y27.day (0 : Int) (100000 : Int)) fun r31 => cond ((!r31)) (some true) (some (decide (6 < (y27.parts.length : Int)))))) (Option.bind (P.ref08_within y27.day (0 : Int) (100000 : Int)) fun r32 => cond ((!r32)) (some true) (some (decide (6 < (y27.parts.length : Int))))))) ((fun x33 => cond (x33) (some (Sum.inr (Sum.inr (81 : Int)))) (Option.bind (loopM (S := (Int)) (R := (Unit ⊕ Int)) (fun x34 => cond (decide (x34 < (y27.parts.length : Int))) (Option.bind (α := (Bool)) (Option.bind (ixo y27.parts x34) fun y35 => Option.bind (P.ref08_within y35 (0 : Int) (999999 : Int)) fun r36 => cond ((!r36)) (some true) (cond (decide (0 < x34)) (Option.bind (ixo y27.parts x34) fun y37 => Option.bind (chk .i64 (x34 - 1)) fun n38 => Option.bind (ixo y27.parts n38) fun y39 => some (decide (y37 ≤ y39))) (some false))) ((fun x40 => cond (x40) (some (Sum.inr (Sum.inr (81 : Int)))) (Option.bind (chk .i64 (x34 + 1)) fun n41 => some (Sum.inl n41))))) (some (Sum.inr (Sum.inl ())))) (0 : Int)) ((Sum.elim (fun _ => Option.bind (chk .i64 (x26 + 1)) fun n42 => some (Sum.inl n42)) (fun r43 => some (Sum.inr (Sum.inr r43))))))))) (some (Sum.inr (Sum.inl ())))) (0 : Int)) ((Sum.elim (fun _ => some (0 : Int)) (fun r44 => some r44)))))))
def an20 : An := .nd (.x) (.nd (.nd (.jn [.norm ⟨[(.slot 23, .d .bool)], []⟩] (.x)) (.x)) (.nd (.x) (.nd (.nd (.x) (.lp ⟨[(.slot 5, .d (.int .i64))], []⟩ [.exit 0 ⟨[], []⟩, .ret] (.nd (.x) (.nd (.nd (.x) (.nd (.nd (.jn [.norm ⟨[(.slot 67, .d .bool)], [6]⟩] (.x)) (.x)) (.nd (.x) (.lp ⟨[(.slot 7, .d (.int .i64))], [6]⟩ [.exit 2 ⟨[], []⟩, .ret] (.nd (.x) (.nd (.nd (.jn [.norm ⟨[(.slot 99, .d .bool)], [6]⟩] (.x)) (.x)) (.x))))))) (.x))))) (.x))))
noncomputable def ctr20 : Ctr := ⟨[.d (.st 0), .d (.sl (.st 1))], [.d (.int .i64)], fun a => P.ref08_Check a.1 a.2.1⟩
theorem ok20 : Ctr.ok Try.prog 20 ctr20 := fun_ok (G := { gxb with fs := [(49, ctr49)] }) (an := an20) (gx_ok ⟨⟨ok49, Try.call49⟩, trivial⟩) Try.func20 rfl rfl rfl rfl (fun a => by kernel_rfl)
noncomputable def P.ref08_At (l : (List Filing)) (id : Int) : Option Int := Option.bind (loopM (S := (Int)) (R := (Unit ⊕ Int)) (fun x4 => cond (decide (x4 < (l.length : Int))) (Option.bind (ixo l x4) fun y5 => cond (decide (y5.id = id)) (some (Sum.inr (Sum.inr x4))) (Option.bind (chk .i64 (x4 + 1)) fun n6 => some (Sum.inl n6))) (some (Sum.inr (Sum.inl ())))) (0 : Int)) ((Sum.elim (fun _ => some ((-1) : Int)) (fun r7 => some r7)))
def an38 : An := .nd (.x) (.nd (.nd (.x) (.lp ⟨[(.slot 5, .d (.int .i64))], []⟩ [.exit 0 ⟨[], []⟩, .ret] (.x))) (.x))
noncomputable def ctr38 : Ctr := ⟨[.d (.sl (.st 1)), .d (.int .i64)], [.d (.int .i64)], fun a => P.ref08_At a.1 a.2.1⟩
theorem ok38 : Ctr.ok Try.prog 38 ctr38 := fun_ok (G := { gxb with fs := [] }) (an := an38) (gx_ok trivial) Try.func38 rfl rfl rfl rfl (fun a => by kernel_rfl)
noncomputable def P.ref08_has (l : (List Int)) (n : Int) : Option Bool := Option.bind (loopM (S := (Int)) (R := (Unit ⊕ Bool)) (fun x4 => cond (decide (x4 < (l.length : Int))) (Option.bind (ixo l x4) fun y5 => cond (decide (y5 = n)) (some (Sum.inr (Sum.inr true))) (Option.bind (chk .i64 (x4 + 1)) fun n6 => some (Sum.inl n6))) (some (Sum.inr (Sum.inl ())))) (0 : Int)) ((Sum.elim (fun _ => some false) (fun r7 => some r7)))
def an58 : An := .nd (.x) (.nd (.nd (.x) (.lp ⟨[(.slot 5, .d (.int .i64))], []⟩ [.exit 0 ⟨[], []⟩, .ret] (.x))) (.x))
noncomputable def ctr58 : Ctr := ⟨[.d (.sl (.int .i64)), .d (.int .i64)], [.d .bool], fun a => P.ref08_has a.1 a.2.1⟩
theorem ok58 : Ctr.ok Try.prog 58 ctr58 := fun_ok (G := { gxb with fs := [] }) (an := an58) (gx_ok trivial) Try.func58 rfl rfl rfl rfl (fun a => by kernel_rfl)
noncomputable def P.ref08_part (h_ : Hunt) (l : (List Filing)) (p : Int) : Option Int := Option.bind (loopM (S := (Int × Int)) (R := (Int)) (fun (x8, x9) => cond (decide (x9 < (l.length : Int))) (Option.bind (ixo l x9) fun y10 => Option.bind (P.ref08_has y10.parts p) fun r11 => Option.bind (α := (Int)) (cond (r11) (Option.bind (chk .i64 (x8 + 1)) fun n12 => some n12) (some x8)) ((fun x13 => Option.bind (chk .i64 (x9 + 1)) fun n14 => some (Sum.inl (x13, n14))))) (some (Sum.inr x8))) ((0 : Int), (0 : Int))) ((fun x15 => Option.bind (α := (Bool)) (cond (decide (x15 < 2)) (some true) (some (decide (h_.common ≤ x15)))) ((fun x16 => cond (x16) (some (0 : Int)) (Option.bind (chk .i64 (x15 - 1)) fun n17 => Option.bind (quoO .i64 1000 n17) fun n18 => some n18)))))
def an68 : An := .nd (.x) (.nd (.x) (.nd (.nd (.x) (.lp ⟨[(.slot 7, .d (.int .i64)), (.slot 8, .d (.int .i64))], [3]⟩ [.exit 0 ⟨[(.slot 7, .d (.int .i64))], [3]⟩] (.nd (.x) (.nd (.nd (.x) (.jn [.norm ⟨[(.slot 7, .d (.int .i64))], [3]⟩] (.x))) (.x))))) (.nd (.nd (.jn [.norm ⟨[(.slot 31, .d .bool)], []⟩] (.x)) (.x)) (.x))))
noncomputable def ctr68 : Ctr := ⟨[.d (.st 0), .d (.sl (.st 1)), .d (.int .i64)], [.d (.int .i64)], fun a => P.ref08_part a.1 a.2.1 a.2.2.1⟩
theorem ok68 : Ctr.ok Try.prog 68 ctr68 := fun_ok (G := { gxb with fs := [(58, ctr58)] }) (an := an68) (gx_ok ⟨⟨ok58, Try.call58⟩, trivial⟩) Try.func68 rfl rfl rfl rfl (fun a => by kernel_rfl)
noncomputable def P.ref08_weight (h_ : Hunt) (l : (List Filing)) (a : Int) (b : Int) : Option Int := Option.bind (ixo l a) fun y1 => Option.bind (ixo l b) fun y2 => Option.bind (α := (Bool)) (Option.bind (chk .i64 (y1.day - y2.day)) fun n5 => cond (decide (h_.window < n5)) (some true) (Option.bind (chk .i64 (y2.day - y1.day)) fun n6 => some (decide (h_.window < n6)))) ((fun x7 => cond (x7) (some (0 : Int)) (Option.bind (loopM (S := (Int × Int)) (R := (Int)) (fun (x17, x18) => cond (decide (x18 < (y1.parts.length : Int))) (Option.bind (ixo y1.parts x18) fun y19 => Option.bind (P.ref08_has y2.parts y19) fun r20 => Option.bind (α := (Int)) (cond (r20) (Option.bind (ixo y1.parts x18) fun y21 => Option.bind (P.ref08_part h_ l y21) fun r22 => Option.bind (chk .i64 (x17 + r22)) fun n23 => some n23) (some x17)) ((fun x24 => Option.bind (chk .i64 (x18 + 1)) fun n25 => some (Sum.inl (x24, n25))))) (some (Sum.inr x17))) ((0 : Int), (0 : Int))) ((fun x26 => some x26)))))
def an42 : An := .nd (.x) (.nd (.x) (.nd (.nd (.jn [.norm ⟨[(.slot 38, .d .bool)], [10, 9, 4]⟩] (.x)) (.x)) (.nd (.x) (.nd (.nd (.x) (.lp ⟨[(.slot 11, .d (.int .i64)), (.slot 12, .d (.int .i64))], [10, 9, 4]⟩ [.exit 0 ⟨[(.slot 11, .d (.int .i64))], []⟩] (.nd (.x) (.nd (.nd (.x) (.jn [.norm ⟨[(.slot 11, .d (.int .i64))], [10, 9, 4]⟩] (.x))) (.x))))) (.x)))))
noncomputable def ctr42 : Ctr := ⟨[.d (.st 0), .d (.sl (.st 1)), .d (.int .i64), .d (.int .i64)], [.d (.int .i64)], fun a => P.ref08_weight a.1 a.2.1 a.2.2.1 a.2.2.2.1⟩
theorem ok42 : Ctr.ok Try.prog 42 ctr42 := fun_ok (G := { gxb with fs := [(58, ctr58), (68, ctr68)] }) (an := an42) (gx_ok ⟨⟨ok58, Try.call58⟩, ⟨⟨ok68, Try.call68⟩, trivial⟩⟩) Try.func42 rfl rfl rfl rfl (fun a => by kernel_rfl)
noncomputable def P.ref08_Weight (h_ : Hunt) (l : (List Filing)) (a : Int) (b : Int) : Option (Int × Int) := Option.bind (P.ref08_Check h_ l) fun r1 => cond ((!decide (r1 = 0))) (some ((0 : Int), r1)) (Option.bind (P.ref08_At l a) fun r2 => Option.bind (P.ref08_At l b) fun r3 => Option.bind (α := (Bool)) (cond (decide (r2 < 0)) (some true) (some (decide (r3 < 0)))) ((fun x4 => cond (x4) (some ((0 : Int), (6 : Int))) (cond (decide (r2 = r3)) (some ((0 : Int), (2 : Int))) (Option.bind (P.ref08_weight h_ l r2 r3) fun r5 => some (r5, (0 : Int)))))))
def an16 : An := .nd (.x) (.nd (.x) (.nd (.x) (.nd (.nd (.jn [.norm ⟨[(.slot 30, .d .bool)], [4]⟩] (.x)) (.x)) (.x))))
noncomputable def ctr16 : Ctr := ⟨[.d (.st 0), .d (.sl (.st 1)), .d (.int .i64), .d (.int .i64)], [.d (.int .i64), .d (.int .i64)], fun a => P.ref08_Weight a.1 a.2.1 a.2.2.1 a.2.2.2.1⟩
theorem ok16 : Ctr.ok Try.prog 16 ctr16 := fun_ok (G := { gxb with fs := [(20, ctr20), (38, ctr38), (42, ctr42)] }) (an := an16) (gx_ok ⟨⟨ok20, Try.call20⟩, ⟨⟨ok38, Try.call38⟩, ⟨⟨ok42, Try.call42⟩, trivial⟩⟩⟩) Try.func16 rfl rfl rfl rfl (fun a => by kernel_rfl)
noncomputable def P.slices_Clone_69 (s : (List Int)) : Option (List Int) :=
  nilq s fun b1 => cond b1 (some []) (Option.bind (appo 8 ([] : List Int) s) fun l7 => some l7)
noncomputable def ctr69 : Ctr := ⟨[.d (.sl (.int .i64))], [.own (.sl 3 (.int .i64))], fun a => P.slices_Clone_69 a.1⟩
theorem sl42 : SlT Try.prog 42 3 ((intE .i64)).n 8 := rsl42
theorem C_slices_Clone_69 {M : List Nat} {w : World} (hM : MLt M w) {s : (List Int)} {v_s_0 : Value} (f_s_0 : RdS (intE .i64) M w v_s_0 s) {r0 : (List Int)} (h : P.slices_Clone_69 s = some r0) :
    Calls Try.prog 69 (List.toArray [v_s_0]) w fun e w' => ∃ v0_0 : Value, e = .returned (v0_0) ∧ (Sx.Own (intE .i64) 3 0 M w' v0_0 r0 ∧ ∀ b ∈ ob v0_0, w.heap.size ≤ b) ∧ Ext w w' := by
  have hI := Hp.start (Mu := []) hM
  refine calls_cw Try.func69 rfl Try.ntmps69 rfl ?_
  refine cw_seq ?_
  refine cw_regF ?_
  refine s_as rfl rfl ?_
  refine Reg.nil ?_
  refine cw_seq ?_
  refine cw_seq ?_
  refine cw_regF ?_
  refine s_mv rfl rfl ?_
  refine s_eqN f_s_0 rfl rfl Try.underlying42 rfl ?_
  intro b1 kb1
  replace h := nilq_out h kb1
  refine Reg.nil ?_
  refine cw_cond rfl (fun hc2 => ?_) (fun hc2 => ?_)
  · replace h := cdT hc2 h
    refine cw_seq ?_
    refine cw_regF ?_
    refine s_as rfl rfl ?_
    refine Reg.nil ?_
    refine cw_ret ?_
    obtain rfl := Option.some.inj h
    refine fin1 Try.results69 rfl ?_
    exact ⟨_, rfl, ⟨Own.nil _ _ _ _ _, fun _ hb => by cases hb⟩, hI.kp⟩
  · replace h := cdF hc2 h
    refine cw_skip ?_
    refine cw_seq ?_
    refine cw_regF ?_
    refine y_bs (E := (intE .i64)) (xs := []) sl42 hI rfl rfl Cls.nil Chs.nil rfl rfl ?_
    intro v3 w4 hI5 x6
    refine s_mv rfl rfl ?_
    obtain ⟨l7, hl7, h⟩ := bnd h
    obtain ⟨hbl7, el7⟩ := appo_out hl7
    refine y_app 0 sl42 hI5 rfl rfl rfl (f_s_0.adv hI5.adv) hbl7 rfl ?_
    rw [← el7]
    intro v8 w9 hI10 x11
    refine s_as rfl rfl ?_
    refine Reg.nil ?_
    refine cw_ret ?_
    obtain rfl := Option.some.inj h
    refine fin1 Try.results69 rfl ?_
    exact ⟨_, rfl, (hI10.ownOut 0 rfl), hI10.kp⟩
theorem ok69 : Ctr.ok Try.prog 69 ctr69 := by
  refine ⟨by decide, fun M w a vals r hM ha hr => ?_⟩
  obtain ⟨v0, r0, rfl, h0, ha⟩ := ha
  have ha : _ = [] := ha
  subst ha
  refine (C_slices_Clone_69 hM (OkD.rds h0) hr).mono ?_
  rintro e w' ⟨v, rfl, h1, h2⟩
  exact ⟨[v], rfl, ⟨v, rfl, own_ck h1⟩, h2⟩
noncomputable def P.ring_hunt_chain (h_ : Hunt_94) (from_ : Int) (to_ : Int) (strength : Int) : Option (List Int) := Option.bind (loopM (S := ((List (List Int)) × (FMap Int Bool))) (R := (List Int)) (fun (x54, x55) => Option.bind (loopM (S := ((List (List Int)) × Int × (FMap Int Bool))) (R := (((List (List Int)) × (FMap Int Bool)) ⊕ (List Int))) (fun (x56, x57, x58) => cond (decide (x57 < (x54.length : Int))) (Option.bind (ixo x54 x57) fun y59 => Option.bind (chk .i64 ((y59.length : Int) - 1)) fun n60 => Option.bind (ixo y59 n60) fun y61 => cond (decide (y61 = to_)) (some (Sum.inr (Sum.inr y59))) (Option.bind (loopM (S := ((List (List Int)) × Int × (FMap Int Bool))) (R := ((List (List Int)) × (FMap Int Bool))) (fun (x62, x63, x64) => cond (decide (x63 < (h_.ids.length : Int))) (Option.bind (α := (Bool)) (cond ((!((x64 x63).getD false))) (Option.bind (ixA 24 y61) fun i65 => Option.bind (ixA 24 x63) fun i66 => Option.bind (ixo h_.weights (i65 * 24 + i66 * 1)) fun y67 => some (decide (strength ≤ y67))) (some false)) ((fun x68 => Option.bind (α := ((List (List Int)) × (FMap Int Bool))) (cond (x68) (Option.bind (P.slices_Clone_69 y59) fun r69 => Option.bind (appo 8 r69 ([x63])) fun l70 => Option.bind (appo 24 x62 ([l70])) fun l71 => some (l71, (fput x64 x63 true))) (some (x62, x64))) ((fun (x72, x73) => Option.bind (chk .i64 (x63 + 1)) fun n74 => some (Sum.inl (x72, n74, x73))))))) (some (Sum.inr (x62, x64)))) (x56, (0 : Int), x58)) ((fun (x75, x76) => Option.bind (chk .i64 (x57 + 1)) fun n77 => some (Sum.inl (x75, n77, x76)))))) (some (Sum.inr (Sum.inl (x56, x58))))) (([] : (List (List Int))), (0 : Int), x55)) ((Sum.elim (fun (x78, x79) => cond (decide (0 < (x78.length : Int))) (some (Sum.inl (x78, x79))) (none)) (fun r80 => some (Sum.inr r80))))) ([[from_]], (fput (fnone : (FMap Int Bool)) from_ true))) ((fun r81 => some r81))
def an44 : An := .nd (.x) (.nd (.x) (.nd (.x) (.nd (.x) (.lp ⟨[(.slot 9, .own (.sl 42 (.sl (.int .i64)))), (.cont 19, .own (.mp 3 (.int .i64) .bool))], [19]⟩ [.ret] (.nd (.x) (.nd (.nd (.x) (.lp ⟨[(.slot 11, .own (.sl 42 (.sl (.int .i64)))), (.slot 24, .d (.int .i64)), (.cont 19, .own (.mp 3 (.int .i64) .bool))], [9, 19]⟩ [.exit 2 ⟨[(.slot 11, .own (.sl 42 (.sl (.int .i64)))), (.cont 19, .own (.mp 3 (.int .i64) .bool))], [19]⟩, .ret] (.nd (.x) (.nd (.x) (.nd (.nd (.x) (.nd (.x) (.nd (.x) (.nd (.x) (.lp ⟨[(.slot 11, .own (.sl 42 (.sl (.int .i64)))), (.slot 43, .d (.int .i64)), (.cont 19, .own (.mp 3 (.int .i64) .bool))], [9, 19]⟩ [.exit 4 ⟨[(.slot 11, .own (.sl 42 (.sl (.int .i64)))), (.cont 19, .own (.mp 3 (.int .i64) .bool))], [9, 19]⟩] (.nd (.x) (.nd (.x) (.nd (.nd (.x) (.nd (.jn [.norm ⟨[(.slot 61, .d .bool)], [11, 9, 19]⟩] (.x)) (.jn [.norm ⟨[(.slot 11, .own (.sl 42 (.sl (.int .i64)))), (.cont 19, .own (.mp 3 (.int .i64) .bool))], [9, 19]⟩] (.x)))) (.x))))))))) (.x)))))) (.x)))))))
noncomputable def ctr44 : Ctr := ⟨[.pt (.st 3), .d (.int .i64), .d (.int .i64), .d (.int .i64)], [.d (.sl (.int .i64))], fun a => P.ring_hunt_chain a.1 a.2.1 a.2.2.1 a.2.2.2.1⟩
theorem ok44 : Ctr.ok Try.prog 44 ctr44 := fun_ok (G := { gxb with fs := [(69, ctr69)] }) (an := an44) (gx_ok ⟨⟨ok69, Try.call69⟩, trivial⟩) Try.func44 rfl rfl rfl rfl (fun a => by kernel_rfl)
noncomputable def P.ring_hunt_chain_p (h_ : Hunt_94) (from_ : Int) (to_ : Int) (strength : Int) : Option Apart := Option.bind (loopM (S := ((List (List Int)) × (FMap Int Bool))) (R := (Apart)) (fun (x52, x53) => Option.bind (loopM (S := ((List (List Int)) × Int × (FMap Int Bool))) (R := ((List (List Int)) × (FMap Int Bool))) (fun (x54, x55, x56) => cond (decide (x55 < (x52.length : Int))) (Option.bind (ixo x52 x55) fun y57 => Option.bind (chk .i64 ((y57.length : Int) - 1)) fun n58 => Option.bind (ixo y57 n58) fun y59 => cond (decide (y59 = to_)) (none) (Option.bind (loopM (S := ((List (List Int)) × Int × (FMap Int Bool))) (R := ((List (List Int)) × (FMap Int Bool))) (fun (x60, x61, x62) => cond (decide (x61 < (h_.ids.length : Int))) (Option.bind (α := (Bool)) (cond ((!((x62 x61).getD false))) (Option.bind (ixA 24 y59) fun i63 => Option.bind (ixA 24 x61) fun i64 => Option.bind (ixo h_.weights (i63 * 24 + i64 * 1)) fun y65 => some (decide (strength ≤ y65))) (some false)) ((fun x66 => Option.bind (α := ((List (List Int)) × (FMap Int Bool))) (cond (x66) (Option.bind (P.slices_Clone_69 y57) fun r67 => Option.bind (appo 8 r67 ([x61])) fun l68 => Option.bind (appo 24 x60 ([l68])) fun l69 => some (l69, (fput x62 x61 true))) (some (x60, x62))) ((fun (x70, x71) => Option.bind (chk .i64 (x61 + 1)) fun n72 => some (Sum.inl (x70, n72, x71))))))) (some (Sum.inr (x60, x62)))) (x54, (0 : Int), x56)) ((fun (x73, x74) => Option.bind (chk .i64 (x55 + 1)) fun n75 => some (Sum.inl (x73, n75, x74)))))) (some (Sum.inr (x54, x56)))) (([] : (List (List Int))), (0 : Int), x53)) ((fun (x76, x77) => cond (decide (0 < (x76.length : Int))) (some (Sum.inl (x76, x77))) (some (Sum.inr (Apart.mk from_ to_)))))) ([[from_]], (fput (fnone : (FMap Int Bool)) from_ true))) ((fun x78 => some x78))
def anp44 : An := .nd (.x) (.nd (.x) (.nd (.x) (.nd (.x) (.lp ⟨[(.slot 9, .own (.sl 42 (.sl (.int .i64)))), (.cont 19, .own (.mp 3 (.int .i64) .bool))], [19]⟩ [.exit 98000375 ⟨[(.slot 81, .d (.st 4))], []⟩] (.nd (.x) (.nd (.nd (.x) (.lp ⟨[(.slot 11, .own (.sl 42 (.sl (.int .i64)))), (.slot 24, .d (.int .i64)), (.cont 19, .own (.mp 3 (.int .i64) .bool))], [9, 19]⟩ [.exit 2 ⟨[(.slot 11, .own (.sl 42 (.sl (.int .i64)))), (.cont 19, .own (.mp 3 (.int .i64) .bool))], [19]⟩] (.nd (.x) (.nd (.x) (.nd (.nd (.x) (.nd (.x) (.nd (.x) (.nd (.x) (.lp ⟨[(.slot 11, .own (.sl 42 (.sl (.int .i64)))), (.slot 43, .d (.int .i64)), (.cont 19, .own (.mp 3 (.int .i64) .bool))], [9, 19]⟩ [.exit 4 ⟨[(.slot 11, .own (.sl 42 (.sl (.int .i64)))), (.cont 19, .own (.mp 3 (.int .i64) .bool))], [9, 19]⟩] (.nd (.x) (.nd (.x) (.nd (.nd (.x) (.nd (.jn [.norm ⟨[(.slot 61, .d .bool)], [11, 9, 19]⟩] (.x)) (.jn [.norm ⟨[(.slot 11, .own (.sl 42 (.sl (.int .i64)))), (.cont 19, .own (.mp 3 (.int .i64) .bool))], [9, 19]⟩] (.x)))) (.x))))))))) (.x)))))) (.x)))))))
noncomputable def ctrp44 : CtrP := ⟨[.pt (.st 3), .d (.int .i64), .d (.int .i64), .d (.int .i64)], (.st 4), 97, fun a => P.ring_hunt_chain_p a.1 a.2.1 a.2.2.1 a.2.2.2.1⟩
theorem okp44 : CtrP.ok Try.prog 44 ctrp44 := funP_ok (G := { gxb with fs := [(69, ctr69)] }) (an := anp44) (t := 81) (gx_ok ⟨⟨ok69, Try.call69⟩, trivial⟩) Try.func44 rfl rfl rfl rfl (fun a => by kernel_rfl)
noncomputable def P.ring_hunt_widest (h_ : Hunt_94) (from_ : Int) (to_ : Int) : Option Int := Option.bind (loopM (S := (Int × (List Int))) (R := ((List Int))) (fun (x46, x47) => cond (decide (x46 < (h_.ids.length : Int))) (Option.bind (loopM (S := (Int × (List Int))) (R := ((List Int))) (fun (x48, x49) => cond (decide (x48 < (h_.ids.length : Int))) (Option.bind (loopM (S := (Int × (List Int))) (R := ((List Int))) (fun (x50, x51) => cond (decide (x50 < (h_.ids.length : Int))) (Option.bind (ixA 24 x48) fun i52 => Option.bind (ixA 24 x50) fun i53 => Option.bind (ixo x51 (i52 * 24 + i53 * 1)) fun y54 => Option.bind (ixA 24 x48) fun i55 => Option.bind (ixA 24 x46) fun i56 => Option.bind (ixo x51 (i55 * 24 + i56 * 1)) fun y57 => Option.bind (ixA 24 x46) fun i58 => Option.bind (ixA 24 x50) fun i59 => Option.bind (ixo x51 (i58 * 24 + i59 * 1)) fun y60 => Option.bind (ixA 24 x48) fun i61 => Option.bind (ixA 24 x50) fun i62 => Option.bind (seto x51 (i61 * 24 + i62 * 1) (max y54 (min y57 y60))) fun l63 => Option.bind (chk .i64 (x50 + 1)) fun n64 => some (Sum.inl (n64, l63))) (some (Sum.inr x51))) ((0 : Int), x49)) ((fun x65 => Option.bind (chk .i64 (x48 + 1)) fun n66 => some (Sum.inl (n66, x65))))) (some (Sum.inr x49))) ((0 : Int), x47)) ((fun x67 => Option.bind (chk .i64 (x46 + 1)) fun n68 => some (Sum.inl (n68, x67))))) (some (Sum.inr x47))) ((0 : Int), h_.weights)) ((fun x69 => Option.bind (ixA 24 from_) fun i70 => Option.bind (ixA 24 to_) fun i71 => Option.bind (ixo x69 (i70 * 24 + i71 * 1)) fun y72 => cond (decide (y72 = 0)) (none) (Option.bind (ixA 24 from_) fun i73 => Option.bind (ixA 24 to_) fun i74 => Option.bind (ixo x69 (i73 * 24 + i74 * 1)) fun y75 => some y75)))
def an45 : An := .nd (.x) (.nd (.x) (.nd (.nd (.x) (.lp ⟨[(.slot 20, .d (.int .i64)), (.cell 7 0, .d (.arr .i64 576))], [7]⟩ [.exit 0 ⟨[(.cell 7 0, .d (.arr .i64 576))], [7]⟩] (.nd (.x) (.nd (.x) (.nd (.nd (.x) (.nd (.x) (.lp ⟨[(.slot 28, .d (.int .i64)), (.cell 7 0, .d (.arr .i64 576))], [7]⟩ [.exit 2 ⟨[(.cell 7 0, .d (.arr .i64 576))], [7]⟩] (.nd (.x) (.nd (.x) (.nd (.nd (.x) (.nd (.x) (.lp ⟨[(.slot 36, .d (.int .i64)), (.cell 7 0, .d (.arr .i64 576))], [7]⟩ [.exit 4 ⟨[(.cell 7 0, .d (.arr .i64 576))], [7]⟩] (.x)))) (.x))))))) (.x)))))) (.x)))
noncomputable def ctr45 : Ctr := ⟨[.pt (.st 3), .d (.int .i64), .d (.int .i64)], [.d (.int .i64)], fun a => P.ring_hunt_widest a.1 a.2.1 a.2.2.1⟩
theorem ok45 : Ctr.ok Try.prog 45 ctr45 := fun_ok (G := { gxb with fs := [] }) (an := an45) (gx_ok trivial) Try.func45 rfl rfl rfl rfl (fun a => by kernel_rfl)
noncomputable def P.ring_hunt_widest_p (h_ : Hunt_94) (from_ : Int) (to_ : Int) : Option Apart := Option.bind (loopM (S := (Int × (List Int))) (R := ((List Int))) (fun (x46, x47) => cond (decide (x46 < (h_.ids.length : Int))) (Option.bind (loopM (S := (Int × (List Int))) (R := ((List Int))) (fun (x48, x49) => cond (decide (x48 < (h_.ids.length : Int))) (Option.bind (loopM (S := (Int × (List Int))) (R := ((List Int))) (fun (x50, x51) => cond (decide (x50 < (h_.ids.length : Int))) (Option.bind (ixA 24 x48) fun i52 => Option.bind (ixA 24 x50) fun i53 => Option.bind (ixo x51 (i52 * 24 + i53 * 1)) fun y54 => Option.bind (ixA 24 x48) fun i55 => Option.bind (ixA 24 x46) fun i56 => Option.bind (ixo x51 (i55 * 24 + i56 * 1)) fun y57 => Option.bind (ixA 24 x46) fun i58 => Option.bind (ixA 24 x50) fun i59 => Option.bind (ixo x51 (i58 * 24 + i59 * 1)) fun y60 => Option.bind (ixA 24 x48) fun i61 => Option.bind (ixA 24 x50) fun i62 => Option.bind (seto x51 (i61 * 24 + i62 * 1) (max y54 (min y57 y60))) fun l63 => Option.bind (chk .i64 (x50 + 1)) fun n64 => some (Sum.inl (n64, l63))) (some (Sum.inr x51))) ((0 : Int), x49)) ((fun x65 => Option.bind (chk .i64 (x48 + 1)) fun n66 => some (Sum.inl (n66, x65))))) (some (Sum.inr x49))) ((0 : Int), x47)) ((fun x67 => Option.bind (chk .i64 (x46 + 1)) fun n68 => some (Sum.inl (n68, x67))))) (some (Sum.inr x47))) ((0 : Int), h_.weights)) ((fun x69 => Option.bind (ixA 24 from_) fun i70 => Option.bind (ixA 24 to_) fun i71 => Option.bind (ixo x69 (i70 * 24 + i71 * 1)) fun y72 => cond (decide (y72 = 0)) (some (Apart.mk from_ to_)) (Option.bind (ixA 24 from_) fun i73 => Option.bind (ixA 24 to_) fun i74 => Option.bind (ixo x69 (i73 * 24 + i74 * 1)) fun y75 => none)))
def anp45 : An := .nd (.x) (.nd (.x) (.nd (.nd (.x) (.lp ⟨[(.slot 20, .d (.int .i64)), (.cell 7 0, .d (.arr .i64 576))], [7]⟩ [.exit 0 ⟨[(.cell 7 0, .d (.arr .i64 576))], [7]⟩] (.nd (.x) (.nd (.x) (.nd (.nd (.x) (.nd (.x) (.lp ⟨[(.slot 28, .d (.int .i64)), (.cell 7 0, .d (.arr .i64 576))], [7]⟩ [.exit 2 ⟨[(.cell 7 0, .d (.arr .i64 576))], [7]⟩] (.nd (.x) (.nd (.x) (.nd (.nd (.x) (.nd (.x) (.lp ⟨[(.slot 36, .d (.int .i64)), (.cell 7 0, .d (.arr .i64 576))], [7]⟩ [.exit 4 ⟨[(.cell 7 0, .d (.arr .i64 576))], [7]⟩] (.x)))) (.x))))))) (.x)))))) (.x)))
noncomputable def ctrp45 : CtrP := ⟨[.pt (.st 3), .d (.int .i64), .d (.int .i64)], (.st 4), 97, fun a => P.ring_hunt_widest_p a.1 a.2.1 a.2.2.1⟩
theorem okp45 : CtrP.ok Try.prog 45 ctrp45 := funP_ok (G := { gxb with fs := [] }) (an := anp45) (t := 72) (gx_ok trivial) Try.func45 rfl rfl rfl rfl (fun a => by kernel_rfl)
noncomputable def P.ring_Why (h_ : Hunt) (l : (List Filing)) (a : Int) (b : Int) : Option ((List Tie) × Int) := Option.bind (P.ring_open h_ l) fun (r1, r2) => cond ((!decide (r2 = 0))) (some (([] : (List Tie)), r2)) (Option.bind (r1) fun x3 => Option.bind (P.ring_hunt_two x3 a b) fun (r4, r5, r6) => cond ((!decide (r6 = 0))) (some (([] : (List Tie)), r6)) (Option.bind (r1) fun x7 => thro (P.ring_hunt_widest_p x7 r4 r5) (fun e8 => some (([] : (List Tie)), (6 : Int))) (Option.bind (r1) fun x9 => Option.bind (P.ring_hunt_widest x9 r4 r5) fun r10 => Option.bind (r1) fun x11 => thro (P.ring_hunt_chain_p x11 r4 r5 r10) (fun e12 => some (([] : (List Tie)), (6 : Int))) (Option.bind (r1) fun x13 => Option.bind (P.ring_hunt_chain x13 r4 r5 r10) fun r14 => Option.bind (cutLo r14 1) fun l15 => Option.bind (loopM (S := (Int × (List Tie))) (R := ((List Tie))) (fun (x45, x46) => cond (decide (x45 < (l15.length : Int))) (Option.bind (ixo l15 x45) fun y47 => Option.bind (r1) fun x48 => Option.bind (ixo r14 x45) fun y49 => Option.bind (ixo x48.ids y49) fun y50 => Option.bind (r1) fun x51 => Option.bind (ixo x51.ids y47) fun y52 => Option.bind (ixo r14 x45) fun y53 => Option.bind (r1) fun x54 => Option.bind (ixA 24 y53) fun i55 => Option.bind (ixA 24 y47) fun i56 => Option.bind (ixo x54.weights (i55 * 24 + i56 * 1)) fun y57 => Option.bind (appo 24 x46 ([(Tie.mk y50 y52 y57)])) fun l58 => Option.bind (chk .i64 (x45 + 1)) fun n59 => some (Sum.inl (n59, l58))) (some (Sum.inr x46))) ((0 : Int), ([] : (List Tie)))) ((fun x60 => some (x60, (0 : Int))))))))
def an17 : An := .nd (.x) (.nd (.x) (.nd (.x) (.nd (.x) (.nd (.x) (.nd (.x) (.nd (.x) (.nd (.nd (.x) (.lp ⟨[(.slot 48, .d (.int .i64)), (.cell 8 0, .own (.sl 71 (.st 2)))], [9, 8]⟩ [.exit 0 ⟨[(.cell 8 0, .own (.sl 71 (.st 2)))], [9, 8]⟩] (.x))) (.x))))))))
noncomputable def ctr17 : Ctr := ⟨[.d (.st 0), .d (.sl (.st 1)), .d (.int .i64), .d (.int .i64)], [.own (.sl 71 (.st 2)), .d (.int .i64)], fun a => P.ring_Why a.1 a.2.1 a.2.2.1 a.2.2.2.1⟩
theorem ok17 : Ctr.ok Try.prog 17 ctr17 := funD_ok (G := { gxb with fs := [(40, ctr40), (41, ctr41), (44, ctr44), (45, ctr45)], pf := [(44, ctrp44), (45, ctrp45)] }) (an := an17) (caps := [8, 9]) (t := 37) (eff := [(32, 0, .slice none 0 0), (27, 1, .int .i64 6)]) (gx_okp ⟨⟨ok40, Try.call40⟩, ⟨⟨ok41, Try.call41⟩, ⟨⟨ok44, Try.call44⟩, ⟨⟨ok45, Try.call45⟩, trivial⟩⟩⟩⟩ ⟨⟨okp44, Try.call44⟩, ⟨⟨okp45, Try.call45⟩, trivial⟩⟩) dn43 dp43 Try.call43 Try.func17 rfl rfl rfl rfl rfl rfl rfl (fun a => by kernel_rfl)
noncomputable def P.ref08_steps (h_ : Hunt) (l : (List Filing)) (from_ : Int) (strength : Int) : Option (List Int) := Option.bind (mko 8 (0 : Int) (l.length : Int)) fun l1 => Option.bind (loopM (S := (Int × (List Int))) (R := ((List Int))) (fun (x11, x12) => cond (decide (x11 < (x12.length : Int))) (Option.bind (ixo x12 x11) fun y13 => Option.bind (seto x12 x11 (-1)) fun l14 => Option.bind (chk .i64 (x11 + 1)) fun n15 => some (Sum.inl (n15, l14))) (some (Sum.inr x12))) ((0 : Int), l1)) ((fun x16 => Option.bind (ixo x16 from_) fun y17 => Option.bind (seto x16 from_ 0) fun l18 => Option.bind (loopM (S := (Int × (List Int))) (R := ((List Int))) (fun (x58, x59) => cond (decide (x58 < (l.length : Int))) (Option.bind (loopM (S := (Int × (List Int))) (R := ((List Int))) (fun (x60, x61) => cond (decide (x60 < (l.length : Int))) (Option.bind (α := ((List Int))) (Option.bind (ixo x61 x60) fun y62 => cond ((!decide (y62 = x58))) (some x61) (Option.bind (loopM (S := (Int × (List Int))) (R := ((List Int))) (fun (x63, x64) => cond (decide (x63 < (l.length : Int))) (Option.bind (α := (Bool)) (Option.bind (ixo x64 x63) fun y65 => cond (decide (y65 < 0)) (Option.bind (P.ref08_weight h_ l x60 x63) fun r66 => some (decide (strength ≤ r66))) (some false)) ((fun x67 => Option.bind (α := ((List Int))) (cond (x67) (Option.bind (chk .i64 (x58 + 1)) fun n68 => Option.bind (ixo x64 x63) fun y69 => Option.bind (seto x64 x63 n68) fun l70 => some l70) (some x64)) ((fun x71 => Option.bind (chk .i64 (x63 + 1)) fun n72 => some (Sum.inl (n72, x71))))))) (some (Sum.inr x64))) ((0 : Int), x61)) ((fun x73 => some x73)))) ((fun x74 => Option.bind (chk .i64 (x60 + 1)) fun n75 => some (Sum.inl (n75, x74))))) (some (Sum.inr x61))) ((0 : Int), x59)) ((fun x76 => Option.bind (chk .i64 (x58 + 1)) fun n77 => some (Sum.inl (n77, x76))))) (some (Sum.inr x59))) ((0 : Int), l18)) ((fun x78 => some x78))))
def an46 : An := .nd (.x) (.nd (.x) (.nd (.nd (.x) (.lp ⟨[(.slot 10, .d (.int .i64)), (.cont 16, .own (.sl 3 (.int .i64)))], [16, 4]⟩ [.exit 0 ⟨[(.cont 16, .own (.sl 3 (.int .i64)))], [16, 4]⟩] (.x))) (.nd (.x) (.nd (.nd (.x) (.lp ⟨[(.slot 11, .d (.int .i64)), (.cont 16, .own (.sl 3 (.int .i64)))], [16, 4]⟩ [.exit 2 ⟨[(.cont 16, .own (.sl 3 (.int .i64)))], [16]⟩] (.nd (.x) (.nd (.nd (.x) (.lp ⟨[(.slot 12, .d (.int .i64)), (.cont 16, .own (.sl 3 (.int .i64)))], [16, 4]⟩ [.exit 4 ⟨[(.cont 16, .own (.sl 3 (.int .i64)))], [16, 4]⟩] (.nd (.x) (.nd (.jn [.norm ⟨[(.cont 16, .own (.sl 3 (.int .i64)))], [16, 4]⟩] (.nd (.x) (.nd (.x) (.lp ⟨[(.slot 13, .d (.int .i64)), (.cont 16, .own (.sl 3 (.int .i64)))], [16, 4]⟩ [.exit 6 ⟨[(.cont 16, .own (.sl 3 (.int .i64)))], [16, 4]⟩] (.nd (.x) (.nd (.nd (.jn [.norm ⟨[(.slot 66, .d .bool)], [16, 4]⟩] (.x)) (.jn [.norm ⟨[(.cont 16, .own (.sl 3 (.int .i64)))], [16, 4]⟩] (.x))) (.x))))))) (.x))))) (.x))))) (.x)))))
noncomputable def ctr46 : Ctr := ⟨[.d (.st 0), .d (.sl (.st 1)), .d (.int .i64), .d (.int .i64)], [.own (.sl 3 (.int .i64))], fun a => P.ref08_steps a.1 a.2.1 a.2.2.1 a.2.2.2.1⟩
theorem ok46 : Ctr.ok Try.prog 46 ctr46 := fun_ok (G := { gxb with fs := [(42, ctr42)] }) (an := an46) (gx_ok ⟨⟨ok42, Try.call42⟩, trivial⟩) Try.func46 rfl rfl rfl rfl (fun a => by kernel_rfl)
noncomputable def P.ref08_Why (h_ : Hunt) (l : (List Filing)) (a : Int) (b : Int) : Option ((List Tie) × Int) := Option.bind (P.ref08_Weight h_ l a b) fun (r1, r2) => cond ((!decide (r2 = 0))) (some (([] : (List Tie)), r2)) (Option.bind (P.ref08_At l a) fun r3 => Option.bind (P.ref08_At l b) fun r4 => Option.bind (P.ref08_steps h_ l r4 (1 : Int)) fun r5 => Option.bind (ixo r5 r3) fun y6 => cond (decide (y6 < 0)) (some (([] : (List Tie)), (6 : Int))) (Option.bind (loopM (S := (Int × Int)) (R := (Int)) (fun (x19, x20) => cond (decide (x20 < (l.length : Int))) (Option.bind (loopM (S := (Int × Int)) (R := (Int)) (fun (x21, x22) => cond (decide (x22 < x20)) (Option.bind (P.ref08_weight h_ l x20 x22) fun r23 => Option.bind (α := (Bool)) (cond (decide (x21 < r23)) (Option.bind (P.ref08_steps h_ l r4 r23) fun r24 => Option.bind (ixo r24 r3) fun y25 => some (decide (0 ≤ y25))) (some false)) ((fun x26 => Option.bind (α := (Int)) (cond (x26) (some r23) (some x21)) ((fun x27 => Option.bind (chk .i64 (x22 + 1)) fun n28 => some (Sum.inl (x27, n28))))))) (some (Sum.inr x21))) (x19, (0 : Int))) ((fun x29 => Option.bind (chk .i64 (x20 + 1)) fun n30 => some (Sum.inl (x29, n30))))) (some (Sum.inr x19))) ((1 : Int), (0 : Int))) ((fun x31 => Option.bind (P.ref08_steps h_ l r4 x31) fun r32 => Option.bind (loopM (S := (Int × (List Tie))) (R := ((List Tie))) (fun (x49, x50) => cond ((!decide (x49 = r4))) (Option.bind (loopM (S := (Int × Int)) (R := (Int)) (fun (x51, x52) => cond (decide (x52 < (l.length : Int))) (Option.bind (α := (Bool)) (cond (decide (x51 < 0)) (Option.bind (ixo r32 x52) fun y53 => Option.bind (ixo r32 x49) fun y54 => Option.bind (chk .i64 (y54 - 1)) fun n55 => cond (decide (y53 = n55)) (Option.bind (P.ref08_weight h_ l x49 x52) fun r56 => some (decide (x31 ≤ r56))) (some false)) (some false)) ((fun x57 => Option.bind (α := (Int)) (cond (x57) (some x52) (some x51)) ((fun x58 => Option.bind (chk .i64 (x52 + 1)) fun n59 => some (Sum.inl (x58, n59))))))) (some (Sum.inr x51))) (((-1) : Int), (0 : Int))) ((fun x60 => Option.bind (ixo l x49) fun y61 => Option.bind (ixo l x60) fun y62 => Option.bind (P.ref08_weight h_ l x49 x60) fun r63 => Option.bind (appo 24 x50 ([(Tie.mk y61.id y62.id r63)])) fun l64 => some (Sum.inl (x60, l64))))) (some (Sum.inr x50))) (r3, ([] : (List Tie)))) ((fun x65 => some (x65, (0 : Int))))))))
def an18 : An := .nd (.x) (.nd (.x) (.nd (.x) (.nd (.x) (.nd (.x) (.nd (.nd (.x) (.lp ⟨[(.slot 14, .d (.int .i64)), (.slot 15, .d (.int .i64))], [4]⟩ [.exit 0 ⟨[(.slot 14, .d (.int .i64))], [4]⟩] (.nd (.x) (.nd (.nd (.x) (.lp ⟨[(.slot 14, .d (.int .i64)), (.slot 16, .d (.int .i64))], [4]⟩ [.exit 2 ⟨[(.slot 14, .d (.int .i64))], [4]⟩] (.nd (.x) (.nd (.nd (.x) (.nd (.jn [.norm ⟨[(.slot 76, .d .bool)], [4]⟩] (.x)) (.jn [.norm ⟨[(.slot 14, .d (.int .i64))], [4]⟩] (.x)))) (.x))))) (.x))))) (.nd (.x) (.nd (.x) (.nd (.lp ⟨[(.slot 12, .d (.int .i64)), (.slot 19, .own (.sl 71 (.st 2)))], [82, 4]⟩ [.exit 4 ⟨[(.slot 19, .own (.sl 71 (.st 2)))], []⟩] (.nd (.x) (.nd (.x) (.nd (.nd (.x) (.lp ⟨[(.slot 20, .d (.int .i64)), (.slot 21, .d (.int .i64))], [19, 82, 4]⟩ [.exit 6 ⟨[(.slot 20, .d (.int .i64))], [19, 82, 4]⟩] (.nd (.x) (.nd (.nd (.jn [.norm ⟨[(.slot 114, .d .bool)], [19, 82, 4]⟩] (.x)) (.jn [.norm ⟨[(.slot 20, .d (.int .i64))], [19, 82, 4]⟩] (.x))) (.x))))) (.x))))) (.x)))))))))
noncomputable def ctr18 : Ctr := ⟨[.d (.st 0), .d (.sl (.st 1)), .d (.int .i64), .d (.int .i64)], [.own (.sl 71 (.st 2)), .d (.int .i64)], fun a => P.ref08_Why a.1 a.2.1 a.2.2.1 a.2.2.2.1⟩
theorem ok18 : Ctr.ok Try.prog 18 ctr18 := fun_ok (G := { gxb with fs := [(16, ctr16), (38, ctr38), (42, ctr42), (46, ctr46)] }) (an := an18) (gx_ok ⟨⟨ok16, Try.call16⟩, ⟨⟨ok38, Try.call38⟩, ⟨⟨ok42, Try.call42⟩, ⟨⟨ok46, Try.call46⟩, trivial⟩⟩⟩⟩) Try.func18 rfl rfl rfl rfl (fun a => by kernel_rfl)
noncomputable def P.ref08_SameTies (a : (List Tie)) (b : (List Tie)) : Option Bool := cond ((!decide ((a.length : Int) = (b.length : Int)))) (some false) (Option.bind (loopM (S := (Int)) (R := (Unit ⊕ Bool)) (fun x5 => cond (decide (x5 < (a.length : Int))) (Option.bind (ixo a x5) fun y6 => Option.bind (ixo b x5) fun y7 => cond ((!decide (y6 = y7))) (some (Sum.inr (Sum.inr false))) (Option.bind (chk .i64 (x5 + 1)) fun n8 => some (Sum.inl n8))) (some (Sum.inr (Sum.inl ())))) (0 : Int)) ((Sum.elim (fun _ => some true) (fun r9 => some r9))))
def an21 : An := .nd (.x) (.nd (.x) (.nd (.nd (.x) (.lp ⟨[(.slot 5, .d (.int .i64))], []⟩ [.exit 0 ⟨[], []⟩, .ret] (.x))) (.x)))
noncomputable def ctr21 : Ctr := ⟨[.d (.sl (.st 2)), .d (.sl (.st 2))], [.d .bool], fun a => P.ref08_SameTies a.1 a.2.1⟩
theorem ok21 : Ctr.ok Try.prog 21 ctr21 := fun_ok (G := { gxb with fs := [] }) (an := an21) (gx_ok trivial) Try.func21 rfl rfl rfl rfl (fun a => by kernel_rfl)
noncomputable def P.ref08_SameInts (a : (List Int)) (b : (List Int)) : Option Bool := cond ((!decide ((a.length : Int) = (b.length : Int)))) (some false) (Option.bind (loopM (S := (Int)) (R := (Unit ⊕ Bool)) (fun x5 => cond (decide (x5 < (a.length : Int))) (Option.bind (ixo a x5) fun y6 => Option.bind (ixo b x5) fun y7 => cond ((!decide (y6 = y7))) (some (Sum.inr (Sum.inr false))) (Option.bind (chk .i64 (x5 + 1)) fun n8 => some (Sum.inl n8))) (some (Sum.inr (Sum.inl ())))) (0 : Int)) ((Sum.elim (fun _ => some true) (fun r9 => some r9))))
def an30 : An := .nd (.x) (.nd (.x) (.nd (.nd (.x) (.lp ⟨[(.slot 5, .d (.int .i64))], []⟩ [.exit 0 ⟨[], []⟩, .ret] (.x))) (.x)))
noncomputable def ctr30 : Ctr := ⟨[.d (.sl (.int .i64)), .d (.sl (.int .i64))], [.d .bool], fun a => P.ref08_SameInts a.1 a.2.1⟩
theorem ok30 : Ctr.ok Try.prog 30 ctr30 := fun_ok (G := { gxb with fs := [] }) (an := an30) (gx_ok trivial) Try.func30 rfl rfl rfl rfl (fun a => by kernel_rfl)
noncomputable def P.ref08_Same (a : (List Filing)) (b : (List Filing)) : Option Bool := cond ((!decide ((a.length : Int) = (b.length : Int)))) (some false) (Option.bind (loopM (S := (Int)) (R := (Unit ⊕ Bool)) (fun x11 => cond (decide (x11 < (a.length : Int))) (Option.bind (α := (Bool)) (Option.bind (ixo a x11) fun y12 => Option.bind (ixo b x11) fun y13 => cond ((!decide (y12.id = y13.id))) (some true) (Option.bind (ixo a x11) fun y14 => Option.bind (ixo b x11) fun y15 => cond ((!decide (y14.day = y15.day))) (some true) (Option.bind (ixo a x11) fun y16 => Option.bind (ixo b x11) fun y17 => Option.bind (P.ref08_SameInts y16.parts y17.parts) fun r18 => some (!r18)))) ((fun x19 => cond (x19) (some (Sum.inr (Sum.inr false))) (Option.bind (chk .i64 (x11 + 1)) fun n20 => some (Sum.inl n20))))) (some (Sum.inr (Sum.inl ())))) (0 : Int)) ((Sum.elim (fun _ => some true) (fun r21 => some r21))))
def an22 : An := .nd (.x) (.nd (.x) (.nd (.nd (.x) (.lp ⟨[(.slot 5, .d (.int .i64))], []⟩ [.exit 0 ⟨[], []⟩, .ret] (.nd (.x) (.nd (.nd (.jn [.norm ⟨[(.slot 54, .d .bool)], []⟩] (.x)) (.x)) (.x))))) (.x)))
noncomputable def ctr22 : Ctr := ⟨[.d (.sl (.st 1)), .d (.sl (.st 1))], [.d .bool], fun a => P.ref08_Same a.1 a.2.1⟩
theorem ok22 : Ctr.ok Try.prog 22 ctr22 := fun_ok (G := { gxb with fs := [(30, ctr30)] }) (an := an22) (gx_ok ⟨⟨ok30, Try.call30⟩, trivial⟩) Try.func22 rfl rfl rfl rfl (fun a => by kernel_rfl)
noncomputable def P.law08_RingWeights (h_ : Hunt) (l : (List Filing)) (a : Int) (b : Int) : Option Bool := Option.bind (P.ref08_Great l) fun r1 => cond (r1) (some true) (Option.bind (P.ref08_Twin l) fun r2 => Option.bind (P.ring_Weight h_ r2 a b) fun (r3, r4) => Option.bind (P.ref08_Weight h_ l a b) fun (r5, r6) => Option.bind (P.ring_Why h_ r2 a b) fun (r7, r8) => Option.bind (P.ref08_Why h_ l a b) fun (r9, r10) => Option.bind (α := (Bool)) (Option.bind (P.ring_Check h_ r2) fun r15 => Option.bind (P.ref08_Check h_ l) fun r16 => cond (decide (r15 = r16)) (cond (decide (r3 = r5)) (cond (decide (r4 = r6)) (Option.bind (P.ref08_SameTies r7 r9) fun r17 => cond (r17) (cond (decide (r8 = r10)) (Option.bind (P.ref08_Same r2 l) fun r18 => some r18) (some false)) (some false)) (some false)) (some false)) (some false)) ((fun x19 => some x19)))
def an3 : An := .nd (.x) (.nd (.x) (.nd (.x) (.nd (.x) (.nd (.x) (.nd (.x) (.nd (.x) (.nd (.jn [.norm ⟨[(.slot 8, .d .bool)], []⟩] (.x)) (.x))))))))
noncomputable def ctr3 : Ctr := ⟨[.d (.st 0), .d (.sl (.st 1)), .d (.int .i64), .d (.int .i64)], [.d .bool], fun a => P.law08_RingWeights a.1 a.2.1 a.2.2.1 a.2.2.2.1⟩
theorem ok3 : Ctr.ok Try.prog 3 ctr3 := fun_ok (G := { gxb with fs := [(13, ctr13), (14, ctr14), (15, ctr15), (16, ctr16), (17, ctr17), (18, ctr18), (19, ctr19), (20, ctr20), (21, ctr21), (22, ctr22)] }) (an := an3) (gx_ok ⟨⟨ok13, Try.call13⟩, ⟨⟨ok14, Try.call14⟩, ⟨⟨ok15, Try.call15⟩, ⟨⟨ok16, Try.call16⟩, ⟨⟨ok17, Try.call17⟩, ⟨⟨ok18, Try.call18⟩, ⟨⟨ok19, Try.call19⟩, ⟨⟨ok20, Try.call20⟩, ⟨⟨ok21, Try.call21⟩, ⟨⟨ok22, Try.call22⟩, trivial⟩⟩⟩⟩⟩⟩⟩⟩⟩⟩) Try.func3 rfl rfl rfl rfl (fun a => by kernel_rfl)
end Go.Proofs.Ytdbogmmdogjhpaa
set_option maxRecDepth 20000
set_option maxHeartbeats 1000000
set_option linter.unusedVariables false
set_option linter.unusedSimpArgs false
namespace Go.Sx
/-- A loop that counts up to N. -/
theorem Ret.upto {S R : Type} {body : S → Option (S ⊕ R)} {s0 : S} {Q : R → Prop} (N : Nat) (I : Nat → S → Prop) (h0 : I 0 s0) (step : ∀ n < N, ∀ s, I n s → Ret (body s) (Nxt (I (n + 1)) Q)) (fin : ∀ s, I N s → Ret (body s) (Nxt (fun _ => False) Q)) : Ret (loopM body s0) Q := by
  have key : ∀ (m n : Nat) (s : S), n + m = N → I n s → Ret (loopM body s) Q := by
    intro m
    induction m with
    | zero =>
      intro n s hn hs
      have : n = N := by omega
      subst this
      obtain ⟨r, h1, h2⟩ := fin s hs
      cases r with
      | inl s' => exact h2.elim
      | inr r => exact ⟨r, loopM_end h1, h2⟩
    | succ m ih =>
      intro n s hn hs
      obtain ⟨r, h1, h2⟩ := step n (by omega) s hs
      cases r with
      | inl s' => rw [loopM_go h1]; exact ih (n + 1) s' (by omega) h2
      | inr r => exact ⟨r, loopM_end h1, h2⟩
  exact key N 0 s0 (by omega) h0
theorem Ret.bindM {α β : Type} {o : Option α} {K : α → Option β} {Q' : α → Prop} {Q : β → Prop} (h : Ret o Q') (hk : ∀ a, Q' a → Ret (K a) Q) : Ret (Option.bind o K) Q := Ret.bind (h.mono hk)
theorem Ret.quoO {x y : Int} {Q : Int → Prop} (h0 : 0 ≤ x) (h1 : 0 < y) (h2 : x ≤ 9223372036854775807) (q : Q (x / y)) : Ret (quoO .i64 x y) Q := ⟨_, by unfold Sx.quoO; rw [if_pos ⟨h0, h1, InK.i64.2 (by omega)⟩], q⟩
end Go.Sx
namespace Go.Proofs.Ytdbogmmdogjhpaa
open Go Go.Sx
theorem drop_cons {α : Type} {l : List α} {n : Nat} (h : n < l.length) : l.drop n = l[n] :: l.drop (n + 1) := List.drop_eq_getElem_cons h
theorem take_succ {α : Type} {l : List α} {n : Nat} (h : n < l.length) : l.take (n + 1) = l.take n ++ [l[n]] := by
  rw [List.take_add_one, List.getElem?_eq_getElem h]; rfl
theorem ixR {α : Type} {l : List α} {n : Nat} {Q : α → Prop} (h : n < l.length) (q : Q l[n]) : Ret (ixo l (n : Int)) Q := Ret.ixo (List.getElem?_eq_getElem h) q
theorem ixP {α : Type} {l : List α} {n : Nat} {Q : α → Prop} (h : n < l.length) (h0 : 0 < n) (q : Q l[n - 1]) : Ret (ixo l ((n : Int) - 1)) Q := by
  have : ((n : Int) - 1) = ((n - 1 : Nat) : Int) := by omega
  rw [this]; exact ixR (by omega) q
namespace S
def inB (lo hi x : Int) : Bool := decide (lo ≤ x ∧ x ≤ hi)
/-- Numbers from 0 to MaxId, each above the one before. -/
def rB : Int → List Int → Bool
  | _, [] => true
  | last, x :: xs => inB (last + 1) 999999 x && rB x xs
def gB (f : Filing) : Bool := inB 0 100000 f.day && decide (f.parts.length ≤ 6) && rB (-1) f.parts
def fB : Int → List Filing → Bool
  | _, [] => true
  | last, f :: fs => inB (last + 1) 999999 f.id && gB f && fB f.id fs
def hB (h : Hunt) : Bool := inB 0 100000 h.window && inB 2 24 h.common && inB 2 24 h.size
def check (h : Hunt) (l : List Filing) : Int := if hB h then (if decide (l.length ≤ 24) && fB (-1) l then 0 else 81) else 80
def idx (xs : List Int) (v : Int) : Int := if v ∈ xs then (xs.idxOf v : Nat) else -1
def great (l : List Filing) : Bool := decide (30 < l.length) || l.any fun f => decide (20 < f.parts.length)
end S
open S
/-! Loops over lists: what is found. -/
theorem r_Great (l : List Filing) : Ret (P.ref08_Great l) (· = great l) := by
  unfold P.ref08_Great
  refine Ret.cond (fun h => Ret.ok ?_) (fun h => ?_)
  · have := of_decide_eq_true h
    simp [great]; left; omega
  have h30 : ¬ 30 < l.length := by have := of_decide_eq_false h; omega
  refine Ret.bindM (Q' := fun r => r = if l.any (fun f => decide (20 < f.parts.length)) then Sum.inr true else Sum.inl ()) (Ret.upto l.length (fun n (s : Int) => s = n ∧ (l.take n).any (fun f => decide (20 < f.parts.length)) = false) ⟨rfl, by simp⟩ ?_ ?_) ?_
  · rintro n hn s ⟨rfl, hI⟩
    refine Ret.condT (lt_cast hn) (Ret.bind (ixR hn ?_))
    refine Ret.cond (fun h => Ret.done ?_) (fun h => Ret.bind (Ret.chk (by omega) (Ret.next ⟨rfl, ?_⟩)))
    · have := of_decide_eq_true h
      rw [if_pos]
      exact List.any_eq_true.2 ⟨l[n], List.getElem_mem hn, decide_eq_true (by omega)⟩
    · rw [take_succ hn, List.any_append, hI]
      have := of_decide_eq_false h
      simp; omega
  · rintro s ⟨rfl, hI⟩
    rw [List.take_length] at hI
    exact Ret.condF not_lt_cast (Ret.done (by rw [hI]; rfl))
  · rintro r rfl
    simp only [great, h30, decide_false, Bool.false_or]
    cases l.any (fun f => decide (20 < f.parts.length)) with
    | true => exact Ret.ok rfl
    | false => exact Ret.ok rfl
theorem great_out {l : List Filing} (h : great l = false) : l.length ≤ 30 ∧ ∀ f ∈ l, f.parts.length ≤ 20 := by
  simp only [great, Bool.or_eq_false_iff, decide_eq_false_iff_not, List.any_eq_false, decide_eq_true_eq] at h
  exact ⟨by omega, fun f hf => by have := h.2 f hf; omega⟩
theorem r_Twin {l : List Filing} (hl : l.length ≤ 30) (hp : ∀ f ∈ l, f.parts.length ≤ 20) : Ret (P.ref08_Twin l) (· = l) := by
  unfold P.ref08_Twin
  refine Ret.bind (Ret.appo (by simp; omega) (by simp; omega) ?_)
  rw [List.nil_append]
  refine Ret.bindM (Q' := (· = l)) (Ret.upto l.length (fun n (s : Int × List Filing) => s = ((n : Int), l)) rfl ?_ ?_) fun r hr => Ret.ok hr
  · rintro n hn s rfl
    dsimp only
    have hpn := hp l[n] (List.getElem_mem hn)
    refine Ret.condT (lt_cast hn) (Ret.bind (ixR hn (Ret.bind (Ret.appo (by simp; omega) (by simp; omega) (Ret.bind (ixR hn (Ret.bind (Ret.seto hn (Ret.bind (Ret.chk (by omega) (Ret.next ?_)))))))))))
    rw [List.nil_append]
    show _ = (((n + 1 : Nat) : Int), l)
    congr 1
    exact List.set_getElem_self hn
  · rintro s rfl
    exact Ret.condF not_lt_cast (Ret.done rfl)
theorem r_IndexFunc {s : List Int} {f : Int → Option Bool} (g : Int → Bool) (hf : ∀ x ∈ s, Ret (f x) (· = g x)) (hs : s.length < 9223372036854775807) : Ret (P.slices_IndexFunc_73 s f) fun r => decide (0 ≤ r) = s.any g := by
  unfold P.slices_IndexFunc_73
  refine Ret.bindM (Q' := fun r => (∃ n : Nat, r = Sum.inr (n : Int) ∧ s.any g = true) ∨ (r = Sum.inl () ∧ s.any g = false)) (Ret.upto s.length (fun n (i : Int) => i = n ∧ (s.take n).any g = false) ⟨rfl, by simp⟩ ?_ ?_) ?_
  · rintro n hn i ⟨rfl, hI⟩
    refine Ret.condT (lt_cast hn) (Ret.bind (ixR hn (Ret.bindM (hf _ (List.getElem_mem hn)) ?_)))
    rintro _ rfl
    refine Ret.cond (fun h => Ret.done (.inl ⟨n, rfl, List.any_eq_true.2 ⟨_, List.getElem_mem hn, h⟩⟩)) (fun h => Ret.bind (Ret.chk (by omega) (Ret.next ⟨rfl, ?_⟩)))
    rw [take_succ hn, List.any_append, hI]
    simpa using h
  · rintro i ⟨rfl, hI⟩
    rw [List.take_length] at hI
    exact Ret.condF not_lt_cast (Ret.done (.inr ⟨rfl, hI⟩))
  · rintro r (⟨n, rfl, h⟩ | ⟨rfl, h⟩)
    · exact Ret.elimR (Ret.ok (by rw [h]; exact decide_eq_true (by omega)))
    · exact Ret.elimL (Ret.ok (by rw [h]; rfl))
theorem r_ContainsFunc {s : List Int} {f : Int → Option Bool} (g : Int → Bool) (hf : ∀ x ∈ s, Ret (f x) (· = g x)) (hs : s.length < 9223372036854775807) : Ret (P.slices_ContainsFunc_59 s f) (· = s.any g) :=
  Ret.bindM (r_IndexFunc g hf hs) fun r h => Ret.ok h
theorem r_in {lo hi : Int} {all : List Int} (hs : all.length < 9223372036854775807) : Ret (P.ring_in lo hi all) (· = all.all (inB lo hi)) := by
  unfold P.ring_in
  refine Ret.bindM (r_ContainsFunc (fun x => !inB lo hi x) (fun x _ => ?_) hs) ?_
  · unfold P.ring_in_in1
    refine Ret.bind (Ret.cond (fun h => Ret.ok (Ret.ok ?_)) (fun h => Ret.ok (Ret.ok ?_)))
    · have := of_decide_eq_true h
      simp only [inB, Bool.eq_not_of_ne]
      symm; rw [Bool.not_eq_true', decide_eq_false_iff_not]; omega
    · have := of_decide_eq_false h
      simp only [inB]
      rw [Bool.eq_iff_iff, Bool.not_eq_true', decide_eq_true_eq, decide_eq_false_iff_not]; omega
  · rintro r rfl
    refine Ret.ok ?_
    rw [List.any_eq_not_all_not]
    simp
theorem r_in1 {lo hi x : Int} {Q : Bool → Prop} (q : Q (inB lo hi x)) : Ret (P.ring_in lo hi [x]) Q := (r_in (by simp)).mono fun r h => by subst h; simpa using q
theorem r_rising {l : List Int} (hl : l.length < 9223372036854775807) : Ret (P.ring_rising l) (· = rB (-1) l) := by
  unfold P.ring_rising
  refine Ret.bindM (Q' := fun r => r = if rB (-1) l then Sum.inl () else Sum.inr false) (Ret.upto l.length (fun n (s : Int × Int) => s.2 = n ∧ (-1 ≤ s.1 ∧ s.1 ≤ 999999) ∧ rB (-1) l = rB s.1 (l.drop n)) ⟨rfl, by decide, by simp⟩ ?_ ?_) ?_
  · rintro n hn ⟨a, _⟩ ⟨rfl, ha, hI⟩
    dsimp only at ha hI ⊢
    rw [drop_cons hn] at hI
    refine Ret.condT (lt_cast hn) (Ret.bind (ixR hn (Ret.bind (Ret.chk (by omega) (Ret.bind (r_in1 ?_))))))
    cases hb : inB (a + 1) 999999 l[n] with
    | false =>
      refine Ret.condT rfl (Ret.done ?_)
      rw [hI, rB, hb]; rfl
    | true =>
      have hb2 := of_decide_eq_true (show decide _ = true from hb)
      refine Ret.condF rfl (Ret.bind (Ret.chk (by omega) (Ret.next ⟨rfl, by dsimp only; omega, ?_⟩)))
      rw [hI, rB, hb, Bool.true_and]
  · rintro ⟨a, _⟩ ⟨rfl, ha, hI⟩
    dsimp only at hI ⊢
    rw [List.drop_length] at hI
    exact Ret.condF not_lt_cast (Ret.done (by rw [hI]; rfl))
  · rintro r rfl
    cases rB (-1) l with
    | true => exact Ret.elimL (Ret.ok rfl)
    | false => exact Ret.elimR (Ret.ok rfl)
theorem fB_split : ∀ (last : Int) (l : List Filing), fB last l = (l.all gB && rB last (l.map (·.id)))
  | _, [] => rfl
  | last, f :: fs => by
    rw [fB, fB_split f.id fs, List.all_cons, List.map_cons, rB]
    cases inB (last + 1) 999999 f.id <;> cases gB f <;> cases fs.all gB <;> rfl
theorem r_ringCheck {h : Hunt} {l : List Filing} (hl : l.length ≤ 30) (hp : ∀ f ∈ l, f.parts.length ≤ 20) : Ret (P.ring_Check h l) (· = check h l) := by
  unfold P.ring_Check
  refine Ret.bindM (Q' := fun b => b = !hB h) ?_ ?_
  · refine Ret.bind (r_in1 ?_)
    cases hb : inB 0 100000 h.window with
    | false => exact Ret.condT rfl (Ret.ok (by simp [hB, hb]))
    | true => exact Ret.condF rfl (Ret.bind ((r_in (by simp)).mono fun r hr => Ret.ok (by rw [hr]; simp [hB, hb])))
  rintro _ rfl
  cases hh : hB h with
  | false => exact Ret.condT rfl (Ret.ok (by simp [check, hh]))
  | true =>
  refine Ret.condF rfl ?_
  simp only [check, hh, if_true]
  refine Ret.bindM (Q' := fun r => r = if l.all gB then Sum.inl (l.map (·.id)) else Sum.inr 81) (Ret.upto l.length (fun n (s : Int × List Int) => s = ((n : Int), (l.take n).map (·.id)) ∧ (l.take n).all gB = true) ⟨rfl, rfl⟩ ?_ ?_) ?_
  · rintro n hn _ ⟨rfl, hI⟩
    dsimp only
    have hpn := hp l[n] (List.getElem_mem hn)
    refine Ret.condT (lt_cast hn) (Ret.bind (ixR hn (Ret.bind (Ret.appo (by simp; omega) (by simp; omega) ?_))))
    refine Ret.bindM (Q' := fun b => b = !gB l[n]) ?_ ?_
    · refine Ret.bind (r_in1 ?_)
      cases hb : inB 0 100000 l[n].day with
      | false => exact Ret.condT rfl (Ret.ok (by simp [gB, hb]))
      | true =>
        refine Ret.condF rfl (Ret.cond (fun h6 => Ret.ok ?_) (fun h6 => Ret.bind ((r_rising (by omega)).mono fun r hr => Ret.ok ?_)))
        · have := of_decide_eq_true h6
          have h7 : ¬ l[n].parts.length ≤ 6 := by omega
          simp [gB, h7]
        · have := of_decide_eq_false h6
          have h7 : l[n].parts.length ≤ 6 := by omega
          subst hr
          simp [gB, hb, h7]
    rintro _ rfl
    cases hg : gB l[n] with
    | false =>
      refine Ret.condT rfl (Ret.done ?_)
      rw [if_neg]
      intro hall
      rw [List.all_eq_true] at hall
      rw [hall _ (List.getElem_mem hn)] at hg; cases hg
    | true =>
      refine Ret.condF rfl (Ret.bind (Ret.chk (by omega) (Ret.next ⟨?_, ?_⟩)))
      · rw [take_succ hn, List.map_append]; rfl
      · rw [take_succ hn, List.all_append, hI]; simp [hg]
  · rintro _ ⟨rfl, hI⟩
    dsimp only
    rw [List.take_length] at hI ⊢
    exact Ret.condF not_lt_cast (Ret.done (by rw [hI]; rfl))
  · rintro r rfl
    rw [fB_split]
    cases hg : l.all gB with
    | false => exact Ret.elimR (Ret.ok (by simp))
    | true =>
      refine Ret.elimL (Ret.bindM (Q' := fun b => b = !(decide (l.length ≤ 24) && rB (-1) (l.map (·.id)))) (Ret.cond (fun h24 => Ret.ok ?_) (fun h24 => Ret.bind ((r_rising (by simp; omega)).mono fun r hr => Ret.ok ?_))) ?_)
      · have := of_decide_eq_true h24
        have h7 : ¬ l.length ≤ 24 := by omega
        simp [h7]
      · have := of_decide_eq_false h24
        have h7 : l.length ≤ 24 := by omega
        simp [hr, h7]
      · rintro _ rfl
        cases hd : (decide (l.length ≤ 24) && rB (-1) (l.map (·.id))) with
        | false => exact Ret.condT rfl (Ret.ok (by simp [hd]))
        | true => exact Ret.condF rfl (Ret.ok (by simp [hd]))
theorem r_within (n lo hi : Int) : Ret (P.ref08_within n lo hi) (· = inB lo hi n) := by
  unfold P.ref08_within
  refine Ret.bind (Ret.cond (fun h => Ret.ok (Ret.ok ?_)) (fun h => Ret.ok (Ret.ok ?_)))
  · have := of_decide_eq_true h; simp [inB, this]
  · have := of_decide_eq_false h; simp [inB, this]
theorem r_within1 {n lo hi : Int} {Q : Bool → Prop} (q : Q (inB lo hi n)) : Ret (P.ref08_within n lo hi) Q := (r_within n lo hi).mono fun r h => by subst h; exact q
/-- What was before. -/
def prv (xs : List Int) (n : Nat) : Int := if n = 0 then -1 else xs.getD (n - 1) (-1)
theorem prv_succ {xs : List Int} {n : Nat} (h : n < xs.length) : prv xs (n + 1) = xs[n] := by simp [prv, h]
theorem rB_le {last : Int} {x : Int} : inB (last + 1) 999999 x = true → x ≤ 999999 := fun h => (of_decide_eq_true (show decide _ = true from h)).2
theorem r_refCheck {h : Hunt} {l : List Filing} (hl : l.length ≤ 30) (hp : ∀ f ∈ l, f.parts.length ≤ 20) : Ret (P.ref08_Check h l) (· = check h l) := by
  unfold P.ref08_Check
  refine Ret.bindM (Q' := fun b => b = !hB h) ?_ ?_
  · refine Ret.bind (r_within1 ?_)
    cases hb : inB 0 100000 h.window with
    | false => exact Ret.condT rfl (Ret.ok (by simp [hB, hb]))
    | true =>
      refine Ret.condF rfl (Ret.bind (r_within1 ?_))
      cases hc : inB 2 24 h.common with
      | false => exact Ret.condT rfl (Ret.ok (by simp [hB, hc]))
      | true => exact Ret.condF rfl (Ret.bind (r_within1 (Ret.ok (by simp [hB, hb, hc]))))
  rintro _ rfl
  cases hh : hB h with
  | false => exact Ret.condT rfl (Ret.ok (by simp [check, hh]))
  | true =>
  refine Ret.condF rfl ?_
  simp only [check, hh, if_true]
  refine Ret.cond (fun h24 => Ret.ok ?_) (fun h24 => ?_)
  · have := of_decide_eq_true h24
    have h7 : ¬ l.length ≤ 24 := by omega
    simp [h7]
  have h7 : l.length ≤ 24 := by have := of_decide_eq_false h24; omega
  simp only [h7, decide_true, Bool.true_and]
  refine Ret.bindM (Q' := fun r => r = if fB (-1) l then Sum.inl () else Sum.inr 81) (Ret.upto l.length (fun n (s : Int) => s = (n : Int) ∧ -1 ≤ prv (l.map (·.id)) n ∧ fB (-1) l = fB (prv (l.map (·.id)) n) (l.drop n)) ⟨rfl, by simp [prv], by simp [prv]⟩ ?_ ?_) ?_
  · rintro n hn _ ⟨rfl, hq, hI⟩
    have hpn := hp l[n] (List.getElem_mem hn)
    rw [drop_cons hn, fB] at hI
    have hnx : prv (l.map (·.id)) (n + 1) = l[n].id := by rw [prv_succ (by simpa using hn)]; simp
    have hqq : 0 < n → prv (l.map (·.id)) n = l[n - 1].id := fun h0 => by
      obtain ⟨m, rfl⟩ : ∃ m, n = m + 1 := ⟨n - 1, by omega⟩
      rw [prv_succ (by simp; omega)]; simp
    have hq0 : n = 0 → prv (l.map (·.id)) n = -1 := fun h => by simp [prv, h]
    generalize prv (l.map (·.id)) n = q at *
    refine Ret.condT (lt_cast hn) (Ret.bind (ixR hn ?_))
    refine Ret.bindM (Q' := fun b => b = !(inB (q + 1) 999999 l[n].id && (inB 0 100000 l[n].day && decide (l[n].parts.length ≤ 6)))) ?_ ?_
    · have e1 : inB 0 100000 l[n].day = false → ((!(inB 0 100000 l[n].day && decide (l[n].parts.length ≤ 6))) = true) := fun h => by simp [h]
      have e2 : inB 0 100000 l[n].day = true → (decide (6 < (l[n].parts.length : Int)) = !(inB 0 100000 l[n].day && decide (l[n].parts.length ≤ 6))) := fun h => by
        rw [h, Bool.true_and, Bool.eq_iff_iff, Bool.not_eq_true', decide_eq_true_eq, decide_eq_false_iff_not]; omega
      refine Ret.bind (r_within1 ?_)
      cases hb : inB 0 999999 l[n].id with
      | false =>
        refine Ret.condT rfl (Ret.ok ?_)
        have h1 : inB (q + 1) 999999 l[n].id = false := by
          simp only [inB, decide_eq_false_iff_not] at hb ⊢; omega
        simp [h1]
      | true =>
        have hb := of_decide_eq_true (show decide _ = true from hb)
        refine Ret.condF rfl (Ret.cond (fun h0 => ?_) (fun h0 => ?_))
        · have h0 : 0 < n := by have := of_decide_eq_true h0; omega
          refine Ret.bind (Ret.chk (by omega) (Ret.bind (ixP hn h0 (Ret.cond (fun hle => Ret.ok ?_) (fun hle => ?_)))))
          · have := of_decide_eq_true hle
            have h1 : inB (q + 1) 999999 l[n].id = false := by
              have := hqq h0
              simp only [inB, decide_eq_false_iff_not]; omega
            simp [h1]
          · have hle := of_decide_eq_false hle
            have h1 : inB (q + 1) 999999 l[n].id = true := by
              have := hqq h0
              simp only [inB, decide_eq_true_eq]; omega
            rw [h1, Bool.true_and]
            refine Ret.bind (r_within1 ?_)
            cases hd : inB 0 100000 l[n].day with
            | false => exact Ret.condT rfl (Ret.ok (by simp))
            | true => exact Ret.condF rfl (Ret.ok (by rw [← hd]; exact e2 hd))
        · have h0 : n = 0 := by have := of_decide_eq_false h0; omega
          have h1 : inB (q + 1) 999999 l[n].id = true := by
            have := hq0 h0
            simp only [inB, decide_eq_true_eq]; omega
          rw [h1, Bool.true_and]
          refine Ret.bind (r_within1 ?_)
          cases hd : inB 0 100000 l[n].day with
          | false => exact Ret.condT rfl (Ret.ok (by simp))
          | true => exact Ret.condF rfl (Ret.ok (by rw [← hd]; exact e2 hd))
    rintro _ rfl
    cases ha : (inB (q + 1) 999999 l[n].id && (inB 0 100000 l[n].day && decide (l[n].parts.length ≤ 6))) with
    | false =>
      refine Ret.condT rfl (Ret.done ?_)
      rw [hI, if_neg]
      rw [gB]
      intro hx
      simp only [Bool.and_eq_true] at hx
      rw [hx.1.1, hx.1.2.1.1, hx.1.2.1.2] at ha; cases ha
    | true =>
      simp only [Bool.and_eq_true] at ha
      have hid := rB_le ha.1
      refine Ret.condF rfl ?_
      refine Ret.bindM (Q' := fun r => r = if rB (-1) l[n].parts then Sum.inl () else Sum.inr 81) (Ret.upto l[n].parts.length (fun k (s : Int) => s = (k : Int) ∧ -1 ≤ prv l[n].parts k ∧ rB (-1) l[n].parts = rB (prv l[n].parts k) (l[n].parts.drop k)) ⟨rfl, by simp [prv], by simp [prv]⟩ ?_ ?_) ?_
      · rintro k hk _ ⟨rfl, hq2, hJ⟩
        have hnx2 : prv l[n].parts (k + 1) = l[n].parts[k] := prv_succ hk
        have hqq2 : 0 < k → prv l[n].parts k = l[n].parts[k - 1] := fun h0 => by
          obtain ⟨m, rfl⟩ : ∃ m, k = m + 1 := ⟨k - 1, by omega⟩
          rw [prv_succ (by omega)]; simp
        have hq02 : k = 0 → prv l[n].parts k = -1 := fun h => by simp [prv, h]
        rw [drop_cons hk, rB] at hJ
        generalize prv l[n].parts k = p at *
        refine Ret.condT (lt_cast hk) (Ret.bindM (Q' := fun b => b = !inB (p + 1) 999999 l[n].parts[k]) ?_ ?_)
        · refine Ret.bind (ixR hk (Ret.bind (r_within1 ?_)))
          cases hb : inB 0 999999 l[n].parts[k] with
          | false =>
            refine Ret.condT rfl (Ret.ok ?_)
            simp only [inB, decide_eq_false_iff_not] at hb
            symm; simp only [inB, Bool.not_eq_true', decide_eq_false_iff_not]; omega
          | true =>
            have hb := of_decide_eq_true (show decide _ = true from hb)
            refine Ret.condF rfl (Ret.cond (fun h0 => ?_) (fun h0 => Ret.ok ?_))
            · have h0 : 0 < k := by have := of_decide_eq_true h0; omega
              refine Ret.bind (ixR hk (Ret.bind (Ret.chk (by omega) (Ret.bind (ixP hk h0 (Ret.ok ?_))))))
              have := hqq2 h0
              rw [Bool.eq_iff_iff]
              simp only [inB, Bool.not_eq_true', decide_eq_true_eq, decide_eq_false_iff_not]; omega
            · have h0 : k = 0 := by have := of_decide_eq_false h0; omega
              have := hq02 h0
              symm; simp only [inB, Bool.not_eq_false', decide_eq_true_eq]; omega
        · rintro _ rfl
          cases hb : inB (p + 1) 999999 l[n].parts[k] with
          | false => exact Ret.condT rfl (Ret.done (by rw [hJ, hb]; rfl))
          | true =>
            have hb2 := of_decide_eq_true (show decide _ = true from hb)
            refine Ret.condF rfl (Ret.bind (Ret.chk (by omega) (Ret.next ⟨rfl, ?_, ?_⟩)))
            · rw [hnx2]; omega
            · rw [hJ, hb, hnx2, Bool.true_and]
      · rintro _ ⟨rfl, _, hJ⟩
        rw [List.drop_length] at hJ
        exact Ret.condF not_lt_cast (Ret.done (by rw [hJ]; rfl))
      · rintro r rfl
        cases hg : rB (-1) l[n].parts with
        | false =>
          refine Ret.elimR (Ret.done ?_)
          rw [hI]; simp [gB, hg]
        | true =>
          refine Ret.elimL (Ret.bind (Ret.chk (by omega) (Ret.next ⟨rfl, ?_, ?_⟩)))
          · have := of_decide_eq_true (show decide _ = true from ha.1)
            rw [hnx]; omega
          · rw [hI, hnx]; simp [gB, hg, ha.1, ha.2.1, of_decide_eq_true ha.2.2]
  · rintro _ ⟨rfl, _, hI⟩
    rw [List.drop_length] at hI
    exact Ret.condF not_lt_cast (Ret.done (by rw [hI]; rfl))
  · rintro r rfl
    cases fB (-1) l with
    | false => exact Ret.elimR (Ret.ok rfl)
    | true => exact Ret.elimL (Ret.ok rfl)
end Go.Proofs.Ytdbogmmdogjhpaa
set_option maxRecDepth 20000
set_option maxHeartbeats 1000000
set_option linter.unusedVariables false
set_option linter.unusedSimpArgs false
namespace Go.Proofs.Ytdbogmmdogjhpaa
open Go Go.Sx
namespace S
structure Vd (h : Hunt) (l : List Filing) : Prop where
  win : 0 ≤ h.window ∧ h.window ≤ 100000
  com : 2 ≤ h.common ∧ h.common ≤ 24
  siz : 2 ≤ h.size ∧ h.size ≤ 24
  len : l.length ≤ 24
  ids : (l.map (·.id)).Pairwise (· < ·)
  idr : ∀ f ∈ l, 0 ≤ f.id ∧ f.id ≤ 999999
  day : ∀ f ∈ l, 0 ≤ f.day ∧ f.day ≤ 100000
  prl : ∀ f ∈ l, f.parts.length ≤ 6
  prt : ∀ f ∈ l, f.parts.Pairwise (· < ·)
  prr : ∀ f ∈ l, ∀ p ∈ f.parts, 0 ≤ p ∧ p ≤ 999999
theorem inB_iff {lo hi x : Int} : inB lo hi x = true ↔ lo ≤ x ∧ x ≤ hi := by simp [inB]
theorem rB_iff : ∀ {xs : List Int} {last : Int}, rB last xs = true ↔ xs.Pairwise (· < ·) ∧ ∀ x ∈ xs, last < x ∧ x ≤ 999999
  | [], last => by simp [rB]
  | x :: xs, last => by
    rw [rB, Bool.and_eq_true, rB_iff, inB_iff, List.pairwise_cons]
    constructor
    · rintro ⟨h1, h2, h3⟩
      refine ⟨⟨fun y hy => (h3 y hy).1, h2⟩, fun y hy => ?_⟩
      rcases List.mem_cons.1 hy with rfl | hy
      · omega
      · have := h3 y hy; omega
    · rintro ⟨⟨h1, h2⟩, h3⟩
      have := h3 x (by simp)
      exact ⟨by omega, h2, fun y hy => ⟨h1 y hy, (h3 y (List.mem_cons_of_mem _ hy)).2⟩⟩
theorem gB_iff {f : Filing} : gB f = true ↔ (0 ≤ f.day ∧ f.day ≤ 100000) ∧ f.parts.length ≤ 6 ∧ f.parts.Pairwise (· < ·) ∧ ∀ p ∈ f.parts, 0 ≤ p ∧ p ≤ 999999 := by
  simp only [gB, Bool.and_eq_true, inB_iff, decide_eq_true_eq, rB_iff]
  constructor
  · rintro ⟨⟨h1, h2⟩, h3, h4⟩
    exact ⟨h1, h2, h3, fun p hp => by have := h4 p hp; omega⟩
  · rintro ⟨h1, h2, h3, h4⟩
    exact ⟨⟨h1, h2⟩, h3, fun p hp => by have := h4 p hp; omega⟩
theorem check_iff {h : Hunt} {l : List Filing} : check h l = 0 ↔ Vd h l := by
  unfold check
  rw [fB_split]
  constructor
  · intro hc
    split at hc
    · rename_i hh
      split at hc
      · rename_i hf
        simp only [Bool.and_eq_true, decide_eq_true_eq, List.all_eq_true, gB_iff, rB_iff] at hf
        simp only [hB, Bool.and_eq_true, inB_iff] at hh
        obtain ⟨h1, h2, h3, h4⟩ := hf
        exact ⟨hh.1.1, hh.1.2, hh.2, h1, h3, fun f hf => by have := h4 f.id (List.mem_map_of_mem hf); omega, fun f hf => (h2 f hf).1, fun f hf => (h2 f hf).2.1, fun f hf => (h2 f hf).2.2.1, fun f hf => (h2 f hf).2.2.2⟩
      · cases hc
    · cases hc
  · intro v
    rw [if_pos, if_pos]
    · simp only [Bool.and_eq_true, decide_eq_true_eq, List.all_eq_true, gB_iff, rB_iff]
      refine ⟨v.len, fun f hf => ⟨v.day f hf, v.prl f hf, v.prt f hf, v.prr f hf⟩, v.ids, fun x hx => ?_⟩
      obtain ⟨f, hf, rfl⟩ := List.mem_map.1 hx
      have := v.idr f hf; omega
    · simp only [hB, Bool.and_eq_true, inB_iff]
      exact ⟨⟨v.win, v.com⟩, v.siz⟩
theorem idx_cases (xs : List Int) (v : Int) : (∃ k : Nat, idx xs v = k ∧ ∃ hk : k < xs.length, xs[k] = v) ∨ (idx xs v = -1 ∧ v ∉ xs) := by
  unfold idx
  by_cases hv : v ∈ xs
  · rw [if_pos hv]
    exact .inl ⟨_, rfl, List.idxOf_lt_length_iff.2 hv, List.getElem_idxOf (List.idxOf_lt_length_iff.2 hv)⟩
  · rw [if_neg hv]; exact .inr ⟨rfl, hv⟩
theorem idx_of {xs : List Int} {v : Int} {k : Nat} (hk : k < xs.length) (h : xs[k] = v) (hf : ∀ j (hj : j < k), xs[j]'(by omega) ≠ v) : idx xs v = k := by
  have hm : v ∈ xs := h ▸ List.getElem_mem hk
  unfold idx
  rw [if_pos hm]
  congr 1
  rcases Nat.lt_trichotomy (xs.idxOf v) k with h1 | h1 | h1
  · exact absurd (List.getElem_idxOf (by omega)) (hf _ h1)
  · exact h1
  · have h2 := List.not_of_lt_findIdx (p := fun x => x == v) (xs := xs) (i := k) (by simpa [List.idxOf] using h1)
    simp [h] at h2
theorem idx_none {xs : List Int} {v : Int} (h : v ∉ xs) : idx xs v = -1 := by unfold idx; rw [if_neg h]
end S
open S
theorem nt {xs : List Int} {v : Int} {n : Nat} (hn : n < xs.length) (h : v ∉ xs.take n) (hne : xs[n] ≠ v) : v ∉ xs.take (n + 1) := by
  rw [take_succ hn, List.mem_append, List.mem_singleton]
  rintro (h1 | h1)
  · exact h h1
  · exact hne h1.symm
theorem nt_get {xs : List Int} {v : Int} {n : Nat} (h : v ∉ xs.take n) : ∀ j (hj : j < n) (hx : j < xs.length), xs[j] ≠ v := fun j hj hx e => h (by
  rw [← e, show xs[j] = (xs.take n)[j]'(by simp; omega) by simp]
  exact List.getElem_mem _)
theorem r_Index {s : List Int} {v : Int} (hs : s.length ≤ 9223372036854775807) : Ret (P.slices_Index_52 s v) (· = idx s v) := by
  unfold P.slices_Index_52
  refine Ret.bindM (Q' := fun r => (∃ n : Nat, r = Sum.inr (n : Int) ∧ idx s v = n) ∨ (r = Sum.inl () ∧ v ∉ s)) (Ret.upto s.length (fun n (i : Int) => i = n ∧ v ∉ s.take n) ⟨rfl, by simp⟩ ?_ ?_) ?_
  · rintro n hn i ⟨rfl, hI⟩
    refine Ret.condT (lt_cast hn) (Ret.bind (ixR hn (Ret.cond (fun h => Ret.done (.inl ⟨n, rfl, idx_of hn (of_decide_eq_true h).symm fun j hj => nt_get hI j hj (by omega)⟩)) (fun h => Ret.bind (Ret.chk (by omega) (Ret.next ⟨rfl, nt hn hI fun e => of_decide_eq_false h e.symm⟩))))))
  · rintro i ⟨rfl, hI⟩
    rw [List.take_length] at hI
    exact Ret.condF not_lt_cast (Ret.done (.inr ⟨rfl, hI⟩))
  · rintro r (⟨n, rfl, h⟩ | ⟨rfl, h⟩)
    · exact Ret.elimR (Ret.ok h.symm)
    · exact Ret.elimL (Ret.ok (idx_none h).symm)
theorem r_Contains {s : List Int} {v : Int} (hs : s.length ≤ 9223372036854775807) : Ret (P.slices_Contains_61 s v) (· = decide (v ∈ s)) := by
  unfold P.slices_Contains_61
  refine Ret.bindM (r_Index hs) ?_
  rintro r rfl
  refine Ret.ok ?_
  rcases idx_cases s v with ⟨k, h, hk, h2⟩ | ⟨h, h2⟩
  · rw [h, decide_eq_true (by omega), decide_eq_true (h2 ▸ List.getElem_mem hk)]
  · rw [h, decide_eq_false (by omega), decide_eq_false h2]
theorem r_At {l : List Filing} {v : Int} (hs : l.length ≤ 9223372036854775807) : Ret (P.ref08_At l v) (· = idx (l.map (·.id)) v) := by
  unfold P.ref08_At
  refine Ret.bindM (Q' := fun r => (∃ n : Nat, r = Sum.inr (n : Int) ∧ idx (l.map (·.id)) v = n) ∨ (r = Sum.inl () ∧ v ∉ l.map (·.id))) (Ret.upto l.length (fun n (i : Int) => i = n ∧ v ∉ (l.map (·.id)).take n) ⟨rfl, by simp⟩ ?_ ?_) ?_
  · rintro n hn i ⟨rfl, hI⟩
    have hn2 : n < (l.map (·.id)).length := by simpa using hn
    have he : (l.map (·.id))[n] = l[n].id := by simp
    refine Ret.condT (lt_cast hn) (Ret.bind (ixR hn (Ret.cond (fun h => Ret.done (.inl ⟨n, rfl, idx_of hn2 (he.trans (of_decide_eq_true h)) fun j hj => nt_get hI j hj (by omega)⟩)) (fun h => Ret.bind (Ret.chk (by omega) (Ret.next ⟨rfl, nt hn2 hI fun e => of_decide_eq_false h (he.symm.trans e)⟩))))))
  · rintro i ⟨rfl, hI⟩
    rw [List.take_of_length_le (by simp)] at hI
    exact Ret.condF not_lt_cast (Ret.done (.inr ⟨rfl, hI⟩))
  · rintro r (⟨n, rfl, h⟩ | ⟨rfl, h⟩)
    · exact Ret.elimR (Ret.ok h.symm)
    · exact Ret.elimL (Ret.ok (idx_none h).symm)
theorem r_has {s : List Int} {v : Int} (hs : s.length ≤ 9223372036854775807) : Ret (P.ref08_has s v) (· = decide (v ∈ s)) := by
  unfold P.ref08_has
  refine Ret.bindM (Q' := fun r => r = if v ∈ s then Sum.inr true else Sum.inl ()) (Ret.upto s.length (fun n (i : Int) => i = n ∧ v ∉ s.take n) ⟨rfl, by simp⟩ ?_ ?_) ?_
  · rintro n hn i ⟨rfl, hI⟩
    refine Ret.condT (lt_cast hn) (Ret.bind (ixR hn (Ret.cond (fun h => Ret.done ?_) (fun h => Ret.bind (Ret.chk (by omega) (Ret.next ⟨rfl, nt hn hI (of_decide_eq_false h)⟩))))))
    rw [if_pos ((of_decide_eq_true h) ▸ List.getElem_mem hn)]
  · rintro i ⟨rfl, hI⟩
    rw [List.take_length] at hI
    exact Ret.condF not_lt_cast (Ret.done (by rw [if_neg hI]))
  · rintro r rfl
    by_cases hv : v ∈ s
    · rw [if_pos hv]; exact Ret.elimR (Ret.ok (by simp [hv]))
    · rw [if_neg hv]; exact Ret.elimL (Ret.ok (by simp [hv]))
/-! Comparisons. -/
theorem take_eq {α : Type} {a b : List α} {n : Nat} (ha : n < a.length) (hb : n < b.length) (h : a.take n = b.take n) (e : a[n] = b[n]) : a.take (n + 1) = b.take (n + 1) := by rw [take_succ ha, take_succ hb, h, e]
theorem r_SameInts {a b : List Int} (hs : a.length ≤ 9223372036854775807) : Ret (P.ref08_SameInts a b) (· = decide (a = b)) := by
  unfold P.ref08_SameInts
  refine Ret.cond (fun h => Ret.ok ?_) (fun h => ?_)
  · rw [Bool.not_eq_true', decide_eq_false_iff_not] at h
    exact (decide_eq_false fun e => h (by rw [e])).symm
  have hl : a.length = b.length := by simp at h; omega
  refine Ret.bindM (Q' := fun r => r = if a = b then Sum.inl () else Sum.inr false) (Ret.upto a.length (fun n (i : Int) => i = n ∧ a.take n = b.take n) ⟨rfl, by simp⟩ ?_ ?_) ?_
  · rintro n hn i ⟨rfl, hI⟩
    have hnb : n < b.length := by omega
    refine Ret.condT (lt_cast hn) (Ret.bind (ixR hn (Ret.bind (ixR hnb (Ret.cond (fun h => Ret.done ?_) (fun h => Ret.bind (Ret.chk (by omega) (Ret.next ⟨rfl, take_eq hn hnb hI (by simpa using h)⟩))))))))
    rw [if_neg]
    rintro rfl
    simp at h
  · rintro i ⟨rfl, hI⟩
    rw [List.take_length, hl, List.take_length] at hI
    exact Ret.condF not_lt_cast (Ret.done (by rw [if_pos hI]))
  · rintro r rfl
    by_cases hv : a = b
    · rw [if_pos hv]; exact Ret.elimL (Ret.ok (by simp [hv]))
    · rw [if_neg hv]; exact Ret.elimR (Ret.ok (by simp [hv]))
theorem r_SameTies {a b : List Tie} (hs : a.length ≤ 9223372036854775807) : Ret (P.ref08_SameTies a b) (· = decide (a = b)) := by
  unfold P.ref08_SameTies
  refine Ret.cond (fun h => Ret.ok ?_) (fun h => ?_)
  · rw [Bool.not_eq_true', decide_eq_false_iff_not] at h
    exact (decide_eq_false fun e => h (by rw [e])).symm
  have hl : a.length = b.length := by simp at h; omega
  refine Ret.bindM (Q' := fun r => r = if a = b then Sum.inl () else Sum.inr false) (Ret.upto a.length (fun n (i : Int) => i = n ∧ a.take n = b.take n) ⟨rfl, by simp⟩ ?_ ?_) ?_
  · rintro n hn i ⟨rfl, hI⟩
    have hnb : n < b.length := by omega
    refine Ret.condT (lt_cast hn) (Ret.bind (ixR hn (Ret.bind (ixR hnb (Ret.cond (fun h => Ret.done ?_) (fun h => Ret.bind (Ret.chk (by omega) (Ret.next ⟨rfl, take_eq hn hnb hI (by simpa using h)⟩))))))))
    rw [if_neg]
    rintro rfl
    simp at h
  · rintro i ⟨rfl, hI⟩
    rw [List.take_length, hl, List.take_length] at hI
    exact Ret.condF not_lt_cast (Ret.done (by rw [if_pos hI]))
  · rintro r rfl
    by_cases hv : a = b
    · rw [if_pos hv]; exact Ret.elimL (Ret.ok (by simp [hv]))
    · rw [if_neg hv]; exact Ret.elimR (Ret.ok (by simp [hv]))
theorem r_SameSelf {l : List Filing} (hl : l.length ≤ 30) (hp : ∀ f ∈ l, f.parts.length ≤ 20) : Ret (P.ref08_Same l l) (· = true) := by
  unfold P.ref08_Same
  refine Ret.condF (by simp) ?_
  refine Ret.bindM (Q' := fun r => r = Sum.inl ()) (Ret.upto l.length (fun n (i : Int) => i = n) rfl ?_ ?_) ?_
  · rintro n hn _ rfl
    have hpn := hp l[n] (List.getElem_mem hn)
    refine Ret.condT (lt_cast hn) (Ret.bindM (Q' := fun b => b = false) (Ret.bind (ixR hn (Ret.bind (ixR hn (Ret.condF (by simp) (Ret.bind (ixR hn (Ret.bind (ixR hn (Ret.condF (by simp) (Ret.bind (ixR hn (Ret.bind (ixR hn (Ret.bind ((r_SameInts (by omega)).mono fun r hr => Ret.ok (by simp [hr]))))))))))))))))) ?_)
    rintro _ rfl
    exact Ret.condF rfl (Ret.bind (Ret.chk (by omega) (Ret.next rfl)))
  · rintro _ rfl
    exact Ret.condF not_lt_cast (Ret.done rfl)
  · rintro _ rfl
    exact Ret.elimL (Ret.ok rfl)
/-! Weights. -/
namespace S
def cnt (l : List Filing) (p : Int) : Nat := (l.filter fun f => decide (p ∈ f.parts)).length
def ptw (h : Hunt) (l : List Filing) (p : Int) : Int := if (cnt l p : Int) < 2 ∨ h.common ≤ cnt l p then 0 else 1000 / ((cnt l p : Int) - 1)
def wsum (h : Hunt) (l : List Filing) (ps qs : List Int) : Int := ((ps.filter fun p => decide (p ∈ qs)).map (ptw h l)).sum
def wt (h : Hunt) (l : List Filing) (x y : Filing) : Int := if h.window < x.day - y.day ∨ h.window < y.day - x.day then 0 else wsum h l x.parts y.parts
def w (h : Hunt) (l : List Filing) (i k : Nat) : Int := match l[i]?, l[k]? with
  | some x, some y => wt h l x y
  | _, _ => 0
theorem w_at {h : Hunt} {l : List Filing} {i k : Nat} (hi : i < l.length) (hk : k < l.length) : w h l i k = wt h l l[i] l[k] := by
  unfold w; rw [List.getElem?_eq_getElem hi, List.getElem?_eq_getElem hk]
theorem part_in (h : Hunt) (l : List Filing) (p : Int) : 0 ≤ ptw h l p ∧ ptw h l p ≤ 1000 := by
  unfold ptw
  split
  · omega
  · rename_i hn
    have h1 : 1 ≤ (cnt l p : Int) - 1 := by omega
    generalize (cnt l p : Int) - 1 = d at *
    exact ⟨Int.ediv_nonneg (by omega) (by omega), Int.ediv_le_self _ (by omega)⟩
theorem sum_in (f : Int → Int) (hf : ∀ p, 0 ≤ f p ∧ f p ≤ 1000) : ∀ (ps : List Int), 0 ≤ (ps.map f).sum ∧ (ps.map f).sum ≤ 1000 * ps.length
  | [] => by simp
  | p :: ps => by
    have := sum_in f hf ps
    have := hf p
    simp only [List.map_cons, List.sum_cons, List.length_cons]
    omega
theorem wsum_in (h : Hunt) (l : List Filing) (ps qs : List Int) : 0 ≤ wsum h l ps qs ∧ wsum h l ps qs ≤ 1000 * ps.length := by
  have h1 := sum_in (ptw h l) (part_in h l) (ps.filter fun p => decide (p ∈ qs))
  have h2 := List.length_filter_le (fun p => decide (p ∈ qs)) ps
  unfold wsum
  omega
theorem wt_in {h : Hunt} {l : List Filing} {x y : Filing} (hx : x.parts.length ≤ 6) : 0 ≤ wt h l x y ∧ wt h l x y ≤ 6000 := by
  unfold wt
  split
  · omega
  · have := wsum_in h l x.parts y.parts
    omega
/-- Two rising lists with the same elements are one. -/
theorem rise_eq : ∀ {xs ys : List Int}, xs.Pairwise (· < ·) → ys.Pairwise (· < ·) → (∀ a, a ∈ xs ↔ a ∈ ys) → xs = ys
  | [], [], _, _, _ => rfl
  | [], y :: ys, _, _, h => by have := (h y).2 (by simp); cases this
  | x :: xs, [], _, _, h => by have := (h x).1 (by simp); cases this
  | x :: xs, y :: ys, h1, h2, h => by
    rw [List.pairwise_cons] at h1 h2
    have hxy : x = y := by
      have hx := (h x).1 (by simp)
      have hy := (h y).2 (by simp)
      rcases List.mem_cons.1 hx with e | hx
      · exact e
      · rcases List.mem_cons.1 hy with e | hy
        · exact e.symm
        · have := h1.1 y hy
          have := h2.1 x hx
          omega
    subst hxy
    congr 1
    refine rise_eq h1.2 h2.2 fun a => ?_
    constructor
    · intro ha
      have hlt := h1.1 a ha
      rcases List.mem_cons.1 ((h a).1 (List.mem_cons_of_mem _ ha)) with e | h3
      · omega
      · exact h3
    · intro ha
      have hlt := h2.1 a ha
      rcases List.mem_cons.1 ((h a).2 (List.mem_cons_of_mem _ ha)) with e | h3
      · omega
      · exact h3
theorem wsum_comm (h : Hunt) (l : List Filing) {ps qs : List Int} (hp : ps.Pairwise (· < ·)) (hq : qs.Pairwise (· < ·)) : wsum h l ps qs = wsum h l qs ps := by
  unfold wsum
  rw [rise_eq (hp.filter _) (hq.filter _)]
  intro a
  simp only [List.mem_filter, decide_eq_true_eq]
  exact ⟨fun h => ⟨h.2, h.1⟩, fun h => ⟨h.2, h.1⟩⟩
theorem wt_comm {h : Hunt} {l : List Filing} {x y : Filing} (hx : x.parts.Pairwise (· < ·)) (hy : y.parts.Pairwise (· < ·)) : wt h l x y = wt h l y x := by
  unfold wt
  rw [wsum_comm h l hx hy]
  congr 1
  rw [or_comm]
section
variable {h : Hunt} {l : List Filing} (v : Vd h l)
include v
theorem Vd.wcomm (i k : Nat) : w h l i k = w h l k i := by
  unfold w
  cases hi : l[i]? with
  | none => cases l[k]? <;> rfl
  | some x =>
    cases hk : l[k]? with
    | none => rfl
    | some y => exact wt_comm (v.prt x (List.mem_of_getElem? hi)) (v.prt y (List.mem_of_getElem? hk))
theorem Vd.win_ (i k : Nat) : 0 ≤ w h l i k ∧ w h l i k ≤ 6000 := by
  unfold w
  cases hi : l[i]? with
  | none => exact ⟨Int.le_refl _, show (0 : Int) ≤ 6000 by omega⟩
  | some x =>
    cases hk : l[k]? with
    | none => exact ⟨Int.le_refl _, show (0 : Int) ≤ 6000 by omega⟩
    | some y => exact wt_in (v.prl x (List.mem_of_getElem? hi))
theorem Vd.pl64 {f : Filing} (hf : f ∈ l) : f.parts.length ≤ 9223372036854775807 := by have := v.prl f hf; omega
end
end S
open S
theorem cnt_take {l : List Filing} {p : Int} {n : Nat} (hn : n < l.length) : cnt (l.take (n + 1)) p = cnt (l.take n) p + (if p ∈ l[n].parts then 1 else 0) := by
  unfold cnt
  rw [take_succ hn, List.filter_append, List.length_append]
  congr 1
  by_cases hp : p ∈ l[n].parts <;> simp [hp]
theorem cnt_le (l : List Filing) (p : Int) : cnt l p ≤ l.length := List.length_filter_le _ _
section
variable {h : Hunt} {l : List Filing} (v : Vd h l)
include v
theorem r_part (p : Int) : Ret (P.ref08_part h l p) (· = ptw h l p) := by
  have hlen := v.len
  unfold P.ref08_part
  refine Ret.bindM (Q' := fun r => r = (cnt l p : Int)) (Ret.upto l.length (fun n (s : Int × Int) => s = ((cnt (l.take n) p : Int), (n : Int))) rfl ?_ ?_) ?_
  · rintro n hn _ rfl
    dsimp only
    have hc := cnt_le (l.take n) p
    rw [List.length_take] at hc
    refine Ret.condT (lt_cast hn) (Ret.bind (ixR hn (Ret.bindM (r_has (v.pl64 (List.getElem_mem hn))) ?_)))
    rintro _ rfl
    refine Ret.bindM (Q' := fun c => c = (cnt (l.take (n + 1)) p : Int)) (Ret.cond (fun hp => Ret.bind (Ret.chk (by omega) (Ret.ok ?_))) (fun hp => Ret.ok ?_)) ?_
    · have hp := of_decide_eq_true hp
      rw [cnt_take hn, if_pos hp]; rfl
    · have hp := of_decide_eq_false hp
      rw [cnt_take hn, if_neg hp]; rfl
    · rintro _ rfl
      exact Ret.bind (Ret.chk (by omega) (Ret.next rfl))
  · rintro _ rfl
    dsimp only
    rw [List.take_length]
    exact Ret.condF not_lt_cast (Ret.done rfl)
  · rintro _ rfl
    have hc := cnt_le l p
    refine Ret.bindM (Q' := fun b => b = decide ((cnt l p : Int) < 2 ∨ h.common ≤ cnt l p)) (Ret.cond (fun h2 => Ret.ok ?_) (fun h2 => Ret.ok ?_)) ?_
    · have h2 := of_decide_eq_true h2
      simp [h2]
    · have h2 := of_decide_eq_false h2
      rw [decide_eq_decide]; omega
    · rintro _ rfl
      refine Ret.cond (fun h2 => Ret.ok ?_) (fun h2 => ?_)
      · have h2 := of_decide_eq_true h2
        unfold ptw; rw [if_pos h2]
      · have h2 := of_decide_eq_false h2
        refine Ret.bind (Ret.chk (by omega) (Ret.bind (Ret.quoO (by decide) (by omega) (by decide) (Ret.ok ?_))))
        unfold ptw; rw [if_neg h2]
theorem r_weight {a b : Nat} (ha : a < l.length) (hb : b < l.length) : Ret (P.ref08_weight h l (a : Int) (b : Int)) (· = w h l a b) := by
  have hda := v.day _ (List.getElem_mem ha)
  have hdb := v.day _ (List.getElem_mem hb)
  have hpa := v.prl _ (List.getElem_mem ha)
  have hpb := v.prl _ (List.getElem_mem hb)
  rw [w_at ha hb]
  unfold P.ref08_weight
  refine Ret.bind (ixR ha (Ret.bind (ixR hb ?_)))
  generalize l[a] = x at *
  generalize l[b] = y at *
  refine Ret.bindM (Q' := fun c => c = decide (h.window < x.day - y.day ∨ h.window < y.day - x.day)) (Ret.bind (Ret.chk (by omega) (Ret.cond (fun h2 => Ret.ok ?_) (fun h2 => Ret.bind (Ret.chk (by omega) (Ret.ok ?_)))))) ?_
  · have h2 := of_decide_eq_true h2
    simp [h2]
  · have h2 := of_decide_eq_false h2
    rw [decide_eq_decide]; omega
  rintro _ rfl
  refine Ret.cond (fun h2 => Ret.ok ?_) (fun h2 => ?_)
  · have h2 := of_decide_eq_true h2
    unfold wt; rw [if_pos h2]
  have h2 := of_decide_eq_false h2
  unfold wt
  rw [if_neg h2]
  refine Ret.bindM (Q' := fun r => r = wsum h l x.parts y.parts) (Ret.upto x.parts.length (fun n (s : Int × Int) => s = (wsum h l (x.parts.take n) y.parts, (n : Int))) (by simp [wsum]) ?_ ?_) ?_
  · rintro n hn _ rfl
    dsimp only
    have hs := wsum_in h l (x.parts.take n) y.parts
    have hpt := part_in h l x.parts[n]
    rw [List.length_take] at hs
    have hstep : wsum h l (x.parts.take (n + 1)) y.parts = wsum h l (x.parts.take n) y.parts + (if x.parts[n] ∈ y.parts then ptw h l x.parts[n] else 0) := by
      unfold wsum
      rw [take_succ hn, List.filter_append, List.map_append, List.sum_append]
      congr 1
      by_cases hp : x.parts[n] ∈ y.parts <;> simp [hp]
    refine Ret.condT (lt_cast hn) (Ret.bind (ixR hn (Ret.bindM (r_has (by omega)) ?_)))
    rintro _ rfl
    refine Ret.bindM (Q' := fun c => c = wsum h l (x.parts.take (n + 1)) y.parts) (Ret.cond (fun hp => Ret.bind (ixR hn (Ret.bindM (r_part v _) ?_))) (fun hp => Ret.ok ?_)) ?_
    · rintro _ rfl
      have hp := of_decide_eq_true hp
      refine Ret.bind (Ret.chk (by omega) (Ret.ok ?_))
      rw [hstep, if_pos hp]
    · have hp := of_decide_eq_false hp
      rw [hstep, if_neg hp]; omega
    · rintro _ rfl
      exact Ret.bind (Ret.chk (by omega) (Ret.next rfl))
  · rintro _ rfl
    dsimp only
    rw [List.take_length]
    exact Ret.condF not_lt_cast (Ret.done rfl)
  · rintro _ rfl
    exact Ret.ok rfl
end
end Go.Proofs.Ytdbogmmdogjhpaa
set_option maxRecDepth 20000
set_option maxHeartbeats 1000000
set_option linter.unusedVariables false
set_option linter.unusedSimpArgs false
namespace Go.Proofs.Ytdbogmmdogjhpaa
open Go Go.Sx
namespace S
/-- A table of 24 times 24 numbers. -/
def tab (f : Nat → Nat → Int) : List Int := (List.range 576).map fun t => f (t / 24) (t % 24)
def upd2 (f : Nat → Nat → Int) (i k : Nat) (x : Int) : Nat → Nat → Int := fun a b => if a = i ∧ b = k then x else f a b
theorem tab_len (f : Nat → Nat → Int) : (tab f).length = 576 := by simp [tab]
theorem tab_get {f : Nat → Nat → Int} {i k : Nat} (hi : i < 24) (hk : k < 24) : (tab f)[i * 24 + k]? = some (f i k) := by
  unfold tab
  rw [List.getElem?_map, List.getElem?_range (by omega)]
  simp only [Option.map_some]
  rw [show (i * 24 + k) / 24 = i by omega, show (i * 24 + k) % 24 = k by omega]
theorem tab_set {f : Nat → Nat → Int} {i k : Nat} {x : Int} (hi : i < 24) (hk : k < 24) : (tab f).set (i * 24 + k) x = tab (upd2 f i k x) := by
  apply List.ext_getElem?
  intro t
  rw [List.getElem?_set]
  rcases Nat.lt_or_ge t 576 with ht | ht
  · have e1 : ∀ g : Nat → Nat → Int, (tab g)[t]? = some (g (t / 24) (t % 24)) := fun g => by
      unfold tab
      rw [List.getElem?_map, List.getElem?_range ht]; rfl
    rw [e1, e1, tab_len]
    by_cases e : i * 24 + k = t
    · rw [if_pos e, if_pos (by omega)]
      unfold upd2
      rw [if_pos ⟨by omega, by omega⟩]
    · rw [if_neg e]
      unfold upd2
      rw [if_neg]
      rintro ⟨h1, h2⟩
      omega
  · rw [List.getElem?_eq_none (by rw [tab_len]; omega), List.getElem?_eq_none (by rw [tab_len]; omega), if_neg (by omega)]
theorem tab_ext {f g : Nat → Nat → Int} (h : ∀ a b, a < 24 → b < 24 → f a b = g a b) : tab f = tab g := by
  unfold tab
  refine List.map_congr_left fun t ht => ?_
  have := List.mem_range.1 ht
  exact h _ _ (by omega) (by omega)
theorem upd2_upd2 {f : Nat → Nat → Int} {i k : Nat} {x y : Int} : upd2 (upd2 f i k x) i k y = upd2 f i k y := by
  funext a b
  unfold upd2
  split <;> rfl
theorem upd2_self {f : Nat → Nat → Int} {i k : Nat} {x : Int} : upd2 f i k x i k = x := by simp [upd2]
theorem tab_zero : List.replicate 576 (0 : Int) = tab fun _ _ => 0 := by
  unfold tab
  rw [List.map_const']; simp
def wm (h : Hunt) (l : List Filing) (a b : Nat) : Int := if a = b then 0 else w h l a b
def hk (h : Hunt) (l : List Filing) : Hunt_94 := ⟨h, l.map (·.id), tab (wm h l)⟩
def ids (l : List Filing) : List Int := l.map (·.id)
def Weight (h : Hunt) (l : List Filing) (a b : Int) : Int × Int :=
  if check h l = 0 then
    if idx (ids l) a < 0 ∨ idx (ids l) b < 0 then (0, 6)
    else if idx (ids l) a = idx (ids l) b then (0, 2)
    else (w h l (idx (ids l) a).toNat (idx (ids l) b).toNat, 0)
  else (0, check h l)
theorem cnt_mono {l : List Filing} {p : Int} {n m : Nat} (h : n ≤ m) : cnt (l.take n) p ≤ cnt (l.take m) p := by
  unfold cnt
  refine (List.Sublist.filter _ ?_).length_le
  rw [show l.take n = (l.take m).take n by rw [List.take_take, Nat.min_eq_left h]]
  exact List.take_sublist _ _
theorem cnt_two {l : List Filing} {p : Int} {i k : Nat} (hi : i < l.length) (hk : k < i) (h1 : p ∈ l[i].parts) (h2 : p ∈ (l[k]'(by omega)).parts) : 2 ≤ cnt l p := by
  have a1 : cnt (l.take (i + 1)) p = cnt (l.take i) p + 1 := by rw [cnt_take hi, if_pos h1]
  have a2 : cnt (l.take (k + 1)) p = cnt (l.take k) p + 1 := by rw [cnt_take (by omega), if_pos h2]
  have a3 := cnt_mono (l := l) (p := p) (show k + 1 ≤ i from hk)
  have a4 := cnt_mono (l := l) (p := p) (show i + 1 ≤ l.length from hi)
  rw [List.take_length] at a4
  omega
theorem prs_mem {i k : Int} : ∀ {n : Nat}, (i, k) ∈ prs n ↔ 0 ≤ k ∧ k < i ∧ i < n
  | 0 => by simp [prs]; omega
  | n + 1 => by
    rw [prs, List.mem_append, prs_mem, List.mem_map]
    constructor
    · rintro (h | ⟨x, hx, e⟩)
      · omega
      · have := List.mem_range.1 hx
        simp only [Prod.mk.injEq] at e
        omega
    · intro h
      by_cases hi : i < n
      · left; omega
      · right
        refine ⟨k.toNat, List.mem_range.2 (by omega), ?_⟩
        simp only [Prod.mk.injEq]
        omega
theorem prs_nodup : ∀ n, (prs n).Nodup
  | 0 => List.nodup_nil
  | n + 1 => by
    rw [prs, List.nodup_append]
    refine ⟨prs_nodup n, ?_, fun a ha b hb e => ?_⟩
    · exact List.Pairwise.map _ (fun a b (hab : a ≠ b) => fun e => hab (by simp only [Prod.mk.injEq] at e; omega)) List.nodup_range
    · subst e
      obtain ⟨i, k⟩ := a
      have h1 := prs_mem.1 ha
      obtain ⟨x, hx, e⟩ := List.mem_map.1 hb
      simp only [Prod.mk.injEq] at e
      omega
end S
open S
theorem r_ixA {i : Nat} {Q : Int → Prop} (h : i < 24) (q : Q i) : Ret (Go.Rx.ixA 24 (i : Int)) Q := ⟨_, by unfold Go.Rx.ixA; rw [if_pos ⟨by omega, by omega⟩], q⟩
theorem r_tab {f : Nat → Nat → Int} {i k : Nat} {Q : Int → Prop} (hi : i < 24) (hk : k < 24) (q : Q (f i k)) : Ret (ixo (tab f) ((i : Int) * 24 + (k : Int) * 1)) Q := by
  have : ((i : Int) * 24 + (k : Int) * 1) = ((i * 24 + k : Nat) : Int) := by omega
  rw [this]
  exact Ret.ixo (tab_get hi hk) q
theorem r_tabS {f : Nat → Nat → Int} {i k : Nat} {x : Int} {Q : List Int → Prop} (hi : i < 24) (hk : k < 24) (q : Q (tab (upd2 f i k x))) : Ret (seto (tab f) ((i : Int) * 24 + (k : Int) * 1) x) Q := by
  have : ((i : Int) * 24 + (k : Int) * 1) = ((i * 24 + k : Nat) : Int) := by omega
  rw [this]
  exact Ret.seto (by rw [tab_len]; omega) (by rw [tab_set hi hk]; exact q)
section
variable {h : Hunt} {l : List Filing} (v : Vd h l)
include v
theorem r_open0 : Ret (P.ring_open h l) (· = (some (hk h l), 0)) := by
  have hlen := v.len
  have hw := v.win
  have hc := v.com
  unfold P.ring_open
  refine Ret.bindM (r_ringCheck (by omega) fun f hf => by have := v.prl f hf; omega) ?_
  rintro _ rfl
  rw [check_iff.2 v]
  refine Ret.condF rfl ?_
  refine Ret.bindM (Q' := fun r => r.2 = l.map (·.id) ∧ ∀ p, (r.1 p).getD 0 = (cnt l p : Int)) (Ret.upto l.length (fun n (s : Int × List Int × FMap Int Int) => s.1 = (n : Int) ∧ s.2.1 = (l.take n).map (·.id) ∧ ∀ p, (s.2.2 p).getD 0 = (cnt (l.take n) p : Int)) ⟨rfl, rfl, fun p => rfl⟩ ?_ ?_) ?_
  · rintro n hn ⟨_, _, m⟩ ⟨rfl, rfl, hm⟩
    dsimp only at hm ⊢
    have hp := v.prl _ (List.getElem_mem hn)
    have hpt := v.prt _ (List.getElem_mem hn)
    refine Ret.condT (lt_cast hn) (Ret.bind (ixR hn (Ret.bind (Ret.appo (by simp; omega) (by simp; omega) ?_))))
    refine Ret.bindM (Q' := fun r => ∀ p, (r p).getD 0 = (cnt (l.take (n + 1)) p : Int)) (Ret.upto l[n].parts.length (fun k (s : Int × FMap Int Int) => s.1 = (k : Int) ∧ ∀ p, (s.2 p).getD 0 = (cnt (l.take n) p : Int) + (if p ∈ l[n].parts.take k then 1 else 0)) ⟨rfl, fun p => by simp [hm]⟩ ?_ ?_) ?_
    · rintro k hk ⟨_, m2⟩ ⟨rfl, hm2⟩
      dsimp only at hm2 ⊢
      have hcn := cnt_le (l.take n) l[n].parts[k]
      rw [List.length_take] at hcn
      have hnot : l[n].parts[k] ∉ l[n].parts.take k := fun hmem => by
        obtain ⟨j, hj, e⟩ := List.getElem_of_mem hmem
        have hjk : j < k := by simp at hj; omega
        have := (List.pairwise_iff_getElem.1 hpt) j k (by omega) hk hjk
        simp at e; omega
      refine Ret.condT (lt_cast hk) (Ret.bind (ixR hk (Ret.bind (Ret.chk ?_ (Ret.bind (Ret.chk (by omega) (Ret.next ⟨rfl, fun p => ?_⟩)))))))
      · rw [hm2, if_neg hnot]; omega
      · rw [hm2 l[n].parts[k], if_neg hnot]
        simp only [fput]
        have hiff : p ∈ l[n].parts.take (k + 1) ↔ p ∈ l[n].parts.take k ∨ p = l[n].parts[k] := by rw [take_succ hk, List.mem_append, List.mem_singleton]
        by_cases e : p = l[n].parts[k]
        · rw [if_pos e, if_pos (hiff.2 (.inr e)), e]
          simp
        · rw [if_neg e, hm2 p]
          by_cases e2 : p ∈ l[n].parts.take k
          · rw [if_pos e2, if_pos (hiff.2 (.inl e2))]
          · rw [if_neg e2, if_neg fun h => (hiff.1 h).elim e2 e]
    · rintro ⟨_, m2⟩ ⟨rfl, hm2⟩
      dsimp only at hm2 ⊢
      rw [List.take_length] at hm2
      refine Ret.condF not_lt_cast (Ret.done fun p => ?_)
      rw [hm2, cnt_take hn]
      split <;> simp
    · intro m2 hm2
      refine Ret.bind (Ret.chk (by omega) (Ret.next ⟨rfl, ?_, hm2⟩))
      dsimp only
      rw [take_succ hn, List.map_append]; rfl
  · rintro ⟨_, _, m⟩ ⟨rfl, rfl, hm⟩
    dsimp only at hm ⊢
    rw [List.take_length] at hm ⊢
    exact Ret.condF not_lt_cast (Ret.done ⟨rfl, hm⟩)
  rintro ⟨m, _⟩ ⟨rfl, hm⟩
  dsimp only at hm ⊢
  refine Ret.bind (Ret.val (a := prs l.length) (by unfold P.ring_pairs; rw [if_pos (by omega)]) ?_)
  rw [tab_zero]
  refine Ret.bind (Ret.over (fun (pre : List (Int × Int)) (s : List Int) => ∃ f, s = tab f ∧ (∀ a b, 0 ≤ f a b ∧ f a b ≤ 6000 * pre.length) ∧ (pre.Nodup → ∀ a b : Nat, f a b = if ((a : Int), (b : Int)) ∈ pre ∨ ((b : Int), (a : Int)) ∈ pre then w h l a b else 0)) ⟨fun _ _ => 0, rfl, fun _ _ => by simp, fun _ _ _ => by simp⟩ ?_ ?_)
  · rintro pre ⟨i, k⟩ _ hpl hall hx ⟨f, rfl, hf1, hf2⟩
    rw [prs_len] at hpl
    have hx := prs_mem.1 hx
    obtain ⟨i, rfl⟩ : ∃ n : Nat, i = n := ⟨i.toNat, by omega⟩
    obtain ⟨k, rfl⟩ : ∃ n : Nat, k = n := ⟨k.toNat, by omega⟩
    have hi : i < l.length := by omega
    have hk : k < l.length := by omega
    have htri : tri l.length ≤ 300 := by
      have : l.length = 0 ∨ l.length = 1 ∨ l.length = 2 ∨ l.length = 3 ∨ l.length = 4 ∨ l.length = 5 ∨ l.length = 6 ∨ l.length = 7 ∨ l.length = 8 ∨ l.length = 9 ∨ l.length = 10 ∨ l.length = 11 ∨ l.length = 12 ∨ l.length = 13 ∨ l.length = 14 ∨ l.length = 15 ∨ l.length = 16 ∨ l.length = 17 ∨ l.length = 18 ∨ l.length = 19 ∨ l.length = 20 ∨ l.length = 21 ∨ l.length = 22 ∨ l.length = 23 ∨ l.length = 24 := by omega
      rcases this with h | h | h | h | h | h | h | h | h | h | h | h | h | h | h | h | h | h | h | h | h | h | h | h | h <;> rw [h] <;> decide
    have hd1 := v.day _ (List.getElem_mem hi)
    have hd2 := v.day _ (List.getElem_mem hk)
    have hp1 := v.prl _ (List.getElem_mem hi)
    have hp2 := v.prl _ (List.getElem_mem hk)
    have hw0 := (v.win_ i k)
    -- what is so behind it, if what is written is the old and the weight
    have fin : ∀ g : Nat → Nat → Int, (∀ a b, g a b = if a = i ∧ b = k ∨ a = k ∧ b = i then f i k + w h l i k else f a b) → ∃ f', tab g = tab f' ∧ (∀ a b, 0 ≤ f' a b ∧ f' a b ≤ 6000 * (pre ++ [((i : Int), (k : Int))]).length) ∧ ((pre ++ [((i : Int), (k : Int))]).Nodup → ∀ a b : Nat, f' a b = if ((a : Int), (b : Int)) ∈ (pre ++ [((i : Int), (k : Int))]) ∨ ((b : Int), (a : Int)) ∈ (pre ++ [((i : Int), (k : Int))]) then w h l a b else 0) := fun g hg => by
      refine ⟨g, rfl, fun a b => ?_, fun hnd a b => ?_⟩
      · rw [hg, List.length_append, List.length_singleton]
        have := hf1 i k
        have := hf1 a b
        split <;> omega
      · rw [List.nodup_append] at hnd
        have hold := hf2 hnd.1
        have hni : ((i : Int), (k : Int)) ∉ pre := fun hm => hnd.2.2 _ hm _ (List.mem_singleton.2 rfl) rfl
        rw [hg]
        simp only [List.mem_append, List.mem_singleton, Prod.mk.injEq]
        by_cases e : a = i ∧ b = k ∨ a = k ∧ b = i
        · rw [if_pos e, if_pos (by omega)]
          have : f i k = 0 := by
            rw [hold, if_neg]
            rintro (h1 | h1)
            · exact hni h1
            · have := hall _ h1
              have := prs_mem.1 this
              omega
          rw [this]
          rcases e with ⟨rfl, rfl⟩ | ⟨rfl, rfl⟩
          · omega
          · rw [v.wcomm]; omega
        · rw [if_neg e, hold]
          have e1 : ¬ ((a : Int) = i ∧ (b : Int) = k) := by omega
          have e2 : ¬ ((b : Int) = i ∧ (a : Int) = k) := by omega
          simp only [e1, e2, or_false]
    dsimp only
    refine Ret.bind (Ret.bind (ixR hi (Ret.bind (ixR hk (Ret.bind (Ret.chk (by omega) (Ret.bind (Ret.chk (by omega) (Ret.cond (fun hgt => Ret.ok (Ret.ok ?_)) (fun hle => ?_))))))))))
    · have hgt := of_decide_eq_true hgt
      have hz : w h l i k = 0 := by
        rw [w_at hi hk]; unfold wt; rw [if_pos (by omega)]
      refine ⟨f, rfl, fun a b => ?_, fun hnd a b => ?_⟩
      · have := hf1 a b
        rw [List.length_append, List.length_singleton]; omega
      · rw [List.nodup_append] at hnd
        rw [hf2 hnd.1]
        simp only [List.mem_append, List.mem_singleton, Prod.mk.injEq]
        by_cases e : a = i ∧ b = k ∨ a = k ∧ b = i
        · have hz2 : w h l a b = 0 := by
            rcases e with ⟨rfl, rfl⟩ | ⟨rfl, rfl⟩
            · exact hz
            · rw [v.wcomm]; exact hz
          rw [hz2]; simp
        · have e1 : ¬ ((a : Int) = i ∧ (b : Int) = k) := by omega
          have e2 : ¬ ((b : Int) = i ∧ (a : Int) = k) := by omega
          simp only [e1, e2, or_false]
    · have hle := of_decide_eq_false hle
      have hwt : w h l i k = wsum h l l[i].parts l[k].parts := by
        rw [w_at hi hk]; unfold wt; rw [if_neg (by omega)]
      have hfik := hf1 i k
      refine Ret.bind (ixR hi ?_)
      refine Ret.bindM (Q' := fun r => r = tab (upd2 f i k (f i k + w h l i k))) (Ret.upto l[i].parts.length (fun n (s : Int × List Int) => s = ((n : Int), tab (upd2 f i k (f i k + wsum h l (l[i].parts.take n) l[k].parts)))) ?_ ?_ ?_) ?_
      · congr 2
        funext a b
        unfold upd2 wsum
        split
        · rename_i e; rw [e.1, e.2]; simp
        · rfl
      · rintro n hn _ rfl
        dsimp only
        have hs := wsum_in h l (l[i].parts.take n) l[k].parts
        have hpt := part_in h l l[i].parts[n]
        rw [List.length_take] at hs
        have hcl := cnt_le l l[i].parts[n]
        have hstep : wsum h l (l[i].parts.take (n + 1)) l[k].parts = wsum h l (l[i].parts.take n) l[k].parts + (if l[i].parts[n] ∈ l[k].parts then ptw h l l[i].parts[n] else 0) := by
          unfold wsum
          rw [take_succ hn, List.filter_append, List.map_append, List.sum_append]
          congr 1
          by_cases hp : l[i].parts[n] ∈ l[k].parts <;> simp [hp]
        refine Ret.condT (lt_cast hn) (Ret.bind (ixR hn ?_))
        rw [hm]
        refine Ret.bindM (Q' := fun b => b = decide ((cnt l l[i].parts[n] : Int) < h.common ∧ l[i].parts[n] ∈ l[k].parts)) (Ret.cond (fun hlt => ?_) (fun hge => Ret.ok ?_)) ?_
        · refine Ret.bind (ixR hk (Ret.bindM (r_Contains (by omega)) ?_))
          rintro _ rfl
          have hlt := of_decide_eq_true hlt
          exact Ret.ok (by rw [decide_eq_decide]; exact ⟨fun h => ⟨hlt, h⟩, fun h => h.2⟩)
        · have hge := of_decide_eq_false hge
          exact (decide_eq_false fun h => hge h.1).symm
        rintro _ rfl
        refine Ret.bindM (Q' := fun r => r = tab (upd2 f i k (f i k + wsum h l (l[i].parts.take (n + 1)) l[k].parts))) (Ret.cond (fun hb => ?_) (fun hb => Ret.ok ?_)) ?_
        · obtain ⟨hb1, hb2⟩ := of_decide_eq_true hb
          have h2 := cnt_two hi (by omega) (List.getElem_mem hn) hb2
          have hpw : ptw h l l[i].parts[n] = 1000 / ((cnt l l[i].parts[n] : Int) - 1) := by unfold ptw; rw [if_neg (by omega)]
          refine Ret.bind (r_ixA (by omega) (Ret.bind (r_ixA (by omega) (Ret.bind (r_tab (by omega) (by omega) (Ret.bind (Ret.chk (by omega) (Ret.bind (Ret.quoO (by decide) (by omega) (by decide) ?_)))))))))
          rw [upd2_self, ← hpw]
          refine Ret.bind (Ret.chk (by omega) (Ret.bind (r_ixA (by omega) (Ret.bind (r_ixA (by omega) (Ret.bind (r_tabS (by omega) (by omega) (Ret.ok ?_))))))))
          rw [upd2_upd2, hstep, if_pos hb2]
          congr 2
          omega
        · have hb := of_decide_eq_false hb
          congr 2
          rw [hstep]
          by_cases hin : l[i].parts[n] ∈ l[k].parts
          · rw [if_pos hin]
            have : ptw h l l[i].parts[n] = 0 := by unfold ptw; rw [if_pos]; right; have : ¬ (cnt l l[i].parts[n] : Int) < h.common := fun h => hb ⟨h, hin⟩; omega
            omega
          · rw [if_neg hin]; omega
        · rintro _ rfl
          exact Ret.bind (Ret.chk (by omega) (Ret.next rfl))
      · rintro _ rfl
        dsimp only
        rw [List.take_length, ← hwt]
        exact Ret.condF not_lt_cast (Ret.done rfl)
      · rintro _ rfl
        refine Ret.bind (r_ixA (by omega) (Ret.bind (r_ixA (by omega) (Ret.bind (r_tab (by omega) (by omega) ?_)))))
        rw [upd2_self]
        refine Ret.bind (r_ixA (by omega) (Ret.bind (r_ixA (by omega) (Ret.bind (r_tabS (by omega) (by omega) (Ret.ok (Ret.ok (fin _ fun a b => ?_))))))))
        unfold upd2
        by_cases e1 : a = i ∧ b = k
        · by_cases e2 : a = k ∧ b = i
          · omega
          · rw [if_neg e2, if_pos e1, if_pos (.inl e1)]
        · by_cases e2 : a = k ∧ b = i
          · rw [if_pos e2, if_pos (.inr e2)]
          · rw [if_neg e2, if_neg e1, if_neg (by omega)]
  · rintro _ ⟨f, rfl, _, hf⟩
    refine Ret.ok ?_
    have hf := hf (prs_nodup _)
    show (some (Hunt_94.mk h (l.map (·.id)) (tab f)), (0 : Int)) = (some (hk h l), 0)
    unfold hk
    congr 3
    refine tab_ext fun a b ha hb => ?_
    rw [hf]
    simp only [prs_mem]
    unfold wm
    by_cases e : a = b
    · rw [if_pos e, if_neg (by omega)]
    · rw [if_neg e]
      by_cases h1 : a < l.length ∧ b < l.length
      · rw [if_pos (by omega)]
      · rw [if_neg (by omega)]
        unfold w
        rcases Nat.lt_or_ge a l.length with h2 | h2
        · rw [List.getElem?_eq_none (show l.length ≤ b by omega)]
          cases l[a]? <;> rfl
        · rw [List.getElem?_eq_none h2]
end
theorem r_open (h : Hunt) {l : List Filing} (hl : l.length ≤ 30) (hp : ∀ f ∈ l, f.parts.length ≤ 20) : Ret (P.ring_open h l) (· = if check h l = 0 then (some (hk h l), 0) else (none, check h l)) := by
  by_cases hc : check h l = 0
  · rw [if_pos hc]; exact r_open0 (check_iff.1 hc)
  · rw [if_neg hc]
    unfold P.ring_open
    refine Ret.bindM (r_ringCheck hl hp) ?_
    rintro _ rfl
    exact Ret.condT (by simp [hc]) (Ret.ok rfl)
namespace S
def two (l : List Filing) (a b : Int) : Int × Int × Int :=
  if idx (ids l) a < 0 ∨ idx (ids l) b < 0 then (0, 0, 6) else if idx (ids l) a = idx (ids l) b then (0, 0, 2) else (idx (ids l) a, idx (ids l) b, 0)
/-- Two different filings that are there. -/
theorem two_cases (l : List Filing) (a b : Int) : (two l a b = (0, 0, 6) ∧ (a ∉ ids l ∨ b ∉ ids l)) ∨ (two l a b = (0, 0, 2) ∧ a = b ∧ a ∈ ids l) ∨ ∃ i k : Nat, two l a b = ((i : Int), (k : Int), 0) ∧ idx (ids l) a = i ∧ idx (ids l) b = k ∧ i < l.length ∧ k < l.length ∧ i ≠ k ∧ (ids l)[i]? = some a ∧ (ids l)[k]? = some b := by
  unfold two
  have hlen : (ids l).length = l.length := by simp [ids]
  rcases idx_cases (ids l) a with ⟨i, h1, hi, h2⟩ | ⟨h1, h2⟩
  · rcases idx_cases (ids l) b with ⟨k, h3, hk, h4⟩ | ⟨h3, h4⟩
    · rw [h1, h3, if_neg (by omega)]
      by_cases e : i = k
      · subst e
        rw [if_pos rfl]
        exact .inr (.inl ⟨rfl, h2.symm.trans h4, h2 ▸ List.getElem_mem hi⟩)
      · rw [if_neg (by omega)]
        exact .inr (.inr ⟨i, k, rfl, rfl, rfl, by omega, by omega, e, by rw [← h2]; exact List.getElem?_eq_getElem hi, by rw [← h4]; exact List.getElem?_eq_getElem hk⟩)
    · rw [if_pos (by omega)]; exact .inl ⟨rfl, .inr h4⟩
  · rw [if_pos (by omega)]; exact .inl ⟨rfl, .inl h2⟩
theorem Weight_two {h : Hunt} {l : List Filing} (hc : check h l = 0) (a b : Int) : Weight h l a b = if (two l a b).2.2 = 0 then (w h l (two l a b).1.toNat (two l a b).2.1.toNat, 0) else (0, (two l a b).2.2) := by
  unfold Weight two
  rw [if_pos hc]
  split
  · rfl
  · split <;> rfl
end S
theorem r_two {x : Hunt_94} {l : List Filing} (hx : x.ids = ids l) (hl : l.length ≤ 9223372036854775807) (a b : Int) : Ret (P.ring_hunt_two x a b) (· = two l a b) := by
  unfold P.ring_hunt_two
  rw [hx]
  have hlen : (ids l).length ≤ 9223372036854775807 := by simpa [ids] using hl
  refine Ret.bindM (r_Index hlen) ?_
  rintro _ rfl
  refine Ret.bindM (r_Index hlen) ?_
  rintro _ rfl
  unfold two
  refine Ret.bindM (Q' := fun c => c = decide (idx (ids l) a < 0 ∨ idx (ids l) b < 0)) (Ret.cond (fun h2 => Ret.ok ?_) (fun h2 => Ret.ok ?_)) ?_
  · have h2 := of_decide_eq_true h2
    simp [h2]
  · have h2 := of_decide_eq_false h2
    rw [decide_eq_decide]; omega
  · rintro _ rfl
    refine Ret.cond (fun h2 => Ret.ok ?_) (fun h2 => Ret.cond (fun h3 => Ret.ok ?_) (fun h3 => Ret.ok ?_))
    · rw [if_pos (of_decide_eq_true h2)]
    · rw [if_neg (of_decide_eq_false h2), if_pos (of_decide_eq_true h3)]
    · rw [if_neg (of_decide_eq_false h2), if_neg (of_decide_eq_false h3)]
theorem r_ringWeight (h : Hunt) {l : List Filing} (hl : l.length ≤ 30) (hp : ∀ f ∈ l, f.parts.length ≤ 20) (a b : Int) : Ret (P.ring_Weight h l a b) (· = Weight h l a b) := by
  unfold P.ring_Weight
  refine Ret.bindM (r_open h hl hp) ?_
  rintro _ rfl
  by_cases hc : check h l = 0
  · rw [if_pos hc, Weight_two hc]
    have v := check_iff.1 hc
    have hlen := v.len
    refine Ret.condF rfl (Ret.bind (Ret.ok (Ret.bindM (r_two (x := hk h l) rfl (by omega) a b) ?_)))
    rintro _ rfl
    rcases two_cases l a b with ⟨e, _⟩ | ⟨e, _⟩ | ⟨i, k, e, h1, h2, hi, hk', hne, _⟩
    · rw [e]; exact Ret.condT rfl (Ret.ok rfl)
    · rw [e]; exact Ret.condT rfl (Ret.ok rfl)
    · rw [e]
      refine Ret.condF rfl (Ret.bind (Ret.ok (Ret.bind (r_ixA (by omega) (Ret.bind (r_ixA (by omega) (Ret.bind (r_tab (by omega) (by omega) (Ret.ok ?_)))))))))
      unfold wm
      rw [if_neg hne]; rfl
  · rw [if_neg hc]
    unfold Weight
    rw [if_neg hc]
    exact Ret.condT (by simp [hc]) (Ret.ok rfl)
theorem r_refWeight (h : Hunt) {l : List Filing} (hl : l.length ≤ 30) (hp : ∀ f ∈ l, f.parts.length ≤ 20) (a b : Int) : Ret (P.ref08_Weight h l a b) (· = Weight h l a b) := by
  unfold P.ref08_Weight
  refine Ret.bindM (r_refCheck hl hp) ?_
  rintro _ rfl
  by_cases hc : check h l = 0
  · rw [Weight_two hc, hc]
    have v := check_iff.1 hc
    have hlen := v.len
    refine Ret.condF rfl (Ret.bindM (r_At (by omega)) ?_)
    rintro _ rfl
    refine Ret.bindM (r_At (by omega)) ?_
    rintro _ rfl
    change Ret (Option.bind (cond (decide (idx (ids l) a < 0)) (some true) (some (decide (idx (ids l) b < 0)))) _) _
    have hb : Ret (cond (decide (idx (ids l) a < 0)) (some true) (some (decide (idx (ids l) b < 0)))) (· = decide (idx (ids l) a < 0 ∨ idx (ids l) b < 0)) := by
      refine Ret.cond (fun h2 => Ret.ok ?_) (fun h2 => Ret.ok ?_)
      · have h2 := of_decide_eq_true h2
        simp [h2]
      · have h2 := of_decide_eq_false h2
        rw [decide_eq_decide]; omega
    refine Ret.bindM hb ?_
    rintro _ rfl
    change Ret (cond _ _ (cond (decide (idx (ids l) a = idx (ids l) b)) _ (Option.bind (P.ref08_weight h l (idx (ids l) a) (idx (ids l) b)) _))) _
    unfold two
    refine Ret.cond (fun h2 => Ret.ok ?_) (fun h2 => Ret.cond (fun h3 => Ret.ok ?_) (fun h3 => ?_))
    · rw [if_pos (of_decide_eq_true h2)]; rfl
    · rw [if_neg (of_decide_eq_false h2), if_pos (of_decide_eq_true h3)]; rfl
    · rw [if_neg (of_decide_eq_false h2), if_neg (of_decide_eq_false h3)]
      have h2 := of_decide_eq_false h2
      have hll : (ids l).length = l.length := by simp [ids]
      rcases idx_cases (ids l) a with ⟨i, h4, hi, _⟩ | ⟨h4, _⟩
      · rcases idx_cases (ids l) b with ⟨k, h5, hk, _⟩ | ⟨h5, _⟩
        · rw [h4, h5]
          refine Ret.bindM (r_weight v (by omega) (by omega)) ?_
          rintro _ rfl
          exact Ret.ok rfl
        · omega
      · omega
  · unfold Weight
    rw [if_neg hc]
    exact Ret.condT (by simp [hc]) (Ret.ok rfl)
end Go.Proofs.Ytdbogmmdogjhpaa
