/-
  Contracts of functions: printed by gen.py out of the elaborated program and an annotation file.
-/
import Derived.Test.YtecmlmngcnionaaProg
import Derived.Test.YtecmlmngcnionaaSxMore
namespace Go.Proofs.Ytecmlmngcnionaa
open Go Go.Sx Go.RowKit

theorem fol : Try.prog.follows .mixedOrders = true := by kernel_rfl
@[ext] structure Span where
  lo : Int
  hi : Int
def SpanE : Enc Span := mapE (fun x => (x.lo, x.hi)) (prodE (intE .i64) ((intE .i64)))
theorem SpanE_n : SpanE.n = 2 := rfl
attribute [grind ext] Span.ext
instance : DecidableEq Span := fun x y => decidable_of_iff (x.lo = y.lo ∧ x.hi = y.hi) ⟨fun ⟨h0, h1⟩ => Span.ext h0 h1, fun h => by subst h; exact ⟨rfl, rfl⟩⟩
theorem SpanE_R {M : List Nat} {w : World} {cs : List Value} {x : Span} : SpanE.R M w cs x ↔ cs = [Value.int IntKind.i64 x.lo, Value.int IntKind.i64 x.hi] ∧ InK .i64 x.lo ∧ InK .i64 x.hi := by
  simp only [SpanE, mapE_R, prodE_R, intE_R, boolE_R, sliceE_R]
  constructor
  · rintro ⟨_, _, rfl, ⟨rfl, h0⟩, ⟨rfl, h1⟩⟩
    exact ⟨rfl, h0, h1⟩
  · rintro ⟨rfl, h0, h1⟩
    exact ⟨[Value.int IntKind.i64 x.lo], [Value.int IntKind.i64 x.hi], rfl, ⟨rfl, h0⟩, ⟨rfl, h1⟩⟩
theorem Span_eq (x y : Span) (w : World) : (Op.equalIn 10000 45 (.agg (List.toArray [Value.int IntKind.i64 x.lo, Value.int IntKind.i64 x.hi])) (.agg (List.toArray [Value.int IntKind.i64 y.lo, Value.int IntKind.i64 y.hi]))).run Try.prog w = .ok (decide (x = y)) w := by
  have hf : Try.prog.underlying 45 = some (.struct (Try.prog.fieldsOf 45)) := by simp [Program.fieldsOf, Try.underlying45]
  rw [show (10000 : Nat) = 9999 + 1 from rfl, run_equalIn_agg w 9999 45 _ _ hf Try.stoodInHeld45]
  have h0 : decide (x = y) = (decide (x.lo = y.lo) && decide (x.hi = y.hi)) := by
    rw [Bool.eq_iff_iff]; simp only [decide_eq_true_eq, Bool.and_eq_true]; constructor
    · rintro rfl; simp
    · intro h; apply Span.ext <;> simp_all
  rw [h0]
  simp [Program.fieldsOf, Try.underlying45, Op.eqFields, part, Try.isAgg3, run_equalIn_int w 9998 3 .i64 .i64 _ _ Try.underlying3]
  repeat' split
  all_goals simp_all
@[ext] structure Scale where
  cuts : (List Int)
  points : (List Int)
  none_ : Int
def ScaleE : Enc Scale := mapE (fun x => (x.cuts, (x.points, x.none_))) (prodE (sliceE (intE .i64)) (prodE (sliceE (intE .i64)) ((intE .i64))))
theorem ScaleE_n : ScaleE.n = 3 := rfl
attribute [grind ext] Scale.ext
instance : DecidableEq Scale := fun x y => decidable_of_iff (x.cuts = y.cuts ∧ x.points = y.points ∧ x.none_ = y.none_) ⟨fun ⟨h0, h1, h2⟩ => Scale.ext h0 h1 h2, fun h => by subst h; exact ⟨rfl, rfl, rfl⟩⟩
theorem ScaleE_R {M : List Nat} {w : World} {cs : List Value} {x : Scale} : ScaleE.R M w cs x ↔ ∃ v0 : Value, ∃ v1 : Value, cs = [v0, v1, Value.int IntKind.i64 x.none_] ∧ RdS (intE .i64) M w v0 x.cuts ∧ RdS (intE .i64) M w v1 x.points ∧ InK .i64 x.none_ := by
  simp only [ScaleE, mapE_R, prodE_R, intE_R, boolE_R, sliceE_R]
  constructor
  · rintro ⟨_, _, rfl, ⟨v0, rfl, h0⟩, ⟨_, _, rfl, ⟨v1, rfl, h1⟩, ⟨rfl, h2⟩⟩⟩
    exact ⟨v0, v1, rfl, h0, h1, h2⟩
  · rintro ⟨v0, v1, rfl, h0, h1, h2⟩
    exact ⟨[v0], [v1, Value.int IntKind.i64 x.none_], rfl, ⟨v0, rfl, h0⟩, ⟨[v1], [Value.int IntKind.i64 x.none_], rfl, ⟨v1, rfl, h1⟩, ⟨rfl, h2⟩⟩⟩
@[ext] structure Card where
  weight : Int
  base : Int
  scales : (List Scale)
def CardE : Enc Card := mapE (fun x => (x.weight, (x.base, x.scales))) (prodE (intE .i64) (prodE (intE .i64) ((sliceE ScaleE))))
theorem CardE_n : CardE.n = 3 := rfl
attribute [grind ext] Card.ext
instance : DecidableEq Card := fun x y => decidable_of_iff (x.weight = y.weight ∧ x.base = y.base ∧ x.scales = y.scales) ⟨fun ⟨h0, h1, h2⟩ => Card.ext h0 h1 h2, fun h => by subst h; exact ⟨rfl, rfl, rfl⟩⟩
theorem CardE_R {M : List Nat} {w : World} {cs : List Value} {x : Card} : CardE.R M w cs x ↔ ∃ v2 : Value, cs = [Value.int IntKind.i64 x.weight, Value.int IntKind.i64 x.base, v2] ∧ InK .i64 x.weight ∧ InK .i64 x.base ∧ RdS ScaleE M w v2 x.scales := by
  simp only [CardE, mapE_R, prodE_R, intE_R, boolE_R, sliceE_R]
  constructor
  · rintro ⟨_, _, rfl, ⟨rfl, h0⟩, ⟨_, _, rfl, ⟨rfl, h1⟩, ⟨v2, rfl, h2⟩⟩⟩
    exact ⟨v2, rfl, h0, h1, h2⟩
  · rintro ⟨v2, rfl, h0, h1, h2⟩
    exact ⟨[Value.int IntKind.i64 x.weight], [Value.int IntKind.i64 x.base, v2], rfl, ⟨rfl, h0⟩, ⟨[Value.int IntKind.i64 x.base], [v2], rfl, ⟨rfl, h1⟩, ⟨v2, rfl, h2⟩⟩⟩
@[ext] structure Node where
  trait : Int
  cut : Int
  low : Int
  high : Int
  points : Int
def NodeE : Enc Node := mapE (fun x => (x.trait, (x.cut, (x.low, (x.high, x.points))))) (prodE (intE .i64) (prodE (intE .i64) (prodE (intE .i64) (prodE (intE .i64) ((intE .i64))))))
theorem NodeE_n : NodeE.n = 5 := rfl
attribute [grind ext] Node.ext
instance : DecidableEq Node := fun x y => decidable_of_iff (x.trait = y.trait ∧ x.cut = y.cut ∧ x.low = y.low ∧ x.high = y.high ∧ x.points = y.points) ⟨fun ⟨h0, h1, h2, h3, h4⟩ => Node.ext h0 h1 h2 h3 h4, fun h => by subst h; exact ⟨rfl, rfl, rfl, rfl, rfl⟩⟩
theorem NodeE_R {M : List Nat} {w : World} {cs : List Value} {x : Node} : NodeE.R M w cs x ↔ cs = [Value.int IntKind.i64 x.trait, Value.int IntKind.i64 x.cut, Value.int IntKind.i64 x.low, Value.int IntKind.i64 x.high, Value.int IntKind.i64 x.points] ∧ InK .i64 x.trait ∧ InK .i64 x.cut ∧ InK .i64 x.low ∧ InK .i64 x.high ∧ InK .i64 x.points := by
  simp only [NodeE, mapE_R, prodE_R, intE_R, boolE_R, sliceE_R]
  constructor
  · rintro ⟨_, _, rfl, ⟨rfl, h0⟩, ⟨_, _, rfl, ⟨rfl, h1⟩, ⟨_, _, rfl, ⟨rfl, h2⟩, ⟨_, _, rfl, ⟨rfl, h3⟩, ⟨rfl, h4⟩⟩⟩⟩⟩
    exact ⟨rfl, h0, h1, h2, h3, h4⟩
  · rintro ⟨rfl, h0, h1, h2, h3, h4⟩
    exact ⟨[Value.int IntKind.i64 x.trait], [Value.int IntKind.i64 x.cut, Value.int IntKind.i64 x.low, Value.int IntKind.i64 x.high, Value.int IntKind.i64 x.points], rfl, ⟨rfl, h0⟩, ⟨[Value.int IntKind.i64 x.cut], [Value.int IntKind.i64 x.low, Value.int IntKind.i64 x.high, Value.int IntKind.i64 x.points], rfl, ⟨rfl, h1⟩, ⟨[Value.int IntKind.i64 x.low], [Value.int IntKind.i64 x.high, Value.int IntKind.i64 x.points], rfl, ⟨rfl, h2⟩, ⟨[Value.int IntKind.i64 x.high], [Value.int IntKind.i64 x.points], rfl, ⟨rfl, h3⟩, ⟨rfl, h4⟩⟩⟩⟩⟩
theorem Node_eq (x y : Node) (w : World) : (Op.equalIn 10000 62 (.agg (List.toArray [Value.int IntKind.i64 x.trait, Value.int IntKind.i64 x.cut, Value.int IntKind.i64 x.low, Value.int IntKind.i64 x.high, Value.int IntKind.i64 x.points])) (.agg (List.toArray [Value.int IntKind.i64 y.trait, Value.int IntKind.i64 y.cut, Value.int IntKind.i64 y.low, Value.int IntKind.i64 y.high, Value.int IntKind.i64 y.points]))).run Try.prog w = .ok (decide (x = y)) w := by
  have hf : Try.prog.underlying 62 = some (.struct (Try.prog.fieldsOf 62)) := by simp [Program.fieldsOf, Try.underlying62]
  rw [show (10000 : Nat) = 9999 + 1 from rfl, run_equalIn_agg w 9999 62 _ _ hf Try.stoodInHeld62]
  have h0 : decide (x = y) = (decide (x.trait = y.trait) && decide (x.cut = y.cut) && decide (x.low = y.low) && decide (x.high = y.high) && decide (x.points = y.points)) := by
    rw [Bool.eq_iff_iff]; simp only [decide_eq_true_eq, Bool.and_eq_true]; constructor
    · rintro rfl; simp
    · intro h; apply Node.ext <;> simp_all
  rw [h0]
  simp [Program.fieldsOf, Try.underlying62, Op.eqFields, part, Try.isAgg3, run_equalIn_int w 9998 3 .i64 .i64 _ _ Try.underlying3]
  repeat' split
  all_goals simp_all
@[ext] structure Tree where
  weight : Int
  nodes : (List Node)
def TreeE : Enc Tree := mapE (fun x => (x.weight, x.nodes)) (prodE (intE .i64) ((sliceE NodeE)))
theorem TreeE_n : TreeE.n = 2 := rfl
attribute [grind ext] Tree.ext
instance : DecidableEq Tree := fun x y => decidable_of_iff (x.weight = y.weight ∧ x.nodes = y.nodes) ⟨fun ⟨h0, h1⟩ => Tree.ext h0 h1, fun h => by subst h; exact ⟨rfl, rfl⟩⟩
theorem TreeE_R {M : List Nat} {w : World} {cs : List Value} {x : Tree} : TreeE.R M w cs x ↔ ∃ v1 : Value, cs = [Value.int IntKind.i64 x.weight, v1] ∧ InK .i64 x.weight ∧ RdS NodeE M w v1 x.nodes := by
  simp only [TreeE, mapE_R, prodE_R, intE_R, boolE_R, sliceE_R]
  constructor
  · rintro ⟨_, _, rfl, ⟨rfl, h0⟩, ⟨v1, rfl, h1⟩⟩
    exact ⟨v1, rfl, h0, h1⟩
  · rintro ⟨v1, rfl, h0, h1⟩
    exact ⟨[Value.int IntKind.i64 x.weight], [v1], rfl, ⟨rfl, h0⟩, ⟨v1, rfl, h1⟩⟩
@[ext] structure Model where
  traits : Int
  cards : (List Card)
  trees : (List Tree)
  need : Int
def ModelE : Enc Model := mapE (fun x => (x.traits, (x.cards, (x.trees, x.need)))) (prodE (intE .i64) (prodE (sliceE CardE) (prodE (sliceE TreeE) ((intE .i64)))))
theorem ModelE_n : ModelE.n = 4 := rfl
attribute [grind ext] Model.ext
instance : DecidableEq Model := fun x y => decidable_of_iff (x.traits = y.traits ∧ x.cards = y.cards ∧ x.trees = y.trees ∧ x.need = y.need) ⟨fun ⟨h0, h1, h2, h3⟩ => Model.ext h0 h1 h2 h3, fun h => by subst h; exact ⟨rfl, rfl, rfl, rfl⟩⟩
theorem ModelE_R {M : List Nat} {w : World} {cs : List Value} {x : Model} : ModelE.R M w cs x ↔ ∃ v1 : Value, ∃ v2 : Value, cs = [Value.int IntKind.i64 x.traits, v1, v2, Value.int IntKind.i64 x.need] ∧ InK .i64 x.traits ∧ RdS CardE M w v1 x.cards ∧ RdS TreeE M w v2 x.trees ∧ InK .i64 x.need := by
  simp only [ModelE, mapE_R, prodE_R, intE_R, boolE_R, sliceE_R]
  constructor
  · rintro ⟨_, _, rfl, ⟨rfl, h0⟩, ⟨_, _, rfl, ⟨v1, rfl, h1⟩, ⟨_, _, rfl, ⟨v2, rfl, h2⟩, ⟨rfl, h3⟩⟩⟩⟩
    exact ⟨v1, v2, rfl, h0, h1, h2, h3⟩
  · rintro ⟨v1, v2, rfl, h0, h1, h2, h3⟩
    exact ⟨[Value.int IntKind.i64 x.traits], [v1, v2, Value.int IntKind.i64 x.need], rfl, ⟨rfl, h0⟩, ⟨[v1], [v2, Value.int IntKind.i64 x.need], rfl, ⟨v1, rfl, h1⟩, ⟨[v2], [Value.int IntKind.i64 x.need], rfl, ⟨v2, rfl, h2⟩, ⟨rfl, h3⟩⟩⟩⟩
theorem sl22 : SlT Try.prog 22 54 3 40 := ⟨Try.underlying22, Try.t54, _, by kernel_rfl, rfl, rfl, rfl, rfl⟩
theorem sl23 : SlT Try.prog 23 59 2 32 := ⟨Try.underlying23, Try.t59, _, by kernel_rfl, rfl, rfl, rfl, rfl⟩
theorem sl26 : SlT Try.prog 26 3 1 8 := ⟨Try.underlying26, Try.t3, _, by kernel_rfl, rfl, rfl, rfl, rfl⟩
theorem sl43 : SlT Try.prog 43 45 2 16 := ⟨Try.underlying43, Try.t45, _, by kernel_rfl, rfl, rfl, rfl, rfl⟩
theorem sl52 : SlT Try.prog 52 56 3 56 := ⟨Try.underlying52, Try.t56, _, by kernel_rfl, rfl, rfl, rfl, rfl⟩
theorem sl57 : SlT Try.prog 57 62 5 40 := ⟨Try.underlying57, Try.t62, _, by kernel_rfl, rfl, rfl, rfl, rfl⟩
theorem sl60 : SlT Try.prog 60 4 1 1 := ⟨Try.underlying60, Try.t4, _, by kernel_rfl, rfl, rfl, rfl, rfl⟩
theorem sl63 : SlT Try.prog 63 65 1 4 := ⟨Try.underlying63, Try.t65, _, by kernel_rfl, rfl, rfl, rfl, rfl⟩
theorem sl78 : SlT Try.prog 78 87 1 16 := ⟨Try.underlying78, Try.t87, _, by kernel_rfl, rfl, rfl, rfl, rfl⟩
theorem sl98 : SlT Try.prog 98 26 1 24 := ⟨Try.underlying98, Try.t26, _, by kernel_rfl, rfl, rfl, rfl, rfl⟩
end Go.Proofs.Ytecmlmngcnionaa
