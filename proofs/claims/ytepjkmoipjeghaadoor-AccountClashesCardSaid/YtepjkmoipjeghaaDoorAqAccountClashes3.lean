/-
  Part AccountClashes 3 of the texts that the statement's proof stands on: what memory holds, how code is walked, what the functions reckon. In the order in which they build.
-/
import Derived.Test.YtepjkmoipjeghaaDoorProg
import Derived.Test.YtepjkmoipjeghaaDoorAqAccountClashes2
set_option linter.unusedVariables false
set_option linter.unusedSectionVars false
namespace Go.Proofs.YtepjkmoipjeghaaDoor
open Go Go.Sx Go.RowKit
variable [Trk]
theorem fol : Tryd.prog.follows .mixedOrders = true := by kernel_rfl
@[ext] structure Report where
  id : Int
  source : Int
  account : Int
  made : Int
  about : Int
  kind : Int
  cents : Int
  of_ : Int
def ReportE : Enc Report := mapE (fun x => (x.id, (x.source, (x.account, (x.made, (x.about, (x.kind, (x.cents, x.of_)))))))) (prodE (intE .i64) (prodE (intE .i64) (prodE (intE .i64) (prodE (intE .i64) (prodE (intE .i64) (prodE (intE .u8) (prodE (intE .i64) ((intE .i64)))))))))
attribute [grind ext] Report.ext
instance : DecidableEq Report := fun x y => decidable_of_iff (x.id = y.id ∧ x.source = y.source ∧ x.account = y.account ∧ x.made = y.made ∧ x.about = y.about ∧ x.kind = y.kind ∧ x.cents = y.cents ∧ x.of_ = y.of_) ⟨fun ⟨h0, h1, h2, h3, h4, h5, h6, h7⟩ => Report.ext h0 h1 h2 h3 h4 h5 h6 h7, fun h => by subst h; exact ⟨rfl, rfl, rfl, rfl, rfl, rfl, rfl, rfl⟩⟩
theorem ReportE_R {M : List Nat} {w : World} {cs : List Value} {x : Report} : ReportE.R M w cs x ↔ cs = [Value.int IntKind.i64 x.id, Value.int IntKind.i64 x.source, Value.int IntKind.i64 x.account, Value.int IntKind.i64 x.made, Value.int IntKind.i64 x.about, Value.int IntKind.u8 x.kind, Value.int IntKind.i64 x.cents, Value.int IntKind.i64 x.of_] ∧ InK .i64 x.id ∧ InK .i64 x.source ∧ InK .i64 x.account ∧ InK .i64 x.made ∧ InK .i64 x.about ∧ InK .u8 x.kind ∧ InK .i64 x.cents ∧ InK .i64 x.of_ := by
  simp only [ReportE, mapE_R, prodE_R, intE_R, boolE_R, sliceE_R]
  constructor
  · rintro ⟨_, _, rfl, ⟨rfl, h0⟩, ⟨_, _, rfl, ⟨rfl, h1⟩, ⟨_, _, rfl, ⟨rfl, h2⟩, ⟨_, _, rfl, ⟨rfl, h3⟩, ⟨_, _, rfl, ⟨rfl, h4⟩, ⟨_, _, rfl, ⟨rfl, h5⟩, ⟨_, _, rfl, ⟨rfl, h6⟩, ⟨rfl, h7⟩⟩⟩⟩⟩⟩⟩⟩
    exact ⟨rfl, h0, h1, h2, h3, h4, h5, h6, h7⟩
  · rintro ⟨rfl, h0, h1, h2, h3, h4, h5, h6, h7⟩
    exact ⟨[Value.int IntKind.i64 x.id], [Value.int IntKind.i64 x.source, Value.int IntKind.i64 x.account, Value.int IntKind.i64 x.made, Value.int IntKind.i64 x.about, Value.int IntKind.u8 x.kind, Value.int IntKind.i64 x.cents, Value.int IntKind.i64 x.of_], rfl, ⟨rfl, h0⟩, ⟨[Value.int IntKind.i64 x.source], [Value.int IntKind.i64 x.account, Value.int IntKind.i64 x.made, Value.int IntKind.i64 x.about, Value.int IntKind.u8 x.kind, Value.int IntKind.i64 x.cents, Value.int IntKind.i64 x.of_], rfl, ⟨rfl, h1⟩, ⟨[Value.int IntKind.i64 x.account], [Value.int IntKind.i64 x.made, Value.int IntKind.i64 x.about, Value.int IntKind.u8 x.kind, Value.int IntKind.i64 x.cents, Value.int IntKind.i64 x.of_], rfl, ⟨rfl, h2⟩, ⟨[Value.int IntKind.i64 x.made], [Value.int IntKind.i64 x.about, Value.int IntKind.u8 x.kind, Value.int IntKind.i64 x.cents, Value.int IntKind.i64 x.of_], rfl, ⟨rfl, h3⟩, ⟨[Value.int IntKind.i64 x.about], [Value.int IntKind.u8 x.kind, Value.int IntKind.i64 x.cents, Value.int IntKind.i64 x.of_], rfl, ⟨rfl, h4⟩, ⟨[Value.int IntKind.u8 x.kind], [Value.int IntKind.i64 x.cents, Value.int IntKind.i64 x.of_], rfl, ⟨rfl, h5⟩, ⟨[Value.int IntKind.i64 x.cents], [Value.int IntKind.i64 x.of_], rfl, ⟨rfl, h6⟩, ⟨rfl, h7⟩⟩⟩⟩⟩⟩⟩⟩
theorem Report_eq (x y : Report) (w : World) : (Op.equalIn 10000 61 (.agg (List.toArray [Value.int IntKind.i64 x.id, Value.int IntKind.i64 x.source, Value.int IntKind.i64 x.account, Value.int IntKind.i64 x.made, Value.int IntKind.i64 x.about, Value.int IntKind.u8 x.kind, Value.int IntKind.i64 x.cents, Value.int IntKind.i64 x.of_])) (.agg (List.toArray [Value.int IntKind.i64 y.id, Value.int IntKind.i64 y.source, Value.int IntKind.i64 y.account, Value.int IntKind.i64 y.made, Value.int IntKind.i64 y.about, Value.int IntKind.u8 y.kind, Value.int IntKind.i64 y.cents, Value.int IntKind.i64 y.of_]))).run Tryd.prog w = .ok (decide (x = y)) w := by
  have hf : Tryd.prog.underlying 61 = some (.struct (Tryd.prog.fieldsOf 61)) := by simp [Program.fieldsOf, Tryd.underlying61]
  rw [show (10000 : Nat) = 9999 + 1 from rfl, run_equalIn_agg w 9999 61 _ _ hf Tryd.stoodInHeld61]
  have h0 : decide (x = y) = (decide (x.id = y.id) && decide (x.source = y.source) && decide (x.account = y.account) && decide (x.made = y.made) && decide (x.about = y.about) && decide (x.kind = y.kind) && decide (x.cents = y.cents) && decide (x.of_ = y.of_)) := by
    rw [Bool.eq_iff_iff]; simp only [decide_eq_true_eq, Bool.and_eq_true]; constructor
    · rintro rfl; simp
    · intro h; apply Report.ext <;> simp_all
  rw [h0]
  simp [Program.fieldsOf, Tryd.underlying61, Op.eqFields, part, Tryd.isAgg3, run_equalIn_int w 9998 3 .i64 .i64 _ _ Tryd.underlying3, Tryd.isAgg5, run_equalIn_int w 9998 5 .u8 .u8 _ _ Tryd.underlying5]
  repeat' split
  all_goals simp_all
@[ext] structure Told where
  known : Int
  cents : Int
  since : Int
  by_ : (List Int)
def ToldE : Enc Told := mapE (fun x => (x.known, (x.cents, (x.since, x.by_)))) (prodE (intE .u8) (prodE (intE .i64) (prodE (intE .i64) ((sliceE (intE .i64))))))
attribute [grind ext] Told.ext
instance : DecidableEq Told := fun x y => decidable_of_iff (x.known = y.known ∧ x.cents = y.cents ∧ x.since = y.since ∧ x.by_ = y.by_) ⟨fun ⟨h0, h1, h2, h3⟩ => Told.ext h0 h1 h2 h3, fun h => by subst h; exact ⟨rfl, rfl, rfl, rfl⟩⟩
theorem ToldE_R {M : List Nat} {w : World} {cs : List Value} {x : Told} : ToldE.R M w cs x ↔ ∃ v3 : Value, cs = [Value.int IntKind.u8 x.known, Value.int IntKind.i64 x.cents, Value.int IntKind.i64 x.since, v3] ∧ InK .u8 x.known ∧ InK .i64 x.cents ∧ InK .i64 x.since ∧ RdS (intE .i64) M w v3 x.by_ := by
  simp only [ToldE, mapE_R, prodE_R, intE_R, boolE_R, sliceE_R]
  constructor
  · rintro ⟨_, _, rfl, ⟨rfl, h0⟩, ⟨_, _, rfl, ⟨rfl, h1⟩, ⟨_, _, rfl, ⟨rfl, h2⟩, ⟨v3, rfl, h3⟩⟩⟩⟩
    exact ⟨v3, rfl, h0, h1, h2, h3⟩
  · rintro ⟨v3, rfl, h0, h1, h2, h3⟩
    exact ⟨[Value.int IntKind.u8 x.known], [Value.int IntKind.i64 x.cents, Value.int IntKind.i64 x.since, v3], rfl, ⟨rfl, h0⟩, ⟨[Value.int IntKind.i64 x.cents], [Value.int IntKind.i64 x.since, v3], rfl, ⟨rfl, h1⟩, ⟨[Value.int IntKind.i64 x.since], [v3], rfl, ⟨rfl, h2⟩, ⟨v3, rfl, h3⟩⟩⟩⟩
@[ext] structure Span where
  lo : Int
  hi : Int
def SpanE : Enc Span := mapE (fun x => (x.lo, x.hi)) (prodE (intE .i64) ((intE .i64)))
attribute [grind ext] Span.ext
instance : DecidableEq Span := fun x y => decidable_of_iff (x.lo = y.lo ∧ x.hi = y.hi) ⟨fun ⟨h0, h1⟩ => Span.ext h0 h1, fun h => by subst h; exact ⟨rfl, rfl⟩⟩
theorem SpanE_R {M : List Nat} {w : World} {cs : List Value} {x : Span} : SpanE.R M w cs x ↔ cs = [Value.int IntKind.i64 x.lo, Value.int IntKind.i64 x.hi] ∧ InK .i64 x.lo ∧ InK .i64 x.hi := by
  simp only [SpanE, mapE_R, prodE_R, intE_R, boolE_R, sliceE_R]
  constructor
  · rintro ⟨_, _, rfl, ⟨rfl, h0⟩, ⟨rfl, h1⟩⟩
    exact ⟨rfl, h0, h1⟩
  · rintro ⟨rfl, h0, h1⟩
    exact ⟨[Value.int IntKind.i64 x.lo], [Value.int IntKind.i64 x.hi], rfl, ⟨rfl, h0⟩, ⟨rfl, h1⟩⟩
theorem Span_eq (x y : Span) (w : World) : (Op.equalIn 10000 40 (.agg (List.toArray [Value.int IntKind.i64 x.lo, Value.int IntKind.i64 x.hi])) (.agg (List.toArray [Value.int IntKind.i64 y.lo, Value.int IntKind.i64 y.hi]))).run Tryd.prog w = .ok (decide (x = y)) w := by
  have hf : Tryd.prog.underlying 40 = some (.struct (Tryd.prog.fieldsOf 40)) := by simp [Program.fieldsOf, Tryd.underlying40]
  rw [show (10000 : Nat) = 9999 + 1 from rfl, run_equalIn_agg w 9999 40 _ _ hf Tryd.stoodInHeld40]
  have h0 : decide (x = y) = (decide (x.lo = y.lo) && decide (x.hi = y.hi)) := by
    rw [Bool.eq_iff_iff]; simp only [decide_eq_true_eq, Bool.and_eq_true]; constructor
    · rintro rfl; simp
    · intro h; apply Span.ext <;> simp_all
  rw [h0]
  simp [Program.fieldsOf, Tryd.underlying40, Op.eqFields, part, Tryd.isAgg3, run_equalIn_int w 9998 3 .i64 .i64 _ _ Tryd.underlying3]
  repeat' split
  all_goals simp_all
@[ext] structure State where
  opened : Told
  limit : Told
  owed : Told
  late : Told
  default : Told
  closed : Told
  paid : Span
  is_ : Int
def StateE : Enc State := mapE (fun x => (x.opened, (x.limit, (x.owed, (x.late, (x.default, (x.closed, (x.paid, x.is_)))))))) (prodE ToldE (prodE ToldE (prodE ToldE (prodE ToldE (prodE ToldE (prodE ToldE (prodE SpanE ((intE .u8)))))))))
attribute [grind ext] State.ext
instance : DecidableEq State := fun x y => decidable_of_iff (x.opened = y.opened ∧ x.limit = y.limit ∧ x.owed = y.owed ∧ x.late = y.late ∧ x.default = y.default ∧ x.closed = y.closed ∧ x.paid = y.paid ∧ x.is_ = y.is_) ⟨fun ⟨h0, h1, h2, h3, h4, h5, h6, h7⟩ => State.ext h0 h1 h2 h3 h4 h5 h6 h7, fun h => by subst h; exact ⟨rfl, rfl, rfl, rfl, rfl, rfl, rfl, rfl⟩⟩
theorem StateE_R {M : List Nat} {w : World} {cs : List Value} {x : State} : StateE.R M w cs x ↔ ∃ v3 : Value, ∃ v7 : Value, ∃ v11 : Value, ∃ v15 : Value, ∃ v19 : Value, ∃ v23 : Value, cs = [Value.int IntKind.u8 x.opened.known, Value.int IntKind.i64 x.opened.cents, Value.int IntKind.i64 x.opened.since, v3, Value.int IntKind.u8 x.limit.known, Value.int IntKind.i64 x.limit.cents, Value.int IntKind.i64 x.limit.since, v7, Value.int IntKind.u8 x.owed.known, Value.int IntKind.i64 x.owed.cents, Value.int IntKind.i64 x.owed.since, v11, Value.int IntKind.u8 x.late.known, Value.int IntKind.i64 x.late.cents, Value.int IntKind.i64 x.late.since, v15, Value.int IntKind.u8 x.default.known, Value.int IntKind.i64 x.default.cents, Value.int IntKind.i64 x.default.since, v19, Value.int IntKind.u8 x.closed.known, Value.int IntKind.i64 x.closed.cents, Value.int IntKind.i64 x.closed.since, v23, Value.int IntKind.i64 x.paid.lo, Value.int IntKind.i64 x.paid.hi, Value.int IntKind.u8 x.is_] ∧ InK .u8 x.opened.known ∧ InK .i64 x.opened.cents ∧ InK .i64 x.opened.since ∧ RdS (intE .i64) M w v3 x.opened.by_ ∧ InK .u8 x.limit.known ∧ InK .i64 x.limit.cents ∧ InK .i64 x.limit.since ∧ RdS (intE .i64) M w v7 x.limit.by_ ∧ InK .u8 x.owed.known ∧ InK .i64 x.owed.cents ∧ InK .i64 x.owed.since ∧ RdS (intE .i64) M w v11 x.owed.by_ ∧ InK .u8 x.late.known ∧ InK .i64 x.late.cents ∧ InK .i64 x.late.since ∧ RdS (intE .i64) M w v15 x.late.by_ ∧ InK .u8 x.default.known ∧ InK .i64 x.default.cents ∧ InK .i64 x.default.since ∧ RdS (intE .i64) M w v19 x.default.by_ ∧ InK .u8 x.closed.known ∧ InK .i64 x.closed.cents ∧ InK .i64 x.closed.since ∧ RdS (intE .i64) M w v23 x.closed.by_ ∧ InK .i64 x.paid.lo ∧ InK .i64 x.paid.hi ∧ InK .u8 x.is_ := by
  simp only [StateE, mapE_R, prodE_R, intE_R, boolE_R, sliceE_R, ToldE_R, ToldE_R, ToldE_R, ToldE_R, ToldE_R, ToldE_R, SpanE_R]
  constructor
  · rintro ⟨_, _, rfl, ⟨v3, rfl, h0, h1, h2, h3⟩, ⟨_, _, rfl, ⟨v7, rfl, h4, h5, h6, h7⟩, ⟨_, _, rfl, ⟨v11, rfl, h8, h9, h10, h11⟩, ⟨_, _, rfl, ⟨v15, rfl, h12, h13, h14, h15⟩, ⟨_, _, rfl, ⟨v19, rfl, h16, h17, h18, h19⟩, ⟨_, _, rfl, ⟨v23, rfl, h20, h21, h22, h23⟩, ⟨_, _, rfl, ⟨rfl, h24, h25⟩, ⟨rfl, h26⟩⟩⟩⟩⟩⟩⟩⟩
    exact ⟨v3, v7, v11, v15, v19, v23, rfl, h0, h1, h2, h3, h4, h5, h6, h7, h8, h9, h10, h11, h12, h13, h14, h15, h16, h17, h18, h19, h20, h21, h22, h23, h24, h25, h26⟩
  · rintro ⟨v3, v7, v11, v15, v19, v23, rfl, h0, h1, h2, h3, h4, h5, h6, h7, h8, h9, h10, h11, h12, h13, h14, h15, h16, h17, h18, h19, h20, h21, h22, h23, h24, h25, h26⟩
    exact ⟨[Value.int IntKind.u8 x.opened.known, Value.int IntKind.i64 x.opened.cents, Value.int IntKind.i64 x.opened.since, v3], [Value.int IntKind.u8 x.limit.known, Value.int IntKind.i64 x.limit.cents, Value.int IntKind.i64 x.limit.since, v7, Value.int IntKind.u8 x.owed.known, Value.int IntKind.i64 x.owed.cents, Value.int IntKind.i64 x.owed.since, v11, Value.int IntKind.u8 x.late.known, Value.int IntKind.i64 x.late.cents, Value.int IntKind.i64 x.late.since, v15, Value.int IntKind.u8 x.default.known, Value.int IntKind.i64 x.default.cents, Value.int IntKind.i64 x.default.since, v19, Value.int IntKind.u8 x.closed.known, Value.int IntKind.i64 x.closed.cents, Value.int IntKind.i64 x.closed.since, v23, Value.int IntKind.i64 x.paid.lo, Value.int IntKind.i64 x.paid.hi, Value.int IntKind.u8 x.is_], rfl, ⟨v3, rfl, h0, h1, h2, h3⟩, ⟨[Value.int IntKind.u8 x.limit.known, Value.int IntKind.i64 x.limit.cents, Value.int IntKind.i64 x.limit.since, v7], [Value.int IntKind.u8 x.owed.known, Value.int IntKind.i64 x.owed.cents, Value.int IntKind.i64 x.owed.since, v11, Value.int IntKind.u8 x.late.known, Value.int IntKind.i64 x.late.cents, Value.int IntKind.i64 x.late.since, v15, Value.int IntKind.u8 x.default.known, Value.int IntKind.i64 x.default.cents, Value.int IntKind.i64 x.default.since, v19, Value.int IntKind.u8 x.closed.known, Value.int IntKind.i64 x.closed.cents, Value.int IntKind.i64 x.closed.since, v23, Value.int IntKind.i64 x.paid.lo, Value.int IntKind.i64 x.paid.hi, Value.int IntKind.u8 x.is_], rfl, ⟨v7, rfl, h4, h5, h6, h7⟩, ⟨[Value.int IntKind.u8 x.owed.known, Value.int IntKind.i64 x.owed.cents, Value.int IntKind.i64 x.owed.since, v11], [Value.int IntKind.u8 x.late.known, Value.int IntKind.i64 x.late.cents, Value.int IntKind.i64 x.late.since, v15, Value.int IntKind.u8 x.default.known, Value.int IntKind.i64 x.default.cents, Value.int IntKind.i64 x.default.since, v19, Value.int IntKind.u8 x.closed.known, Value.int IntKind.i64 x.closed.cents, Value.int IntKind.i64 x.closed.since, v23, Value.int IntKind.i64 x.paid.lo, Value.int IntKind.i64 x.paid.hi, Value.int IntKind.u8 x.is_], rfl, ⟨v11, rfl, h8, h9, h10, h11⟩, ⟨[Value.int IntKind.u8 x.late.known, Value.int IntKind.i64 x.late.cents, Value.int IntKind.i64 x.late.since, v15], [Value.int IntKind.u8 x.default.known, Value.int IntKind.i64 x.default.cents, Value.int IntKind.i64 x.default.since, v19, Value.int IntKind.u8 x.closed.known, Value.int IntKind.i64 x.closed.cents, Value.int IntKind.i64 x.closed.since, v23, Value.int IntKind.i64 x.paid.lo, Value.int IntKind.i64 x.paid.hi, Value.int IntKind.u8 x.is_], rfl, ⟨v15, rfl, h12, h13, h14, h15⟩, ⟨[Value.int IntKind.u8 x.default.known, Value.int IntKind.i64 x.default.cents, Value.int IntKind.i64 x.default.since, v19], [Value.int IntKind.u8 x.closed.known, Value.int IntKind.i64 x.closed.cents, Value.int IntKind.i64 x.closed.since, v23, Value.int IntKind.i64 x.paid.lo, Value.int IntKind.i64 x.paid.hi, Value.int IntKind.u8 x.is_], rfl, ⟨v19, rfl, h16, h17, h18, h19⟩, ⟨[Value.int IntKind.u8 x.closed.known, Value.int IntKind.i64 x.closed.cents, Value.int IntKind.i64 x.closed.since, v23], [Value.int IntKind.i64 x.paid.lo, Value.int IntKind.i64 x.paid.hi, Value.int IntKind.u8 x.is_], rfl, ⟨v23, rfl, h20, h21, h22, h23⟩, ⟨[Value.int IntKind.i64 x.paid.lo, Value.int IntKind.i64 x.paid.hi], [Value.int IntKind.u8 x.is_], rfl, ⟨rfl, h24, h25⟩, ⟨rfl, h26⟩⟩⟩⟩⟩⟩⟩⟩
@[ext] structure Clash where
  kind : Int
  about : Int
  by_ : (List Int)
def ClashE : Enc Clash := mapE (fun x => (x.kind, (x.about, x.by_))) (prodE (intE .u8) (prodE (intE .i64) ((sliceE (intE .i64)))))
attribute [grind ext] Clash.ext
instance : DecidableEq Clash := fun x y => decidable_of_iff (x.kind = y.kind ∧ x.about = y.about ∧ x.by_ = y.by_) ⟨fun ⟨h0, h1, h2⟩ => Clash.ext h0 h1 h2, fun h => by subst h; exact ⟨rfl, rfl, rfl⟩⟩
theorem ClashE_R {M : List Nat} {w : World} {cs : List Value} {x : Clash} : ClashE.R M w cs x ↔ ∃ v2 : Value, cs = [Value.int IntKind.u8 x.kind, Value.int IntKind.i64 x.about, v2] ∧ InK .u8 x.kind ∧ InK .i64 x.about ∧ RdS (intE .i64) M w v2 x.by_ := by
  simp only [ClashE, mapE_R, prodE_R, intE_R, boolE_R, sliceE_R]
  constructor
  · rintro ⟨_, _, rfl, ⟨rfl, h0⟩, ⟨_, _, rfl, ⟨rfl, h1⟩, ⟨v2, rfl, h2⟩⟩⟩
    exact ⟨v2, rfl, h0, h1, h2⟩
  · rintro ⟨v2, rfl, h0, h1, h2⟩
    exact ⟨[Value.int IntKind.u8 x.kind], [Value.int IntKind.i64 x.about, v2], rfl, ⟨rfl, h0⟩, ⟨[Value.int IntKind.i64 x.about], [v2], rfl, ⟨rfl, h1⟩, ⟨v2, rfl, h2⟩⟩⟩
@[ext] structure Store where
  reports : (FMap Int Report)
@[ext] structure Desk where
  store : Store
  gone : (FMap Int Int)
  fixed : (FMap Int Int)
theorem sl22 : SlT Tryd.prog 22 61 8 64 := ⟨Tryd.underlying22, Tryd.t61, _, by kernel_rfl, rfl, rfl, rfl, rfl⟩
theorem sl36 : SlT Tryd.prog 36 3 1 8 := ⟨Tryd.underlying36, Tryd.t3, _, by kernel_rfl, rfl, rfl, rfl, rfl⟩
theorem sl47 : SlT Tryd.prog 47 55 3 40 := ⟨Tryd.underlying47, Tryd.t55, _, by kernel_rfl, rfl, rfl, rfl, rfl⟩
theorem sl70 : SlT Tryd.prog 70 38 4 48 := ⟨Tryd.underlying70, Tryd.t38, _, by kernel_rfl, rfl, rfl, rfl, rfl⟩
theorem sl71 : SlT Tryd.prog 71 5 1 1 := ⟨Tryd.underlying71, Tryd.t5, _, by kernel_rfl, rfl, rfl, rfl, rfl⟩
end Go.Proofs.YtepjkmoipjeghaaDoor
namespace Go.Sx
open Go Go.RowKit
abbrev vi (x : Int) : Value := .int .i64 x
abbrev vu (x : Int) : Value := .int .u8 x
abbrev vn : Value := .slice none 0 0
abbrev vp (b n : Nat) : Value := .pointer (some ⟨b, n, none⟩)
section
variable [Trk]
theorem sb1 {t0 : Nat} {v0 : Value} {L : Env} (h0 : look L t0 = some v0) : Sub [(t0, v0)] L := Sub.cons h0 (Sub.nil _)
theorem sb2 {t0 t1 : Nat} {v0 v1 : Value} {L : Env} (h0 : look L t0 = some v0) (h1 : look L t1 = some v1) : Sub [(t0, v0), (t1, v1)] L := Sub.cons h0 (Sub.cons h1 (Sub.nil _))
theorem sb3 {t0 t1 t2 : Nat} {v0 v1 v2 : Value} {L : Env} (h0 : look L t0 = some v0) (h1 : look L t1 = some v1) (h2 : look L t2 = some v2) : Sub [(t0, v0), (t1, v1), (t2, v2)] L := Sub.cons h0 (Sub.cons h1 (Sub.cons h2 (Sub.nil _)))
theorem sb4 {t0 t1 t2 t3 : Nat} {v0 v1 v2 v3 : Value} {L : Env} (h0 : look L t0 = some v0) (h1 : look L t1 = some v1) (h2 : look L t2 = some v2) (h3 : look L t3 = some v3) : Sub [(t0, v0), (t1, v1), (t2, v2), (t3, v3)] L := Sub.cons h0 (Sub.cons h1 (Sub.cons h2 (Sub.cons h3 (Sub.nil _))))
theorem sb5 {t0 t1 t2 t3 t4 : Nat} {v0 v1 v2 v3 v4 : Value} {L : Env} (h0 : look L t0 = some v0) (h1 : look L t1 = some v1) (h2 : look L t2 = some v2) (h3 : look L t3 = some v3) (h4 : look L t4 = some v4) : Sub [(t0, v0), (t1, v1), (t2, v2), (t3, v3), (t4, v4)] L := Sub.cons h0 (Sub.cons h1 (Sub.cons h2 (Sub.cons h3 (Sub.cons h4 (Sub.nil _)))))
theorem sb6 {t0 t1 t2 t3 t4 t5 : Nat} {v0 v1 v2 v3 v4 v5 : Value} {L : Env} (h0 : look L t0 = some v0) (h1 : look L t1 = some v1) (h2 : look L t2 = some v2) (h3 : look L t3 = some v3) (h4 : look L t4 = some v4) (h5 : look L t5 = some v5) : Sub [(t0, v0), (t1, v1), (t2, v2), (t3, v3), (t4, v4), (t5, v5)] L := Sub.cons h0 (Sub.cons h1 (Sub.cons h2 (Sub.cons h3 (Sub.cons h4 (Sub.cons h5 (Sub.nil _))))))
theorem sb7 {t0 t1 t2 t3 t4 t5 t6 : Nat} {v0 v1 v2 v3 v4 v5 v6 : Value} {L : Env} (h0 : look L t0 = some v0) (h1 : look L t1 = some v1) (h2 : look L t2 = some v2) (h3 : look L t3 = some v3) (h4 : look L t4 = some v4) (h5 : look L t5 = some v5) (h6 : look L t6 = some v6) : Sub [(t0, v0), (t1, v1), (t2, v2), (t3, v3), (t4, v4), (t5, v5), (t6, v6)] L := Sub.cons h0 (Sub.cons h1 (Sub.cons h2 (Sub.cons h3 (Sub.cons h4 (Sub.cons h5 (Sub.cons h6 (Sub.nil _)))))))
theorem sb8 {t0 t1 t2 t3 t4 t5 t6 t7 : Nat} {v0 v1 v2 v3 v4 v5 v6 v7 : Value} {L : Env} (h0 : look L t0 = some v0) (h1 : look L t1 = some v1) (h2 : look L t2 = some v2) (h3 : look L t3 = some v3) (h4 : look L t4 = some v4) (h5 : look L t5 = some v5) (h6 : look L t6 = some v6) (h7 : look L t7 = some v7) : Sub [(t0, v0), (t1, v1), (t2, v2), (t3, v3), (t4, v4), (t5, v5), (t6, v6), (t7, v7)] L := Sub.cons h0 (Sub.cons h1 (Sub.cons h2 (Sub.cons h3 (Sub.cons h4 (Sub.cons h5 (Sub.cons h6 (Sub.cons h7 (Sub.nil _))))))))
theorem sb9 {t0 t1 t2 t3 t4 t5 t6 t7 t8 : Nat} {v0 v1 v2 v3 v4 v5 v6 v7 v8 : Value} {L : Env} (h0 : look L t0 = some v0) (h1 : look L t1 = some v1) (h2 : look L t2 = some v2) (h3 : look L t3 = some v3) (h4 : look L t4 = some v4) (h5 : look L t5 = some v5) (h6 : look L t6 = some v6) (h7 : look L t7 = some v7) (h8 : look L t8 = some v8) : Sub [(t0, v0), (t1, v1), (t2, v2), (t3, v3), (t4, v4), (t5, v5), (t6, v6), (t7, v7), (t8, v8)] L := Sub.cons h0 (Sub.cons h1 (Sub.cons h2 (Sub.cons h3 (Sub.cons h4 (Sub.cons h5 (Sub.cons h6 (Sub.cons h7 (Sub.cons h8 (Sub.nil _)))))))))
theorem sb10 {t0 t1 t2 t3 t4 t5 t6 t7 t8 t9 : Nat} {v0 v1 v2 v3 v4 v5 v6 v7 v8 v9 : Value} {L : Env} (h0 : look L t0 = some v0) (h1 : look L t1 = some v1) (h2 : look L t2 = some v2) (h3 : look L t3 = some v3) (h4 : look L t4 = some v4) (h5 : look L t5 = some v5) (h6 : look L t6 = some v6) (h7 : look L t7 = some v7) (h8 : look L t8 = some v8) (h9 : look L t9 = some v9) : Sub [(t0, v0), (t1, v1), (t2, v2), (t3, v3), (t4, v4), (t5, v5), (t6, v6), (t7, v7), (t8, v8), (t9, v9)] L := Sub.cons h0 (Sub.cons h1 (Sub.cons h2 (Sub.cons h3 (Sub.cons h4 (Sub.cons h5 (Sub.cons h6 (Sub.cons h7 (Sub.cons h8 (Sub.cons h9 (Sub.nil _))))))))))
theorem sb11 {t0 t1 t2 t3 t4 t5 t6 t7 t8 t9 t10 : Nat} {v0 v1 v2 v3 v4 v5 v6 v7 v8 v9 v10 : Value} {L : Env} (h0 : look L t0 = some v0) (h1 : look L t1 = some v1) (h2 : look L t2 = some v2) (h3 : look L t3 = some v3) (h4 : look L t4 = some v4) (h5 : look L t5 = some v5) (h6 : look L t6 = some v6) (h7 : look L t7 = some v7) (h8 : look L t8 = some v8) (h9 : look L t9 = some v9) (h10 : look L t10 = some v10) : Sub [(t0, v0), (t1, v1), (t2, v2), (t3, v3), (t4, v4), (t5, v5), (t6, v6), (t7, v7), (t8, v8), (t9, v9), (t10, v10)] L := Sub.cons h0 (Sub.cons h1 (Sub.cons h2 (Sub.cons h3 (Sub.cons h4 (Sub.cons h5 (Sub.cons h6 (Sub.cons h7 (Sub.cons h8 (Sub.cons h9 (Sub.cons h10 (Sub.nil _)))))))))))
theorem sb12 {t0 t1 t2 t3 t4 t5 t6 t7 t8 t9 t10 t11 : Nat} {v0 v1 v2 v3 v4 v5 v6 v7 v8 v9 v10 v11 : Value} {L : Env} (h0 : look L t0 = some v0) (h1 : look L t1 = some v1) (h2 : look L t2 = some v2) (h3 : look L t3 = some v3) (h4 : look L t4 = some v4) (h5 : look L t5 = some v5) (h6 : look L t6 = some v6) (h7 : look L t7 = some v7) (h8 : look L t8 = some v8) (h9 : look L t9 = some v9) (h10 : look L t10 = some v10) (h11 : look L t11 = some v11) : Sub [(t0, v0), (t1, v1), (t2, v2), (t3, v3), (t4, v4), (t5, v5), (t6, v6), (t7, v7), (t8, v8), (t9, v9), (t10, v10), (t11, v11)] L := Sub.cons h0 (Sub.cons h1 (Sub.cons h2 (Sub.cons h3 (Sub.cons h4 (Sub.cons h5 (Sub.cons h6 (Sub.cons h7 (Sub.cons h8 (Sub.cons h9 (Sub.cons h10 (Sub.cons h11 (Sub.nil _))))))))))))
theorem on2 {v0 v1 : Value} (h0 : v0.oneCell' = true) (h1 : v1.oneCell' = true) : ∀ u ∈ [v0, v1], u.oneCell' = true := one1 h0 (one1 h1 (one0))
theorem on3 {v0 v1 v2 : Value} (h0 : v0.oneCell' = true) (h1 : v1.oneCell' = true) (h2 : v2.oneCell' = true) : ∀ u ∈ [v0, v1, v2], u.oneCell' = true := one1 h0 (one1 h1 (one1 h2 (one0)))
theorem on4 {v0 v1 v2 v3 : Value} (h0 : v0.oneCell' = true) (h1 : v1.oneCell' = true) (h2 : v2.oneCell' = true) (h3 : v3.oneCell' = true) : ∀ u ∈ [v0, v1, v2, v3], u.oneCell' = true := one1 h0 (one1 h1 (one1 h2 (one1 h3 (one0))))
theorem on8 {v0 v1 v2 v3 v4 v5 v6 v7 : Value} (h0 : v0.oneCell' = true) (h1 : v1.oneCell' = true) (h2 : v2.oneCell' = true) (h3 : v3.oneCell' = true) (h4 : v4.oneCell' = true) (h5 : v5.oneCell' = true) (h6 : v6.oneCell' = true) (h7 : v7.oneCell' = true) : ∀ u ∈ [v0, v1, v2, v3, v4, v5, v6, v7], u.oneCell' = true := one1 h0 (one1 h1 (one1 h2 (one1 h3 (one1 h4 (one1 h5 (one1 h6 (one1 h7 (one0))))))))
theorem on27 {v0 v1 v2 v3 v4 v5 v6 v7 v8 v9 v10 v11 v12 v13 v14 v15 v16 v17 v18 v19 v20 v21 v22 v23 v24 v25 v26 : Value} (h0 : v0.oneCell' = true) (h1 : v1.oneCell' = true) (h2 : v2.oneCell' = true) (h3 : v3.oneCell' = true) (h4 : v4.oneCell' = true) (h5 : v5.oneCell' = true) (h6 : v6.oneCell' = true) (h7 : v7.oneCell' = true) (h8 : v8.oneCell' = true) (h9 : v9.oneCell' = true) (h10 : v10.oneCell' = true) (h11 : v11.oneCell' = true) (h12 : v12.oneCell' = true) (h13 : v13.oneCell' = true) (h14 : v14.oneCell' = true) (h15 : v15.oneCell' = true) (h16 : v16.oneCell' = true) (h17 : v17.oneCell' = true) (h18 : v18.oneCell' = true) (h19 : v19.oneCell' = true) (h20 : v20.oneCell' = true) (h21 : v21.oneCell' = true) (h22 : v22.oneCell' = true) (h23 : v23.oneCell' = true) (h24 : v24.oneCell' = true) (h25 : v25.oneCell' = true) (h26 : v26.oneCell' = true) : ∀ u ∈ [v0, v1, v2, v3, v4, v5, v6, v7, v8, v9, v10, v11, v12, v13, v14, v15, v16, v17, v18, v19, v20, v21, v22, v23, v24, v25, v26], u.oneCell' = true := one1 h0 (one1 h1 (one1 h2 (one1 h3 (one1 h4 (one1 h5 (one1 h6 (one1 h7 (one1 h8 (one1 h9 (one1 h10 (one1 h11 (one1 h12 (one1 h13 (one1 h14 (one1 h15 (one1 h16 (one1 h17 (one1 h18 (one1 h19 (one1 h20 (one1 h21 (one1 h22 (one1 h23 (one1 h24 (one1 h25 (one1 h26 (one0)))))))))))))))))))))))))))
def pick : List Nat → Env → Option Env
  | [], _ => some []
  | k :: ks, L => match look L k, pick ks L with
    | some v, some r => some ((k, v) :: r)
    | _, _ => none
theorem pick_sub : ∀ {ks : List Nat} {L L' : Env}, pick ks L' = some L → Sub L L'
  | [], _, _, h => by cases h; exact Sub.nil _
  | k :: ks, L, L', h => by
    unfold pick at h
    split at h
    · rename_i v r h1 h2
      cases h
      exact Sub.cons h1 (pick_sub h2)
    · cases h
theorem cw_keep {P : Program} {N : Nat} {ds : List Deferred} {L L' : Env} {w : World} {A B : Out} {X : Nat → Out} {Z : List PanicEntry → Out} {c : Code} (ks : List Nat) (hp : pick ks L' = some L) (h : CW P N c ds L w A B X Z) : CW P N c ds L' w A B X Z := cw_sub (pick_sub hp) h
theorem Reg.nilK {P : Program} {N : Nat} {ops : Array Oper} {ds : List Deferred} {L L0 : Env} {w : World} {A B : Out} {X : Nat → Out} {Z : List PanicEntry → Out} (ks : List Nat) (hp : pick ks L = some L0) (h : A ds L0 w) : Reg P N ops .seq [] ds L w A B X Z := Reg.nilS (pick_sub hp) h
end
end Go.Sx
namespace Go.Proofs.YtepjkmoipjeghaaDoor
open Go Go.Sx
/-- A report's cells. -/
abbrev vR (x : Report) : List Value := [vi x.id, vi x.source, vi x.account, vi x.made, vi x.about, vu x.kind, vi x.cents, vi x.of_]
abbrev zR : List Value := [vi 0, vi 0, vi 0, vi 0, vi 0, vu 0, vi 0, vi 0]
/-- The cells of what is told, ahead of others. -/
abbrev tV (x : Told) (v : Value) (l : List Value) : List Value := vu x.known :: vi x.cents :: vi x.since :: v :: l
abbrev tZ (l : List Value) : List Value := vu 0 :: vi 0 :: vi 0 :: vn :: l
abbrev zSt : List Value := tZ (tZ (tZ (tZ (tZ (tZ [vi 0, vi 0, vu 0])))))
end Go.Proofs.YtepjkmoipjeghaaDoor
namespace Go.Proofs.YtepjkmoipjeghaaDoor
open Go Go.Sx Go.RowKit
variable [Trk]
abbrev Ky3 : Ky Tryd.prog 3 Int := intKy .i64 Tryd.underlying3
/-- What the variable most holds. -/
def glob0 : List Int := [0, 0, 1000000000000, 1000000000000, 1000000000000, 10000, 1000000000000, 0, 1000000000000, 0]
theorem glob0_in {i y : Int} (h : ixo glob0 i = some y) : InK .i64 y := by
  obtain ⟨h0, h1, h2⟩ := ixo_out h
  have : y ∈ glob0 := List.mem_of_getElem? h2
  rw [InK.i64]
  simp [glob0] at this
  omega
end Go.Proofs.YtepjkmoipjeghaaDoor
set_option maxRecDepth 20000
set_option maxHeartbeats 4000000
namespace Go.Proofs.YtepjkmoipjeghaaDoor
open Go Go.Sx Go.RowKit
variable [Trk]
noncomputable def P.ref03_within (n : Int) (lo : Int) (hi : Int) : Option Bool :=
  Option.bind (cond (decide (lo ≤ n)) (some (decide (n ≤ hi))) (some false)) fun x2 => some x2
theorem C_ref03_within {M : List Nat} {w : World} (hM : MLt M w) {n : Int} (f_n_0 : InK .i64 n) {lo : Int} (f_lo_0 : InK .i64 lo) {hi : Int} (f_hi_0 : InK .i64 hi) {r0 : Bool} (h : P.ref03_within n lo hi = some r0) :
  Calls Tryd.prog 39 (List.toArray [vi n, vi lo, vi hi]) w fun e w' => e = .returned (Value.bool r0) ∧ Ext w w' := by
 have hI := Hp.start (Mu := []) hM
 refine calls_cw Tryd.func39 rfl Tryd.ntmps39 rfl ?_
 refine cw_seq (cw_regF (s_as rfl rfl (Reg.nil ?_)))
 obtain ⟨j1, h2, h⟩ := bnd h
 refine cw_keep [0, 1, 2] rfl (cw_seqD 3 (ι := Bool) (fun x3 => [(6, Value.bool x3)]) (fun x3 => fun w4 => w = w4 ∧ x3 = j1) ?_ ?_)
 ·refine cw_regF (s_mv rfl rfl (s_mv rfl rfl (s_geq rfl rfl rfl (s_mv rfl rfl (Reg.gsplit (t := 10) rfl (fun hg7 => ?_) (fun hg7 => ?_))))))
  ·replace h2 := cdT hg7 h2
   refine Reg.take rfl rfl (s_mv rfl rfl (Reg.take rfl rfl (s_mv rfl rfl (Reg.take rfl rfl (s_leq rfl rfl rfl (s_pkT rfl rfl rfl (s_as rfl rfl (Reg.nil ?_))))))))
   obtain rfl := Option.some.inj h2
   refine ⟨rfl, decide (n ≤ hi), ⟨rfl, rfl⟩, sb1 rfl⟩
  replace h2 := cdF hg7 h2
  iterate 3 refine Reg.pass rfl rfl rfl rfl ?_
  refine s_pkF rfl rfl rfl (s_as rfl rfl (Reg.nil ?_))
  obtain rfl := Option.some.inj h2
  refine ⟨rfl, false, ⟨rfl, rfl⟩, sb1 rfl⟩
 rintro x3 _ ⟨rfl, rfl⟩
 refine cw_ret ?_
 obtain rfl := Option.some.inj h
 refine fin1 Tryd.results39 rfl ?_
 exact ⟨rfl, hI.kp⟩
noncomputable def P.ref03_cents (kind : Int) (n : Int) : Option Bool :=
  Option.bind (Option.bind (cond (decide (kind = 1)) (some (decide (kind = 1))) (some (decide (kind = 7)))) fun x2 => some x2) fun x3 => cond x3 (some (decide (n = 0))) (cond (decide (kind = 5)) (Option.bind (P.ref03_within n 0 10000) fun z6 => some z6) (Option.bind (P.ref03_within n 0 1000000000000) fun z11 => some z11))
theorem C_ref03_cents {M : List Nat} {w : World} (hM : MLt M w) {kind : Int} (f_kind_0 : InK .u8 kind) {n : Int} (f_n_0 : InK .i64 n) {r0 : Bool} (h : P.ref03_cents kind n = some r0) :
  Calls Tryd.prog 78 (List.toArray [vu kind, vi n]) w fun e w' => e = .returned (Value.bool r0) ∧ Ext w w' := by
 have hI := Hp.start (Mu := []) hM
 refine calls_cw Tryd.func78 rfl Tryd.ntmps78 rfl ?_
 refine cw_seq (cw_regF (s_as rfl rfl (Reg.nil (cw_seq (cw_seq (cw_regF (s_mv rfl rfl (Reg.nil (cw_block ?_)))))))))
 obtain ⟨j1, h2, h⟩ := bnd h
 refine cw_keep [1, 5] rfl (cw_seqD 0 (ι := Bool) (fun x3 => [(6, Value.bool x3)]) (fun x3 => fun w4 => w = w4 ∧ x3 = j1) ?_ ?_)
 ·refine cw_seq (cw_regF (s_eql rfl rfl rfl (s_as rfl rfl (Reg.nil ?_))))
  obtain ⟨j7, h8, h2⟩ := bnd h2
  refine cw_keep [6, 1, 5] rfl (cw_unitD 1 (ι := Bool) (fun x9 => [(6, Value.bool x9)]) (fun x9 => fun w10 => w = w10 ∧ x9 = j7) ?_ ?_)
  ·refine cw_cond rfl (fun hc13 => ?_) (fun hc13 => ?_)
   ·replace h8 := cdT hc13 h8
    refine cw_skip ?_
    obtain rfl := Option.some.inj h8
    refine ⟨rfl, decide (kind = 1), ⟨rfl, rfl⟩, sb3 rfl rfl rfl⟩
   replace h8 := cdF hc13 h8
   refine cw_regF (s_eql rfl rfl rfl (s_as rfl rfl (Reg.nil ?_)))
   obtain rfl := Option.some.inj h8
   refine ⟨rfl, decide (kind = 7), ⟨rfl, rfl⟩, sb3 rfl rfl rfl⟩
  rintro x9 _ ⟨rfl, rfl⟩
  obtain rfl := Option.some.inj h2
  refine ⟨rfl, x9, ⟨rfl, rfl⟩, sb3 rfl rfl rfl⟩
 rintro x3 _ ⟨rfl, rfl⟩
 refine cw_cond rfl (fun hc14 => ?_) (fun hc14 => ?_)
 ·replace h := cdT hc14 h
  refine cw_seq (cw_regF (s_mv rfl rfl (s_eql rfl rfl rfl (s_as rfl rfl (Reg.nil (cw_ret ?_))))))
  obtain rfl := Option.some.inj h
  refine fin1 Tryd.results78 rfl ?_
  exact ⟨rfl, hI.kp⟩
 replace h := cdF hc14 h
 refine cw_seq (cw_regF (s_eql rfl rfl rfl (s_as rfl rfl (Reg.nil (cw_cond rfl (fun hc15 => ?_) (fun hc15 => ?_))))))
 ·replace h := cdT hc15 h
  refine cw_seq (cw_regF (s_mv rfl rfl ?_))
  obtain ⟨z16, hz17, h⟩ := bnd h
  refine s_call rfl Tryd.call39 rfl ?_
  refine (C_ref03_within hI.mlt f_n_0 (by decide) (by decide) hz17).mono ?_
  rintro _ w18 ⟨rfl, e19⟩
  refine ⟨_, rfl, ?_⟩
  have hI20 := hI.ext e19
  refine s_as rfl rfl (Reg.nil (cw_ret ?_))
  obtain rfl := Option.some.inj h
  refine fin1 Tryd.results78 rfl ?_
  exact ⟨rfl, hI20.kp⟩
 replace h := cdF hc15 h
 refine cw_skip (cw_seq (cw_regF (s_mv rfl rfl ?_)))
 obtain ⟨z21, hz22, h⟩ := bnd h
 refine s_call rfl Tryd.call39 rfl ?_
 refine (C_ref03_within hI.mlt f_n_0 (by decide) (by decide) hz22).mono ?_
 rintro _ w23 ⟨rfl, e24⟩
 refine ⟨_, rfl, ?_⟩
 have hI25 := hI.ext e24
 refine s_as rfl rfl (Reg.nil (cw_ret ?_))
 obtain rfl := Option.some.inj h
 refine fin1 Tryd.results78 rfl ?_
 exact ⟨rfl, hI25.kp⟩
noncomputable def P.ref03_Valid (r : Report) : Option Bool :=
  Option.bind (Option.bind (P.ref03_within r.id 0 999999) fun z7 => cond (!z7) (some true) (Option.bind (P.ref03_within r.source 0 999999) fun z13 => cond (!z13) (some true) (Option.bind (P.ref03_within r.account 0 999999) fun z19 => cond (!z19) (some true) (Option.bind (P.ref03_within r.made 0 100000) fun z25 => cond (!z25) (some true) (Option.bind (P.ref03_within r.about 0 100000) fun z31 => cond (!z31) (some true) (Option.bind (chk .i64 r.kind) fun n37 => Option.bind (P.ref03_within n37 1 9) fun z38 => some (!z38))))))) fun x43 => cond x43 (some false) (cond (decide (r.kind ≤ 7)) (Option.bind (Option.bind (P.ref03_cents r.kind r.cents) fun z46 => cond z46 (some (decide (r.of_ = 0))) (some false)) fun x52 => some x52) (Option.bind (Option.bind (P.ref03_within r.of_ 0 999999) fun z53 => cond (!z53) (some true) (some (decide (r.of_ = r.id)))) fun x59 => cond x59 (some false) (cond (decide (r.kind = 8)) (Option.bind (P.ref03_within r.cents 0 1000000000000) fun z62 => some z62) (Option.bind (cond (decide (r.cents = 0)) (some (decide (r.about = 0))) (some false)) fun x68 => some x68))))
theorem C_ref03_Valid {M : List Nat} {w : World} (hM : MLt M w) {r : Report} (f_r_0 : InK .i64 r.id) (f_r_1 : InK .i64 r.source) (f_r_2 : InK .i64 r.account) (f_r_3 : InK .i64 r.made) (f_r_4 : InK .i64 r.about) (f_r_5 : InK .u8 r.kind) (f_r_6 : InK .i64 r.cents) (f_r_7 : InK .i64 r.of_) {r0 : Bool} (h : P.ref03_Valid r = some r0) :
  Calls Tryd.prog 51 (List.toArray [Value.agg (List.toArray (vR r))]) w fun e w' => e = .returned (Value.bool r0) ∧ Ext w w' := by
 have hI := Hp.start (Mu := []) hM
 refine calls_cw Tryd.func51 rfl Tryd.ntmps51 rfl ?_
 refine cw_seq (cw_regF (y_box hI rfl rfl rfl ?_))
 intro b1 w2 hI3 x4
 have hC6 := hI3.freezeRow 0 rfl
 have hI5 := hI3.erase 0
 refine s_as rfl rfl (Reg.nil (cw_seq ?_))
 obtain ⟨j7, h8, h⟩ := bnd h
 refine cw_keep [1] rfl (cw_seqD 0 (ι := Bool) (fun x9 => [(37, Value.bool x9)]) (fun x9 => fun w10 => Hp w [] M [] w10 ∧ Adv (mm [] M) (mm [] M) w2 w10 ∧ x9 = j7) ?_ ?_)
 ·refine cw_regF (s_fa rfl Tryd.underlying61 rfl Tryd.sizeOf3 rfl (s_ld rfl (hC6.cells.at 0 rfl) Tryd.isAgg3 rfl ?_))
  obtain ⟨z13, hz14, h8⟩ := bnd h8
  refine s_call rfl Tryd.call39 rfl ?_
  refine (C_ref03_within hI5.mlt f_r_0 (by decide) (by decide) hz14).mono ?_
  rintro _ w15 ⟨rfl, e16⟩
  refine ⟨_, rfl, ?_⟩
  have hI17 := hI5.ext e16
  refine s_not rfl rfl (s_mv rfl rfl (Reg.gsplit (t := 7) rfl (fun hg18 => ?_) (fun hg18 => ?_)))
  ·replace h8 := cdT hg18 h8
   iterate 4 refine Reg.pass rfl rfl rfl rfl ?_
   refine s_pkT rfl rfl rfl (s_mv rfl rfl ?_)
   iterate 4 refine Reg.pass rfl rfl rfl rfl ?_
   refine s_pkT rfl rfl rfl (s_mv rfl rfl ?_)
   iterate 4 refine Reg.pass rfl rfl rfl rfl ?_
   refine s_pkT rfl rfl rfl (s_mv rfl rfl ?_)
   iterate 4 refine Reg.pass rfl rfl rfl rfl ?_
   refine s_pkT rfl rfl rfl (s_mv rfl rfl ?_)
   iterate 5 refine Reg.pass rfl rfl rfl rfl ?_
   refine s_pkT rfl rfl rfl (Reg.nil ?_)
   obtain rfl := Option.some.inj h8
   refine ⟨rfl, true, ⟨hI17, (Adv.of_ext e16), rfl⟩, sb2 rfl rfl⟩
  replace h8 := cdF hg18 h8
  refine Reg.take rfl rfl (s_fa rfl Tryd.underlying61 rfl Tryd.sizeOf3 rfl (Reg.take rfl rfl (s_ld rfl ((hC6.adv (Adv.of_ext e16)).cells.at 1 rfl) Tryd.isAgg3 rfl (Reg.take rfl rfl ?_))))
  obtain ⟨z19, hz20, h8⟩ := bnd h8
  refine s_call rfl Tryd.call39 rfl ?_
  refine (C_ref03_within hI17.mlt f_r_1 (by decide) (by decide) hz20).mono ?_
  rintro _ w21 ⟨rfl, e22⟩
  refine ⟨_, rfl, ?_⟩
  have hI23 := hI17.ext e22
  refine Reg.take rfl rfl (s_not rfl rfl (s_pkF rfl rfl rfl (s_mv rfl rfl (Reg.gsplit (t := 13) rfl (fun hg24 => ?_) (fun hg24 => ?_)))))
  ·replace h8 := cdT hg24 h8
   iterate 4 refine Reg.pass rfl rfl rfl rfl ?_
   refine s_pkT rfl rfl rfl (s_mv rfl rfl ?_)
   iterate 4 refine Reg.pass rfl rfl rfl rfl ?_
   refine s_pkT rfl rfl rfl (s_mv rfl rfl ?_)
   iterate 4 refine Reg.pass rfl rfl rfl rfl ?_
   refine s_pkT rfl rfl rfl (s_mv rfl rfl ?_)
   iterate 5 refine Reg.pass rfl rfl rfl rfl ?_
   refine s_pkT rfl rfl rfl (Reg.nil ?_)
   obtain rfl := Option.some.inj h8
   refine ⟨rfl, true, ⟨hI23, ((Adv.of_ext e16).trans (Adv.of_ext e22)), rfl⟩, sb2 rfl rfl⟩
  replace h8 := cdF hg24 h8
  refine Reg.take rfl rfl (s_fa rfl Tryd.underlying61 rfl Tryd.sizeOf3 rfl (Reg.take rfl rfl (s_ld rfl ((hC6.adv ((Adv.of_ext e16).trans (Adv.of_ext e22))).cells.at 2 rfl) Tryd.isAgg3 rfl (Reg.take rfl rfl ?_))))
  obtain ⟨z25, hz26, h8⟩ := bnd h8
  refine s_call rfl Tryd.call39 rfl ?_
  refine (C_ref03_within hI23.mlt f_r_2 (by decide) (by decide) hz26).mono ?_
  rintro _ w27 ⟨rfl, e28⟩
  refine ⟨_, rfl, ?_⟩
  have hI29 := hI23.ext e28
  refine Reg.take rfl rfl (s_not rfl rfl (s_pkF rfl rfl rfl (s_mv rfl rfl (Reg.gsplit (t := 19) rfl (fun hg30 => ?_) (fun hg30 => ?_)))))
  ·replace h8 := cdT hg30 h8
   iterate 4 refine Reg.pass rfl rfl rfl rfl ?_
   refine s_pkT rfl rfl rfl (s_mv rfl rfl ?_)
   iterate 4 refine Reg.pass rfl rfl rfl rfl ?_
   refine s_pkT rfl rfl rfl (s_mv rfl rfl ?_)
   iterate 5 refine Reg.pass rfl rfl rfl rfl ?_
   refine s_pkT rfl rfl rfl (Reg.nil ?_)
   obtain rfl := Option.some.inj h8
   refine ⟨rfl, true, ⟨hI29, ((Adv.of_ext e16).trans ((Adv.of_ext e22).trans (Adv.of_ext e28))), rfl⟩, sb2 rfl rfl⟩
  replace h8 := cdF hg30 h8
  refine Reg.take rfl rfl (s_fa rfl Tryd.underlying61 rfl Tryd.sizeOf3 rfl (Reg.take rfl rfl (s_ld rfl ((hC6.adv ((Adv.of_ext e16).trans ((Adv.of_ext e22).trans (Adv.of_ext e28)))).cells.at 3 rfl) Tryd.isAgg3 rfl (Reg.take rfl rfl ?_))))
  obtain ⟨z31, hz32, h8⟩ := bnd h8
  refine s_call rfl Tryd.call39 rfl ?_
  refine (C_ref03_within hI29.mlt f_r_3 (by decide) (by decide) hz32).mono ?_
  rintro _ w33 ⟨rfl, e34⟩
  refine ⟨_, rfl, ?_⟩
  have hI35 := hI29.ext e34
  refine Reg.take rfl rfl (s_not rfl rfl (s_pkF rfl rfl rfl (s_mv rfl rfl (Reg.gsplit (t := 25) rfl (fun hg36 => ?_) (fun hg36 => ?_)))))
  ·replace h8 := cdT hg36 h8
   iterate 4 refine Reg.pass rfl rfl rfl rfl ?_
   refine s_pkT rfl rfl rfl (s_mv rfl rfl ?_)
   iterate 5 refine Reg.pass rfl rfl rfl rfl ?_
   refine s_pkT rfl rfl rfl (Reg.nil ?_)
   obtain rfl := Option.some.inj h8
   refine ⟨rfl, true, ⟨hI35, ((Adv.of_ext e16).trans ((Adv.of_ext e22).trans ((Adv.of_ext e28).trans (Adv.of_ext e34)))), rfl⟩, sb2 rfl rfl⟩
  replace h8 := cdF hg36 h8
  refine Reg.take rfl rfl (s_fa rfl Tryd.underlying61 rfl Tryd.sizeOf3 rfl (Reg.take rfl rfl (s_ld rfl ((hC6.adv ((Adv.of_ext e16).trans ((Adv.of_ext e22).trans ((Adv.of_ext e28).trans (Adv.of_ext e34))))).cells.at 4 rfl) Tryd.isAgg3 rfl (Reg.take rfl rfl ?_))))
  obtain ⟨z37, hz38, h8⟩ := bnd h8
  refine s_call rfl Tryd.call39 rfl ?_
  refine (C_ref03_within hI35.mlt f_r_4 (by decide) (by decide) hz38).mono ?_
  rintro _ w39 ⟨rfl, e40⟩
  refine ⟨_, rfl, ?_⟩
  have hI41 := hI35.ext e40
  refine Reg.take rfl rfl (s_not rfl rfl (s_pkF rfl rfl rfl (s_mv rfl rfl (Reg.gsplit (t := 31) rfl (fun hg42 => ?_) (fun hg42 => ?_)))))
  ·replace h8 := cdT hg42 h8
   iterate 5 refine Reg.pass rfl rfl rfl rfl ?_
   refine s_pkT rfl rfl rfl (Reg.nil ?_)
   obtain rfl := Option.some.inj h8
   refine ⟨rfl, true, ⟨hI41, ((Adv.of_ext e16).trans ((Adv.of_ext e22).trans ((Adv.of_ext e28).trans ((Adv.of_ext e34).trans (Adv.of_ext e40))))), rfl⟩, sb2 rfl rfl⟩
  replace h8 := cdF hg42 h8
  refine Reg.take rfl rfl (s_fa rfl Tryd.underlying61 rfl Tryd.sizeOf5 rfl (Reg.take rfl rfl (s_ld rfl ((hC6.adv ((Adv.of_ext e16).trans ((Adv.of_ext e22).trans ((Adv.of_ext e28).trans ((Adv.of_ext e34).trans (Adv.of_ext e40)))))).cells.at 5 rfl) Tryd.isAgg5 rfl (Reg.take rfl rfl ?_))))
  obtain ⟨n43, hn43, h8⟩ := bnd h8
  replace hn43 := chk_out hn43
  refine p_cvt rfl Tryd.underlying5 Tryd.underlying3 rfl hn43 ?_
  refine Reg.take rfl rfl ?_
  obtain ⟨z44, hz45, h8⟩ := bnd h8
  refine s_call rfl Tryd.call39 rfl ?_
  refine (C_ref03_within hI41.mlt hn43.2 (by decide) (by decide) hz45).mono ?_
  rintro _ w46 ⟨rfl, e47⟩
  refine ⟨_, rfl, ?_⟩
  have hI48 := hI41.ext e47
  refine Reg.take rfl rfl (s_not rfl rfl (s_pkF rfl rfl rfl (Reg.nil ?_)))
  obtain rfl := Option.some.inj h8
  refine ⟨rfl, !z44, ⟨hI48, ((Adv.of_ext e16).trans ((Adv.of_ext e22).trans ((Adv.of_ext e28).trans ((Adv.of_ext e34).trans ((Adv.of_ext e40).trans (Adv.of_ext e47)))))), rfl⟩, sb2 rfl rfl⟩
 rintro x9 w10 ⟨hI11, hA12, rfl⟩
 refine cw_cond rfl (fun hc49 => ?_) (fun hc49 => ?_)
 ·replace h := cdT hc49 h
  refine cw_seq (cw_regF (s_as rfl rfl (Reg.nil (cw_ret ?_))))
  obtain rfl := Option.some.inj h
  refine fin1 Tryd.results51 rfl ?_
  exact ⟨rfl, hI11.kp⟩
 replace h := cdF hc49 h
 refine cw_skip (cw_seq (cw_seq (cw_regF (s_fa rfl Tryd.underlying61 rfl Tryd.sizeOf5 rfl (s_ld rfl ((hC6.adv hA12).cells.at 5 rfl) Tryd.isAgg5 rfl (s_leq rfl rfl rfl (Reg.nil (cw_cond rfl (fun hc50 => ?_) (fun hc50 => ?_)))))))))
 ·replace h := cdT hc50 h
  obtain ⟨j51, h52, h⟩ := bnd h
  refine cw_keep [1] rfl (cw_seqD 1 (ι := Bool) (fun x53 => [(2, Value.bool x53)]) (fun x53 => fun w54 => Hp w [] M [] w54 ∧ Adv (mm [] M) (mm [] M) w10 w54 ∧ x53 = j51) ?_ ?_)
  ·refine cw_regF (s_fa rfl Tryd.underlying61 rfl Tryd.sizeOf5 rfl (s_ld rfl ((hC6.adv hA12).cells.at 5 rfl) Tryd.isAgg5 rfl (s_fa rfl Tryd.underlying61 rfl Tryd.sizeOf3 rfl (s_ld rfl ((hC6.adv hA12).cells.at 6 rfl) Tryd.isAgg3 rfl ?_))))
   obtain ⟨z57, hz58, h52⟩ := bnd h52
   refine s_call rfl Tryd.call78 rfl ((C_ref03_cents hI11.mlt f_r_5 f_r_6 hz58).mono ?_)
   rintro _ w59 ⟨rfl, e60⟩
   refine ⟨_, rfl, ?_⟩
   have hI61 := hI11.ext e60
   refine s_mv rfl rfl (Reg.gsplit (t := 46) rfl (fun hg62 => ?_) (fun hg62 => ?_))
   ·replace h52 := cdT hg62 h52
    refine Reg.take rfl rfl (s_fa rfl Tryd.underlying61 rfl Tryd.sizeOf3 rfl (Reg.take rfl rfl (s_ld rfl ((hC6.adv (hA12.trans (Adv.of_ext e60))).cells.at 7 rfl) Tryd.isAgg3 rfl (Reg.take rfl rfl (s_eql rfl rfl rfl (s_pkT rfl rfl rfl (s_as rfl rfl (Reg.nil ?_))))))))
    obtain rfl := Option.some.inj h52
    refine ⟨rfl, decide (r.of_ = 0), ⟨hI61, (Adv.of_ext e60), rfl⟩, sb1 rfl⟩
   replace h52 := cdF hg62 h52
   iterate 3 refine Reg.pass rfl rfl rfl rfl ?_
   refine s_pkF rfl rfl rfl (s_as rfl rfl (Reg.nil ?_))
   obtain rfl := Option.some.inj h52
   refine ⟨rfl, false, ⟨hI61, (Adv.of_ext e60), rfl⟩, sb1 rfl⟩
  rintro x53 w54 ⟨hI55, hA56, rfl⟩
  refine cw_ret ?_
  obtain rfl := Option.some.inj h
  refine fin1 Tryd.results51 rfl ?_
  exact ⟨rfl, hI55.kp⟩
 replace h := cdF hc50 h
 refine cw_skip (cw_seq ?_)
 obtain ⟨j63, h64, h⟩ := bnd h
 refine cw_keep [1] rfl (cw_seqD 0 (ι := Bool) (fun x65 => [(61, Value.bool x65)]) (fun x65 => fun w66 => Hp w [] M [] w66 ∧ Adv (mm [] M) (mm [] M) w10 w66 ∧ x65 = j63) ?_ ?_)
 ·refine cw_regF (s_fa rfl Tryd.underlying61 rfl Tryd.sizeOf3 rfl (s_ld rfl ((hC6.adv hA12).cells.at 7 rfl) Tryd.isAgg3 rfl ?_))
  obtain ⟨z69, hz70, h64⟩ := bnd h64
  refine s_call rfl Tryd.call39 rfl ?_
  refine (C_ref03_within hI11.mlt f_r_7 (by decide) (by decide) hz70).mono ?_
  rintro _ w71 ⟨rfl, e72⟩
  refine ⟨_, rfl, ?_⟩
  have hI73 := hI11.ext e72
  refine s_not rfl rfl (s_mv rfl rfl (Reg.gsplit (t := 55) rfl (fun hg74 => ?_) (fun hg74 => ?_)))
  ·replace h64 := cdT hg74 h64
   iterate 5 refine Reg.pass rfl rfl rfl rfl ?_
   refine s_pkT rfl rfl rfl (Reg.nil ?_)
   obtain rfl := Option.some.inj h64
   refine ⟨rfl, true, ⟨hI73, (Adv.of_ext e72), rfl⟩, sb2 rfl rfl⟩
  replace h64 := cdF hg74 h64
  refine Reg.take rfl rfl (s_fa rfl Tryd.underlying61 rfl Tryd.sizeOf3 rfl (Reg.take rfl rfl (s_ld rfl ((hC6.adv (hA12.trans (Adv.of_ext e72))).cells.at 7 rfl) Tryd.isAgg3 rfl (Reg.take rfl rfl (s_fa rfl Tryd.underlying61 rfl Tryd.sizeOf3 rfl (Reg.take rfl rfl (s_ld rfl ((hC6.adv (hA12.trans (Adv.of_ext e72))).cells.at 0 rfl) Tryd.isAgg3 rfl (Reg.take rfl rfl (s_eql rfl rfl rfl (s_pkF rfl rfl rfl (Reg.nil ?_)))))))))))
  obtain rfl := Option.some.inj h64
  refine ⟨rfl, decide (r.of_ = r.id), ⟨hI73, (Adv.of_ext e72), rfl⟩, sb2 rfl rfl⟩
 rintro x65 w66 ⟨hI67, hA68, rfl⟩
 refine cw_cond rfl (fun hc75 => ?_) (fun hc75 => ?_)
 ·replace h := cdT hc75 h
  refine cw_seq (cw_regF (s_as rfl rfl (Reg.nil (cw_ret ?_))))
  obtain rfl := Option.some.inj h
  refine fin1 Tryd.results51 rfl ?_
  exact ⟨rfl, hI67.kp⟩
 replace h := cdF hc75 h
 refine cw_skip (cw_seq (cw_seq (cw_regF (s_fa rfl Tryd.underlying61 rfl Tryd.sizeOf5 rfl (s_ld rfl ((hC6.adv (hA12.trans hA68)).cells.at 5 rfl) Tryd.isAgg5 rfl (s_eql rfl rfl rfl (Reg.nil (cw_cond rfl (fun hc76 => ?_) (fun hc76 => ?_)))))))))
 ·replace h := cdT hc76 h
  refine cw_seq (cw_regF (s_fa rfl Tryd.underlying61 rfl Tryd.sizeOf3 rfl (s_ld rfl ((hC6.adv (hA12.trans hA68)).cells.at 6 rfl) Tryd.isAgg3 rfl ?_)))
  obtain ⟨z77, hz78, h⟩ := bnd h
  refine s_call rfl Tryd.call39 rfl ?_
  refine (C_ref03_within hI67.mlt f_r_6 (by decide) (by decide) hz78).mono ?_
  rintro _ w79 ⟨rfl, e80⟩
  refine ⟨_, rfl, ?_⟩
  have hI81 := hI67.ext e80
  refine s_as rfl rfl (Reg.nil (cw_ret ?_))
  obtain rfl := Option.some.inj h
  refine fin1 Tryd.results51 rfl ?_
  exact ⟨rfl, hI81.kp⟩
 replace h := cdF hc76 h
 refine cw_skip ?_
 obtain ⟨j82, h83, h⟩ := bnd h
 refine cw_keep [1] rfl (cw_seqD 1 (ι := Bool) (fun x84 => [(2, Value.bool x84)]) (fun x84 => fun w85 => w66 = w85 ∧ x84 = j82) ?_ ?_)
 ·refine cw_regF (s_fa rfl Tryd.underlying61 rfl Tryd.sizeOf3 rfl (s_ld rfl ((hC6.adv (hA12.trans hA68)).cells.at 6 rfl) Tryd.isAgg3 rfl (s_eql rfl rfl rfl (s_mv rfl rfl (Reg.gsplit (t := 71) rfl (fun hg88 => ?_) (fun hg88 => ?_))))))
  ·replace h83 := cdT hg88 h83
   refine Reg.take rfl rfl (s_fa rfl Tryd.underlying61 rfl Tryd.sizeOf3 rfl (Reg.take rfl rfl (s_ld rfl ((hC6.adv (hA12.trans hA68)).cells.at 4 rfl) Tryd.isAgg3 rfl (Reg.take rfl rfl (s_eql rfl rfl rfl (s_pkT rfl rfl rfl (s_as rfl rfl (Reg.nil ?_))))))))
   obtain rfl := Option.some.inj h83
   refine ⟨rfl, decide (r.about = 0), ⟨rfl, rfl⟩, sb1 rfl⟩
  replace h83 := cdF hg88 h83
  iterate 3 refine Reg.pass rfl rfl rfl rfl ?_
  refine s_pkF rfl rfl rfl (s_as rfl rfl (Reg.nil ?_))
  obtain rfl := Option.some.inj h83
  refine ⟨rfl, false, ⟨rfl, rfl⟩, sb1 rfl⟩
 rintro x84 _ ⟨rfl, rfl⟩
 refine cw_ret ?_
 obtain rfl := Option.some.inj h
 refine fin1 Tryd.results51 rfl ?_
 exact ⟨rfl, hI67.kp⟩
noncomputable def P.ref03_Check (l : (List Report)) : Option Int :=
  cond (decide (60 < (l.length : Int))) (some 4) (Option.bind (loopM (S := Int) (R := (Unit) ⊕ (Int)) (fun x2 => cond (decide (x2 < (l.length : Int))) (Option.bind (ixo l x2) fun y4 => Option.bind (P.ref03_Valid y4) fun z18 => cond (!z18) (some (.inr (.inr 30))) (Option.bind (chk .i64 (x2 + 1)) fun n24 => some (.inl n24))) (some (.inr (.inl ())))) 0) fun j25 => Sum.elim (fun _ => Option.bind (loopM (S := Int) (R := (Unit) ⊕ (Int)) (fun x26 => cond (decide (x26 < (l.length : Int))) (Option.bind (loopM (S := Int) (R := (Unit) ⊕ (Int)) (fun x28 => cond (decide (x28 < x26)) (Option.bind (Option.bind (ixo l x26) fun y30 => Option.bind (ixo l x28) fun y44 => cond (decide (y30.id = y44.id)) (Option.bind (ixo l x26) fun y59 => Option.bind (ixo l x28) fun y73 => some (!decide (y59 = y73))) (some false)) fun x93 => cond x93 (some (.inr (.inr 31))) (Option.bind (chk .i64 (x28 + 1)) fun n95 => some (.inl n95))) (some (.inr (.inl ())))) 0) fun j96 => Sum.elim (fun _ => Option.bind (chk .i64 (x26 + 1)) fun n97 => some (.inl n97)) (fun r98 => some (.inr (.inr r98)))  j96) (some (.inr (.inl ())))) 0) fun j99 => Sum.elim (fun _ => some 0) (fun r100 => some r100)  j99) (fun r101 => some r101)  j25)
theorem C_ref03_Check {M : List Nat} {w : World} (hM : MLt M w) {l : (List Report)} {v_l_0 : Value} (f_l_0 : RdS ReportE M w v_l_0 l) {r0 : Int} (h : P.ref03_Check l = some r0) :
  Calls Tryd.prog 18 (List.toArray [v_l_0]) w fun e w' => e = .returned (vi r0) ∧ InK .i64 r0 ∧ Ext w w' := by
 have hI := Hp.start (Mu := []) hM
 refine calls_cw Tryd.func18 rfl Tryd.ntmps18 rfl ?_
 refine cw_seq (cw_regF (s_as rfl rfl (Reg.nil (cw_seq (cw_seq (cw_regF (s_mv rfl rfl (s_len rfl f_l_0 Tryd.underlying22 rfl (s_gtr rfl rfl rfl (Reg.nil (cw_cond rfl (fun hc1 => ?_) (fun hc1 => ?_))))))))))))
 ·replace h := cdT hc1 h
  refine cw_seq (cw_regF (s_as rfl rfl (Reg.nil (cw_ret ?_))))
  obtain rfl := Option.some.inj h
  refine fin1 Tryd.results18 rfl ?_
  exact ⟨rfl, (by decide), hI.kp⟩
 replace h := cdF hc1 h
 refine cw_skip (cw_seq (cw_seq (cw_regF (s_as rfl rfl (Reg.nil ?_)))))
 obtain ⟨j2, h3, h⟩ := bnd h
 refine cw_keep [3, 0] rfl (cw_unitD 1 (ι := Unit) (fun _ => []) (fun _ => fun w4 => Hp w [] M [] w4 ∧ Adv (mm [] M) (mm [] M) w w4 ∧ (.inl ()) = j2) ?_ ?_)
 ·refine cw_block (cw_keep [3, 0] rfl ?_)
  refine cw_loopM 1 (ι := Int) _ (fun x7 => [(3, vi x7)]) (fun x7 => x7) (fun x7 => fun w9 => Hp w [] M [] w9 ∧ Adv (mm [] M) (mm [] M) w w9 ∧ InK .i64 x7) 0 h3 ⟨hI, (Adv.refl _ _), (by decide)⟩ (sb2 rfl rfl) ?_
  rintro x7 w9 ⟨hI10, hA11, r8⟩ y12 h13 hR14
  refine cw_seq (cw_seq (cw_regF (s_mv rfl rfl (s_mv rfl rfl (s_len rfl (f_l_0.adv hI10.adv) Tryd.underlying22 rfl (s_lss rfl rfl rfl (Reg.nil (cw_cond rfl (fun hc15 => ?_) (fun hc15 => ?_)))))))))
  ·replace h13 := cdT hc15 h13
   refine cw_skip (cw_seq (cw_block (cw_seq (cw_regF (s_mv rfl rfl (s_mv rfl rfl ?_))))))
   obtain ⟨y16, hy16, h13⟩ := bnd h13
   refine p_ia rfl rfl (f_l_0.adv hI10.adv) hy16 Tryd.underlying22 Tryd.sizeOf61 rfl ?_
   intro b17 o18 cs19 hR20 hC21
   obtain ⟨rfl, r22, r23, r24, r25, r26, r27, r28, r29⟩ := ReportE_R.1 hR20
   refine s_lda rfl hC21.cells Tryd.isAgg61 rfl Tryd.sizeOf61 rfl ?_
   obtain ⟨z30, hz31, h13⟩ := bnd h13
   refine s_call rfl Tryd.call51 rfl ((C_ref03_Valid hI10.mlt r22 r23 r24 r25 r26 r27 r28 r29 hz31).mono ?_)
   rintro _ w32 ⟨rfl, e33⟩
   refine ⟨_, rfl, ?_⟩
   have hI34 := hI10.ext e33
   refine s_not rfl rfl (Reg.nil (cw_cond rfl (fun hc35 => ?_) (fun hc35 => ?_)))
   ·replace h13 := cdT hc35 h13
    refine cw_seq (cw_regF (s_as rfl rfl (Reg.nil (cw_ret ?_))))
    obtain rfl := Option.some.inj h13
    obtain rfl := hR14 _ rfl
    replace h := elimR h
    obtain rfl := Option.some.inj h
    refine fin1 Tryd.results18 rfl ?_
    exact ⟨rfl, (by decide), hI34.kp⟩
   replace h13 := cdF hc35 h13
   refine cw_skip (cw_regF (s_mv rfl rfl ?_))
   obtain ⟨n36, hn36, h13⟩ := bnd h13
   replace hn36 := chk_out hn36
   refine p_add rfl rfl rfl hn36 (s_as rfl rfl (Reg.nil ?_))
   obtain rfl := Option.some.inj h13
   refine ⟨rfl, n36, ⟨⟨hI34, hI34.adv, hn36.2⟩, rfl⟩, sb2 rfl rfl⟩
  replace h13 := cdF hc15 h13
  refine cw_exit (exB_same ?_)
  obtain rfl := Option.some.inj h13
  obtain rfl := hR14 _ rfl
  refine ⟨rfl, (), ⟨hI10, hI10.adv, rfl⟩, sb1 rfl⟩
 rintro _ w4 ⟨hI5, hA6, rfl⟩
 replace h := elimL h
 refine cw_seq (cw_seq (cw_regF (s_as rfl rfl (Reg.nil ?_))))
 obtain ⟨j37, h38, h⟩ := bnd h
 refine cw_keep [0, 4] rfl (cw_unitD 2 (ι := Unit) (fun _ => []) (fun _ => fun w39 => Hp w [] M [] w39 ∧ Adv (mm [] M) (mm [] M) w4 w39 ∧ (.inl ()) = j37) ?_ ?_)
 ·refine cw_block (cw_keep [4, 0] rfl ?_)
  refine cw_loopM 1 (ι := Int) _ (fun x42 => [(4, vi x42)]) (fun x42 => x42) (fun x42 => fun w44 => Hp w [] M [] w44 ∧ Adv (mm [] M) (mm [] M) w4 w44 ∧ InK .i64 x42) 0 h38 ⟨hI5, (Adv.refl _ _), (by decide)⟩ (sb2 rfl rfl) ?_
  rintro x42 w44 ⟨hI45, hA46, r43⟩ y47 h48 hR49
  refine cw_seq (cw_seq (cw_regF (s_mv rfl rfl (s_mv rfl rfl (s_len rfl (f_l_0.adv hI45.adv) Tryd.underlying22 rfl (s_lss rfl rfl rfl (Reg.nil (cw_cond rfl (fun hc50 => ?_) (fun hc50 => ?_)))))))))
  ·replace h48 := cdT hc50 h48
   refine cw_skip (cw_seq (cw_block (cw_seq (cw_regF (s_as rfl rfl (Reg.nil ?_))))))
   obtain ⟨j51, h52, h48⟩ := bnd h48
   refine cw_keep [5, 0, 4] rfl (cw_unitD 1 (ι := Unit) (fun _ => []) (fun _ => fun w53 => Hp w [] M [] w53 ∧ Adv (mm [] M) (mm [] M) w44 w53 ∧ (.inl ()) = j51) ?_ ?_)
   ·refine cw_block (cw_keep [5, 0, 4] rfl ?_)
    refine cw_loopM 1 (ι := Int) _ (fun x56 => [(5, vi x56)]) (fun x56 => x56) (fun x56 => fun w58 => Hp w [] M [] w58 ∧ Adv (mm [] M) (mm [] M) w44 w58 ∧ InK .i64 x56) 0 h52 ⟨hI45, (Adv.refl _ _), (by decide)⟩ (sb3 rfl rfl rfl) ?_
    rintro x56 w58 ⟨hI59, hA60, r57⟩ y61 h62 hR63
    refine cw_seq (cw_seq (cw_regF (s_mv rfl rfl (s_mv rfl rfl (s_lss rfl rfl rfl (Reg.nil (cw_cond rfl (fun hc64 => ?_) (fun hc64 => ?_))))))))
    ·replace h62 := cdT hc64 h62
     refine cw_skip (cw_seq (cw_block ?_))
     obtain ⟨j65, h66, h62⟩ := bnd h62
     refine cw_keep [0, 4, 5] rfl (cw_seqD 0 (ι := Bool) (fun x67 => [(53, Value.bool x67)]) (fun x67 => fun w68 => Hp w [] M [] w68 ∧ Adv (mm [] M) (mm [] M) w58 w68 ∧ x67 = j65) ?_ ?_)
     ·refine cw_regT fol (by kernel_rfl) ?_
      refine s_mv rfl rfl (s_mv rfl rfl ?_)
      obtain ⟨y71, hy71, h66⟩ := bnd h66
      refine p_ia rfl rfl (f_l_0.adv hI59.adv) hy71 Tryd.underlying22 Tryd.sizeOf61 rfl ?_
      intro b72 o73 cs74 hR75 hC76
      obtain ⟨rfl, r77, r78, r79, r80, r81, r82, r83, r84⟩ := ReportE_R.1 hR75
      refine s_fa rfl Tryd.underlying61 rfl Tryd.sizeOf3 rfl (s_ld rfl (hC76.cells.at 0 rfl) Tryd.isAgg3 rfl (s_mv rfl rfl (s_mv rfl rfl ?_)))
      obtain ⟨y85, hy85, h66⟩ := bnd h66
      refine p_ia rfl rfl (f_l_0.adv hI59.adv) hy85 Tryd.underlying22 Tryd.sizeOf61 rfl ?_
      intro b86 o87 cs88 hR89 hC90
      obtain ⟨rfl, r91, r92, r93, r94, r95, r96, r97, r98⟩ := ReportE_R.1 hR89
      refine s_fa rfl Tryd.underlying61 rfl Tryd.sizeOf3 rfl (s_ld rfl (hC90.cells.at 0 rfl) Tryd.isAgg3 rfl (s_eql rfl rfl rfl (s_mv rfl rfl (Reg.gsplit (t := 43) rfl (fun hg99 => ?_) (fun hg99 => ?_)))))
      ·replace h66 := cdT hg99 h66
       refine Reg.take rfl rfl (s_mv rfl rfl (Reg.take rfl rfl (s_mv rfl rfl (Reg.take rfl rfl ?_))))
       obtain ⟨y100, hy100, h66⟩ := bnd h66
       refine p_ia rfl rfl (f_l_0.adv hI59.adv) hy100 Tryd.underlying22 Tryd.sizeOf61 rfl ?_
       intro b101 o102 cs103 hR104 hC105
       obtain ⟨rfl, r106, r107, r108, r109, r110, r111, r112, r113⟩ := ReportE_R.1 hR104
       refine Reg.take rfl rfl (s_lda rfl hC105.cells Tryd.isAgg61 rfl Tryd.sizeOf61 rfl (Reg.take rfl rfl (s_mv rfl rfl (Reg.take rfl rfl (s_mv rfl rfl (Reg.take rfl rfl ?_))))))
       obtain ⟨y114, hy114, h66⟩ := bnd h66
       refine p_ia rfl rfl (f_l_0.adv hI59.adv) hy114 Tryd.underlying22 Tryd.sizeOf61 rfl ?_
       intro b115 o116 cs117 hR118 hC119
       obtain ⟨rfl, r120, r121, r122, r123, r124, r125, r126, r127⟩ := ReportE_R.1 hR118
       refine Reg.take rfl rfl (s_lda rfl hC119.cells Tryd.isAgg61 rfl Tryd.sizeOf61 rfl (Reg.take rfl rfl (s_neS (Report_eq y100 y114) Tryd.eqGuardType61 rfl rfl rfl ?_)))
       refine s_pkT rfl rfl rfl (Reg.nilq (fun w128 e129 => ?_))
       have hI130 := hI59.ext e129
       obtain rfl := Option.some.inj h66
       refine ⟨rfl, !decide (y100 = y114), ⟨hI130, (Adv.of_ext e129), rfl⟩, sb4 rfl rfl rfl rfl⟩
      replace h66 := cdF hg99 h66
      iterate 9 refine Reg.pass rfl rfl rfl rfl ?_
      refine s_pkF rfl rfl rfl (Reg.nilq (fun w131 e132 => ?_))
      have hI133 := hI59.ext e132
      obtain rfl := Option.some.inj h66
      refine ⟨rfl, false, ⟨hI133, (Adv.of_ext e132), rfl⟩, sb4 rfl rfl rfl rfl⟩
     rintro x67 w68 ⟨hI69, hA70, rfl⟩
     refine cw_cond rfl (fun hc134 => ?_) (fun hc134 => ?_)
     ·replace h62 := cdT hc134 h62
      refine cw_seq (cw_regF (s_as rfl rfl (Reg.nil (cw_ret ?_))))
      obtain rfl := Option.some.inj h62
      obtain rfl := hR63 _ rfl
      replace h48 := elimR h48
      obtain rfl := Option.some.inj h48
      obtain rfl := hR49 _ rfl
      replace h := elimR h
      obtain rfl := Option.some.inj h
      refine fin1 Tryd.results18 rfl ?_
      exact ⟨rfl, (by decide), hI69.kp⟩
     replace h62 := cdF hc134 h62
     refine cw_skip (cw_regF (s_mv rfl rfl ?_))
     obtain ⟨n135, hn135, h62⟩ := bnd h62
     replace hn135 := chk_out hn135
     refine p_add rfl rfl rfl hn135 (s_as rfl rfl (Reg.nil ?_))
     obtain rfl := Option.some.inj h62
     refine ⟨rfl, n135, ⟨⟨hI69, (hA60.trans hA70), hn135.2⟩, rfl⟩, sb3 rfl rfl rfl⟩
    replace h62 := cdF hc64 h62
    refine cw_exit (exB_same ?_)
    obtain rfl := Option.some.inj h62
    obtain rfl := hR63 _ rfl
    refine ⟨rfl, (), ⟨hI59, hA60, rfl⟩, sb2 rfl rfl⟩
   rintro _ w53 ⟨hI54, hA55, rfl⟩
   replace h48 := elimL h48
   refine cw_regF (s_mv rfl rfl ?_)
   obtain ⟨n136, hn136, h48⟩ := bnd h48
   replace hn136 := chk_out hn136
   refine p_add rfl rfl rfl hn136 (s_as rfl rfl (Reg.nil ?_))
   obtain rfl := Option.some.inj h48
   refine ⟨rfl, n136, ⟨⟨hI54, (hA46.trans hA55), hn136.2⟩, rfl⟩, sb2 rfl rfl⟩
  replace h48 := cdF hc50 h48
  refine cw_exit (exB_same ?_)
  obtain rfl := Option.some.inj h48
  obtain rfl := hR49 _ rfl
  refine ⟨rfl, (), ⟨hI45, hA46, rfl⟩, Sub.nil _⟩
 rintro _ w39 ⟨hI40, hA41, rfl⟩
 replace h := elimL h
 refine cw_seq (cw_regF (s_as rfl rfl (Reg.nil (cw_ret ?_))))
 obtain rfl := Option.some.inj h
 refine fin1 Tryd.results18 rfl ?_
 exact ⟨rfl, (by decide), hI40.kp⟩
noncomputable def P.ref03_At (l : (List Report)) (id : Int) : Option Int :=
  Option.bind (loopM (S := Int) (R := (Unit) ⊕ (Int)) (fun x1 => cond (decide (x1 < (l.length : Int))) (Option.bind (ixo l x1) fun y3 => cond (decide (y3.id = id)) (some (.inr (.inr x1))) (Option.bind (chk .i64 (x1 + 1)) fun n18 => some (.inl n18))) (some (.inr (.inl ())))) 0) fun j19 => Sum.elim (fun _ => some (-1)) (fun r20 => some r20)  j19
end Go.Proofs.YtepjkmoipjeghaaDoor
set_option maxRecDepth 20000
set_option maxHeartbeats 4000000
namespace Go.Proofs.YtepjkmoipjeghaaDoor
open Go Go.Sx Go.RowKit
variable [Trk]
noncomputable def P.ref03_Known (l : (List Report)) (known : Int) : Option (List Report) :=
  Option.bind (loopM (S := (List Report) × Int) (R := ((List Report))) (fun (x1, x2) => cond (decide (x2 < (l.length : Int))) (Option.bind (Option.bind (Option.bind (ixo l x2) fun y4 => cond (decide (y4.made ≤ known)) (Option.bind (ixo l x2) fun y19 => Option.bind (P.ref03_At x1 y19.id) fun z33 => some (decide (z33 < 0))) (some false)) fun x39 => Option.bind (cond x39 (Option.bind (ixo l x2) fun y41 => Option.bind (appo 64 x1 ([y41] : List Report)) fun l61 => some l61) (some x1)) fun x66 => some x66) fun x67 => Option.bind (chk .i64 (x2 + 1)) fun n68 => some (.inl (x67, n68))) (some (.inr x1))) ([], 0)) fun x69 => some x69
end Go.Proofs.YtepjkmoipjeghaaDoor
set_option maxRecDepth 20000
set_option maxHeartbeats 4000000
namespace Go.Proofs.YtepjkmoipjeghaaDoor
open Go Go.Sx Go.RowKit
variable [Trk]
noncomputable def P.account_store_aim (s : Store) (r : Report) : Option (Report × Bool) :=
  Option.bind (some ((s.reports r.of_).getD (Report.mk 0 0 0 0 0 0 0 0))) fun y17 => Option.bind (cond ((s.reports r.of_).isSome) (cond (decide (y17.source = r.source)) (some (decide (y17.account = r.account), y17.id, y17.source, y17.account, y17.made, y17.about, y17.kind, y17.cents, y17.of_)) (some (false, y17.id, y17.source, y17.account, y17.made, y17.about, y17.kind, y17.cents, y17.of_))) (some (false, y17.id, y17.source, y17.account, y17.made, y17.about, y17.kind, y17.cents, y17.of_))) fun (x131, x132, x133, x134, x135, x136, x137, x138, x139) => some ((Report.mk x132 x133 x134 x135 x136 x137 x138 x139), x131)
theorem C_account_store_aim {M : List Nat} {w : World} (hM : MLt M w) {s : Store} {v_s_0 : Value} (f_s_0 : RdF Ky3 ReportE true M w v_s_0 s.reports) {r : Report} (f_r_0 : InK .i64 r.id) (f_r_1 : InK .i64 r.source) (f_r_2 : InK .i64 r.account) (f_r_3 : InK .i64 r.made) (f_r_4 : InK .i64 r.about) (f_r_5 : InK .u8 r.kind) (f_r_6 : InK .i64 r.cents) (f_r_7 : InK .i64 r.of_) {r0 : Report} {r1 : Bool} (h : P.account_store_aim s r = some (r0, r1)) :
  Calls Tryd.prog 42 (List.toArray [Value.agg (List.toArray [v_s_0]), Value.agg (List.toArray (vR r))]) w fun e w' => e = .returned (Value.tuple (List.toArray [Value.agg (List.toArray (vR r0)), Value.bool r1])) ∧ InK .i64 r0.id ∧ InK .i64 r0.source ∧ InK .i64 r0.account ∧ InK .i64 r0.made ∧ InK .i64 r0.about ∧ InK .u8 r0.kind ∧ InK .i64 r0.cents ∧ InK .i64 r0.of_ ∧ Ext w w' := by
 have hI := Hp.start (Mu := []) hM
 refine calls_cw Tryd.func42 rfl Tryd.ntmps42 rfl ?_
 refine cw_seq (cw_regF (y_box hI rfl rfl rfl ?_))
 intro b1 w2 hI3 x4
 have hC6 := hI3.freezeRow 0 rfl
 have hI5 := hI3.erase 0
 refine y_box hI5 rfl rfl rfl ?_
 intro b7 w8 hI9 x10
 have hC12 := hI9.freezeRow 0 rfl
 have hI11 := hI9.erase 0
 refine y_al hI11 Tryd.zeroValue61 rfl rfl ?_
 intro b13 w14 hI15 x16
 refine s_as rfl rfl (Reg.nil (cw_seq (cw_regF (s_fa rfl Tryd.underlying90 rfl Tryd.sizeOf88 rfl (s_ld rfl ((hC6.adv (x10.trans ((hI9.eraseH 0).trans x16))).cells.at 0 rfl) Tryd.isAgg88 rfl (s_fa rfl Tryd.underlying61 rfl Tryd.sizeOf3 rfl (s_ld rfl ((hC12.adv x16).cells.at 7 rfl) Tryd.isAgg3 rfl ?_)))))))
 obtain ⟨y17, hy17, h⟩ := bnd h
 refine s_lkF (a := r.of_) (z0 := (Report.mk 0 0 0 0 0 0 0 0)) (f_s_0.adv hI15.adv) rfl rfl (show InK .i64 r.of_ from f_r_7) Tryd.underlying88 Tryd.zeroValue61 ⟨_, ((ReportE_R (x := (Report.mk 0 0 0 0 0 0 0 0))).2 ⟨rfl, (show InK .i64 0 by decide), (show InK .i64 0 by decide), (show InK .i64 0 by decide), (show InK .i64 0 by decide), (show InK .i64 0 by decide), (show InK .u8 0 by decide), (show InK .i64 0 by decide), (show InK .i64 0 by decide)⟩), .inl ⟨rfl, rfl⟩⟩ rfl ?_
 intro v18 hv19
 rw [Option.some.inj hy17] at hv19
 obtain ⟨cs20, hR21, rfl⟩ := Vl.agg hv19
 obtain ⟨rfl, r22, r23, r24, r25, r26, r27, r28, r29⟩ := ReportE_R.1 hR21
 refine s_mv rfl rfl (s_xt rfl rfl rfl (s_xt rfl rfl rfl (y_al hI15 Tryd.zeroValue61 rfl rfl ?_)))
 intro b30 w31 hI32 x33
 refine y_st 0 hI32 rfl rfl rfl rfl Tryd.sizeOf61 rfl rfl (on8 rfl rfl rfl rfl rfl rfl rfl rfl) ?_
 intro w34 hI35 x36
 have hC38 := hI35.freezeRow 0 rfl
 have hI37 := hI35.erase 0
 refine s_as rfl rfl (Reg.nil ?_)
 obtain ⟨j39, h40, h⟩ := bnd h
 refine cw_keep [3, 6, 7, 4] rfl (cw_seqD 3 (ι := Bool × Int × Int × Int × Int × Int × Int × Int × Int) (fun ⟨x41, x42, x44, x46, x48, x50, x52, x54, x56⟩ => [(5, Value.bool x41)]) (fun ⟨x41, x42, x44, x46, x48, x50, x52, x54, x56⟩ => fun w58 => Hp w [] M [rowR 61 b13 [vi x42, vi x44, vi x46, vi x48, vi x50, vu x52, vi x54, vi x56]] w58 ∧ Adv (mm [rowR 61 b13 zR] M) (mm [rowR 61 b13 [vi x42, vi x44, vi x46, vi x48, vi x50, vu x52, vi x54, vi x56]] M) w34 w58 ∧ InK .i64 x42 ∧ InK .i64 x44 ∧ InK .i64 x46 ∧ InK .i64 x48 ∧ InK .i64 x50 ∧ InK .u8 x52 ∧ InK .i64 x54 ∧ InK .i64 x56 ∧ (x41, x42, x44, x46, x48, x50, x52, x54, x56) = j39) ?_ ?_)
 ·refine cw_regSea [0, 1, 2, 3, 4, 5, 6, 7, 8, 9] [10, 11, 12, 13, 14, 15, 16, 17] [] [16] [[16, 0], [16, 9, 8, 7, 4, 3], [16, 9, 8, 7, 6, 5]] [] fol (by kernel_rfl) rfl (by kernel_rfl) rfl rfl ?_
  refine s_lda rfl hC38.cells Tryd.isAgg61 rfl Tryd.sizeOf61 rfl (s_mv rfl rfl (s_mv rfl rfl (Reg.gsplit (t := 18) rfl (fun hg61 => ?_) (fun hg61 => ?_))))
  ·replace h40 := cdT hg61 h40
   refine Reg.take rfl rfl (s_fa rfl Tryd.underlying61 rfl Tryd.sizeOf3 rfl (Reg.take rfl rfl (s_ld rfl (hC38.cells.at 1 rfl) Tryd.isAgg3 rfl (Reg.take rfl rfl (s_fa rfl Tryd.underlying61 rfl Tryd.sizeOf3 rfl (Reg.take rfl rfl (s_ld rfl ((hC12.adv (x16.trans (x33.trans (x36.trans (hI35.eraseH 0))))).cells.at 1 rfl) Tryd.isAgg3 rfl (Reg.take rfl rfl (s_eql rfl rfl rfl (s_pkT rfl rfl rfl (s_mv rfl rfl ?_)))))))))))
   refine Reg.nilX ⟨rfl, rfl, rfl, ?_⟩
   intro w62 e63
   have hI64 := (Hp.start (Mu := []) hI37.mlt).ext e63
   refine bsplit (b := decide (y17.source = r.source)) (fun hg65 => ?_) (fun hg65 => ?_)
   ·replace h40 := cdT hg65 h40
    rw [show Value.bool (decide (y17.source = r.source)) = Value.bool true from congrArg Value.bool hg65]
    refine SeaWalk.dag [([10, 11, 12, 13, 14, 15, 16, 17], _, fun w_ => Ext w34 w_), ([11, 12, 13, 14, 15, 16, 17], [(3, vp b7 0), (4, vp b13 0), (16, Value.agg (List.toArray (vR y17))), (25, Value.bool true), (26, vp b30 2)], fun w_ => Ext w34 w_), ([10, 11, 13, 14, 15, 16, 17], [(4, vp b13 0), (6, vp b30 0), (16, Value.agg (List.toArray (vR y17))), (25, Value.bool true), (28, vp b7 2)], fun w_ => Ext w34 w_), ([10, 11, 12, 13, 14, 15, 17], [(3, vp b7 0), (4, vp b13 0), (6, vp b30 0), (25, Value.bool true)], fun w_ => Hp w [] M [rowR 61 b13 (vR y17)] w_ ∧ Adv (mm [rowR 61 b13 zR] M) (mm [rowR 61 b13 (vR y17)] M) w34 w_), ([12, 13, 14, 15, 16, 17], [(3, vp b7 0), (4, vp b13 0), (16, Value.agg (List.toArray (vR y17))), (25, Value.bool true), (27, vi y17.account)], fun w_ => Ext w34 w_), ([11, 13, 14, 15, 16, 17], [(4, vp b13 0), (16, Value.agg (List.toArray (vR y17))), (25, Value.bool true), (26, vp b30 2), (28, vp b7 2)], fun w_ => Ext w34 w_), ([11, 12, 13, 14, 15, 17], [(3, vp b7 0), (4, vp b13 0), (25, Value.bool true), (26, vp b30 2)], fun w_ => Hp w [] M [rowR 61 b13 (vR y17)] w_ ∧ Adv (mm [rowR 61 b13 zR] M) (mm [rowR 61 b13 (vR y17)] M) w34 w_), ([10, 11, 14, 15, 16, 17], [(4, vp b13 0), (6, vp b30 0), (16, Value.agg (List.toArray (vR y17))), (25, Value.bool true), (29, vi r.account)], fun w_ => Ext w34 w_), ([10, 11, 13, 14, 15, 17], [(4, vp b13 0), (6, vp b30 0), (25, Value.bool true), (28, vp b7 2)], fun w_ => Hp w [] M [rowR 61 b13 (vR y17)] w_ ∧ Adv (mm [rowR 61 b13 zR] M) (mm [rowR 61 b13 (vR y17)] M) w34 w_), ([13, 14, 15, 16, 17], [(4, vp b13 0), (16, Value.agg (List.toArray (vR y17))), (25, Value.bool true), (27, vi y17.account), (28, vp b7 2)], fun w_ => Ext w34 w_), ([12, 13, 14, 15, 17], [(3, vp b7 0), (4, vp b13 0), (25, Value.bool true), (27, vi y17.account)], fun w_ => Hp w [] M [rowR 61 b13 (vR y17)] w_ ∧ Adv (mm [rowR 61 b13 zR] M) (mm [rowR 61 b13 (vR y17)] M) w34 w_), ([11, 14, 15, 16, 17], [(4, vp b13 0), (16, Value.agg (List.toArray (vR y17))), (25, Value.bool true), (26, vp b30 2), (29, vi r.account)], fun w_ => Ext w34 w_), ([11, 13, 14, 15, 17], [(4, vp b13 0), (25, Value.bool true), (26, vp b30 2), (28, vp b7 2)], fun w_ => Hp w [] M [rowR 61 b13 (vR y17)] w_ ∧ Adv (mm [rowR 61 b13 zR] M) (mm [rowR 61 b13 (vR y17)] M) w34 w_), ([10, 11, 14, 15, 17], [(4, vp b13 0), (6, vp b30 0), (25, Value.bool true), (29, vi r.account)], fun w_ => Hp w [] M [rowR 61 b13 (vR y17)] w_ ∧ Adv (mm [rowR 61 b13 zR] M) (mm [rowR 61 b13 (vR y17)] M) w34 w_), ([14, 15, 16, 17], [(4, vp b13 0), (16, Value.agg (List.toArray (vR y17))), (25, Value.bool true), (27, vi y17.account), (29, vi r.account)], fun w_ => Ext w34 w_), ([13, 14, 15, 17], [(4, vp b13 0), (25, Value.bool true), (27, vi y17.account), (28, vp b7 2)], fun w_ => Hp w [] M [rowR 61 b13 (vR y17)] w_ ∧ Adv (mm [rowR 61 b13 zR] M) (mm [rowR 61 b13 (vR y17)] M) w34 w_), ([11, 14, 15, 17], [(4, vp b13 0), (25, Value.bool true), (26, vp b30 2), (29, vi r.account)], fun w_ => Hp w [] M [rowR 61 b13 (vR y17)] w_ ∧ Adv (mm [rowR 61 b13 zR] M) (mm [rowR 61 b13 (vR y17)] M) w34 w_), ([15, 16, 17], [(4, vp b13 0), (16, Value.agg (List.toArray (vR y17))), (25, Value.bool true), (30, Value.bool (decide (y17.account = r.account)))], fun w_ => Ext w34 w_), ([14, 15, 17], [(4, vp b13 0), (25, Value.bool true), (27, vi y17.account), (29, vi r.account)], fun w_ => Hp w [] M [rowR 61 b13 (vR y17)] w_ ∧ Adv (mm [rowR 61 b13 zR] M) (mm [rowR 61 b13 (vR y17)] M) w34 w_), ([16, 17], [(4, vp b13 0), (16, Value.agg (List.toArray (vR y17))), (31, Value.bool (decide (y17.account = r.account)))], fun w_ => Ext w34 w_), ([15, 17], [(4, vp b13 0), (25, Value.bool true), (30, Value.bool (decide (y17.account = r.account)))], fun w_ => Hp w [] M [rowR 61 b13 (vR y17)] w_ ∧ Adv (mm [rowR 61 b13 zR] M) (mm [rowR 61 b13 (vR y17)] M) w34 w_), ([17], [(4, vp b13 0), (31, Value.bool (decide (y17.account = r.account)))], fun w_ => Hp w [] M [rowR 61 b13 (vR y17)] w_ ∧ Adv (mm [rowR 61 b13 zR] M) (mm [rowR 61 b13 (vR y17)] M) w34 w_), ([], [(4, vp b13 0), (5, Value.bool (decide (y17.account = r.account)))], fun w_ => Hp w [] M [rowR 61 b13 (vR y17)] w_ ∧ Adv (mm [rowR 61 b13 zR] M) (mm [rowR 61 b13 (vR y17)] M) w34 w_)] (AllS.cons ?_ (AllS.cons ?_ (AllS.cons ?_ (AllS.cons ?_ (AllS.cons ?_ (AllS.cons ?_ (AllS.cons ?_ (AllS.cons ?_ (AllS.cons ?_ (AllS.cons ?_ (AllS.cons ?_ (AllS.cons ?_ (AllS.cons ?_ (AllS.cons ?_ (AllS.cons ?_ (AllS.cons ?_ (AllS.cons ?_ (AllS.cons ?_ (AllS.cons ?_ (AllS.cons ?_ (AllS.cons ?_ (AllS.cons ?_ (AllS.cons ?_ (AllS.nil)))))))))))))))))))))))) _ _ _ _ 0 _ rfl rfl hI64.kp
    ·intro w94 ex_
     have hI95 := (Hp.start (Mu := []) hI37.mlt).ext ex_
     refine .inr ⟨List.cons_ne_nil _ _, [10, 12, 16], by kernel_rfl, AllL.cons ?_ (AllL.cons ?_ (AllL.cons ?_ (AllL.nil)))⟩
     ·refine ⟨_, rfl, fun Q_ hQ_ => ?_⟩
      refine Reg.take rfl rfl (s_fa rfl Tryd.underlying61 rfl Tryd.sizeOf3 rfl (Reg.nilK [3, 4, 16, 25, 26] rfl (hQ_ 1 _ _ _ rfl (.inr hI95.kp) rfl (fun w_ e_ => ?_))))
      exact ex_.trans e_
     ·refine ⟨_, rfl, fun Q_ hQ_ => ?_⟩
      refine Reg.take rfl rfl (s_fa rfl Tryd.underlying61 rfl Tryd.sizeOf3 rfl (Reg.nilK [4, 6, 16, 25, 28] rfl (hQ_ 2 _ _ _ rfl (.inr hI95.kp) rfl (fun w_ e_ => ?_))))
      exact ex_.trans e_
     refine ⟨_, rfl, fun Q_ hQ_ => ?_⟩
     have hI96 := hI37.join hI95
     refine y_st 0 hI96 rfl rfl rfl rfl Tryd.sizeOf61 rfl rfl (on8 rfl rfl rfl rfl rfl rfl rfl rfl) ?_
     intro w97 hI98 x99
     refine Reg.nilK [3, 4, 6, 25] rfl (hQ_ 3 _ _ _ rfl (.inl rfl) rfl (fun w_ e_ => ?_))
     exact ⟨hI98.ext e_, ((Adv.of_ext ex_).trans x99).trans (Adv.of_ext e_)⟩
    ·intro w100 ex_
     have hI101 := (Hp.start (Mu := []) hI37.mlt).ext ex_
     refine .inr ⟨List.cons_ne_nil _ _, [11, 12, 16], by kernel_rfl, AllL.cons ?_ (AllL.cons ?_ (AllL.cons ?_ (AllL.nil)))⟩
     ·refine ⟨_, rfl, fun Q_ hQ_ => ?_⟩
      refine Reg.take rfl rfl (s_ld rfl ((hC38.adv (Adv.of_ext ex_)).cells.at 2 rfl) Tryd.isAgg3 rfl (Reg.nilK [3, 4, 16, 25, 27] rfl (hQ_ 4 _ _ _ rfl (.inr hI101.kp) rfl (fun w_ e_ => ?_))))
      exact ex_.trans e_
     ·refine ⟨_, rfl, fun Q_ hQ_ => ?_⟩
      refine Reg.take rfl rfl (s_fa rfl Tryd.underlying61 rfl Tryd.sizeOf3 rfl (Reg.nilK [4, 16, 25, 26, 28] rfl (hQ_ 5 _ _ _ rfl (.inr hI101.kp) rfl (fun w_ e_ => ?_))))
      exact ex_.trans e_
     refine ⟨_, rfl, fun Q_ hQ_ => ?_⟩
     have hI102 := hI37.join hI101
     refine y_st 0 hI102 rfl rfl rfl rfl Tryd.sizeOf61 rfl rfl (on8 rfl rfl rfl rfl rfl rfl rfl rfl) ?_
     intro w103 hI104 x105
     refine Reg.nilK [3, 4, 25, 26] rfl (hQ_ 6 _ _ _ rfl (.inl rfl) rfl (fun w_ e_ => ?_))
     exact ⟨hI104.ext e_, ((Adv.of_ext ex_).trans x105).trans (Adv.of_ext e_)⟩
    ·intro w106 ex_
     have hI107 := (Hp.start (Mu := []) hI37.mlt).ext ex_
     refine .inr ⟨List.cons_ne_nil _ _, [10, 13, 16], by kernel_rfl, AllL.cons ?_ (AllL.cons ?_ (AllL.cons ?_ (AllL.nil)))⟩
     ·refine ⟨_, rfl, fun Q_ hQ_ => ?_⟩
      refine Reg.take rfl rfl (s_fa rfl Tryd.underlying61 rfl Tryd.sizeOf3 rfl (Reg.nilK [4, 16, 25, 26, 28] rfl (hQ_ 5 _ _ _ rfl (.inr hI107.kp) rfl (fun w_ e_ => ?_))))
      exact ex_.trans e_
     ·refine ⟨_, rfl, fun Q_ hQ_ => ?_⟩
      refine Reg.take rfl rfl (s_ld rfl ((hC12.adv (x16.trans (x33.trans (x36.trans ((hI35.eraseH 0).trans (Adv.of_ext ex_)))))).cells.at 2 rfl) Tryd.isAgg3 rfl (Reg.nilK [4, 6, 16, 25, 29] rfl (hQ_ 7 _ _ _ rfl (.inr hI107.kp) rfl (fun w_ e_ => ?_))))
      exact ex_.trans e_
     refine ⟨_, rfl, fun Q_ hQ_ => ?_⟩
     have hI108 := hI37.join hI107
     refine y_st 0 hI108 rfl rfl rfl rfl Tryd.sizeOf61 rfl rfl (on8 rfl rfl rfl rfl rfl rfl rfl rfl) ?_
     intro w109 hI110 x111
     refine Reg.nilK [4, 6, 25, 28] rfl (hQ_ 8 _ _ _ rfl (.inl rfl) rfl (fun w_ e_ => ?_))
     exact ⟨hI110.ext e_, ((Adv.of_ext ex_).trans x111).trans (Adv.of_ext e_)⟩
    ·rintro w112 ⟨hI113, hA_⟩
     refine .inr ⟨List.cons_ne_nil _ _, [10, 12], by kernel_rfl, AllL.cons ?_ (AllL.cons ?_ (AllL.nil))⟩
     ·refine ⟨_, rfl, fun Q_ hQ_ => ?_⟩
      refine Reg.take rfl rfl (s_fa rfl Tryd.underlying61 rfl Tryd.sizeOf3 rfl (Reg.nilK [3, 4, 25, 26] rfl (hQ_ 6 _ _ _ rfl (.inl rfl) rfl (fun w_ e_ => ?_))))
      exact ⟨hI113.ext e_, hA_.trans (Adv.of_ext e_)⟩
     refine ⟨_, rfl, fun Q_ hQ_ => ?_⟩
     refine Reg.take rfl rfl (s_fa rfl Tryd.underlying61 rfl Tryd.sizeOf3 rfl (Reg.nilK [4, 6, 25, 28] rfl (hQ_ 8 _ _ _ rfl (.inl rfl) rfl (fun w_ e_ => ?_))))
     exact ⟨hI113.ext e_, hA_.trans (Adv.of_ext e_)⟩
    ·intro w114 ex_
     have hI115 := (Hp.start (Mu := []) hI37.mlt).ext ex_
     refine .inr ⟨List.cons_ne_nil _ _, [12, 16], by kernel_rfl, AllL.cons ?_ (AllL.cons ?_ (AllL.nil))⟩
     ·refine ⟨_, rfl, fun Q_ hQ_ => ?_⟩
      refine Reg.take rfl rfl (s_fa rfl Tryd.underlying61 rfl Tryd.sizeOf3 rfl (Reg.nilK [4, 16, 25, 27, 28] rfl (hQ_ 9 _ _ _ rfl (.inr hI115.kp) rfl (fun w_ e_ => ?_))))
      exact ex_.trans e_
     refine ⟨_, rfl, fun Q_ hQ_ => ?_⟩
     have hI116 := hI37.join hI115
     refine y_st 0 hI116 rfl rfl rfl rfl Tryd.sizeOf61 rfl rfl (on8 rfl rfl rfl rfl rfl rfl rfl rfl) ?_
     intro w117 hI118 x119
     refine Reg.nilK [3, 4, 25, 27] rfl (hQ_ 10 _ _ _ rfl (.inl rfl) rfl (fun w_ e_ => ?_))
     exact ⟨hI118.ext e_, ((Adv.of_ext ex_).trans x119).trans (Adv.of_ext e_)⟩
    ·intro w120 ex_
     have hI121 := (Hp.start (Mu := []) hI37.mlt).ext ex_
     refine .inr ⟨List.cons_ne_nil _ _, [11, 13, 16], by kernel_rfl, AllL.cons ?_ (AllL.cons ?_ (AllL.cons ?_ (AllL.nil)))⟩
     ·refine ⟨_, rfl, fun Q_ hQ_ => ?_⟩
      refine Reg.take rfl rfl (s_ld rfl ((hC38.adv (Adv.of_ext ex_)).cells.at 2 rfl) Tryd.isAgg3 rfl (Reg.nilK [4, 16, 25, 27, 28] rfl (hQ_ 9 _ _ _ rfl (.inr hI121.kp) rfl (fun w_ e_ => ?_))))
      exact ex_.trans e_
     ·refine ⟨_, rfl, fun Q_ hQ_ => ?_⟩
      refine Reg.take rfl rfl (s_ld rfl ((hC12.adv (x16.trans (x33.trans (x36.trans ((hI35.eraseH 0).trans (Adv.of_ext ex_)))))).cells.at 2 rfl) Tryd.isAgg3 rfl (Reg.nilK [4, 16, 25, 26, 29] rfl (hQ_ 11 _ _ _ rfl (.inr hI121.kp) rfl (fun w_ e_ => ?_))))
      exact ex_.trans e_
     refine ⟨_, rfl, fun Q_ hQ_ => ?_⟩
     have hI122 := hI37.join hI121
     refine y_st 0 hI122 rfl rfl rfl rfl Tryd.sizeOf61 rfl rfl (on8 rfl rfl rfl rfl rfl rfl rfl rfl) ?_
     intro w123 hI124 x125
     refine Reg.nilK [4, 25, 26, 28] rfl (hQ_ 12 _ _ _ rfl (.inl rfl) rfl (fun w_ e_ => ?_))
     exact ⟨hI124.ext e_, ((Adv.of_ext ex_).trans x125).trans (Adv.of_ext e_)⟩
    ·rintro w126 ⟨hI127, hA_⟩
     refine .inr ⟨List.cons_ne_nil _ _, [11, 12], by kernel_rfl, AllL.cons ?_ (AllL.cons ?_ (AllL.nil))⟩
     ·refine ⟨_, rfl, fun Q_ hQ_ => ?_⟩
      refine Reg.take rfl rfl (s_ld rfl ((hC38.adv hA_).cells.at 2 rfl) Tryd.isAgg3 rfl (Reg.nilK [3, 4, 25, 27] rfl (hQ_ 10 _ _ _ rfl (.inl rfl) rfl (fun w_ e_ => ?_))))
      exact ⟨hI127.ext e_, hA_.trans (Adv.of_ext e_)⟩
     refine ⟨_, rfl, fun Q_ hQ_ => ?_⟩
     refine Reg.take rfl rfl (s_fa rfl Tryd.underlying61 rfl Tryd.sizeOf3 rfl (Reg.nilK [4, 25, 26, 28] rfl (hQ_ 12 _ _ _ rfl (.inl rfl) rfl (fun w_ e_ => ?_))))
     exact ⟨hI127.ext e_, hA_.trans (Adv.of_ext e_)⟩
    ·intro w128 ex_
     have hI129 := (Hp.start (Mu := []) hI37.mlt).ext ex_
     refine .inr ⟨List.cons_ne_nil _ _, [10, 16], by kernel_rfl, AllL.cons ?_ (AllL.cons ?_ (AllL.nil))⟩
     ·refine ⟨_, rfl, fun Q_ hQ_ => ?_⟩
      refine Reg.take rfl rfl (s_fa rfl Tryd.underlying61 rfl Tryd.sizeOf3 rfl (Reg.nilK [4, 16, 25, 26, 29] rfl (hQ_ 11 _ _ _ rfl (.inr hI129.kp) rfl (fun w_ e_ => ?_))))
      exact ex_.trans e_
     refine ⟨_, rfl, fun Q_ hQ_ => ?_⟩
     have hI130 := hI37.join hI129
     refine y_st 0 hI130 rfl rfl rfl rfl Tryd.sizeOf61 rfl rfl (on8 rfl rfl rfl rfl rfl rfl rfl rfl) ?_
     intro w131 hI132 x133
     refine Reg.nilK [4, 6, 25, 29] rfl (hQ_ 13 _ _ _ rfl (.inl rfl) rfl (fun w_ e_ => ?_))
     exact ⟨hI132.ext e_, ((Adv.of_ext ex_).trans x133).trans (Adv.of_ext e_)⟩
    ·rintro w134 ⟨hI135, hA_⟩
     refine .inr ⟨List.cons_ne_nil _ _, [10, 13], by kernel_rfl, AllL.cons ?_ (AllL.cons ?_ (AllL.nil))⟩
     ·refine ⟨_, rfl, fun Q_ hQ_ => ?_⟩
      refine Reg.take rfl rfl (s_fa rfl Tryd.underlying61 rfl Tryd.sizeOf3 rfl (Reg.nilK [4, 25, 26, 28] rfl (hQ_ 12 _ _ _ rfl (.inl rfl) rfl (fun w_ e_ => ?_))))
      exact ⟨hI135.ext e_, hA_.trans (Adv.of_ext e_)⟩
     refine ⟨_, rfl, fun Q_ hQ_ => ?_⟩
     refine Reg.take rfl rfl (s_ld rfl ((hC12.adv (x16.trans (x33.trans (x36.trans ((hI35.eraseH 0).trans hA_))))).cells.at 2 rfl) Tryd.isAgg3 rfl (Reg.nilK [4, 6, 25, 29] rfl (hQ_ 13 _ _ _ rfl (.inl rfl) rfl (fun w_ e_ => ?_))))
     exact ⟨hI135.ext e_, hA_.trans (Adv.of_ext e_)⟩
    ·intro w136 ex_
     have hI137 := (Hp.start (Mu := []) hI37.mlt).ext ex_
     refine .inr ⟨List.cons_ne_nil _ _, [13, 16], by kernel_rfl, AllL.cons ?_ (AllL.cons ?_ (AllL.nil))⟩
     ·refine ⟨_, rfl, fun Q_ hQ_ => ?_⟩
      refine Reg.take rfl rfl (s_ld rfl ((hC12.adv (x16.trans (x33.trans (x36.trans ((hI35.eraseH 0).trans (Adv.of_ext ex_)))))).cells.at 2 rfl) Tryd.isAgg3 rfl (Reg.nilK [4, 16, 25, 27, 29] rfl (hQ_ 14 _ _ _ rfl (.inr hI137.kp) rfl (fun w_ e_ => ?_))))
      exact ex_.trans e_
     refine ⟨_, rfl, fun Q_ hQ_ => ?_⟩
     have hI138 := hI37.join hI137
     refine y_st 0 hI138 rfl rfl rfl rfl Tryd.sizeOf61 rfl rfl (on8 rfl rfl rfl rfl rfl rfl rfl rfl) ?_
     intro w139 hI140 x141
     refine Reg.nilK [4, 25, 27, 28] rfl (hQ_ 15 _ _ _ rfl (.inl rfl) rfl (fun w_ e_ => ?_))
     exact ⟨hI140.ext e_, ((Adv.of_ext ex_).trans x141).trans (Adv.of_ext e_)⟩
    ·rintro w142 ⟨hI143, hA_⟩
     refine .inr ⟨List.cons_ne_nil _ _, [12], by kernel_rfl, AllL.cons ?_ (AllL.nil)⟩
     refine ⟨_, rfl, fun Q_ hQ_ => ?_⟩
     refine Reg.take rfl rfl (s_fa rfl Tryd.underlying61 rfl Tryd.sizeOf3 rfl (Reg.nilK [4, 25, 27, 28] rfl (hQ_ 15 _ _ _ rfl (.inl rfl) rfl (fun w_ e_ => ?_))))
     exact ⟨hI143.ext e_, hA_.trans (Adv.of_ext e_)⟩
    ·intro w144 ex_
     have hI145 := (Hp.start (Mu := []) hI37.mlt).ext ex_
     refine .inr ⟨List.cons_ne_nil _ _, [11, 16], by kernel_rfl, AllL.cons ?_ (AllL.cons ?_ (AllL.nil))⟩
     ·refine ⟨_, rfl, fun Q_ hQ_ => ?_⟩
      refine Reg.take rfl rfl (s_ld rfl ((hC38.adv (Adv.of_ext ex_)).cells.at 2 rfl) Tryd.isAgg3 rfl (Reg.nilK [4, 16, 25, 27, 29] rfl (hQ_ 14 _ _ _ rfl (.inr hI145.kp) rfl (fun w_ e_ => ?_))))
      exact ex_.trans e_
     refine ⟨_, rfl, fun Q_ hQ_ => ?_⟩
     have hI146 := hI37.join hI145
     refine y_st 0 hI146 rfl rfl rfl rfl Tryd.sizeOf61 rfl rfl (on8 rfl rfl rfl rfl rfl rfl rfl rfl) ?_
     intro w147 hI148 x149
     refine Reg.nilK [4, 25, 26, 29] rfl (hQ_ 16 _ _ _ rfl (.inl rfl) rfl (fun w_ e_ => ?_))
     exact ⟨hI148.ext e_, ((Adv.of_ext ex_).trans x149).trans (Adv.of_ext e_)⟩
    ·rintro w150 ⟨hI151, hA_⟩
     refine .inr ⟨List.cons_ne_nil _ _, [11, 13], by kernel_rfl, AllL.cons ?_ (AllL.cons ?_ (AllL.nil))⟩
     ·refine ⟨_, rfl, fun Q_ hQ_ => ?_⟩
      refine Reg.take rfl rfl (s_ld rfl ((hC38.adv hA_).cells.at 2 rfl) Tryd.isAgg3 rfl (Reg.nilK [4, 25, 27, 28] rfl (hQ_ 15 _ _ _ rfl (.inl rfl) rfl (fun w_ e_ => ?_))))
      exact ⟨hI151.ext e_, hA_.trans (Adv.of_ext e_)⟩
     refine ⟨_, rfl, fun Q_ hQ_ => ?_⟩
     refine Reg.take rfl rfl (s_ld rfl ((hC12.adv (x16.trans (x33.trans (x36.trans ((hI35.eraseH 0).trans hA_))))).cells.at 2 rfl) Tryd.isAgg3 rfl (Reg.nilK [4, 25, 26, 29] rfl (hQ_ 16 _ _ _ rfl (.inl rfl) rfl (fun w_ e_ => ?_))))
     exact ⟨hI151.ext e_, hA_.trans (Adv.of_ext e_)⟩
    ·rintro w152 ⟨hI153, hA_⟩
     refine .inr ⟨List.cons_ne_nil _ _, [10], by kernel_rfl, AllL.cons ?_ (AllL.nil)⟩
     refine ⟨_, rfl, fun Q_ hQ_ => ?_⟩
     refine Reg.take rfl rfl (s_fa rfl Tryd.underlying61 rfl Tryd.sizeOf3 rfl (Reg.nilK [4, 25, 26, 29] rfl (hQ_ 16 _ _ _ rfl (.inl rfl) rfl (fun w_ e_ => ?_))))
     exact ⟨hI153.ext e_, hA_.trans (Adv.of_ext e_)⟩
    ·intro w154 ex_
     have hI155 := (Hp.start (Mu := []) hI37.mlt).ext ex_
     refine .inr ⟨List.cons_ne_nil _ _, [14, 16], by kernel_rfl, AllL.cons ?_ (AllL.cons ?_ (AllL.nil))⟩
     ·refine ⟨_, rfl, fun Q_ hQ_ => ?_⟩
      refine Reg.take rfl rfl (s_eql rfl rfl rfl (Reg.nilK [4, 16, 25, 30] rfl (hQ_ 17 _ _ _ rfl (.inr hI155.kp) rfl (fun w_ e_ => ?_))))
      exact ex_.trans e_
     refine ⟨_, rfl, fun Q_ hQ_ => ?_⟩
     have hI156 := hI37.join hI155
     refine y_st 0 hI156 rfl rfl rfl rfl Tryd.sizeOf61 rfl rfl (on8 rfl rfl rfl rfl rfl rfl rfl rfl) ?_
     intro w157 hI158 x159
     refine Reg.nilK [4, 25, 27, 29] rfl (hQ_ 18 _ _ _ rfl (.inl rfl) rfl (fun w_ e_ => ?_))
     exact ⟨hI158.ext e_, ((Adv.of_ext ex_).trans x159).trans (Adv.of_ext e_)⟩
    ·rintro w160 ⟨hI161, hA_⟩
     refine .inr ⟨List.cons_ne_nil _ _, [13], by kernel_rfl, AllL.cons ?_ (AllL.nil)⟩
     refine ⟨_, rfl, fun Q_ hQ_ => ?_⟩
     refine Reg.take rfl rfl (s_ld rfl ((hC12.adv (x16.trans (x33.trans (x36.trans ((hI35.eraseH 0).trans hA_))))).cells.at 2 rfl) Tryd.isAgg3 rfl (Reg.nilK [4, 25, 27, 29] rfl (hQ_ 18 _ _ _ rfl (.inl rfl) rfl (fun w_ e_ => ?_))))
     exact ⟨hI161.ext e_, hA_.trans (Adv.of_ext e_)⟩
    ·rintro w162 ⟨hI163, hA_⟩
     refine .inr ⟨List.cons_ne_nil _ _, [11], by kernel_rfl, AllL.cons ?_ (AllL.nil)⟩
     refine ⟨_, rfl, fun Q_ hQ_ => ?_⟩
     refine Reg.take rfl rfl (s_ld rfl ((hC38.adv hA_).cells.at 2 rfl) Tryd.isAgg3 rfl (Reg.nilK [4, 25, 27, 29] rfl (hQ_ 18 _ _ _ rfl (.inl rfl) rfl (fun w_ e_ => ?_))))
     exact ⟨hI163.ext e_, hA_.trans (Adv.of_ext e_)⟩
    ·intro w164 ex_
     have hI165 := (Hp.start (Mu := []) hI37.mlt).ext ex_
     refine .inr ⟨List.cons_ne_nil _ _, [15, 16], by kernel_rfl, AllL.cons ?_ (AllL.cons ?_ (AllL.nil))⟩
     ·refine ⟨_, rfl, fun Q_ hQ_ => ?_⟩
      refine s_pkT rfl rfl rfl (Reg.nilK [4, 16, 31] rfl (hQ_ 19 _ _ _ rfl (.inr hI165.kp) rfl (fun w_ e_ => ?_)))
      exact ex_.trans e_
     refine ⟨_, rfl, fun Q_ hQ_ => ?_⟩
     have hI166 := hI37.join hI165
     refine y_st 0 hI166 rfl rfl rfl rfl Tryd.sizeOf61 rfl rfl (on8 rfl rfl rfl rfl rfl rfl rfl rfl) ?_
     intro w167 hI168 x169
     refine Reg.nilK [4, 25, 30] rfl (hQ_ 20 _ _ _ rfl (.inl rfl) rfl (fun w_ e_ => ?_))
     exact ⟨hI168.ext e_, ((Adv.of_ext ex_).trans x169).trans (Adv.of_ext e_)⟩
    ·rintro w170 ⟨hI171, hA_⟩
     refine .inr ⟨List.cons_ne_nil _ _, [14], by kernel_rfl, AllL.cons ?_ (AllL.nil)⟩
     refine ⟨_, rfl, fun Q_ hQ_ => ?_⟩
     refine Reg.take rfl rfl (s_eql rfl rfl rfl (Reg.nilK [4, 25, 30] rfl (hQ_ 20 _ _ _ rfl (.inl rfl) rfl (fun w_ e_ => ?_))))
     exact ⟨hI171.ext e_, hA_.trans (Adv.of_ext e_)⟩
    ·intro w172 ex_
     have hI173 := (Hp.start (Mu := []) hI37.mlt).ext ex_
     refine .inr ⟨List.cons_ne_nil _ _, [16], by kernel_rfl, AllL.cons ?_ (AllL.nil)⟩
     refine ⟨_, rfl, fun Q_ hQ_ => ?_⟩
     have hI174 := hI37.join hI173
     refine y_st 0 hI174 rfl rfl rfl rfl Tryd.sizeOf61 rfl rfl (on8 rfl rfl rfl rfl rfl rfl rfl rfl) ?_
     intro w175 hI176 x177
     refine Reg.nilK [4, 31] rfl (hQ_ 21 _ _ _ rfl (.inl rfl) rfl (fun w_ e_ => ?_))
     exact ⟨hI176.ext e_, ((Adv.of_ext ex_).trans x177).trans (Adv.of_ext e_)⟩
    ·rintro w178 ⟨hI179, hA_⟩
     refine .inr ⟨List.cons_ne_nil _ _, [15], by kernel_rfl, AllL.cons ?_ (AllL.nil)⟩
     refine ⟨_, rfl, fun Q_ hQ_ => ?_⟩
     refine s_pkT rfl rfl rfl (Reg.nilK [4, 31] rfl (hQ_ 21 _ _ _ rfl (.inl rfl) rfl (fun w_ e_ => ?_)))
     exact ⟨hI179.ext e_, hA_.trans (Adv.of_ext e_)⟩
    ·rintro w180 ⟨hI181, hA_⟩
     refine .inr ⟨List.cons_ne_nil _ _, [17], by kernel_rfl, AllL.cons ?_ (AllL.nil)⟩
     refine ⟨_, rfl, fun Q_ hQ_ => ?_⟩
     refine s_as rfl rfl (Reg.nilK [4, 5] rfl (hQ_ 22 _ _ _ rfl (.inl rfl) rfl (fun w_ e_ => ?_)))
     exact ⟨hI181.ext e_, hA_.trans (Adv.of_ext e_)⟩
    rintro w182 ⟨hI183, hA_⟩
    refine .inl ⟨rfl, ?_⟩
    obtain rfl := Option.some.inj h40
    refine ⟨rfl, (decide (y17.account = r.account), y17.id, y17.source, y17.account, y17.made, y17.about, y17.kind, y17.cents, y17.of_), ⟨hI183, hA_, r22, r23, r24, r25, r26, r27, r28, r29, rfl⟩, sb2 rfl rfl⟩
   replace h40 := cdF hg65 h40
   rw [show Value.bool (decide (y17.source = r.source)) = Value.bool false from congrArg Value.bool hg65]
   refine SeaWalk.dag [([10, 11, 12, 13, 14, 15, 16, 17], _, fun w_ => Ext w34 w_), ([11, 12, 13, 14, 15, 16, 17], [(3, vp b7 0), (4, vp b13 0), (16, Value.agg (List.toArray (vR y17))), (25, Value.bool false)], fun w_ => Ext w34 w_), ([10, 11, 13, 14, 15, 16, 17], [(4, vp b13 0), (6, vp b30 0), (16, Value.agg (List.toArray (vR y17))), (25, Value.bool false)], fun w_ => Ext w34 w_), ([10, 11, 12, 13, 14, 15, 17], [(3, vp b7 0), (4, vp b13 0), (6, vp b30 0), (25, Value.bool false)], fun w_ => Hp w [] M [rowR 61 b13 (vR y17)] w_ ∧ Adv (mm [rowR 61 b13 zR] M) (mm [rowR 61 b13 (vR y17)] M) w34 w_), ([12, 13, 14, 15, 16, 17], [(3, vp b7 0), (4, vp b13 0), (16, Value.agg (List.toArray (vR y17))), (25, Value.bool false)], fun w_ => Ext w34 w_), ([11, 13, 14, 15, 16, 17], [(4, vp b13 0), (16, Value.agg (List.toArray (vR y17))), (25, Value.bool false)], fun w_ => Ext w34 w_), ([11, 12, 13, 14, 15, 17], [(3, vp b7 0), (4, vp b13 0), (25, Value.bool false)], fun w_ => Hp w [] M [rowR 61 b13 (vR y17)] w_ ∧ Adv (mm [rowR 61 b13 zR] M) (mm [rowR 61 b13 (vR y17)] M) w34 w_), ([10, 11, 14, 15, 16, 17], [(4, vp b13 0), (6, vp b30 0), (16, Value.agg (List.toArray (vR y17))), (25, Value.bool false)], fun w_ => Ext w34 w_), ([10, 11, 13, 14, 15, 17], [(4, vp b13 0), (6, vp b30 0), (25, Value.bool false)], fun w_ => Hp w [] M [rowR 61 b13 (vR y17)] w_ ∧ Adv (mm [rowR 61 b13 zR] M) (mm [rowR 61 b13 (vR y17)] M) w34 w_), ([13, 14, 15, 16, 17], [(4, vp b13 0), (16, Value.agg (List.toArray (vR y17))), (25, Value.bool false)], fun w_ => Ext w34 w_), ([12, 13, 14, 15, 17], [(3, vp b7 0), (4, vp b13 0), (25, Value.bool false)], fun w_ => Hp w [] M [rowR 61 b13 (vR y17)] w_ ∧ Adv (mm [rowR 61 b13 zR] M) (mm [rowR 61 b13 (vR y17)] M) w34 w_), ([11, 14, 15, 16, 17], [(4, vp b13 0), (16, Value.agg (List.toArray (vR y17))), (25, Value.bool false)], fun w_ => Ext w34 w_), ([11, 13, 14, 15, 17], [(4, vp b13 0), (25, Value.bool false)], fun w_ => Hp w [] M [rowR 61 b13 (vR y17)] w_ ∧ Adv (mm [rowR 61 b13 zR] M) (mm [rowR 61 b13 (vR y17)] M) w34 w_), ([10, 11, 14, 15, 17], [(4, vp b13 0), (6, vp b30 0), (25, Value.bool false)], fun w_ => Hp w [] M [rowR 61 b13 (vR y17)] w_ ∧ Adv (mm [rowR 61 b13 zR] M) (mm [rowR 61 b13 (vR y17)] M) w34 w_), ([14, 15, 16, 17], [(4, vp b13 0), (16, Value.agg (List.toArray (vR y17))), (25, Value.bool false)], fun w_ => Ext w34 w_), ([13, 14, 15, 17], [(4, vp b13 0), (25, Value.bool false)], fun w_ => Hp w [] M [rowR 61 b13 (vR y17)] w_ ∧ Adv (mm [rowR 61 b13 zR] M) (mm [rowR 61 b13 (vR y17)] M) w34 w_), ([11, 14, 15, 17], [(4, vp b13 0), (25, Value.bool false)], fun w_ => Hp w [] M [rowR 61 b13 (vR y17)] w_ ∧ Adv (mm [rowR 61 b13 zR] M) (mm [rowR 61 b13 (vR y17)] M) w34 w_), ([15, 16, 17], [(4, vp b13 0), (16, Value.agg (List.toArray (vR y17))), (25, Value.bool false)], fun w_ => Ext w34 w_), ([14, 15, 17], [(4, vp b13 0), (25, Value.bool false)], fun w_ => Hp w [] M [rowR 61 b13 (vR y17)] w_ ∧ Adv (mm [rowR 61 b13 zR] M) (mm [rowR 61 b13 (vR y17)] M) w34 w_), ([16, 17], [(4, vp b13 0), (16, Value.agg (List.toArray (vR y17))), (31, Value.bool false)], fun w_ => Ext w34 w_), ([15, 17], [(4, vp b13 0), (25, Value.bool false)], fun w_ => Hp w [] M [rowR 61 b13 (vR y17)] w_ ∧ Adv (mm [rowR 61 b13 zR] M) (mm [rowR 61 b13 (vR y17)] M) w34 w_), ([17], [(4, vp b13 0), (31, Value.bool false)], fun w_ => Hp w [] M [rowR 61 b13 (vR y17)] w_ ∧ Adv (mm [rowR 61 b13 zR] M) (mm [rowR 61 b13 (vR y17)] M) w34 w_), ([], [(4, vp b13 0), (5, Value.bool false)], fun w_ => Hp w [] M [rowR 61 b13 (vR y17)] w_ ∧ Adv (mm [rowR 61 b13 zR] M) (mm [rowR 61 b13 (vR y17)] M) w34 w_)] (AllS.cons ?_ (AllS.cons ?_ (AllS.cons ?_ (AllS.cons ?_ (AllS.cons ?_ (AllS.cons ?_ (AllS.cons ?_ (AllS.cons ?_ (AllS.cons ?_ (AllS.cons ?_ (AllS.cons ?_ (AllS.cons ?_ (AllS.cons ?_ (AllS.cons ?_ (AllS.cons ?_ (AllS.cons ?_ (AllS.cons ?_ (AllS.cons ?_ (AllS.cons ?_ (AllS.cons ?_ (AllS.cons ?_ (AllS.cons ?_ (AllS.cons ?_ (AllS.nil)))))))))))))))))))))))) _ _ _ _ 0 _ rfl rfl hI64.kp
   ·intro w212 ex_
    have hI213 := (Hp.start (Mu := []) hI37.mlt).ext ex_
    refine .inr ⟨List.cons_ne_nil _ _, [10, 12, 16], by kernel_rfl, AllL.cons ?_ (AllL.cons ?_ (AllL.cons ?_ (AllL.nil)))⟩
    ·refine ⟨_, rfl, fun Q_ hQ_ => ?_⟩
     refine Reg.pass rfl rfl rfl rfl (Reg.nilK [3, 4, 16, 25] rfl (hQ_ 1 _ _ _ rfl (.inr hI213.kp) rfl (fun w_ e_ => ?_)))
     exact ex_.trans e_
    ·refine ⟨_, rfl, fun Q_ hQ_ => ?_⟩
     refine Reg.pass rfl rfl rfl rfl (Reg.nilK [4, 6, 16, 25] rfl (hQ_ 2 _ _ _ rfl (.inr hI213.kp) rfl (fun w_ e_ => ?_)))
     exact ex_.trans e_
    refine ⟨_, rfl, fun Q_ hQ_ => ?_⟩
    have hI214 := hI37.join hI213
    refine y_st 0 hI214 rfl rfl rfl rfl Tryd.sizeOf61 rfl rfl (on8 rfl rfl rfl rfl rfl rfl rfl rfl) ?_
    intro w215 hI216 x217
    refine Reg.nilK [3, 4, 6, 25] rfl (hQ_ 3 _ _ _ rfl (.inl rfl) rfl (fun w_ e_ => ?_))
    exact ⟨hI216.ext e_, ((Adv.of_ext ex_).trans x217).trans (Adv.of_ext e_)⟩
   ·intro w218 ex_
    have hI219 := (Hp.start (Mu := []) hI37.mlt).ext ex_
    refine .inr ⟨List.cons_ne_nil _ _, [11, 12, 16], by kernel_rfl, AllL.cons ?_ (AllL.cons ?_ (AllL.cons ?_ (AllL.nil)))⟩
    ·refine ⟨_, rfl, fun Q_ hQ_ => ?_⟩
     refine Reg.pass rfl rfl rfl rfl (Reg.nilK [3, 4, 16, 25] rfl (hQ_ 4 _ _ _ rfl (.inr hI219.kp) rfl (fun w_ e_ => ?_)))
     exact ex_.trans e_
    ·refine ⟨_, rfl, fun Q_ hQ_ => ?_⟩
     refine Reg.pass rfl rfl rfl rfl (Reg.nilK [4, 16, 25] rfl (hQ_ 5 _ _ _ rfl (.inr hI219.kp) rfl (fun w_ e_ => ?_)))
     exact ex_.trans e_
    refine ⟨_, rfl, fun Q_ hQ_ => ?_⟩
    have hI220 := hI37.join hI219
    refine y_st 0 hI220 rfl rfl rfl rfl Tryd.sizeOf61 rfl rfl (on8 rfl rfl rfl rfl rfl rfl rfl rfl) ?_
    intro w221 hI222 x223
    refine Reg.nilK [3, 4, 25] rfl (hQ_ 6 _ _ _ rfl (.inl rfl) rfl (fun w_ e_ => ?_))
    exact ⟨hI222.ext e_, ((Adv.of_ext ex_).trans x223).trans (Adv.of_ext e_)⟩
   ·intro w224 ex_
    have hI225 := (Hp.start (Mu := []) hI37.mlt).ext ex_
    refine .inr ⟨List.cons_ne_nil _ _, [10, 13, 16], by kernel_rfl, AllL.cons ?_ (AllL.cons ?_ (AllL.cons ?_ (AllL.nil)))⟩
    ·refine ⟨_, rfl, fun Q_ hQ_ => ?_⟩
     refine Reg.pass rfl rfl rfl rfl (Reg.nilK [4, 16, 25] rfl (hQ_ 5 _ _ _ rfl (.inr hI225.kp) rfl (fun w_ e_ => ?_)))
     exact ex_.trans e_
    ·refine ⟨_, rfl, fun Q_ hQ_ => ?_⟩
     refine Reg.pass rfl rfl rfl rfl (Reg.nilK [4, 6, 16, 25] rfl (hQ_ 7 _ _ _ rfl (.inr hI225.kp) rfl (fun w_ e_ => ?_)))
     exact ex_.trans e_
    refine ⟨_, rfl, fun Q_ hQ_ => ?_⟩
    have hI226 := hI37.join hI225
    refine y_st 0 hI226 rfl rfl rfl rfl Tryd.sizeOf61 rfl rfl (on8 rfl rfl rfl rfl rfl rfl rfl rfl) ?_
    intro w227 hI228 x229
    refine Reg.nilK [4, 6, 25] rfl (hQ_ 8 _ _ _ rfl (.inl rfl) rfl (fun w_ e_ => ?_))
    exact ⟨hI228.ext e_, ((Adv.of_ext ex_).trans x229).trans (Adv.of_ext e_)⟩
   ·rintro w230 ⟨hI231, hA_⟩
    refine .inr ⟨List.cons_ne_nil _ _, [10, 12], by kernel_rfl, AllL.cons ?_ (AllL.cons ?_ (AllL.nil))⟩
    ·refine ⟨_, rfl, fun Q_ hQ_ => ?_⟩
     refine Reg.pass rfl rfl rfl rfl (Reg.nilK [3, 4, 25] rfl (hQ_ 6 _ _ _ rfl (.inl rfl) rfl (fun w_ e_ => ?_)))
     exact ⟨hI231.ext e_, hA_.trans (Adv.of_ext e_)⟩
    refine ⟨_, rfl, fun Q_ hQ_ => ?_⟩
    refine Reg.pass rfl rfl rfl rfl (Reg.nilK [4, 6, 25] rfl (hQ_ 8 _ _ _ rfl (.inl rfl) rfl (fun w_ e_ => ?_)))
    exact ⟨hI231.ext e_, hA_.trans (Adv.of_ext e_)⟩
   ·intro w232 ex_
    have hI233 := (Hp.start (Mu := []) hI37.mlt).ext ex_
    refine .inr ⟨List.cons_ne_nil _ _, [12, 16], by kernel_rfl, AllL.cons ?_ (AllL.cons ?_ (AllL.nil))⟩
    ·refine ⟨_, rfl, fun Q_ hQ_ => ?_⟩
     refine Reg.pass rfl rfl rfl rfl (Reg.nilK [4, 16, 25] rfl (hQ_ 9 _ _ _ rfl (.inr hI233.kp) rfl (fun w_ e_ => ?_)))
     exact ex_.trans e_
    refine ⟨_, rfl, fun Q_ hQ_ => ?_⟩
    have hI234 := hI37.join hI233
    refine y_st 0 hI234 rfl rfl rfl rfl Tryd.sizeOf61 rfl rfl (on8 rfl rfl rfl rfl rfl rfl rfl rfl) ?_
    intro w235 hI236 x237
    refine Reg.nilK [3, 4, 25] rfl (hQ_ 10 _ _ _ rfl (.inl rfl) rfl (fun w_ e_ => ?_))
    exact ⟨hI236.ext e_, ((Adv.of_ext ex_).trans x237).trans (Adv.of_ext e_)⟩
   ·intro w238 ex_
    have hI239 := (Hp.start (Mu := []) hI37.mlt).ext ex_
    refine .inr ⟨List.cons_ne_nil _ _, [11, 13, 16], by kernel_rfl, AllL.cons ?_ (AllL.cons ?_ (AllL.cons ?_ (AllL.nil)))⟩
    ·refine ⟨_, rfl, fun Q_ hQ_ => ?_⟩
     refine Reg.pass rfl rfl rfl rfl (Reg.nilK [4, 16, 25] rfl (hQ_ 9 _ _ _ rfl (.inr hI239.kp) rfl (fun w_ e_ => ?_)))
     exact ex_.trans e_
    ·refine ⟨_, rfl, fun Q_ hQ_ => ?_⟩
     refine Reg.pass rfl rfl rfl rfl (Reg.nilK [4, 16, 25] rfl (hQ_ 11 _ _ _ rfl (.inr hI239.kp) rfl (fun w_ e_ => ?_)))
     exact ex_.trans e_
    refine ⟨_, rfl, fun Q_ hQ_ => ?_⟩
    have hI240 := hI37.join hI239
    refine y_st 0 hI240 rfl rfl rfl rfl Tryd.sizeOf61 rfl rfl (on8 rfl rfl rfl rfl rfl rfl rfl rfl) ?_
    intro w241 hI242 x243
    refine Reg.nilK [4, 25] rfl (hQ_ 12 _ _ _ rfl (.inl rfl) rfl (fun w_ e_ => ?_))
    exact ⟨hI242.ext e_, ((Adv.of_ext ex_).trans x243).trans (Adv.of_ext e_)⟩
   ·rintro w244 ⟨hI245, hA_⟩
    refine .inr ⟨List.cons_ne_nil _ _, [11, 12], by kernel_rfl, AllL.cons ?_ (AllL.cons ?_ (AllL.nil))⟩
    ·refine ⟨_, rfl, fun Q_ hQ_ => ?_⟩
     refine Reg.pass rfl rfl rfl rfl (Reg.nilK [3, 4, 25] rfl (hQ_ 10 _ _ _ rfl (.inl rfl) rfl (fun w_ e_ => ?_)))
     exact ⟨hI245.ext e_, hA_.trans (Adv.of_ext e_)⟩
    refine ⟨_, rfl, fun Q_ hQ_ => ?_⟩
    refine Reg.pass rfl rfl rfl rfl (Reg.nilK [4, 25] rfl (hQ_ 12 _ _ _ rfl (.inl rfl) rfl (fun w_ e_ => ?_)))
    exact ⟨hI245.ext e_, hA_.trans (Adv.of_ext e_)⟩
   ·intro w246 ex_
    have hI247 := (Hp.start (Mu := []) hI37.mlt).ext ex_
    refine .inr ⟨List.cons_ne_nil _ _, [10, 16], by kernel_rfl, AllL.cons ?_ (AllL.cons ?_ (AllL.nil))⟩
    ·refine ⟨_, rfl, fun Q_ hQ_ => ?_⟩
     refine Reg.pass rfl rfl rfl rfl (Reg.nilK [4, 16, 25] rfl (hQ_ 11 _ _ _ rfl (.inr hI247.kp) rfl (fun w_ e_ => ?_)))
     exact ex_.trans e_
    refine ⟨_, rfl, fun Q_ hQ_ => ?_⟩
    have hI248 := hI37.join hI247
    refine y_st 0 hI248 rfl rfl rfl rfl Tryd.sizeOf61 rfl rfl (on8 rfl rfl rfl rfl rfl rfl rfl rfl) ?_
    intro w249 hI250 x251
    refine Reg.nilK [4, 6, 25] rfl (hQ_ 13 _ _ _ rfl (.inl rfl) rfl (fun w_ e_ => ?_))
    exact ⟨hI250.ext e_, ((Adv.of_ext ex_).trans x251).trans (Adv.of_ext e_)⟩
   ·rintro w252 ⟨hI253, hA_⟩
    refine .inr ⟨List.cons_ne_nil _ _, [10, 13], by kernel_rfl, AllL.cons ?_ (AllL.cons ?_ (AllL.nil))⟩
    ·refine ⟨_, rfl, fun Q_ hQ_ => ?_⟩
     refine Reg.pass rfl rfl rfl rfl (Reg.nilK [4, 25] rfl (hQ_ 12 _ _ _ rfl (.inl rfl) rfl (fun w_ e_ => ?_)))
     exact ⟨hI253.ext e_, hA_.trans (Adv.of_ext e_)⟩
    refine ⟨_, rfl, fun Q_ hQ_ => ?_⟩
    refine Reg.pass rfl rfl rfl rfl (Reg.nilK [4, 6, 25] rfl (hQ_ 13 _ _ _ rfl (.inl rfl) rfl (fun w_ e_ => ?_)))
    exact ⟨hI253.ext e_, hA_.trans (Adv.of_ext e_)⟩
   ·intro w254 ex_
    have hI255 := (Hp.start (Mu := []) hI37.mlt).ext ex_
    refine .inr ⟨List.cons_ne_nil _ _, [13, 16], by kernel_rfl, AllL.cons ?_ (AllL.cons ?_ (AllL.nil))⟩
    ·refine ⟨_, rfl, fun Q_ hQ_ => ?_⟩
     refine Reg.pass rfl rfl rfl rfl (Reg.nilK [4, 16, 25] rfl (hQ_ 14 _ _ _ rfl (.inr hI255.kp) rfl (fun w_ e_ => ?_)))
     exact ex_.trans e_
    refine ⟨_, rfl, fun Q_ hQ_ => ?_⟩
    have hI256 := hI37.join hI255
    refine y_st 0 hI256 rfl rfl rfl rfl Tryd.sizeOf61 rfl rfl (on8 rfl rfl rfl rfl rfl rfl rfl rfl) ?_
    intro w257 hI258 x259
    refine Reg.nilK [4, 25] rfl (hQ_ 15 _ _ _ rfl (.inl rfl) rfl (fun w_ e_ => ?_))
    exact ⟨hI258.ext e_, ((Adv.of_ext ex_).trans x259).trans (Adv.of_ext e_)⟩
   ·rintro w260 ⟨hI261, hA_⟩
    refine .inr ⟨List.cons_ne_nil _ _, [12], by kernel_rfl, AllL.cons ?_ (AllL.nil)⟩
    refine ⟨_, rfl, fun Q_ hQ_ => ?_⟩
    refine Reg.pass rfl rfl rfl rfl (Reg.nilK [4, 25] rfl (hQ_ 15 _ _ _ rfl (.inl rfl) rfl (fun w_ e_ => ?_)))
    exact ⟨hI261.ext e_, hA_.trans (Adv.of_ext e_)⟩
   ·intro w262 ex_
    have hI263 := (Hp.start (Mu := []) hI37.mlt).ext ex_
    refine .inr ⟨List.cons_ne_nil _ _, [11, 16], by kernel_rfl, AllL.cons ?_ (AllL.cons ?_ (AllL.nil))⟩
    ·refine ⟨_, rfl, fun Q_ hQ_ => ?_⟩
     refine Reg.pass rfl rfl rfl rfl (Reg.nilK [4, 16, 25] rfl (hQ_ 14 _ _ _ rfl (.inr hI263.kp) rfl (fun w_ e_ => ?_)))
     exact ex_.trans e_
    refine ⟨_, rfl, fun Q_ hQ_ => ?_⟩
    have hI264 := hI37.join hI263
    refine y_st 0 hI264 rfl rfl rfl rfl Tryd.sizeOf61 rfl rfl (on8 rfl rfl rfl rfl rfl rfl rfl rfl) ?_
    intro w265 hI266 x267
    refine Reg.nilK [4, 25] rfl (hQ_ 16 _ _ _ rfl (.inl rfl) rfl (fun w_ e_ => ?_))
    exact ⟨hI266.ext e_, ((Adv.of_ext ex_).trans x267).trans (Adv.of_ext e_)⟩
   ·rintro w268 ⟨hI269, hA_⟩
    refine .inr ⟨List.cons_ne_nil _ _, [11, 13], by kernel_rfl, AllL.cons ?_ (AllL.cons ?_ (AllL.nil))⟩
    ·refine ⟨_, rfl, fun Q_ hQ_ => ?_⟩
     refine Reg.pass rfl rfl rfl rfl (Reg.nilK [4, 25] rfl (hQ_ 15 _ _ _ rfl (.inl rfl) rfl (fun w_ e_ => ?_)))
     exact ⟨hI269.ext e_, hA_.trans (Adv.of_ext e_)⟩
    refine ⟨_, rfl, fun Q_ hQ_ => ?_⟩
    refine Reg.pass rfl rfl rfl rfl (Reg.nilK [4, 25] rfl (hQ_ 16 _ _ _ rfl (.inl rfl) rfl (fun w_ e_ => ?_)))
    exact ⟨hI269.ext e_, hA_.trans (Adv.of_ext e_)⟩
   ·rintro w270 ⟨hI271, hA_⟩
    refine .inr ⟨List.cons_ne_nil _ _, [10], by kernel_rfl, AllL.cons ?_ (AllL.nil)⟩
    refine ⟨_, rfl, fun Q_ hQ_ => ?_⟩
    refine Reg.pass rfl rfl rfl rfl (Reg.nilK [4, 25] rfl (hQ_ 16 _ _ _ rfl (.inl rfl) rfl (fun w_ e_ => ?_)))
    exact ⟨hI271.ext e_, hA_.trans (Adv.of_ext e_)⟩
   ·intro w272 ex_
    have hI273 := (Hp.start (Mu := []) hI37.mlt).ext ex_
    refine .inr ⟨List.cons_ne_nil _ _, [14, 16], by kernel_rfl, AllL.cons ?_ (AllL.cons ?_ (AllL.nil))⟩
    ·refine ⟨_, rfl, fun Q_ hQ_ => ?_⟩
     refine Reg.pass rfl rfl rfl rfl (Reg.nilK [4, 16, 25] rfl (hQ_ 17 _ _ _ rfl (.inr hI273.kp) rfl (fun w_ e_ => ?_)))
     exact ex_.trans e_
    refine ⟨_, rfl, fun Q_ hQ_ => ?_⟩
    have hI274 := hI37.join hI273
    refine y_st 0 hI274 rfl rfl rfl rfl Tryd.sizeOf61 rfl rfl (on8 rfl rfl rfl rfl rfl rfl rfl rfl) ?_
    intro w275 hI276 x277
    refine Reg.nilK [4, 25] rfl (hQ_ 18 _ _ _ rfl (.inl rfl) rfl (fun w_ e_ => ?_))
    exact ⟨hI276.ext e_, ((Adv.of_ext ex_).trans x277).trans (Adv.of_ext e_)⟩
   ·rintro w278 ⟨hI279, hA_⟩
    refine .inr ⟨List.cons_ne_nil _ _, [13], by kernel_rfl, AllL.cons ?_ (AllL.nil)⟩
    refine ⟨_, rfl, fun Q_ hQ_ => ?_⟩
    refine Reg.pass rfl rfl rfl rfl (Reg.nilK [4, 25] rfl (hQ_ 18 _ _ _ rfl (.inl rfl) rfl (fun w_ e_ => ?_)))
    exact ⟨hI279.ext e_, hA_.trans (Adv.of_ext e_)⟩
   ·rintro w280 ⟨hI281, hA_⟩
    refine .inr ⟨List.cons_ne_nil _ _, [11], by kernel_rfl, AllL.cons ?_ (AllL.nil)⟩
    refine ⟨_, rfl, fun Q_ hQ_ => ?_⟩
    refine Reg.pass rfl rfl rfl rfl (Reg.nilK [4, 25] rfl (hQ_ 18 _ _ _ rfl (.inl rfl) rfl (fun w_ e_ => ?_)))
    exact ⟨hI281.ext e_, hA_.trans (Adv.of_ext e_)⟩
   ·intro w282 ex_
    have hI283 := (Hp.start (Mu := []) hI37.mlt).ext ex_
    refine .inr ⟨List.cons_ne_nil _ _, [15, 16], by kernel_rfl, AllL.cons ?_ (AllL.cons ?_ (AllL.nil))⟩
    ·refine ⟨_, rfl, fun Q_ hQ_ => ?_⟩
     refine s_pkF rfl rfl rfl (Reg.nilK [4, 16, 31] rfl (hQ_ 19 _ _ _ rfl (.inr hI283.kp) rfl (fun w_ e_ => ?_)))
     exact ex_.trans e_
    refine ⟨_, rfl, fun Q_ hQ_ => ?_⟩
    have hI284 := hI37.join hI283
    refine y_st 0 hI284 rfl rfl rfl rfl Tryd.sizeOf61 rfl rfl (on8 rfl rfl rfl rfl rfl rfl rfl rfl) ?_
    intro w285 hI286 x287
    refine Reg.nilK [4, 25] rfl (hQ_ 20 _ _ _ rfl (.inl rfl) rfl (fun w_ e_ => ?_))
    exact ⟨hI286.ext e_, ((Adv.of_ext ex_).trans x287).trans (Adv.of_ext e_)⟩
   ·rintro w288 ⟨hI289, hA_⟩
    refine .inr ⟨List.cons_ne_nil _ _, [14], by kernel_rfl, AllL.cons ?_ (AllL.nil)⟩
    refine ⟨_, rfl, fun Q_ hQ_ => ?_⟩
    refine Reg.pass rfl rfl rfl rfl (Reg.nilK [4, 25] rfl (hQ_ 20 _ _ _ rfl (.inl rfl) rfl (fun w_ e_ => ?_)))
    exact ⟨hI289.ext e_, hA_.trans (Adv.of_ext e_)⟩
   ·intro w290 ex_
    have hI291 := (Hp.start (Mu := []) hI37.mlt).ext ex_
    refine .inr ⟨List.cons_ne_nil _ _, [16], by kernel_rfl, AllL.cons ?_ (AllL.nil)⟩
    refine ⟨_, rfl, fun Q_ hQ_ => ?_⟩
    have hI292 := hI37.join hI291
    refine y_st 0 hI292 rfl rfl rfl rfl Tryd.sizeOf61 rfl rfl (on8 rfl rfl rfl rfl rfl rfl rfl rfl) ?_
    intro w293 hI294 x295
    refine Reg.nilK [4, 31] rfl (hQ_ 21 _ _ _ rfl (.inl rfl) rfl (fun w_ e_ => ?_))
    exact ⟨hI294.ext e_, ((Adv.of_ext ex_).trans x295).trans (Adv.of_ext e_)⟩
   ·rintro w296 ⟨hI297, hA_⟩
    refine .inr ⟨List.cons_ne_nil _ _, [15], by kernel_rfl, AllL.cons ?_ (AllL.nil)⟩
    refine ⟨_, rfl, fun Q_ hQ_ => ?_⟩
    refine s_pkF rfl rfl rfl (Reg.nilK [4, 31] rfl (hQ_ 21 _ _ _ rfl (.inl rfl) rfl (fun w_ e_ => ?_)))
    exact ⟨hI297.ext e_, hA_.trans (Adv.of_ext e_)⟩
   ·rintro w298 ⟨hI299, hA_⟩
    refine .inr ⟨List.cons_ne_nil _ _, [17], by kernel_rfl, AllL.cons ?_ (AllL.nil)⟩
    refine ⟨_, rfl, fun Q_ hQ_ => ?_⟩
    refine s_as rfl rfl (Reg.nilK [4, 5] rfl (hQ_ 22 _ _ _ rfl (.inl rfl) rfl (fun w_ e_ => ?_)))
    exact ⟨hI299.ext e_, hA_.trans (Adv.of_ext e_)⟩
   rintro w300 ⟨hI301, hA_⟩
   refine .inl ⟨rfl, ?_⟩
   obtain rfl := Option.some.inj h40
   refine ⟨rfl, (false, y17.id, y17.source, y17.account, y17.made, y17.about, y17.kind, y17.cents, y17.of_), ⟨hI301, hA_, r22, r23, r24, r25, r26, r27, r28, r29, rfl⟩, sb2 rfl rfl⟩
  replace h40 := cdF hg61 h40
  iterate 5 refine Reg.pass rfl rfl rfl rfl ?_
  refine s_pkF rfl rfl rfl (s_mv rfl rfl (Reg.nilX ⟨rfl, rfl, rfl, ?_⟩))
  intro w302 e303
  have hI304 := (Hp.start (Mu := []) hI37.mlt).ext e303
  refine SeaWalk.dag [([10, 11, 12, 13, 14, 15, 16, 17], _, fun w_ => Ext w34 w_), ([11, 12, 13, 14, 15, 16, 17], [(3, vp b7 0), (4, vp b13 0), (16, Value.agg (List.toArray (vR y17))), (25, Value.bool false)], fun w_ => Ext w34 w_), ([10, 11, 13, 14, 15, 16, 17], [(4, vp b13 0), (6, vp b30 0), (16, Value.agg (List.toArray (vR y17))), (25, Value.bool false)], fun w_ => Ext w34 w_), ([10, 11, 12, 13, 14, 15, 17], [(3, vp b7 0), (4, vp b13 0), (6, vp b30 0), (25, Value.bool false)], fun w_ => Hp w [] M [rowR 61 b13 (vR y17)] w_ ∧ Adv (mm [rowR 61 b13 zR] M) (mm [rowR 61 b13 (vR y17)] M) w34 w_), ([12, 13, 14, 15, 16, 17], [(3, vp b7 0), (4, vp b13 0), (16, Value.agg (List.toArray (vR y17))), (25, Value.bool false)], fun w_ => Ext w34 w_), ([11, 13, 14, 15, 16, 17], [(4, vp b13 0), (16, Value.agg (List.toArray (vR y17))), (25, Value.bool false)], fun w_ => Ext w34 w_), ([11, 12, 13, 14, 15, 17], [(3, vp b7 0), (4, vp b13 0), (25, Value.bool false)], fun w_ => Hp w [] M [rowR 61 b13 (vR y17)] w_ ∧ Adv (mm [rowR 61 b13 zR] M) (mm [rowR 61 b13 (vR y17)] M) w34 w_), ([10, 11, 14, 15, 16, 17], [(4, vp b13 0), (6, vp b30 0), (16, Value.agg (List.toArray (vR y17))), (25, Value.bool false)], fun w_ => Ext w34 w_), ([10, 11, 13, 14, 15, 17], [(4, vp b13 0), (6, vp b30 0), (25, Value.bool false)], fun w_ => Hp w [] M [rowR 61 b13 (vR y17)] w_ ∧ Adv (mm [rowR 61 b13 zR] M) (mm [rowR 61 b13 (vR y17)] M) w34 w_), ([13, 14, 15, 16, 17], [(4, vp b13 0), (16, Value.agg (List.toArray (vR y17))), (25, Value.bool false)], fun w_ => Ext w34 w_), ([12, 13, 14, 15, 17], [(3, vp b7 0), (4, vp b13 0), (25, Value.bool false)], fun w_ => Hp w [] M [rowR 61 b13 (vR y17)] w_ ∧ Adv (mm [rowR 61 b13 zR] M) (mm [rowR 61 b13 (vR y17)] M) w34 w_), ([11, 14, 15, 16, 17], [(4, vp b13 0), (16, Value.agg (List.toArray (vR y17))), (25, Value.bool false)], fun w_ => Ext w34 w_), ([11, 13, 14, 15, 17], [(4, vp b13 0), (25, Value.bool false)], fun w_ => Hp w [] M [rowR 61 b13 (vR y17)] w_ ∧ Adv (mm [rowR 61 b13 zR] M) (mm [rowR 61 b13 (vR y17)] M) w34 w_), ([10, 11, 14, 15, 17], [(4, vp b13 0), (6, vp b30 0), (25, Value.bool false)], fun w_ => Hp w [] M [rowR 61 b13 (vR y17)] w_ ∧ Adv (mm [rowR 61 b13 zR] M) (mm [rowR 61 b13 (vR y17)] M) w34 w_), ([14, 15, 16, 17], [(4, vp b13 0), (16, Value.agg (List.toArray (vR y17))), (25, Value.bool false)], fun w_ => Ext w34 w_), ([13, 14, 15, 17], [(4, vp b13 0), (25, Value.bool false)], fun w_ => Hp w [] M [rowR 61 b13 (vR y17)] w_ ∧ Adv (mm [rowR 61 b13 zR] M) (mm [rowR 61 b13 (vR y17)] M) w34 w_), ([11, 14, 15, 17], [(4, vp b13 0), (25, Value.bool false)], fun w_ => Hp w [] M [rowR 61 b13 (vR y17)] w_ ∧ Adv (mm [rowR 61 b13 zR] M) (mm [rowR 61 b13 (vR y17)] M) w34 w_), ([15, 16, 17], [(4, vp b13 0), (16, Value.agg (List.toArray (vR y17))), (25, Value.bool false)], fun w_ => Ext w34 w_), ([14, 15, 17], [(4, vp b13 0), (25, Value.bool false)], fun w_ => Hp w [] M [rowR 61 b13 (vR y17)] w_ ∧ Adv (mm [rowR 61 b13 zR] M) (mm [rowR 61 b13 (vR y17)] M) w34 w_), ([16, 17], [(4, vp b13 0), (16, Value.agg (List.toArray (vR y17))), (31, Value.bool false)], fun w_ => Ext w34 w_), ([15, 17], [(4, vp b13 0), (25, Value.bool false)], fun w_ => Hp w [] M [rowR 61 b13 (vR y17)] w_ ∧ Adv (mm [rowR 61 b13 zR] M) (mm [rowR 61 b13 (vR y17)] M) w34 w_), ([17], [(4, vp b13 0), (31, Value.bool false)], fun w_ => Hp w [] M [rowR 61 b13 (vR y17)] w_ ∧ Adv (mm [rowR 61 b13 zR] M) (mm [rowR 61 b13 (vR y17)] M) w34 w_), ([], [(4, vp b13 0), (5, Value.bool false)], fun w_ => Hp w [] M [rowR 61 b13 (vR y17)] w_ ∧ Adv (mm [rowR 61 b13 zR] M) (mm [rowR 61 b13 (vR y17)] M) w34 w_)] (AllS.cons ?_ (AllS.cons ?_ (AllS.cons ?_ (AllS.cons ?_ (AllS.cons ?_ (AllS.cons ?_ (AllS.cons ?_ (AllS.cons ?_ (AllS.cons ?_ (AllS.cons ?_ (AllS.cons ?_ (AllS.cons ?_ (AllS.cons ?_ (AllS.cons ?_ (AllS.cons ?_ (AllS.cons ?_ (AllS.cons ?_ (AllS.cons ?_ (AllS.cons ?_ (AllS.cons ?_ (AllS.cons ?_ (AllS.cons ?_ (AllS.cons ?_ (AllS.nil)))))))))))))))))))))))) _ _ _ _ 0 _ rfl rfl hI304.kp
  ·intro w333 ex_
   have hI334 := (Hp.start (Mu := []) hI37.mlt).ext ex_
   refine .inr ⟨List.cons_ne_nil _ _, [10, 12, 16], by kernel_rfl, AllL.cons ?_ (AllL.cons ?_ (AllL.cons ?_ (AllL.nil)))⟩
   ·refine ⟨_, rfl, fun Q_ hQ_ => ?_⟩
    refine Reg.pass rfl rfl rfl rfl (Reg.nilK [3, 4, 16, 25] rfl (hQ_ 1 _ _ _ rfl (.inr hI334.kp) rfl (fun w_ e_ => ?_)))
    exact ex_.trans e_
   ·refine ⟨_, rfl, fun Q_ hQ_ => ?_⟩
    refine Reg.pass rfl rfl rfl rfl (Reg.nilK [4, 6, 16, 25] rfl (hQ_ 2 _ _ _ rfl (.inr hI334.kp) rfl (fun w_ e_ => ?_)))
    exact ex_.trans e_
   refine ⟨_, rfl, fun Q_ hQ_ => ?_⟩
   have hI335 := hI37.join hI334
   refine y_st 0 hI335 rfl rfl rfl rfl Tryd.sizeOf61 rfl rfl (on8 rfl rfl rfl rfl rfl rfl rfl rfl) ?_
   intro w336 hI337 x338
   refine Reg.nilK [3, 4, 6, 25] rfl (hQ_ 3 _ _ _ rfl (.inl rfl) rfl (fun w_ e_ => ?_))
   exact ⟨hI337.ext e_, ((Adv.of_ext ex_).trans x338).trans (Adv.of_ext e_)⟩
  ·intro w339 ex_
   have hI340 := (Hp.start (Mu := []) hI37.mlt).ext ex_
   refine .inr ⟨List.cons_ne_nil _ _, [11, 12, 16], by kernel_rfl, AllL.cons ?_ (AllL.cons ?_ (AllL.cons ?_ (AllL.nil)))⟩
   ·refine ⟨_, rfl, fun Q_ hQ_ => ?_⟩
    refine Reg.pass rfl rfl rfl rfl (Reg.nilK [3, 4, 16, 25] rfl (hQ_ 4 _ _ _ rfl (.inr hI340.kp) rfl (fun w_ e_ => ?_)))
    exact ex_.trans e_
   ·refine ⟨_, rfl, fun Q_ hQ_ => ?_⟩
    refine Reg.pass rfl rfl rfl rfl (Reg.nilK [4, 16, 25] rfl (hQ_ 5 _ _ _ rfl (.inr hI340.kp) rfl (fun w_ e_ => ?_)))
    exact ex_.trans e_
   refine ⟨_, rfl, fun Q_ hQ_ => ?_⟩
   have hI341 := hI37.join hI340
   refine y_st 0 hI341 rfl rfl rfl rfl Tryd.sizeOf61 rfl rfl (on8 rfl rfl rfl rfl rfl rfl rfl rfl) ?_
   intro w342 hI343 x344
   refine Reg.nilK [3, 4, 25] rfl (hQ_ 6 _ _ _ rfl (.inl rfl) rfl (fun w_ e_ => ?_))
   exact ⟨hI343.ext e_, ((Adv.of_ext ex_).trans x344).trans (Adv.of_ext e_)⟩
  ·intro w345 ex_
   have hI346 := (Hp.start (Mu := []) hI37.mlt).ext ex_
   refine .inr ⟨List.cons_ne_nil _ _, [10, 13, 16], by kernel_rfl, AllL.cons ?_ (AllL.cons ?_ (AllL.cons ?_ (AllL.nil)))⟩
   ·refine ⟨_, rfl, fun Q_ hQ_ => ?_⟩
    refine Reg.pass rfl rfl rfl rfl (Reg.nilK [4, 16, 25] rfl (hQ_ 5 _ _ _ rfl (.inr hI346.kp) rfl (fun w_ e_ => ?_)))
    exact ex_.trans e_
   ·refine ⟨_, rfl, fun Q_ hQ_ => ?_⟩
    refine Reg.pass rfl rfl rfl rfl (Reg.nilK [4, 6, 16, 25] rfl (hQ_ 7 _ _ _ rfl (.inr hI346.kp) rfl (fun w_ e_ => ?_)))
    exact ex_.trans e_
   refine ⟨_, rfl, fun Q_ hQ_ => ?_⟩
   have hI347 := hI37.join hI346
   refine y_st 0 hI347 rfl rfl rfl rfl Tryd.sizeOf61 rfl rfl (on8 rfl rfl rfl rfl rfl rfl rfl rfl) ?_
   intro w348 hI349 x350
   refine Reg.nilK [4, 6, 25] rfl (hQ_ 8 _ _ _ rfl (.inl rfl) rfl (fun w_ e_ => ?_))
   exact ⟨hI349.ext e_, ((Adv.of_ext ex_).trans x350).trans (Adv.of_ext e_)⟩
  ·rintro w351 ⟨hI352, hA_⟩
   refine .inr ⟨List.cons_ne_nil _ _, [10, 12], by kernel_rfl, AllL.cons ?_ (AllL.cons ?_ (AllL.nil))⟩
   ·refine ⟨_, rfl, fun Q_ hQ_ => ?_⟩
    refine Reg.pass rfl rfl rfl rfl (Reg.nilK [3, 4, 25] rfl (hQ_ 6 _ _ _ rfl (.inl rfl) rfl (fun w_ e_ => ?_)))
    exact ⟨hI352.ext e_, hA_.trans (Adv.of_ext e_)⟩
   refine ⟨_, rfl, fun Q_ hQ_ => ?_⟩
   refine Reg.pass rfl rfl rfl rfl (Reg.nilK [4, 6, 25] rfl (hQ_ 8 _ _ _ rfl (.inl rfl) rfl (fun w_ e_ => ?_)))
   exact ⟨hI352.ext e_, hA_.trans (Adv.of_ext e_)⟩
  ·intro w353 ex_
   have hI354 := (Hp.start (Mu := []) hI37.mlt).ext ex_
   refine .inr ⟨List.cons_ne_nil _ _, [12, 16], by kernel_rfl, AllL.cons ?_ (AllL.cons ?_ (AllL.nil))⟩
   ·refine ⟨_, rfl, fun Q_ hQ_ => ?_⟩
    refine Reg.pass rfl rfl rfl rfl (Reg.nilK [4, 16, 25] rfl (hQ_ 9 _ _ _ rfl (.inr hI354.kp) rfl (fun w_ e_ => ?_)))
    exact ex_.trans e_
   refine ⟨_, rfl, fun Q_ hQ_ => ?_⟩
   have hI355 := hI37.join hI354
   refine y_st 0 hI355 rfl rfl rfl rfl Tryd.sizeOf61 rfl rfl (on8 rfl rfl rfl rfl rfl rfl rfl rfl) ?_
   intro w356 hI357 x358
   refine Reg.nilK [3, 4, 25] rfl (hQ_ 10 _ _ _ rfl (.inl rfl) rfl (fun w_ e_ => ?_))
   exact ⟨hI357.ext e_, ((Adv.of_ext ex_).trans x358).trans (Adv.of_ext e_)⟩
  ·intro w359 ex_
   have hI360 := (Hp.start (Mu := []) hI37.mlt).ext ex_
   refine .inr ⟨List.cons_ne_nil _ _, [11, 13, 16], by kernel_rfl, AllL.cons ?_ (AllL.cons ?_ (AllL.cons ?_ (AllL.nil)))⟩
   ·refine ⟨_, rfl, fun Q_ hQ_ => ?_⟩
    refine Reg.pass rfl rfl rfl rfl (Reg.nilK [4, 16, 25] rfl (hQ_ 9 _ _ _ rfl (.inr hI360.kp) rfl (fun w_ e_ => ?_)))
    exact ex_.trans e_
   ·refine ⟨_, rfl, fun Q_ hQ_ => ?_⟩
    refine Reg.pass rfl rfl rfl rfl (Reg.nilK [4, 16, 25] rfl (hQ_ 11 _ _ _ rfl (.inr hI360.kp) rfl (fun w_ e_ => ?_)))
    exact ex_.trans e_
   refine ⟨_, rfl, fun Q_ hQ_ => ?_⟩
   have hI361 := hI37.join hI360
   refine y_st 0 hI361 rfl rfl rfl rfl Tryd.sizeOf61 rfl rfl (on8 rfl rfl rfl rfl rfl rfl rfl rfl) ?_
   intro w362 hI363 x364
   refine Reg.nilK [4, 25] rfl (hQ_ 12 _ _ _ rfl (.inl rfl) rfl (fun w_ e_ => ?_))
   exact ⟨hI363.ext e_, ((Adv.of_ext ex_).trans x364).trans (Adv.of_ext e_)⟩
  ·rintro w365 ⟨hI366, hA_⟩
   refine .inr ⟨List.cons_ne_nil _ _, [11, 12], by kernel_rfl, AllL.cons ?_ (AllL.cons ?_ (AllL.nil))⟩
   ·refine ⟨_, rfl, fun Q_ hQ_ => ?_⟩
    refine Reg.pass rfl rfl rfl rfl (Reg.nilK [3, 4, 25] rfl (hQ_ 10 _ _ _ rfl (.inl rfl) rfl (fun w_ e_ => ?_)))
    exact ⟨hI366.ext e_, hA_.trans (Adv.of_ext e_)⟩
   refine ⟨_, rfl, fun Q_ hQ_ => ?_⟩
   refine Reg.pass rfl rfl rfl rfl (Reg.nilK [4, 25] rfl (hQ_ 12 _ _ _ rfl (.inl rfl) rfl (fun w_ e_ => ?_)))
   exact ⟨hI366.ext e_, hA_.trans (Adv.of_ext e_)⟩
  ·intro w367 ex_
   have hI368 := (Hp.start (Mu := []) hI37.mlt).ext ex_
   refine .inr ⟨List.cons_ne_nil _ _, [10, 16], by kernel_rfl, AllL.cons ?_ (AllL.cons ?_ (AllL.nil))⟩
   ·refine ⟨_, rfl, fun Q_ hQ_ => ?_⟩
    refine Reg.pass rfl rfl rfl rfl (Reg.nilK [4, 16, 25] rfl (hQ_ 11 _ _ _ rfl (.inr hI368.kp) rfl (fun w_ e_ => ?_)))
    exact ex_.trans e_
   refine ⟨_, rfl, fun Q_ hQ_ => ?_⟩
   have hI369 := hI37.join hI368
   refine y_st 0 hI369 rfl rfl rfl rfl Tryd.sizeOf61 rfl rfl (on8 rfl rfl rfl rfl rfl rfl rfl rfl) ?_
   intro w370 hI371 x372
   refine Reg.nilK [4, 6, 25] rfl (hQ_ 13 _ _ _ rfl (.inl rfl) rfl (fun w_ e_ => ?_))
   exact ⟨hI371.ext e_, ((Adv.of_ext ex_).trans x372).trans (Adv.of_ext e_)⟩
  ·rintro w373 ⟨hI374, hA_⟩
   refine .inr ⟨List.cons_ne_nil _ _, [10, 13], by kernel_rfl, AllL.cons ?_ (AllL.cons ?_ (AllL.nil))⟩
   ·refine ⟨_, rfl, fun Q_ hQ_ => ?_⟩
    refine Reg.pass rfl rfl rfl rfl (Reg.nilK [4, 25] rfl (hQ_ 12 _ _ _ rfl (.inl rfl) rfl (fun w_ e_ => ?_)))
    exact ⟨hI374.ext e_, hA_.trans (Adv.of_ext e_)⟩
   refine ⟨_, rfl, fun Q_ hQ_ => ?_⟩
   refine Reg.pass rfl rfl rfl rfl (Reg.nilK [4, 6, 25] rfl (hQ_ 13 _ _ _ rfl (.inl rfl) rfl (fun w_ e_ => ?_)))
   exact ⟨hI374.ext e_, hA_.trans (Adv.of_ext e_)⟩
  ·intro w375 ex_
   have hI376 := (Hp.start (Mu := []) hI37.mlt).ext ex_
   refine .inr ⟨List.cons_ne_nil _ _, [13, 16], by kernel_rfl, AllL.cons ?_ (AllL.cons ?_ (AllL.nil))⟩
   ·refine ⟨_, rfl, fun Q_ hQ_ => ?_⟩
    refine Reg.pass rfl rfl rfl rfl (Reg.nilK [4, 16, 25] rfl (hQ_ 14 _ _ _ rfl (.inr hI376.kp) rfl (fun w_ e_ => ?_)))
    exact ex_.trans e_
   refine ⟨_, rfl, fun Q_ hQ_ => ?_⟩
   have hI377 := hI37.join hI376
   refine y_st 0 hI377 rfl rfl rfl rfl Tryd.sizeOf61 rfl rfl (on8 rfl rfl rfl rfl rfl rfl rfl rfl) ?_
   intro w378 hI379 x380
   refine Reg.nilK [4, 25] rfl (hQ_ 15 _ _ _ rfl (.inl rfl) rfl (fun w_ e_ => ?_))
   exact ⟨hI379.ext e_, ((Adv.of_ext ex_).trans x380).trans (Adv.of_ext e_)⟩
  ·rintro w381 ⟨hI382, hA_⟩
   refine .inr ⟨List.cons_ne_nil _ _, [12], by kernel_rfl, AllL.cons ?_ (AllL.nil)⟩
   refine ⟨_, rfl, fun Q_ hQ_ => ?_⟩
   refine Reg.pass rfl rfl rfl rfl (Reg.nilK [4, 25] rfl (hQ_ 15 _ _ _ rfl (.inl rfl) rfl (fun w_ e_ => ?_)))
   exact ⟨hI382.ext e_, hA_.trans (Adv.of_ext e_)⟩
  ·intro w383 ex_
   have hI384 := (Hp.start (Mu := []) hI37.mlt).ext ex_
   refine .inr ⟨List.cons_ne_nil _ _, [11, 16], by kernel_rfl, AllL.cons ?_ (AllL.cons ?_ (AllL.nil))⟩
   ·refine ⟨_, rfl, fun Q_ hQ_ => ?_⟩
    refine Reg.pass rfl rfl rfl rfl (Reg.nilK [4, 16, 25] rfl (hQ_ 14 _ _ _ rfl (.inr hI384.kp) rfl (fun w_ e_ => ?_)))
    exact ex_.trans e_
   refine ⟨_, rfl, fun Q_ hQ_ => ?_⟩
   have hI385 := hI37.join hI384
   refine y_st 0 hI385 rfl rfl rfl rfl Tryd.sizeOf61 rfl rfl (on8 rfl rfl rfl rfl rfl rfl rfl rfl) ?_
   intro w386 hI387 x388
   refine Reg.nilK [4, 25] rfl (hQ_ 16 _ _ _ rfl (.inl rfl) rfl (fun w_ e_ => ?_))
   exact ⟨hI387.ext e_, ((Adv.of_ext ex_).trans x388).trans (Adv.of_ext e_)⟩
  ·rintro w389 ⟨hI390, hA_⟩
   refine .inr ⟨List.cons_ne_nil _ _, [11, 13], by kernel_rfl, AllL.cons ?_ (AllL.cons ?_ (AllL.nil))⟩
   ·refine ⟨_, rfl, fun Q_ hQ_ => ?_⟩
    refine Reg.pass rfl rfl rfl rfl (Reg.nilK [4, 25] rfl (hQ_ 15 _ _ _ rfl (.inl rfl) rfl (fun w_ e_ => ?_)))
    exact ⟨hI390.ext e_, hA_.trans (Adv.of_ext e_)⟩
   refine ⟨_, rfl, fun Q_ hQ_ => ?_⟩
   refine Reg.pass rfl rfl rfl rfl (Reg.nilK [4, 25] rfl (hQ_ 16 _ _ _ rfl (.inl rfl) rfl (fun w_ e_ => ?_)))
   exact ⟨hI390.ext e_, hA_.trans (Adv.of_ext e_)⟩
  ·rintro w391 ⟨hI392, hA_⟩
   refine .inr ⟨List.cons_ne_nil _ _, [10], by kernel_rfl, AllL.cons ?_ (AllL.nil)⟩
   refine ⟨_, rfl, fun Q_ hQ_ => ?_⟩
   refine Reg.pass rfl rfl rfl rfl (Reg.nilK [4, 25] rfl (hQ_ 16 _ _ _ rfl (.inl rfl) rfl (fun w_ e_ => ?_)))
   exact ⟨hI392.ext e_, hA_.trans (Adv.of_ext e_)⟩
  ·intro w393 ex_
   have hI394 := (Hp.start (Mu := []) hI37.mlt).ext ex_
   refine .inr ⟨List.cons_ne_nil _ _, [14, 16], by kernel_rfl, AllL.cons ?_ (AllL.cons ?_ (AllL.nil))⟩
   ·refine ⟨_, rfl, fun Q_ hQ_ => ?_⟩
    refine Reg.pass rfl rfl rfl rfl (Reg.nilK [4, 16, 25] rfl (hQ_ 17 _ _ _ rfl (.inr hI394.kp) rfl (fun w_ e_ => ?_)))
    exact ex_.trans e_
   refine ⟨_, rfl, fun Q_ hQ_ => ?_⟩
   have hI395 := hI37.join hI394
   refine y_st 0 hI395 rfl rfl rfl rfl Tryd.sizeOf61 rfl rfl (on8 rfl rfl rfl rfl rfl rfl rfl rfl) ?_
   intro w396 hI397 x398
   refine Reg.nilK [4, 25] rfl (hQ_ 18 _ _ _ rfl (.inl rfl) rfl (fun w_ e_ => ?_))
   exact ⟨hI397.ext e_, ((Adv.of_ext ex_).trans x398).trans (Adv.of_ext e_)⟩
  ·rintro w399 ⟨hI400, hA_⟩
   refine .inr ⟨List.cons_ne_nil _ _, [13], by kernel_rfl, AllL.cons ?_ (AllL.nil)⟩
   refine ⟨_, rfl, fun Q_ hQ_ => ?_⟩
   refine Reg.pass rfl rfl rfl rfl (Reg.nilK [4, 25] rfl (hQ_ 18 _ _ _ rfl (.inl rfl) rfl (fun w_ e_ => ?_)))
   exact ⟨hI400.ext e_, hA_.trans (Adv.of_ext e_)⟩
  ·rintro w401 ⟨hI402, hA_⟩
   refine .inr ⟨List.cons_ne_nil _ _, [11], by kernel_rfl, AllL.cons ?_ (AllL.nil)⟩
   refine ⟨_, rfl, fun Q_ hQ_ => ?_⟩
   refine Reg.pass rfl rfl rfl rfl (Reg.nilK [4, 25] rfl (hQ_ 18 _ _ _ rfl (.inl rfl) rfl (fun w_ e_ => ?_)))
   exact ⟨hI402.ext e_, hA_.trans (Adv.of_ext e_)⟩
  ·intro w403 ex_
   have hI404 := (Hp.start (Mu := []) hI37.mlt).ext ex_
   refine .inr ⟨List.cons_ne_nil _ _, [15, 16], by kernel_rfl, AllL.cons ?_ (AllL.cons ?_ (AllL.nil))⟩
   ·refine ⟨_, rfl, fun Q_ hQ_ => ?_⟩
    refine s_pkF rfl rfl rfl (Reg.nilK [4, 16, 31] rfl (hQ_ 19 _ _ _ rfl (.inr hI404.kp) rfl (fun w_ e_ => ?_)))
    exact ex_.trans e_
   refine ⟨_, rfl, fun Q_ hQ_ => ?_⟩
   have hI405 := hI37.join hI404
   refine y_st 0 hI405 rfl rfl rfl rfl Tryd.sizeOf61 rfl rfl (on8 rfl rfl rfl rfl rfl rfl rfl rfl) ?_
   intro w406 hI407 x408
   refine Reg.nilK [4, 25] rfl (hQ_ 20 _ _ _ rfl (.inl rfl) rfl (fun w_ e_ => ?_))
   exact ⟨hI407.ext e_, ((Adv.of_ext ex_).trans x408).trans (Adv.of_ext e_)⟩
  ·rintro w409 ⟨hI410, hA_⟩
   refine .inr ⟨List.cons_ne_nil _ _, [14], by kernel_rfl, AllL.cons ?_ (AllL.nil)⟩
   refine ⟨_, rfl, fun Q_ hQ_ => ?_⟩
   refine Reg.pass rfl rfl rfl rfl (Reg.nilK [4, 25] rfl (hQ_ 20 _ _ _ rfl (.inl rfl) rfl (fun w_ e_ => ?_)))
   exact ⟨hI410.ext e_, hA_.trans (Adv.of_ext e_)⟩
  ·intro w411 ex_
   have hI412 := (Hp.start (Mu := []) hI37.mlt).ext ex_
   refine .inr ⟨List.cons_ne_nil _ _, [16], by kernel_rfl, AllL.cons ?_ (AllL.nil)⟩
   refine ⟨_, rfl, fun Q_ hQ_ => ?_⟩
   have hI413 := hI37.join hI412
   refine y_st 0 hI413 rfl rfl rfl rfl Tryd.sizeOf61 rfl rfl (on8 rfl rfl rfl rfl rfl rfl rfl rfl) ?_
   intro w414 hI415 x416
   refine Reg.nilK [4, 31] rfl (hQ_ 21 _ _ _ rfl (.inl rfl) rfl (fun w_ e_ => ?_))
   exact ⟨hI415.ext e_, ((Adv.of_ext ex_).trans x416).trans (Adv.of_ext e_)⟩
  ·rintro w417 ⟨hI418, hA_⟩
   refine .inr ⟨List.cons_ne_nil _ _, [15], by kernel_rfl, AllL.cons ?_ (AllL.nil)⟩
   refine ⟨_, rfl, fun Q_ hQ_ => ?_⟩
   refine s_pkF rfl rfl rfl (Reg.nilK [4, 31] rfl (hQ_ 21 _ _ _ rfl (.inl rfl) rfl (fun w_ e_ => ?_)))
   exact ⟨hI418.ext e_, hA_.trans (Adv.of_ext e_)⟩
  ·rintro w419 ⟨hI420, hA_⟩
   refine .inr ⟨List.cons_ne_nil _ _, [17], by kernel_rfl, AllL.cons ?_ (AllL.nil)⟩
   refine ⟨_, rfl, fun Q_ hQ_ => ?_⟩
   refine s_as rfl rfl (Reg.nilK [4, 5] rfl (hQ_ 22 _ _ _ rfl (.inl rfl) rfl (fun w_ e_ => ?_)))
   exact ⟨hI420.ext e_, hA_.trans (Adv.of_ext e_)⟩
  rintro w421 ⟨hI422, hA_⟩
  refine .inl ⟨rfl, ?_⟩
  obtain rfl := Option.some.inj h40
  refine ⟨rfl, (false, y17.id, y17.source, y17.account, y17.made, y17.about, y17.kind, y17.cents, y17.of_), ⟨hI422, hA_, r22, r23, r24, r25, r26, r27, r28, r29, rfl⟩, sb2 rfl rfl⟩
 rintro ⟨x41, x42, x44, x46, x48, x50, x52, x54, x56⟩ w58 ⟨hI59, hA60, r43, r45, r47, r49, r51, r53, r55, r57, rfl⟩
 refine cw_ret ?_
 obtain ⟨rfl, rfl⟩ := inj2 h
 refine fin_any Tryd.results42 (AllRs.cons (RsOk.agg rfl (hI59.row 0 rfl).rd.cells Tryd.isAgg61 rfl Tryd.sizeOf61) (AllRs.cons (RsOk.tmp rfl) (AllRs.nil))) rfl ?_
 exact ⟨rfl, r43, r45, r47, r49, r51, r53, r55, r57, hI59.kp⟩
noncomputable def P.account_desk_away (d : Desk) (id : Int) : Option Bool :=
  Option.bind (some ((d.gone id).getD 0)) fun y7 => some ((d.gone id).isSome)
theorem C_account_desk_away {M : List Nat} {w : World} (hM : MLt M w) {d : Desk} {v_d_0 : Value} {v_d_1 : Value} {v_d_2 : Value} (f_d_0 : RdF Ky3 ReportE true M w v_d_0 d.store.reports) (f_d_1 : RdF Ky3 (intE .i64) false M w v_d_1 d.gone) (f_d_2 : RdF Ky3 (intE .i64) false M w v_d_2 d.fixed) {id : Int} (f_id_0 : InK .i64 id) {r0 : Bool} (h : P.account_desk_away d id = some r0) :
  Calls Tryd.prog 70 (List.toArray [Value.agg (List.toArray [v_d_0, v_d_1, v_d_2]), vi id]) w fun e w' => e = .returned (Value.bool r0) ∧ Ext w w' := by
 have hI := Hp.start (Mu := []) hM
 refine calls_cw Tryd.func70 rfl Tryd.ntmps70 rfl ?_
 refine cw_seq (cw_regF (y_box hI rfl rfl rfl ?_))
 intro b1 w2 hI3 x4
 have hC6 := hI3.freezeRow 0 rfl
 have hI5 := hI3.erase 0
 refine s_as rfl rfl (Reg.nil (cw_seq (cw_regF (s_fa rfl Tryd.underlying92 rfl Tryd.sizeOf79 rfl (s_ld rfl (hC6.cells.at 1 rfl) Tryd.isAgg79 rfl (s_mv rfl rfl ?_))))))
 obtain ⟨y7, hy7, h⟩ := bnd h
 refine s_lkF (a := id) (z0 := 0) (f_d_1.adv hI5.adv) rfl rfl (show InK .i64 id from f_id_0) Tryd.underlying79 Tryd.zeroValue3 ⟨_, ⟨rfl, (by decide)⟩, .inr ⟨rfl, rfl⟩⟩ rfl ?_
 intro v8 hv9
 rw [Option.some.inj hy7] at hv9
 have hR10 := Vl.one1 hv9
 obtain ⟨r11', r11⟩ := hR10
 obtain rfl := one_inj r11'
 refine s_mv rfl rfl (s_xt rfl rfl rfl (s_xt rfl rfl rfl (s_as rfl rfl (s_as rfl rfl (Reg.nil (cw_seq (cw_regF (s_mv rfl rfl (s_as rfl rfl (Reg.nil (cw_ret ?_)))))))))))
 obtain rfl := Option.some.inj h
 refine fin1 Tryd.results70 rfl ?_
 exact ⟨rfl, hI5.kp⟩
noncomputable def P.slices_IndexFunc_58 (s : (List Report)) (f : Report → Option Bool) : Option Int :=
  Option.bind (loopM (S := Int) (R := (Unit) ⊕ (Int)) (fun x1 => cond (decide (x1 < (s.length : Int))) (Option.bind (ixo s x1) fun y3 => Option.bind (f y3) fun z17 => cond z17 (some (.inr (.inr x1))) (Option.bind (chk .i64 (x1 + 1)) fun n23 => some (.inl n23))) (some (.inr (.inl ())))) 0) fun j24 => Sum.elim (fun _ => some (-1)) (fun r25 => some r25)  j24
theorem C_slices_IndexFunc_58 {M : List Nat} {w : World} (hM : MLt M w) {s : (List Report)} {v_s_0 : Value} (f_s_0 : RdS ReportE M w v_s_0 s) {v_f : Value} {f : Report → Option Bool} (f_f : ∀ (x0 : Report) (r : Bool) (w1 : World), Kp [] w w1 → InK .i64 x0.id → InK .i64 x0.source → InK .i64 x0.account → InK .i64 x0.made → InK .i64 x0.about → InK .u8 x0.kind → InK .i64 x0.cents → InK .i64 x0.of_ → f x0 = some r → CallsV Tryd.prog v_f [Value.agg (List.toArray (vR x0))] w1 fun e w2 => e = .returned (Value.bool r) ∧ Ext w1 w2) {r0 : Int} (h : P.slices_IndexFunc_58 s f = some r0) :
  Calls Tryd.prog 58 (List.toArray [v_s_0, v_f]) w fun e w' => e = .returned (vi r0) ∧ InK .i64 r0 ∧ Ext w w' := by
 have hI := Hp.start (Mu := []) hM
 refine calls_cw Tryd.func58 rfl Tryd.ntmps58 rfl ?_
 refine cw_seq (cw_regF (s_as rfl rfl (Reg.nil (cw_seq (cw_seq (cw_regF (s_mv rfl rfl (s_len rfl f_s_0 Tryd.underlying22 rfl (s_mv rfl rfl (Reg.nil ?_))))))))))
 obtain ⟨j1, h2, h⟩ := bnd h
 refine cw_keep [0, 1, 7, 8] rfl (cw_unitD 4 (ι := Unit) (fun _ => []) (fun _ => fun w3 => Hp w [] M [] w3 ∧ Adv (mm [] M) (mm [] M) w w3 ∧ (.inl ()) = j1) ?_ ?_)
 ·refine cw_block (cw_keep [8, 0, 1, 7] rfl ?_)
  refine cw_loopM 1 (ι := Int) _ (fun x6 => [(8, vi x6)]) (fun x6 => x6) (fun x6 => fun w8 => Hp w [] M [] w8 ∧ Adv (mm [] M) (mm [] M) w w8 ∧ InK .i64 x6) 0 h2 ⟨hI, (Adv.refl _ _), (by decide)⟩ (sb4 rfl rfl rfl rfl) ?_
  rintro x6 w8 ⟨hI9, hA10, r7⟩ y11 h12 hR13
  refine cw_seq (cw_regF (s_lss rfl rfl rfl (Reg.nil (cw_seq (cw_cond rfl (fun hc14 => ?_) (fun hc14 => ?_))))))
  ·replace h12 := cdT hc14 h12
   refine cw_skip (cw_seq (cw_block (cw_seq (cw_regF (s_mv rfl rfl (s_as rfl rfl (Reg.nil (cw_seq (cw_regF ?_)))))))))
   iterate 3 refine s_mv rfl rfl ?_
   obtain ⟨y15, hy15, h12⟩ := bnd h12
   refine p_ia rfl rfl (f_s_0.adv hI9.adv) hy15 Tryd.underlying22 Tryd.sizeOf61 rfl ?_
   intro b16 o17 cs18 hR19 hC20
   obtain ⟨rfl, r21, r22, r23, r24, r25, r26, r27, r28⟩ := ReportE_R.1 hR19
   refine s_lda rfl hC20.cells Tryd.isAgg61 rfl Tryd.sizeOf61 rfl ?_
   obtain ⟨z29, hz29, h12⟩ := bnd h12
   refine s_callV rfl rfl rfl ?_
   refine (f_f _ _ _ hI9.kp r21 r22 r23 r24 r25 r26 r27 r28 hz29).mono ?_
   rintro _ w30 ⟨rfl, e31⟩
   refine ⟨_, rfl, ?_⟩
   have hI33 := hI9.ext e31
   refine Reg.nil (cw_cond rfl (fun hc34 => ?_) (fun hc34 => ?_))
   ·replace h12 := cdT hc34 h12
    refine cw_seq (cw_regF (s_mv rfl rfl (s_as rfl rfl (Reg.nil (cw_ret ?_)))))
    obtain rfl := Option.some.inj h12
    obtain rfl := hR13 _ rfl
    replace h := elimR h
    obtain rfl := Option.some.inj h
    refine fin1 Tryd.results58 rfl ?_
    exact ⟨rfl, r7, hI33.kp⟩
   replace h12 := cdF hc34 h12
   refine cw_skip (cw_regF ?_)
   obtain ⟨n35, hn35, h12⟩ := bnd h12
   replace hn35 := chk_out hn35
   refine p_add rfl rfl rfl hn35 (s_mv rfl rfl (Reg.nil ?_))
   obtain rfl := Option.some.inj h12
   refine ⟨rfl, n35, ⟨⟨hI33, hI33.adv, hn35.2⟩, rfl⟩, sb4 rfl rfl rfl rfl⟩
  replace h12 := cdF hc14 h12
  refine cw_exit (exB_same ?_)
  obtain rfl := Option.some.inj h12
  obtain rfl := hR13 _ rfl
  refine ⟨rfl, (), ⟨hI9, hI9.adv, rfl⟩, Sub.nil _⟩
 rintro _ w3 ⟨hI4, hA5, rfl⟩
 replace h := elimL h
 refine cw_seq (cw_regF (s_as rfl rfl (Reg.nil (cw_ret ?_))))
 obtain rfl := Option.some.inj h
 refine fin1 Tryd.results58 rfl ?_
 exact ⟨rfl, (by decide), hI4.kp⟩
noncomputable def P.slices_ContainsFunc_48 (s : (List Report)) (f : Report → Option Bool) : Option Bool :=
  Option.bind (P.slices_IndexFunc_58 s f) fun z1 => some (decide (0 ≤ z1))
theorem C_slices_ContainsFunc_48 {M : List Nat} {w : World} (hM : MLt M w) {s : (List Report)} {v_s_0 : Value} (f_s_0 : RdS ReportE M w v_s_0 s) {v_f : Value} {f : Report → Option Bool} (f_f : ∀ (x0 : Report) (r : Bool) (w1 : World), Kp [] w w1 → InK .i64 x0.id → InK .i64 x0.source → InK .i64 x0.account → InK .i64 x0.made → InK .i64 x0.about → InK .u8 x0.kind → InK .i64 x0.cents → InK .i64 x0.of_ → f x0 = some r → CallsV Tryd.prog v_f [Value.agg (List.toArray (vR x0))] w1 fun e w2 => e = .returned (Value.bool r) ∧ Ext w1 w2) {r0 : Bool} (h : P.slices_ContainsFunc_48 s f = some r0) :
  Calls Tryd.prog 48 (List.toArray [v_s_0, v_f]) w fun e w' => e = .returned (Value.bool r0) ∧ Ext w w' := by
 have hI := Hp.start (Mu := []) hM
 refine calls_cw Tryd.func48 rfl Tryd.ntmps48 rfl ?_
 refine cw_seq (cw_regF (s_as rfl rfl (Reg.nil (cw_seq (cw_regF (s_mv rfl rfl (s_mv rfl rfl ?_)))))))
 obtain ⟨z1, hz2, h⟩ := bnd h
 refine s_call rfl Tryd.call58 rfl ((C_slices_IndexFunc_58 hI.mlt f_s_0 (fun a0 r w9 e9 f0 f1 f2 f3 f4 f5 f6 f7 hr => f_f a0 r w9 (hI.kp.trans (Ext.kp e9)) f0 f1 f2 f3 f4 f5 f6 f7 hr) hz2).mono ?_)
 rintro _ w3 ⟨rfl, r5, e4⟩
 refine ⟨_, rfl, ?_⟩
 have hI6 := hI.ext e4
 refine s_geq rfl rfl rfl (s_as rfl rfl (Reg.nil (cw_ret ?_)))
 obtain rfl := Option.some.inj h
 refine fin1 Tryd.results48 rfl ?_
 exact ⟨rfl, hI6.kp⟩
noncomputable def P.slices_IndexFunc_91 (s : (List Int)) (f : Int → Option Bool) : Option Int :=
  Option.bind (loopM (S := Int) (R := (Unit) ⊕ (Int)) (fun x1 => cond (decide (x1 < (s.length : Int))) (Option.bind (ixo s x1) fun y3 => Option.bind (f y3) fun z10 => cond z10 (some (.inr (.inr x1))) (Option.bind (chk .i64 (x1 + 1)) fun n16 => some (.inl n16))) (some (.inr (.inl ())))) 0) fun j17 => Sum.elim (fun _ => some (-1)) (fun r18 => some r18)  j17
theorem C_slices_IndexFunc_91 {M : List Nat} {w : World} (hM : MLt M w) {s : (List Int)} {v_s_0 : Value} (f_s_0 : RdS (intE .i64) M w v_s_0 s) {v_f : Value} {f : Int → Option Bool} (f_f : ∀ (x0 : Int) (r : Bool) (w1 : World), Kp [] w w1 → InK .i64 x0 → f x0 = some r → CallsV Tryd.prog v_f [vi x0] w1 fun e w2 => e = .returned (Value.bool r) ∧ Ext w1 w2) {r0 : Int} (h : P.slices_IndexFunc_91 s f = some r0) :
  Calls Tryd.prog 91 (List.toArray [v_s_0, v_f]) w fun e w' => e = .returned (vi r0) ∧ InK .i64 r0 ∧ Ext w w' := by
 have hI := Hp.start (Mu := []) hM
 refine calls_cw Tryd.func91 rfl Tryd.ntmps91 rfl ?_
 refine cw_seq (cw_regF (s_as rfl rfl (Reg.nil (cw_seq (cw_seq (cw_regF (s_mv rfl rfl (s_len rfl f_s_0 Tryd.underlying36 rfl (s_mv rfl rfl (Reg.nil ?_))))))))))
 obtain ⟨j1, h2, h⟩ := bnd h
 refine cw_keep [0, 1, 7, 8] rfl (cw_unitD 4 (ι := Unit) (fun _ => []) (fun _ => fun w3 => Hp w [] M [] w3 ∧ Adv (mm [] M) (mm [] M) w w3 ∧ (.inl ()) = j1) ?_ ?_)
 ·refine cw_block (cw_keep [8, 0, 1, 7] rfl ?_)
  refine cw_loopM 1 (ι := Int) _ (fun x6 => [(8, vi x6)]) (fun x6 => x6) (fun x6 => fun w8 => Hp w [] M [] w8 ∧ Adv (mm [] M) (mm [] M) w w8 ∧ InK .i64 x6) 0 h2 ⟨hI, (Adv.refl _ _), (by decide)⟩ (sb4 rfl rfl rfl rfl) ?_
  rintro x6 w8 ⟨hI9, hA10, r7⟩ y11 h12 hR13
  refine cw_seq (cw_regF (s_lss rfl rfl rfl (Reg.nil (cw_seq (cw_cond rfl (fun hc14 => ?_) (fun hc14 => ?_))))))
  ·replace h12 := cdT hc14 h12
   refine cw_skip (cw_seq (cw_block (cw_seq (cw_regF (s_mv rfl rfl (s_as rfl rfl (Reg.nil (cw_seq (cw_regF ?_)))))))))
   iterate 3 refine s_mv rfl rfl ?_
   obtain ⟨y15, hy15, h12⟩ := bnd h12
   refine p_ia rfl rfl (f_s_0.adv hI9.adv) hy15 Tryd.underlying36 Tryd.sizeOf3 rfl ?_
   intro b16 o17 cs18 hR19 hC20
   obtain ⟨rfl, r21⟩ := hR19
   refine s_ld rfl (hC20.cells.at 0 rfl) Tryd.isAgg3 rfl ?_
   obtain ⟨z22, hz22, h12⟩ := bnd h12
   refine s_callV rfl rfl rfl ?_
   refine (f_f _ _ _ hI9.kp r21 hz22).mono ?_
   rintro _ w23 ⟨rfl, e24⟩
   refine ⟨_, rfl, ?_⟩
   have hI26 := hI9.ext e24
   refine Reg.nil (cw_cond rfl (fun hc27 => ?_) (fun hc27 => ?_))
   ·replace h12 := cdT hc27 h12
    refine cw_seq (cw_regF (s_mv rfl rfl (s_as rfl rfl (Reg.nil (cw_ret ?_)))))
    obtain rfl := Option.some.inj h12
    obtain rfl := hR13 _ rfl
    replace h := elimR h
    obtain rfl := Option.some.inj h
    refine fin1 Tryd.results91 rfl ?_
    exact ⟨rfl, r7, hI26.kp⟩
   replace h12 := cdF hc27 h12
   refine cw_skip (cw_regF ?_)
   obtain ⟨n28, hn28, h12⟩ := bnd h12
   replace hn28 := chk_out hn28
   refine p_add rfl rfl rfl hn28 (s_mv rfl rfl (Reg.nil ?_))
   obtain rfl := Option.some.inj h12
   refine ⟨rfl, n28, ⟨⟨hI26, hI26.adv, hn28.2⟩, rfl⟩, sb4 rfl rfl rfl rfl⟩
  replace h12 := cdF hc14 h12
  refine cw_exit (exB_same ?_)
  obtain rfl := Option.some.inj h12
  obtain rfl := hR13 _ rfl
  refine ⟨rfl, (), ⟨hI9, hI9.adv, rfl⟩, Sub.nil _⟩
 rintro _ w3 ⟨hI4, hA5, rfl⟩
 replace h := elimL h
 refine cw_seq (cw_regF (s_as rfl rfl (Reg.nil (cw_ret ?_))))
 obtain rfl := Option.some.inj h
 refine fin1 Tryd.results91 rfl ?_
 exact ⟨rfl, (by decide), hI4.kp⟩
noncomputable def P.slices_ContainsFunc_67 (s : (List Int)) (f : Int → Option Bool) : Option Bool :=
  Option.bind (P.slices_IndexFunc_91 s f) fun z1 => some (decide (0 ≤ z1))
theorem C_slices_ContainsFunc_67 {M : List Nat} {w : World} (hM : MLt M w) {s : (List Int)} {v_s_0 : Value} (f_s_0 : RdS (intE .i64) M w v_s_0 s) {v_f : Value} {f : Int → Option Bool} (f_f : ∀ (x0 : Int) (r : Bool) (w1 : World), Kp [] w w1 → InK .i64 x0 → f x0 = some r → CallsV Tryd.prog v_f [vi x0] w1 fun e w2 => e = .returned (Value.bool r) ∧ Ext w1 w2) {r0 : Bool} (h : P.slices_ContainsFunc_67 s f = some r0) :
  Calls Tryd.prog 67 (List.toArray [v_s_0, v_f]) w fun e w' => e = .returned (Value.bool r0) ∧ Ext w w' := by
 have hI := Hp.start (Mu := []) hM
 refine calls_cw Tryd.func67 rfl Tryd.ntmps67 rfl ?_
 refine cw_seq (cw_regF (s_as rfl rfl (Reg.nil (cw_seq (cw_regF (s_mv rfl rfl (s_mv rfl rfl ?_)))))))
 obtain ⟨z1, hz2, h⟩ := bnd h
 refine s_call rfl Tryd.call91 rfl ((C_slices_IndexFunc_91 hI.mlt f_s_0 (fun a0 r w9 e9 f0 hr => f_f a0 r w9 (hI.kp.trans (Ext.kp e9)) f0 hr) hz2).mono ?_)
 rintro _ w3 ⟨rfl, r5, e4⟩
 refine ⟨_, rfl, ?_⟩
 have hI6 := hI.ext e4
 refine s_geq rfl rfl rfl (s_as rfl rfl (Reg.nil (cw_ret ?_)))
 obtain rfl := Option.some.inj h
 refine fin1 Tryd.results67 rfl ?_
 exact ⟨rfl, hI6.kp⟩
noncomputable def P.account_in_in1 (n : Int) (lo_c : Int) (hi_c : Int) : Option Bool :=
  Option.bind (cond (decide (n < lo_c)) (some true) (some (decide (hi_c < n)))) fun x2 => some x2
theorem C_account_in_in1 {M : List Nat} {w : World} (hM : MLt M w) {n : Int} (f_n_0 : InK .i64 n) {lo_c : Int} (f_lo_c_0 : InK .i64 lo_c) {b_lo_c : Nat} (c_lo_c : RdC M w b_lo_c 0 [vi lo_c]) {hi_c : Int} (f_hi_c_0 : InK .i64 hi_c) {b_hi_c : Nat} (c_hi_c : RdC M w b_hi_c 0 [vi hi_c]) {r0 : Bool} (h : P.account_in_in1 n lo_c hi_c = some r0) :
  Calls Tryd.prog 68 (List.toArray [vi n, vp b_lo_c 0, vp b_hi_c 0]) w fun e w' => e = .returned (Value.bool r0) ∧ Ext w w' := by
 have hI := Hp.start (Mu := []) hM
 refine calls_cw Tryd.func68 rfl Tryd.ntmps68 rfl ?_
 refine cw_seq (cw_regF (s_as rfl rfl (Reg.nil ?_)))
 obtain ⟨j1, h2, h⟩ := bnd h
 refine cw_keep [0, 1, 2] rfl (cw_seqD 3 (ι := Bool) (fun x3 => [(4, Value.bool x3)]) (fun x3 => fun w4 => w = w4 ∧ x3 = j1) ?_ ?_)
 ·refine cw_regF (s_mv rfl rfl (s_ld rfl (c_lo_c.cells.at 0 rfl) Tryd.isAgg3 rfl (s_lss rfl rfl rfl (s_mv rfl rfl (Reg.gsplit (t := 8) rfl (fun hg7 => ?_) (fun hg7 => ?_))))))
  ·replace h2 := cdT hg7 h2
   iterate 3 refine Reg.pass rfl rfl rfl rfl ?_
   refine s_pkT rfl rfl rfl (s_as rfl rfl (Reg.nil ?_))
   obtain rfl := Option.some.inj h2
   refine ⟨rfl, true, ⟨rfl, rfl⟩, sb1 rfl⟩
  replace h2 := cdF hg7 h2
  refine Reg.take rfl rfl (s_mv rfl rfl (Reg.take rfl rfl (s_ld rfl (c_hi_c.cells.at 0 rfl) Tryd.isAgg3 rfl (Reg.take rfl rfl (s_gtr rfl rfl rfl (s_pkF rfl rfl rfl (s_as rfl rfl (Reg.nil ?_))))))))
  obtain rfl := Option.some.inj h2
  refine ⟨rfl, decide (hi_c < n), ⟨rfl, rfl⟩, sb1 rfl⟩
 rintro x3 _ ⟨rfl, rfl⟩
 refine cw_ret ?_
 obtain rfl := Option.some.inj h
 refine fin1 Tryd.results68 rfl ?_
 exact ⟨rfl, hI.kp⟩
noncomputable def P.account_in (lo : Int) (hi : Int) (all : (List Int)) : Option Bool :=
  Option.bind (P.slices_ContainsFunc_67 all (fun x0_ => P.account_in_in1 x0_ lo hi)) fun z13 => some (!z13)
theorem C_account_in {M : List Nat} {w : World} (hM : MLt M w) {lo : Int} (f_lo_0 : InK .i64 lo) {hi : Int} (f_hi_0 : InK .i64 hi) {all : (List Int)} {v_all_0 : Value} (f_all_0 : RdS (intE .i64) M w v_all_0 all) {r0 : Bool} (h : P.account_in lo hi all = some r0) :
  Calls Tryd.prog 35 (List.toArray [vi lo, vi hi, v_all_0]) w fun e w' => e = .returned (Value.bool r0) ∧ Ext w w' := by
 have hI := Hp.start (Mu := []) hM
 refine calls_cw Tryd.func35 rfl Tryd.ntmps35 rfl ?_
 refine cw_seq (cw_regF (y_box hI rfl rfl rfl ?_))
 intro b1 w2 hI3 x4
 have hC6 := hI3.freezeRow 0 rfl
 have hI5 := hI3.erase 0
 refine y_box hI5 rfl rfl rfl ?_
 intro b7 w8 hI9 x10
 have hC12 := hI9.freezeRow 0 rfl
 have hI11 := hI9.erase 0
 refine s_as rfl rfl (Reg.nil (cw_seq (cw_regF (s_mv rfl rfl (s_mf rfl rfl ?_)))))
 obtain ⟨z13, hz14, h⟩ := bnd h
 refine s_call rfl Tryd.call67 rfl ((C_slices_ContainsFunc_67 hI11.mlt (f_all_0.adv hI11.adv) (fun a0 r w9 e9 f0 hr => CallsV.ofL Tryd.call68 rfl (C_account_in_in1 (hI11.mlt.ext e9) f0 f_lo_0 ((hC6.adv (x10.trans (hI9.eraseH 0))).adv (Adv.of_ext e9)) f_hi_0 (hC12.adv (Adv.of_ext e9)) hr)) hz14).mono ?_)
 rintro _ w15 ⟨rfl, e16⟩
 refine ⟨_, rfl, ?_⟩
 have hI17 := hI11.ext e16
 refine s_not rfl rfl (s_as rfl rfl (Reg.nil (cw_ret ?_)))
 obtain rfl := Option.some.inj h
 refine fin1 Tryd.results35 rfl ?_
 exact ⟨rfl, hI17.kp⟩
noncomputable def P.account_fact (r : Report) : Option Bool :=
  some (decide (r.kind ≤ 7))
theorem C_account_fact {M : List Nat} {w : World} (hM : MLt M w) {r : Report} (f_r_0 : InK .i64 r.id) (f_r_1 : InK .i64 r.source) (f_r_2 : InK .i64 r.account) (f_r_3 : InK .i64 r.made) (f_r_4 : InK .i64 r.about) (f_r_5 : InK .u8 r.kind) (f_r_6 : InK .i64 r.cents) (f_r_7 : InK .i64 r.of_) {r0 : Bool} (h : P.account_fact r = some r0) :
  Calls Tryd.prog 43 (List.toArray [Value.agg (List.toArray (vR r))]) w fun e w' => e = .returned (Value.bool r0) ∧ Ext w w' := by
 have hI := Hp.start (Mu := []) hM
 refine calls_cw Tryd.func43 rfl Tryd.ntmps43 rfl ?_
 refine cw_seq (cw_regF (y_box hI rfl rfl rfl ?_))
 intro b1 w2 hI3 x4
 have hC6 := hI3.freezeRow 0 rfl
 have hI5 := hI3.erase 0
 refine s_as rfl rfl (Reg.nil (cw_seq (cw_regF (s_fa rfl Tryd.underlying61 rfl Tryd.sizeOf5 rfl (s_ld rfl (hC6.cells.at 5 rfl) Tryd.isAgg5 rfl (s_leq rfl rfl rfl (s_as rfl rfl (Reg.nil (cw_ret ?_)))))))))
 obtain rfl := Option.some.inj h
 refine fin1 Tryd.results43 rfl ?_
 exact ⟨rfl, hI5.kp⟩
noncomputable def P.account_right (r : Report) : Option Bool :=
  Option.bind (Option.bind (chk .i64 r.kind) fun n7 => Option.bind (P.account_in 1 9 ([n7] : List Int)) fun z17 => cond (!z17) (some true) (Option.bind (P.account_in 0 999999 ([r.id, r.source, r.account, r.of_] : List Int)) fun z36 => cond (!z36) (some true) (Option.bind (P.account_in 0 100000 ([r.made, r.about] : List Int)) fun z55 => cond (!z55) (some true) (Option.bind (ixo glob0 r.kind) fun y65 => Option.bind (P.account_in 0 y65 ([r.cents] : List Int)) fun z76 => some (!z76))))) fun x85 => cond x85 (some false) (Option.bind (P.account_fact (Report.mk r.id r.source r.account r.made r.about r.kind r.cents r.of_)) fun z87 => cond z87 (some (decide (r.of_ = 0))) (Option.bind (cond (decide (r.kind = 9)) (some (!decide (r.about = 0))) (some false)) fun x94 => cond x94 (some false) (some (!decide (r.of_ = r.id)))))
theorem C_account_right {M : List Nat} {w : World} (hM : MLt M w) (hG : RdC M w 0 0 (glob0.map (Value.int .i64))) {r : Report} (f_r_0 : InK .i64 r.id) (f_r_1 : InK .i64 r.source) (f_r_2 : InK .i64 r.account) (f_r_3 : InK .i64 r.made) (f_r_4 : InK .i64 r.about) (f_r_5 : InK .u8 r.kind) (f_r_6 : InK .i64 r.cents) (f_r_7 : InK .i64 r.of_) {r0 : Bool} (h : P.account_right r = some r0) :
  Calls Tryd.prog 50 (List.toArray [Value.agg (List.toArray (vR r))]) w fun e w' => e = .returned (Value.bool r0) ∧ Ext w w' := by
 have hI := Hp.start (Mu := []) hM
 refine calls_cw Tryd.func50 rfl Tryd.ntmps50 rfl ?_
 refine cw_seq (cw_regF (y_box hI rfl rfl rfl ?_))
 intro b1 w2 hI3 x4
 have hC6 := hI3.freezeRow 0 rfl
 have hI5 := hI3.erase 0
 refine s_as rfl rfl (Reg.nil (cw_seq ?_))
 obtain ⟨j7, h8, h⟩ := bnd h
 refine cw_keep [1] rfl (cw_seqD 0 (ι := Bool) (fun x9 => [(41, Value.bool x9)]) (fun x9 => fun w10 => Hp w [] M [] w10 ∧ Adv (mm [] M) (mm [] M) w2 w10 ∧ x9 = j7) ?_ ?_)
 ·refine cw_regD [0, 1, 2, 3, 4, 5, 6, 7, 8, 9, 10, 11, 12, 13, 14, 15, 16, 17, 18, 19, 20, 21, 22, 23, 24, 25, 26, 27, 28, 29, 30, 31, 32, 33, 34, 35, 36, 37, 38] [] fol (by kernel_rfl) rfl rfl ?_
  refine s_fa rfl Tryd.underlying61 rfl Tryd.sizeOf5 rfl (s_ld rfl (hC6.cells.at 5 rfl) Tryd.isAgg5 rfl ?_)
  obtain ⟨n13, hn13, h8⟩ := bnd h8
  replace hn13 := chk_out hn13
  refine p_cvt rfl Tryd.underlying5 Tryd.underlying3 rfl hn13 ?_
  refine Reg.rel (.p fun v w' => RdS (intE .i64) (mm [] M) w' v ([n13] : List Int)) [] rfl rfl rfl RSub.nil rfl (nodupB_spec rfl) ?_ (fun v w1 w2 e h => h.adv (Adv.of_ext e)) ?_
  ·intro w14 e15; simp only [relOut]; refine s_bs (E := (intE .i64)) (M := mm [] M) (Bb := 0) (xs := ([n13] : List Int)) sl36 rfl rfl (Cls.cons rfl Cls.nil) (Chs.cons ⟨rfl, hn13.2⟩ Chs.nil) (hI5.mlt.ext e15) (Nat.zero_le _) rfl rfl ?_; intro a16 w17 x18 _ h19 _; exact Reg.nil ⟨rfl, x18, _, rfl, h19, trivial⟩
  obtain ⟨z23, hz23, h8⟩ := bnd h8
  refine Reg.relC (.bool z23) [(6, _)] rfl rfl (RSub.cons rfl rfl RSub.nil) rfl (nodupB_spec rfl) ?_ ?_
  ·intro w24 e25; simp only [relOut]; intro u20 k21 s22; refine s_call rfl Tryd.call35 rfl ?_; refine (C_account_in (hI5.mlt.ext e25) (by decide) (by decide) k21 hz23).mono ?_; rintro _ w26 ⟨rfl, x27⟩; refine ⟨_, rfl, ?_⟩; exact Reg.nil ⟨rfl, x27, _, rfl, rfl, trivial⟩
  refine s_not rfl rfl (s_mv rfl rfl (Reg.gsplit (t := 9) rfl (fun hg29 => ?_) (fun hg29 => ?_)))
  ·replace h8 := cdT hg29 h8
   iterate 11 refine Reg.pass rfl rfl rfl rfl ?_
   refine s_pkT rfl rfl rfl (s_mv rfl rfl ?_)
   iterate 7 refine Reg.pass rfl rfl rfl rfl ?_
   refine s_pkT rfl rfl rfl (s_mv rfl rfl ?_)
   iterate 9 refine Reg.pass rfl rfl rfl rfl ?_
   refine s_pkT rfl rfl rfl (Reg.nilF [] RSub.nil (nodupB_spec rfl) ?_)
   intro w30 e31
   refine Reg.nil ?_
   have hI32 := hI5.ext e31
   obtain rfl := Option.some.inj h8
   refine ⟨rfl, true, ⟨hI32, (Adv.of_ext e31), rfl⟩, sb2 rfl rfl⟩
  replace h8 := cdF hg29 h8
  refine Reg.take rfl rfl (s_fa rfl Tryd.underlying61 rfl Tryd.sizeOf3 rfl (Reg.take rfl rfl (s_ld rfl (hC6.cells.at 0 rfl) Tryd.isAgg3 rfl (Reg.take rfl rfl (s_fa rfl Tryd.underlying61 rfl Tryd.sizeOf3 rfl (Reg.take rfl rfl (s_ld rfl (hC6.cells.at 1 rfl) Tryd.isAgg3 rfl (Reg.take rfl rfl (s_fa rfl Tryd.underlying61 rfl Tryd.sizeOf3 rfl (Reg.take rfl rfl (s_ld rfl (hC6.cells.at 2 rfl) Tryd.isAgg3 rfl ?_)))))))))))
  refine Reg.take rfl rfl (s_fa rfl Tryd.underlying61 rfl Tryd.sizeOf3 rfl (Reg.take rfl rfl (s_ld rfl (hC6.cells.at 7 rfl) Tryd.isAgg3 rfl (Reg.take rfl rfl (Reg.rel (.p fun v w' => RdS (intE .i64) (mm [] M) w' v ([r.id, r.source, r.account, r.of_] : List Int)) [] rfl rfl rfl RSub.nil rfl (nodupB_spec rfl) ?_ (fun v w1 w2 e h => h.adv (Adv.of_ext e)) ?_)))))
  ·intro w33 e34; simp only [relOut]; refine s_bs (E := (intE .i64)) (M := mm [] M) (Bb := 0) (xs := ([r.id, r.source, r.account, r.of_] : List Int)) sl36 rfl rfl (Cls.cons rfl (Cls.cons rfl (Cls.cons rfl (Cls.cons rfl Cls.nil)))) (Chs.cons ⟨rfl, f_r_0⟩ (Chs.cons ⟨rfl, f_r_1⟩ (Chs.cons ⟨rfl, f_r_2⟩ (Chs.cons ⟨rfl, f_r_7⟩ Chs.nil)))) (hI5.mlt.ext e34) (Nat.zero_le _) rfl rfl ?_; intro a35 w36 x37 _ h38 _; exact Reg.nil ⟨rfl, x37, _, rfl, h38, trivial⟩
  refine Reg.take rfl rfl ?_
  obtain ⟨z42, hz42, h8⟩ := bnd h8
  refine Reg.relC (.bool z42) [(18, _)] rfl rfl (RSub.cons rfl rfl RSub.nil) rfl (nodupB_spec rfl) ?_ ?_
  ·intro w43 e44; simp only [relOut]; intro u39 k40 s41; refine s_call rfl Tryd.call35 rfl ?_; refine (C_account_in (hI5.mlt.ext e44) (by decide) (by decide) k40 hz42).mono ?_; rintro _ w45 ⟨rfl, x46⟩; refine ⟨_, rfl, ?_⟩; exact Reg.nil ⟨rfl, x46, _, rfl, rfl, trivial⟩
  refine Reg.take rfl rfl (s_not rfl rfl (s_pkF rfl rfl rfl (s_mv rfl rfl (Reg.gsplit (t := 22) rfl (fun hg48 => ?_) (fun hg48 => ?_)))))
  ·replace h8 := cdT hg48 h8
   iterate 7 refine Reg.pass rfl rfl rfl rfl ?_
   refine s_pkT rfl rfl rfl (s_mv rfl rfl ?_)
   iterate 9 refine Reg.pass rfl rfl rfl rfl ?_
   refine s_pkT rfl rfl rfl (Reg.nilF [] RSub.nil (nodupB_spec rfl) ?_)
   intro w49 e50
   refine Reg.nil ?_
   have hI51 := hI5.ext e50
   obtain rfl := Option.some.inj h8
   refine ⟨rfl, true, ⟨hI51, (Adv.of_ext e50), rfl⟩, sb2 rfl rfl⟩
  replace h8 := cdF hg48 h8
  refine Reg.take rfl rfl (s_fa rfl Tryd.underlying61 rfl Tryd.sizeOf3 rfl (Reg.take rfl rfl (s_ld rfl (hC6.cells.at 3 rfl) Tryd.isAgg3 rfl (Reg.take rfl rfl (s_fa rfl Tryd.underlying61 rfl Tryd.sizeOf3 rfl (Reg.take rfl rfl (s_ld rfl (hC6.cells.at 4 rfl) Tryd.isAgg3 rfl (Reg.take rfl rfl (Reg.rel (.p fun v w' => RdS (intE .i64) (mm [] M) w' v ([r.made, r.about] : List Int)) [] rfl rfl rfl RSub.nil rfl (nodupB_spec rfl) ?_ (fun v w1 w2 e h => h.adv (Adv.of_ext e)) ?_)))))))))
  ·intro w52 e53; simp only [relOut]; refine s_bs (E := (intE .i64)) (M := mm [] M) (Bb := 0) (xs := ([r.made, r.about] : List Int)) sl36 rfl rfl (Cls.cons rfl (Cls.cons rfl Cls.nil)) (Chs.cons ⟨rfl, f_r_3⟩ (Chs.cons ⟨rfl, f_r_4⟩ Chs.nil)) (hI5.mlt.ext e53) (Nat.zero_le _) rfl rfl ?_; intro a54 w55 x56 _ h57 _; exact Reg.nil ⟨rfl, x56, _, rfl, h57, trivial⟩
  refine Reg.take rfl rfl ?_
  obtain ⟨z61, hz61, h8⟩ := bnd h8
  refine Reg.relC (.bool z61) [(27, _)] rfl rfl (RSub.cons rfl rfl RSub.nil) rfl (nodupB_spec rfl) ?_ ?_
  ·intro w62 e63; simp only [relOut]; intro u58 k59 s60; refine s_call rfl Tryd.call35 rfl ?_; refine (C_account_in (hI5.mlt.ext e63) (by decide) (by decide) k59 hz61).mono ?_; rintro _ w64 ⟨rfl, x65⟩; refine ⟨_, rfl, ?_⟩; exact Reg.nil ⟨rfl, x65, _, rfl, rfl, trivial⟩
  refine Reg.take rfl rfl (s_not rfl rfl (s_pkF rfl rfl rfl (s_mv rfl rfl (Reg.gsplit (t := 31) rfl (fun hg67 => ?_) (fun hg67 => ?_)))))
  ·replace h8 := cdT hg67 h8
   iterate 9 refine Reg.pass rfl rfl rfl rfl ?_
   refine s_pkT rfl rfl rfl (Reg.nilF [] RSub.nil (nodupB_spec rfl) ?_)
   intro w68 e69
   refine Reg.nil ?_
   have hI70 := hI5.ext e69
   obtain rfl := Option.some.inj h8
   refine ⟨rfl, true, ⟨hI70, (Adv.of_ext e69), rfl⟩, sb2 rfl rfl⟩
  replace h8 := cdF hg67 h8
  refine Reg.take rfl rfl (s_fa rfl Tryd.underlying61 rfl Tryd.sizeOf5 rfl (Reg.take rfl rfl (s_ld rfl (hC6.cells.at 5 rfl) Tryd.isAgg5 rfl (Reg.take rfl rfl ?_))))
  obtain ⟨y71, hy71, h8⟩ := bnd h8
  refine s_iaG (k2 := .i64) (hG.adv hI5.adv) rfl rfl hy71 Tryd.underlying131 rfl Tryd.sizeOf3 rfl ?_
  intro hC72
  refine Reg.take rfl rfl (s_ld rfl (hC72.cells.at 0 rfl) Tryd.isAgg3 rfl (Reg.take rfl rfl (s_fa rfl Tryd.underlying61 rfl Tryd.sizeOf3 rfl (Reg.take rfl rfl (s_ld rfl (hC6.cells.at 6 rfl) Tryd.isAgg3 rfl (Reg.take rfl rfl (Reg.rel (.p fun v w' => RdS (intE .i64) (mm [] M) w' v ([r.cents] : List Int)) [] rfl rfl rfl RSub.nil rfl (nodupB_spec rfl) ?_ (fun v w1 w2 e h => h.adv (Adv.of_ext e)) ?_)))))))
  ·intro w73 e74; simp only [relOut]; refine s_bs (E := (intE .i64)) (M := mm [] M) (Bb := 0) (xs := ([r.cents] : List Int)) sl36 rfl rfl (Cls.cons rfl Cls.nil) (Chs.cons ⟨rfl, f_r_6⟩ Chs.nil) (hI5.mlt.ext e74) (Nat.zero_le _) rfl rfl ?_; intro a75 w76 x77 _ h78 _; exact Reg.nil ⟨rfl, x77, _, rfl, h78, trivial⟩
  refine Reg.take rfl rfl ?_
  obtain ⟨z82, hz82, h8⟩ := bnd h8
  refine Reg.relC (.bool z82) [(38, _)] rfl rfl (RSub.cons rfl rfl RSub.nil) rfl (nodupB_spec rfl) ?_ ?_
  ·intro w83 e84; simp only [relOut]; intro u79 k80 s81; refine s_call rfl Tryd.call35 rfl ?_; refine (C_account_in (hI5.mlt.ext e84) (by decide) (glob0_in hy71) k80 hz82).mono ?_; rintro _ w85 ⟨rfl, x86⟩; refine ⟨_, rfl, ?_⟩; exact Reg.nil ⟨rfl, x86, _, rfl, rfl, trivial⟩
  refine Reg.take rfl rfl (s_not rfl rfl (s_pkF rfl rfl rfl (Reg.nilF [] RSub.nil (nodupB_spec rfl) ?_)))
  intro w88 e89
  refine Reg.nil ?_
  have hI90 := hI5.ext e89
  obtain rfl := Option.some.inj h8
  refine ⟨rfl, !z82, ⟨hI90, (Adv.of_ext e89), rfl⟩, sb2 rfl rfl⟩
 rintro x9 w10 ⟨hI11, hA12, rfl⟩
 refine cw_cond rfl (fun hc91 => ?_) (fun hc91 => ?_)
 ·replace h := cdT hc91 h
  refine cw_seq (cw_regF (s_as rfl rfl (Reg.nil (cw_ret ?_))))
  obtain rfl := Option.some.inj h
  refine fin1 Tryd.results50 rfl ?_
  exact ⟨rfl, hI11.kp⟩
 replace h := cdF hc91 h
 refine cw_skip (cw_seq (cw_block (cw_seq (cw_regF (s_lda rfl (hC6.adv hA12).cells Tryd.isAgg61 rfl Tryd.sizeOf61 rfl ?_)))))
 obtain ⟨z92, hz93, h⟩ := bnd h
 refine s_call rfl Tryd.call43 rfl ((C_account_fact (r := (Report.mk r.id r.source r.account r.made r.about r.kind r.cents r.of_)) hI11.mlt f_r_0 f_r_1 f_r_2 f_r_3 f_r_4 f_r_5 f_r_6 f_r_7 hz93).mono ?_)
 rintro _ w94 ⟨rfl, e95⟩
 refine ⟨_, rfl, ?_⟩
 have hI96 := hI11.ext e95
 refine s_as rfl rfl (Reg.nil (cw_cond rfl (fun hc97 => ?_) (fun hc97 => ?_)))
 ·replace h := cdT hc97 h
  refine cw_seq (cw_regF (s_fa rfl Tryd.underlying61 rfl Tryd.sizeOf3 rfl (s_ld rfl ((hC6.adv (hA12.trans (Adv.of_ext e95))).cells.at 7 rfl) Tryd.isAgg3 rfl (s_eql rfl rfl rfl (s_as rfl rfl (Reg.nil (cw_ret ?_)))))))
  obtain rfl := Option.some.inj h
  refine fin1 Tryd.results50 rfl ?_
  exact ⟨rfl, hI96.kp⟩
 replace h := cdF hc97 h
 obtain ⟨j98, h99, h⟩ := bnd h
 refine cw_keep [1] rfl (cw_seqD 0 (ι := Bool) (fun x100 => [(48, Value.bool x100)]) (fun x100 => fun w101 => w94 = w101 ∧ x100 = j98) ?_ ?_)
 ·refine cw_regF (s_fa rfl Tryd.underlying61 rfl Tryd.sizeOf5 rfl (s_ld rfl ((hC6.adv (hA12.trans (Adv.of_ext e95))).cells.at 5 rfl) Tryd.isAgg5 rfl (s_eql rfl rfl rfl (s_mv rfl rfl (Reg.gsplit (t := 52) rfl (fun hg104 => ?_) (fun hg104 => ?_))))))
  ·replace h99 := cdT hg104 h99
   refine Reg.take rfl rfl (s_fa rfl Tryd.underlying61 rfl Tryd.sizeOf3 rfl (Reg.take rfl rfl (s_ld rfl ((hC6.adv (hA12.trans (Adv.of_ext e95))).cells.at 4 rfl) Tryd.isAgg3 rfl (Reg.take rfl rfl (s_neq rfl rfl rfl (s_pkT rfl rfl rfl (s_as rfl rfl (Reg.nil ?_))))))))
   obtain rfl := Option.some.inj h99
   refine ⟨rfl, !decide (r.about = 0), ⟨rfl, rfl⟩, sb2 rfl rfl⟩
  replace h99 := cdF hg104 h99
  iterate 3 refine Reg.pass rfl rfl rfl rfl ?_
  refine s_pkF rfl rfl rfl (s_as rfl rfl (Reg.nil ?_))
  obtain rfl := Option.some.inj h99
  refine ⟨rfl, false, ⟨rfl, rfl⟩, sb2 rfl rfl⟩
 rintro x100 _ ⟨rfl, rfl⟩
 refine cw_cond rfl (fun hc105 => ?_) (fun hc105 => ?_)
 ·replace h := cdT hc105 h
  refine cw_seq (cw_regF (s_as rfl rfl (Reg.nil (cw_ret ?_))))
  obtain rfl := Option.some.inj h
  refine fin1 Tryd.results50 rfl ?_
  exact ⟨rfl, hI96.kp⟩
 replace h := cdF hc105 h
 refine cw_skip (cw_seq (cw_regF (s_fa rfl Tryd.underlying61 rfl Tryd.sizeOf3 rfl (s_ld rfl ((hC6.adv (hA12.trans (Adv.of_ext e95))).cells.at 7 rfl) Tryd.isAgg3 rfl (s_fa rfl Tryd.underlying61 rfl Tryd.sizeOf3 rfl (s_ld rfl ((hC6.adv (hA12.trans (Adv.of_ext e95))).cells.at 0 rfl) Tryd.isAgg3 rfl (s_neq rfl rfl rfl (s_as rfl rfl (Reg.nil (cw_ret ?_))))))))))
 obtain rfl := Option.some.inj h
 refine fin1 Tryd.results50 rfl ?_
 exact ⟨rfl, hI96.kp⟩
noncomputable def P.account_Check_in1 (r : Report) : Option Bool :=
  Option.bind (P.account_right (Report.mk r.id r.source r.account r.made r.about r.kind r.cents r.of_)) fun z7 => some (!z7)
theorem C_account_Check_in1 {M : List Nat} {w : World} (hM : MLt M w) (hG : RdC M w 0 0 (glob0.map (Value.int .i64))) {r : Report} (f_r_0 : InK .i64 r.id) (f_r_1 : InK .i64 r.source) (f_r_2 : InK .i64 r.account) (f_r_3 : InK .i64 r.made) (f_r_4 : InK .i64 r.about) (f_r_5 : InK .u8 r.kind) (f_r_6 : InK .i64 r.cents) (f_r_7 : InK .i64 r.of_) {r0 : Bool} (h : P.account_Check_in1 r = some r0) :
  Calls Tryd.prog 49 (List.toArray [Value.agg (List.toArray (vR r))]) w fun e w' => e = .returned (Value.bool r0) ∧ Ext w w' := by
 have hI := Hp.start (Mu := []) hM
 refine calls_cw Tryd.func49 rfl Tryd.ntmps49 rfl ?_
 refine cw_seq (cw_regF (y_box hI rfl rfl rfl ?_))
 intro b1 w2 hI3 x4
 have hC6 := hI3.freezeRow 0 rfl
 have hI5 := hI3.erase 0
 refine s_as rfl rfl (Reg.nil (cw_seq (cw_regF (s_lda rfl hC6.cells Tryd.isAgg61 rfl Tryd.sizeOf61 rfl ?_))))
 obtain ⟨z7, hz8, h⟩ := bnd h
 refine s_call rfl Tryd.call50 rfl ((C_account_right (r := (Report.mk r.id r.source r.account r.made r.about r.kind r.cents r.of_)) hI5.mlt (hG.adv hI5.adv) f_r_0 f_r_1 f_r_2 f_r_3 f_r_4 f_r_5 f_r_6 f_r_7 hz8).mono ?_)
 rintro _ w9 ⟨rfl, e10⟩
 refine ⟨_, rfl, ?_⟩
 have hI11 := hI5.ext e10
 refine s_not rfl rfl (s_as rfl rfl (Reg.nil (cw_ret ?_)))
 obtain rfl := Option.some.inj h
 refine fin1 Tryd.results49 rfl ?_
 exact ⟨rfl, hI11.kp⟩
noncomputable def P.account_Check (l : (List Report)) : Option Int :=
  cond (decide (60 < (l.length : Int))) (some 4) (Option.bind (P.slices_ContainsFunc_48 l (fun x0_ => P.account_Check_in1 x0_)) fun z2 => cond z2 (some 30) (Option.bind (loopM (S := Int × (FMap Int Report)) (R := ((FMap Int Report)) ⊕ (Int)) (fun (x12, x13) => cond (decide (x12 < (l.length : Int))) (Option.bind (ixo l x12) fun y15 => Option.bind (some ((x13 y15.id).getD (Report.mk 0 0 0 0 0 0 0 0))) fun y38 => Option.bind (cond ((x13 y15.id).isSome) (some (!decide ((Report.mk y38.id y38.source y38.account y38.made y38.about y38.kind y38.cents y38.of_) = (Report.mk y15.id y15.source y15.account y15.made y15.about y15.kind y15.cents y15.of_)))) (some false)) fun x61 => cond x61 (some (.inr (.inr 31))) (Option.bind (chk .i64 (x12 + 1)) fun n66 => some (.inl (n66, (fput x13 y15.id (Report.mk y15.id y15.source y15.account y15.made y15.about y15.kind y15.cents y15.of_)))))) (some (.inr (.inl x13)))) (0, fnone)) fun j67 => Sum.elim (fun x68 => some 0) (fun r69 => some r69)  j67))
theorem C_account_Check {M : List Nat} {w : World} (hM : MLt M w) (hG : RdC M w 0 0 (glob0.map (Value.int .i64))) {l : (List Report)} {v_l_0 : Value} (f_l_0 : RdS ReportE M w v_l_0 l) {r0 : Int} (h : P.account_Check l = some r0) :
  Calls Tryd.prog 17 (List.toArray [v_l_0]) w fun e w' => e = .returned (vi r0) ∧ InK .i64 r0 ∧ Ext w w' := by
 have hI := Hp.start (Mu := []) hM
 refine calls_cw Tryd.func17 rfl Tryd.ntmps17 rfl ?_
 refine cw_seq (cw_regF (s_as rfl rfl (Reg.nil (cw_seq (cw_seq (cw_regF (s_mv rfl rfl (s_len rfl f_l_0 Tryd.underlying22 rfl (s_gtr rfl rfl rfl (Reg.nil (cw_cond rfl (fun hc1 => ?_) (fun hc1 => ?_))))))))))))
 ·replace h := cdT hc1 h
  refine cw_seq (cw_regF (s_as rfl rfl (Reg.nil (cw_ret ?_))))
  obtain rfl := Option.some.inj h
  refine fin1 Tryd.results17 rfl ?_
  exact ⟨rfl, (by decide), hI.kp⟩
 replace h := cdF hc1 h
 refine cw_skip (cw_seq (cw_seq (cw_regF (s_mv rfl rfl ?_))))
 obtain ⟨z2, hz3, h⟩ := bnd h
 refine s_call rfl Tryd.call48 rfl ((C_slices_ContainsFunc_48 hI.mlt f_l_0 (fun a0 r w9 e9 f0 f1 f2 f3 f4 f5 f6 f7 hr => CallsV.ofL Tryd.call49 rfl (C_account_Check_in1 (hI.mlt.ext e9) (hG.adv (Adv.of_ext e9)) f0 f1 f2 f3 f4 f5 f6 f7 hr)) hz3).mono ?_)
 rintro _ w4 ⟨rfl, e5⟩
 refine ⟨_, rfl, ?_⟩
 have hI6 := hI.ext e5
 refine Reg.nil (cw_cond rfl (fun hc7 => ?_) (fun hc7 => ?_))
 ·replace h := cdT hc7 h
  refine cw_seq (cw_regF (s_as rfl rfl (Reg.nil (cw_ret ?_))))
  obtain rfl := Option.some.inj h
  refine fin1 Tryd.results17 rfl ?_
  exact ⟨rfl, (by decide), hI6.kp⟩
 replace h := cdF hc7 h
 refine cw_skip (cw_seq (cw_regF (y_mkF Ky3 ReportE true hI6 rfl ?_)))
 intro b8 w9 hI10 x11
 refine s_as rfl rfl (Reg.nil (cw_seq (cw_seq (cw_regF (s_mv rfl rfl (s_len rfl (f_l_0.adv hI10.adv) Tryd.underlying22 rfl (s_mv rfl rfl (Reg.nil ?_))))))))
 obtain ⟨j12, h13, h⟩ := bnd h
 refine cw_keep [3, 14, 15, 16] rfl (cw_unitD 4 (ι := (FMap Int Report)) (fun x14 => []) (fun x14 => fun w15 => Hp w [] M [mapO Ky3 ReportE true b8 x14] w15 ∧ Adv (mm [mapO Ky3 ReportE true b8 fnone] M) (mm [mapO Ky3 ReportE true b8 x14] M) w9 w15 ∧ (.inl x14) = j12) ?_ ?_)
 ·refine cw_block (cw_keep [16, 3, 14, 15] rfl ?_)
  refine cw_loopM 1 (ι := Int × (FMap Int Report)) _ (fun ⟨x18, x20⟩ => [(16, vi x18)]) (fun ⟨x18, x20⟩ => (x18, x20)) (fun ⟨x18, x20⟩ => fun w21 => Hp w [] M [mapO Ky3 ReportE true b8 x20] w21 ∧ Adv (mm [mapO Ky3 ReportE true b8 fnone] M) (mm [mapO Ky3 ReportE true b8 x20] M) w9 w21 ∧ InK .i64 x18) (0, fnone) h13 ⟨hI10, (Adv.refl _ _), (by decide)⟩ (sb4 rfl rfl rfl rfl) ?_
  rintro ⟨x18, x20⟩ w21 ⟨hI22, hA23, r19⟩ y24 h25 hR26
  refine cw_seq (cw_regF (s_lss rfl rfl rfl (Reg.nil (cw_seq (cw_cond rfl (fun hc27 => ?_) (fun hc27 => ?_))))))
  ·replace h25 := cdT hc27 h25
   refine cw_skip (cw_seq (cw_block (cw_seq (cw_regF ?_))))
   obtain ⟨y28, hy28, h25⟩ := bnd h25
   refine p_ia rfl rfl (f_l_0.adv hI22.adv) hy28 Tryd.underlying22 Tryd.sizeOf61 rfl ?_
   intro b29 o30 cs31 hR32 hC33
   obtain ⟨rfl, r34, r35, r36, r37, r38, r39, r40, r41⟩ := ReportE_R.1 hR32
   refine s_lda rfl hC33.cells Tryd.isAgg61 rfl Tryd.sizeOf61 rfl (y_al hI22 Tryd.zeroValue61 rfl rfl ?_)
   intro b42 w43 hI44 x45
   refine y_st 0 hI44 rfl rfl rfl rfl Tryd.sizeOf61 rfl rfl (on8 rfl rfl rfl rfl rfl rfl rfl rfl) ?_
   intro w46 hI47 x48
   have hC50 := hI47.freezeRow 0 rfl
   have hI49 := hI47.erase 0
   refine Reg.nil (cw_seq (cw_seq (cw_regF (s_mv rfl rfl (s_fa rfl Tryd.underlying61 rfl Tryd.sizeOf3 rfl (s_ld rfl (hC50.cells.at 0 rfl) Tryd.isAgg3 rfl ?_))))))
   obtain ⟨y51, hy51, h25⟩ := bnd h25
   refine y_lkF 0 (a := y28.id) (z0 := (Report.mk 0 0 0 0 0 0 0 0)) hI49 rfl rfl rfl (show InK .i64 y28.id from r34) Tryd.underlying88 Tryd.zeroValue61 ⟨_, ((ReportE_R (x := (Report.mk 0 0 0 0 0 0 0 0))).2 ⟨rfl, (show InK .i64 0 by decide), (show InK .i64 0 by decide), (show InK .i64 0 by decide), (show InK .i64 0 by decide), (show InK .i64 0 by decide), (show InK .u8 0 by decide), (show InK .i64 0 by decide), (show InK .i64 0 by decide)⟩), .inl ⟨rfl, rfl⟩⟩ rfl ?_
   intro v52 hv53
   rw [Option.some.inj hy51] at hv53
   obtain ⟨cs54, hR55, rfl⟩ := Vl.agg hv53
   obtain ⟨rfl, r56, r57, r58, r59, r60, r61, r62, r63⟩ := ReportE_R.1 hR55
   refine s_mv rfl rfl (s_xt rfl rfl rfl (s_xt rfl rfl rfl (y_al hI49 Tryd.zeroValue61 rfl rfl ?_)))
   intro b64 w65 hI66 x67
   refine y_st 0 hI66 rfl rfl rfl rfl Tryd.sizeOf61 rfl rfl (on8 rfl rfl rfl rfl rfl rfl rfl rfl) ?_
   intro w68 hI69 x70
   have hC72 := hI69.freezeRow 0 rfl
   have hI71 := hI69.erase 0
   refine s_as rfl rfl (Reg.nil ?_)
   obtain ⟨j73, h74, h25⟩ := bnd h25
   refine cw_keep [6, 7, 3, 5, 14, 15, 16] rfl (cw_seqD 2 (ι := Bool) (fun x75 => [(32, Value.bool x75)]) (fun x75 => fun w76 => w68 = w76 ∧ x75 = j73) ?_ ?_)
   ·refine cw_regF (s_mv rfl rfl (s_mv rfl rfl (Reg.gsplit (t := 28) rfl (fun hg79 => ?_) (fun hg79 => ?_))))
    ·replace h74 := cdT hg79 h74
     refine Reg.take rfl rfl (s_lda rfl hC72.cells Tryd.isAgg61 rfl Tryd.sizeOf61 rfl (Reg.take rfl rfl (s_lda rfl (hC50.adv (x67.trans (x70.trans (hI69.eraseH 0)))).cells Tryd.isAgg61 rfl Tryd.sizeOf61 rfl (Reg.take rfl rfl (s_neS (Report_eq (Report.mk y51.id y51.source y51.account y51.made y51.about y51.kind y51.cents y51.of_) (Report.mk y28.id y28.source y28.account y28.made y28.about y28.kind y28.cents y28.of_)) Tryd.eqGuardType61 rfl rfl rfl ?_)))))
     refine s_pkT rfl rfl rfl (Reg.nil ?_)
     obtain rfl := Option.some.inj h74
     refine ⟨rfl, !decide ((Report.mk y51.id y51.source y51.account y51.made y51.about y51.kind y51.cents y51.of_) = (Report.mk y28.id y28.source y28.account y28.made y28.about y28.kind y28.cents y28.of_)), ⟨rfl, rfl⟩, sb6 rfl rfl rfl rfl rfl rfl⟩
    replace h74 := cdF hg79 h74
    iterate 3 refine Reg.pass rfl rfl rfl rfl ?_
    refine s_pkF rfl rfl rfl (Reg.nil ?_)
    obtain rfl := Option.some.inj h74
    refine ⟨rfl, false, ⟨rfl, rfl⟩, sb6 rfl rfl rfl rfl rfl rfl⟩
   rintro x75 _ ⟨rfl, rfl⟩
   refine cw_cond rfl (fun hc80 => ?_) (fun hc80 => ?_)
   ·replace h25 := cdT hc80 h25
    refine cw_seq (cw_regF (s_as rfl rfl (Reg.nil (cw_ret ?_))))
    obtain rfl := Option.some.inj h25
    obtain rfl := hR26 _ rfl
    replace h := elimR h
    obtain rfl := Option.some.inj h
    refine fin1 Tryd.results17 rfl ?_
    exact ⟨rfl, (by decide), hI71.kp⟩
   replace h25 := cdF hc80 h25
   refine cw_skip (cw_regF (s_mv rfl rfl (s_fa rfl Tryd.underlying61 rfl Tryd.sizeOf3 rfl (s_ld rfl ((hC50.adv (x67.trans (x70.trans (hI69.eraseH 0)))).cells.at 0 rfl) Tryd.isAgg3 rfl (s_lda rfl (hC50.adv (x67.trans (x70.trans (hI69.eraseH 0)))).cells Tryd.isAgg61 rfl Tryd.sizeOf61 rfl (y_upF 0 (a := y28.id) (z := (Report.mk y28.id y28.source y28.account y28.made y28.about y28.kind y28.cents y28.of_)) hI71 rfl rfl rfl (show InK .i64 y28.id from r34) rfl ⟨_, ((ReportE_R (x := (Report.mk y28.id y28.source y28.account y28.made y28.about y28.kind y28.cents y28.of_))).2 ⟨rfl, r34, r35, r36, r37, r38, r39, r40, r41⟩), .inl ⟨rfl, rfl⟩⟩ Tryd.underlying88 ?_))))))
   intro w81 hI82 x83
   refine Reg.nil (cw_regF ?_)
   obtain ⟨n84, hn84, h25⟩ := bnd h25
   replace hn84 := chk_out hn84
   refine p_add rfl rfl rfl hn84 (s_mv rfl rfl (Reg.nil ?_))
   obtain rfl := Option.some.inj h25
   refine ⟨rfl, (n84, (fput x20 y28.id (Report.mk y28.id y28.source y28.account y28.made y28.about y28.kind y28.cents y28.of_))), ⟨⟨hI82, (hA23.trans (x45.trans (x48.trans ((hI47.eraseH 0).trans (x67.trans (x70.trans ((hI69.eraseH 0).trans x83))))))), hn84.2⟩, rfl⟩, sb4 rfl rfl rfl rfl⟩
  replace h25 := cdF hc27 h25
  refine cw_exit (exB_same ?_)
  obtain rfl := Option.some.inj h25
  obtain rfl := hR26 _ rfl
  refine ⟨rfl, x20, ⟨hI22, hA23, rfl⟩, Sub.nil _⟩
 rintro x14 w15 ⟨hI16, hA17, rfl⟩
 replace h := elimL h
 refine cw_seq (cw_regF (s_as rfl rfl (Reg.nil (cw_ret ?_))))
 obtain rfl := Option.some.inj h
 refine fin1 Tryd.results17 rfl ?_
 exact ⟨rfl, (by decide), hI16.kp⟩
end Go.Proofs.YtepjkmoipjeghaaDoor
