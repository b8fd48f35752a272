/-
  Part AccountStates 3 of the texts that the statement's proof stands on: what memory holds, how code is walked, what the functions reckon. In the order in which they build.
-/
import Derived.Test.YtepjkmoipjeghaaDoorProg
import Derived.Test.YtepjkmoipjeghaaDoorAdAccountStates2
set_option linter.unusedVariables false
set_option linter.unusedSectionVars false
namespace Go.Proofs.YtepjkmoipjeghaaDoor
open Go Go.Sx Go.RowKit
variable [Trk]
theorem fol : Tryd.prog.follows .mixedOrders = true := by kernel_rfl
@[ext] structure Report where
  id : Int
  source : Int
  account : Int
  made : Int
  about : Int
  kind : Int
  cents : Int
  of_ : Int
def ReportE : Enc Report := mapE (fun x => (x.id, (x.source, (x.account, (x.made, (x.about, (x.kind, (x.cents, x.of_)))))))) (prodE (intE .i64) (prodE (intE .i64) (prodE (intE .i64) (prodE (intE .i64) (prodE (intE .i64) (prodE (intE .u8) (prodE (intE .i64) ((intE .i64)))))))))
attribute [grind ext] Report.ext
instance : DecidableEq Report := fun x y => decidable_of_iff (x.id = y.id ∧ x.source = y.source ∧ x.account = y.account ∧ x.made = y.made ∧ x.about = y.about ∧ x.kind = y.kind ∧ x.cents = y.cents ∧ x.of_ = y.of_) ⟨fun ⟨h0, h1, h2, h3, h4, h5, h6, h7⟩ => Report.ext h0 h1 h2 h3 h4 h5 h6 h7, fun h => by subst h; exact ⟨rfl, rfl, rfl, rfl, rfl, rfl, rfl, rfl⟩⟩
theorem ReportE_R {M : List Nat} {w : World} {cs : List Value} {x : Report} : ReportE.R M w cs x ↔ cs = [Value.int IntKind.i64 x.id, Value.int IntKind.i64 x.source, Value.int IntKind.i64 x.account, Value.int IntKind.i64 x.made, Value.int IntKind.i64 x.about, Value.int IntKind.u8 x.kind, Value.int IntKind.i64 x.cents, Value.int IntKind.i64 x.of_] ∧ InK .i64 x.id ∧ InK .i64 x.source ∧ InK .i64 x.account ∧ InK .i64 x.made ∧ InK .i64 x.about ∧ InK .u8 x.kind ∧ InK .i64 x.cents ∧ InK .i64 x.of_ := by
  simp only [ReportE, mapE_R, prodE_R, intE_R, boolE_R, sliceE_R]
  constructor
  · rintro ⟨_, _, rfl, ⟨rfl, h0⟩, ⟨_, _, rfl, ⟨rfl, h1⟩, ⟨_, _, rfl, ⟨rfl, h2⟩, ⟨_, _, rfl, ⟨rfl, h3⟩, ⟨_, _, rfl, ⟨rfl, h4⟩, ⟨_, _, rfl, ⟨rfl, h5⟩, ⟨_, _, rfl, ⟨rfl, h6⟩, ⟨rfl, h7⟩⟩⟩⟩⟩⟩⟩⟩
    exact ⟨rfl, h0, h1, h2, h3, h4, h5, h6, h7⟩
  · rintro ⟨rfl, h0, h1, h2, h3, h4, h5, h6, h7⟩
    exact ⟨[Value.int IntKind.i64 x.id], [Value.int IntKind.i64 x.source, Value.int IntKind.i64 x.account, Value.int IntKind.i64 x.made, Value.int IntKind.i64 x.about, Value.int IntKind.u8 x.kind, Value.int IntKind.i64 x.cents, Value.int IntKind.i64 x.of_], rfl, ⟨rfl, h0⟩, ⟨[Value.int IntKind.i64 x.source], [Value.int IntKind.i64 x.account, Value.int IntKind.i64 x.made, Value.int IntKind.i64 x.about, Value.int IntKind.u8 x.kind, Value.int IntKind.i64 x.cents, Value.int IntKind.i64 x.of_], rfl, ⟨rfl, h1⟩, ⟨[Value.int IntKind.i64 x.account], [Value.int IntKind.i64 x.made, Value.int IntKind.i64 x.about, Value.int IntKind.u8 x.kind, Value.int IntKind.i64 x.cents, Value.int IntKind.i64 x.of_], rfl, ⟨rfl, h2⟩, ⟨[Value.int IntKind.i64 x.made], [Value.int IntKind.i64 x.about, Value.int IntKind.u8 x.kind, Value.int IntKind.i64 x.cents, Value.int IntKind.i64 x.of_], rfl, ⟨rfl, h3⟩, ⟨[Value.int IntKind.i64 x.about], [Value.int IntKind.u8 x.kind, Value.int IntKind.i64 x.cents, Value.int IntKind.i64 x.of_], rfl, ⟨rfl, h4⟩, ⟨[Value.int IntKind.u8 x.kind], [Value.int IntKind.i64 x.cents, Value.int IntKind.i64 x.of_], rfl, ⟨rfl, h5⟩, ⟨[Value.int IntKind.i64 x.cents], [Value.int IntKind.i64 x.of_], rfl, ⟨rfl, h6⟩, ⟨rfl, h7⟩⟩⟩⟩⟩⟩⟩⟩
theorem Report_eq (x y : Report) (w : World) : (Op.equalIn 10000 61 (.agg (List.toArray [Value.int IntKind.i64 x.id, Value.int IntKind.i64 x.source, Value.int IntKind.i64 x.account, Value.int IntKind.i64 x.made, Value.int IntKind.i64 x.about, Value.int IntKind.u8 x.kind, Value.int IntKind.i64 x.cents, Value.int IntKind.i64 x.of_])) (.agg (List.toArray [Value.int IntKind.i64 y.id, Value.int IntKind.i64 y.source, Value.int IntKind.i64 y.account, Value.int IntKind.i64 y.made, Value.int IntKind.i64 y.about, Value.int IntKind.u8 y.kind, Value.int IntKind.i64 y.cents, Value.int IntKind.i64 y.of_]))).run Tryd.prog w = .ok (decide (x = y)) w := by
  have hf : Tryd.prog.underlying 61 = some (.struct (Tryd.prog.fieldsOf 61)) := by simp [Program.fieldsOf, Tryd.underlying61]
  rw [show (10000 : Nat) = 9999 + 1 from rfl, run_equalIn_agg w 9999 61 _ _ hf Tryd.stoodInHeld61]
  have h0 : decide (x = y) = (decide (x.id = y.id) && decide (x.source = y.source) && decide (x.account = y.account) && decide (x.made = y.made) && decide (x.about = y.about) && decide (x.kind = y.kind) && decide (x.cents = y.cents) && decide (x.of_ = y.of_)) := by
    rw [Bool.eq_iff_iff]; simp only [decide_eq_true_eq, Bool.and_eq_true]; constructor
    · rintro rfl; simp
    · intro h; apply Report.ext <;> simp_all
  rw [h0]
  simp [Program.fieldsOf, Tryd.underlying61, Op.eqFields, part, Tryd.isAgg3, run_equalIn_int w 9998 3 .i64 .i64 _ _ Tryd.underlying3, Tryd.isAgg5, run_equalIn_int w 9998 5 .u8 .u8 _ _ Tryd.underlying5]
  repeat' split
  all_goals simp_all
@[ext] structure Told where
  known : Int
  cents : Int
  since : Int
  by_ : (List Int)
attribute [grind ext] Told.ext
instance : DecidableEq Told := fun x y => decidable_of_iff (x.known = y.known ∧ x.cents = y.cents ∧ x.since = y.since ∧ x.by_ = y.by_) ⟨fun ⟨h0, h1, h2, h3⟩ => Told.ext h0 h1 h2 h3, fun h => by subst h; exact ⟨rfl, rfl, rfl, rfl⟩⟩
@[ext] structure Span where
  lo : Int
  hi : Int
def SpanE : Enc Span := mapE (fun x => (x.lo, x.hi)) (prodE (intE .i64) ((intE .i64)))
attribute [grind ext] Span.ext
instance : DecidableEq Span := fun x y => decidable_of_iff (x.lo = y.lo ∧ x.hi = y.hi) ⟨fun ⟨h0, h1⟩ => Span.ext h0 h1, fun h => by subst h; exact ⟨rfl, rfl⟩⟩
theorem SpanE_R {M : List Nat} {w : World} {cs : List Value} {x : Span} : SpanE.R M w cs x ↔ cs = [Value.int IntKind.i64 x.lo, Value.int IntKind.i64 x.hi] ∧ InK .i64 x.lo ∧ InK .i64 x.hi := by
  simp only [SpanE, mapE_R, prodE_R, intE_R, boolE_R, sliceE_R]
  constructor
  · rintro ⟨_, _, rfl, ⟨rfl, h0⟩, ⟨rfl, h1⟩⟩
    exact ⟨rfl, h0, h1⟩
  · rintro ⟨rfl, h0, h1⟩
    exact ⟨[Value.int IntKind.i64 x.lo], [Value.int IntKind.i64 x.hi], rfl, ⟨rfl, h0⟩, ⟨rfl, h1⟩⟩
theorem Span_eq (x y : Span) (w : World) : (Op.equalIn 10000 40 (.agg (List.toArray [Value.int IntKind.i64 x.lo, Value.int IntKind.i64 x.hi])) (.agg (List.toArray [Value.int IntKind.i64 y.lo, Value.int IntKind.i64 y.hi]))).run Tryd.prog w = .ok (decide (x = y)) w := by
  have hf : Tryd.prog.underlying 40 = some (.struct (Tryd.prog.fieldsOf 40)) := by simp [Program.fieldsOf, Tryd.underlying40]
  rw [show (10000 : Nat) = 9999 + 1 from rfl, run_equalIn_agg w 9999 40 _ _ hf Tryd.stoodInHeld40]
  have h0 : decide (x = y) = (decide (x.lo = y.lo) && decide (x.hi = y.hi)) := by
    rw [Bool.eq_iff_iff]; simp only [decide_eq_true_eq, Bool.and_eq_true]; constructor
    · rintro rfl; simp
    · intro h; apply Span.ext <;> simp_all
  rw [h0]
  simp [Program.fieldsOf, Tryd.underlying40, Op.eqFields, part, Tryd.isAgg3, run_equalIn_int w 9998 3 .i64 .i64 _ _ Tryd.underlying3]
  repeat' split
  all_goals simp_all
@[ext] structure State where
  opened : Told
  limit : Told
  owed : Told
  late : Told
  default : Told
  closed : Told
  paid : Span
  is_ : Int
attribute [grind ext] State.ext
instance : DecidableEq State := fun x y => decidable_of_iff (x.opened = y.opened ∧ x.limit = y.limit ∧ x.owed = y.owed ∧ x.late = y.late ∧ x.default = y.default ∧ x.closed = y.closed ∧ x.paid = y.paid ∧ x.is_ = y.is_) ⟨fun ⟨h0, h1, h2, h3, h4, h5, h6, h7⟩ => State.ext h0 h1 h2 h3 h4 h5 h6 h7, fun h => by subst h; exact ⟨rfl, rfl, rfl, rfl, rfl, rfl, rfl, rfl⟩⟩
@[ext] structure Clash where
  kind : Int
  about : Int
  by_ : (List Int)
def ClashE : Enc Clash := mapE (fun x => (x.kind, (x.about, x.by_))) (prodE (intE .u8) (prodE (intE .i64) ((sliceE (intE .i64)))))
attribute [grind ext] Clash.ext
instance : DecidableEq Clash := fun x y => decidable_of_iff (x.kind = y.kind ∧ x.about = y.about ∧ x.by_ = y.by_) ⟨fun ⟨h0, h1, h2⟩ => Clash.ext h0 h1 h2, fun h => by subst h; exact ⟨rfl, rfl, rfl⟩⟩
theorem ClashE_R {M : List Nat} {w : World} {cs : List Value} {x : Clash} : ClashE.R M w cs x ↔ ∃ v2 : Value, cs = [Value.int IntKind.u8 x.kind, Value.int IntKind.i64 x.about, v2] ∧ InK .u8 x.kind ∧ InK .i64 x.about ∧ RdS (intE .i64) M w v2 x.by_ := by
  simp only [ClashE, mapE_R, prodE_R, intE_R, boolE_R, sliceE_R]
  constructor
  · rintro ⟨_, _, rfl, ⟨rfl, h0⟩, ⟨_, _, rfl, ⟨rfl, h1⟩, ⟨v2, rfl, h2⟩⟩⟩
    exact ⟨v2, rfl, h0, h1, h2⟩
  · rintro ⟨v2, rfl, h0, h1, h2⟩
    exact ⟨[Value.int IntKind.u8 x.kind], [Value.int IntKind.i64 x.about, v2], rfl, ⟨rfl, h0⟩, ⟨[Value.int IntKind.i64 x.about], [v2], rfl, ⟨rfl, h1⟩, ⟨v2, rfl, h2⟩⟩⟩
@[ext] structure Store where
  reports : (FMap Int Report)
@[ext] structure Desk where
  store : Store
  gone : (FMap Int Int)
  fixed : (FMap Int Int)
theorem sl22 : SlT Tryd.prog 22 61 8 64 := ⟨Tryd.underlying22, Tryd.t61, _, by kernel_rfl, rfl, rfl, rfl, rfl⟩
theorem sl36 : SlT Tryd.prog 36 3 1 8 := ⟨Tryd.underlying36, Tryd.t3, _, by kernel_rfl, rfl, rfl, rfl, rfl⟩
theorem sl47 : SlT Tryd.prog 47 55 3 40 := ⟨Tryd.underlying47, Tryd.t55, _, by kernel_rfl, rfl, rfl, rfl, rfl⟩
end Go.Proofs.YtepjkmoipjeghaaDoor
namespace Go.Sx
open Go Go.RowKit
abbrev vi (x : Int) : Value := .int .i64 x
abbrev vu (x : Int) : Value := .int .u8 x
abbrev vn : Value := .slice none 0 0
abbrev vp (b n : Nat) : Value := .pointer (some ⟨b, n, none⟩)
section
variable [Trk]
theorem sb1 {t0 : Nat} {v0 : Value} {L : Env} (h0 : look L t0 = some v0) : Sub [(t0, v0)] L := Sub.cons h0 (Sub.nil _)
theorem sb2 {t0 t1 : Nat} {v0 v1 : Value} {L : Env} (h0 : look L t0 = some v0) (h1 : look L t1 = some v1) : Sub [(t0, v0), (t1, v1)] L := Sub.cons h0 (Sub.cons h1 (Sub.nil _))
theorem sb3 {t0 t1 t2 : Nat} {v0 v1 v2 : Value} {L : Env} (h0 : look L t0 = some v0) (h1 : look L t1 = some v1) (h2 : look L t2 = some v2) : Sub [(t0, v0), (t1, v1), (t2, v2)] L := Sub.cons h0 (Sub.cons h1 (Sub.cons h2 (Sub.nil _)))
theorem sb4 {t0 t1 t2 t3 : Nat} {v0 v1 v2 v3 : Value} {L : Env} (h0 : look L t0 = some v0) (h1 : look L t1 = some v1) (h2 : look L t2 = some v2) (h3 : look L t3 = some v3) : Sub [(t0, v0), (t1, v1), (t2, v2), (t3, v3)] L := Sub.cons h0 (Sub.cons h1 (Sub.cons h2 (Sub.cons h3 (Sub.nil _))))
theorem sb5 {t0 t1 t2 t3 t4 : Nat} {v0 v1 v2 v3 v4 : Value} {L : Env} (h0 : look L t0 = some v0) (h1 : look L t1 = some v1) (h2 : look L t2 = some v2) (h3 : look L t3 = some v3) (h4 : look L t4 = some v4) : Sub [(t0, v0), (t1, v1), (t2, v2), (t3, v3), (t4, v4)] L := Sub.cons h0 (Sub.cons h1 (Sub.cons h2 (Sub.cons h3 (Sub.cons h4 (Sub.nil _)))))
theorem sb6 {t0 t1 t2 t3 t4 t5 : Nat} {v0 v1 v2 v3 v4 v5 : Value} {L : Env} (h0 : look L t0 = some v0) (h1 : look L t1 = some v1) (h2 : look L t2 = some v2) (h3 : look L t3 = some v3) (h4 : look L t4 = some v4) (h5 : look L t5 = some v5) : Sub [(t0, v0), (t1, v1), (t2, v2), (t3, v3), (t4, v4), (t5, v5)] L := Sub.cons h0 (Sub.cons h1 (Sub.cons h2 (Sub.cons h3 (Sub.cons h4 (Sub.cons h5 (Sub.nil _))))))
theorem sb7 {t0 t1 t2 t3 t4 t5 t6 : Nat} {v0 v1 v2 v3 v4 v5 v6 : Value} {L : Env} (h0 : look L t0 = some v0) (h1 : look L t1 = some v1) (h2 : look L t2 = some v2) (h3 : look L t3 = some v3) (h4 : look L t4 = some v4) (h5 : look L t5 = some v5) (h6 : look L t6 = some v6) : Sub [(t0, v0), (t1, v1), (t2, v2), (t3, v3), (t4, v4), (t5, v5), (t6, v6)] L := Sub.cons h0 (Sub.cons h1 (Sub.cons h2 (Sub.cons h3 (Sub.cons h4 (Sub.cons h5 (Sub.cons h6 (Sub.nil _)))))))
theorem sb8 {t0 t1 t2 t3 t4 t5 t6 t7 : Nat} {v0 v1 v2 v3 v4 v5 v6 v7 : Value} {L : Env} (h0 : look L t0 = some v0) (h1 : look L t1 = some v1) (h2 : look L t2 = some v2) (h3 : look L t3 = some v3) (h4 : look L t4 = some v4) (h5 : look L t5 = some v5) (h6 : look L t6 = some v6) (h7 : look L t7 = some v7) : Sub [(t0, v0), (t1, v1), (t2, v2), (t3, v3), (t4, v4), (t5, v5), (t6, v6), (t7, v7)] L := Sub.cons h0 (Sub.cons h1 (Sub.cons h2 (Sub.cons h3 (Sub.cons h4 (Sub.cons h5 (Sub.cons h6 (Sub.cons h7 (Sub.nil _))))))))
theorem sb9 {t0 t1 t2 t3 t4 t5 t6 t7 t8 : Nat} {v0 v1 v2 v3 v4 v5 v6 v7 v8 : Value} {L : Env} (h0 : look L t0 = some v0) (h1 : look L t1 = some v1) (h2 : look L t2 = some v2) (h3 : look L t3 = some v3) (h4 : look L t4 = some v4) (h5 : look L t5 = some v5) (h6 : look L t6 = some v6) (h7 : look L t7 = some v7) (h8 : look L t8 = some v8) : Sub [(t0, v0), (t1, v1), (t2, v2), (t3, v3), (t4, v4), (t5, v5), (t6, v6), (t7, v7), (t8, v8)] L := Sub.cons h0 (Sub.cons h1 (Sub.cons h2 (Sub.cons h3 (Sub.cons h4 (Sub.cons h5 (Sub.cons h6 (Sub.cons h7 (Sub.cons h8 (Sub.nil _)))))))))
theorem sb10 {t0 t1 t2 t3 t4 t5 t6 t7 t8 t9 : Nat} {v0 v1 v2 v3 v4 v5 v6 v7 v8 v9 : Value} {L : Env} (h0 : look L t0 = some v0) (h1 : look L t1 = some v1) (h2 : look L t2 = some v2) (h3 : look L t3 = some v3) (h4 : look L t4 = some v4) (h5 : look L t5 = some v5) (h6 : look L t6 = some v6) (h7 : look L t7 = some v7) (h8 : look L t8 = some v8) (h9 : look L t9 = some v9) : Sub [(t0, v0), (t1, v1), (t2, v2), (t3, v3), (t4, v4), (t5, v5), (t6, v6), (t7, v7), (t8, v8), (t9, v9)] L := Sub.cons h0 (Sub.cons h1 (Sub.cons h2 (Sub.cons h3 (Sub.cons h4 (Sub.cons h5 (Sub.cons h6 (Sub.cons h7 (Sub.cons h8 (Sub.cons h9 (Sub.nil _))))))))))
theorem sb11 {t0 t1 t2 t3 t4 t5 t6 t7 t8 t9 t10 : Nat} {v0 v1 v2 v3 v4 v5 v6 v7 v8 v9 v10 : Value} {L : Env} (h0 : look L t0 = some v0) (h1 : look L t1 = some v1) (h2 : look L t2 = some v2) (h3 : look L t3 = some v3) (h4 : look L t4 = some v4) (h5 : look L t5 = some v5) (h6 : look L t6 = some v6) (h7 : look L t7 = some v7) (h8 : look L t8 = some v8) (h9 : look L t9 = some v9) (h10 : look L t10 = some v10) : Sub [(t0, v0), (t1, v1), (t2, v2), (t3, v3), (t4, v4), (t5, v5), (t6, v6), (t7, v7), (t8, v8), (t9, v9), (t10, v10)] L := Sub.cons h0 (Sub.cons h1 (Sub.cons h2 (Sub.cons h3 (Sub.cons h4 (Sub.cons h5 (Sub.cons h6 (Sub.cons h7 (Sub.cons h8 (Sub.cons h9 (Sub.cons h10 (Sub.nil _)))))))))))
theorem sb12 {t0 t1 t2 t3 t4 t5 t6 t7 t8 t9 t10 t11 : Nat} {v0 v1 v2 v3 v4 v5 v6 v7 v8 v9 v10 v11 : Value} {L : Env} (h0 : look L t0 = some v0) (h1 : look L t1 = some v1) (h2 : look L t2 = some v2) (h3 : look L t3 = some v3) (h4 : look L t4 = some v4) (h5 : look L t5 = some v5) (h6 : look L t6 = some v6) (h7 : look L t7 = some v7) (h8 : look L t8 = some v8) (h9 : look L t9 = some v9) (h10 : look L t10 = some v10) (h11 : look L t11 = some v11) : Sub [(t0, v0), (t1, v1), (t2, v2), (t3, v3), (t4, v4), (t5, v5), (t6, v6), (t7, v7), (t8, v8), (t9, v9), (t10, v10), (t11, v11)] L := Sub.cons h0 (Sub.cons h1 (Sub.cons h2 (Sub.cons h3 (Sub.cons h4 (Sub.cons h5 (Sub.cons h6 (Sub.cons h7 (Sub.cons h8 (Sub.cons h9 (Sub.cons h10 (Sub.cons h11 (Sub.nil _))))))))))))
theorem on2 {v0 v1 : Value} (h0 : v0.oneCell' = true) (h1 : v1.oneCell' = true) : ∀ u ∈ [v0, v1], u.oneCell' = true := one1 h0 (one1 h1 (one0))
theorem on3 {v0 v1 v2 : Value} (h0 : v0.oneCell' = true) (h1 : v1.oneCell' = true) (h2 : v2.oneCell' = true) : ∀ u ∈ [v0, v1, v2], u.oneCell' = true := one1 h0 (one1 h1 (one1 h2 (one0)))
theorem on4 {v0 v1 v2 v3 : Value} (h0 : v0.oneCell' = true) (h1 : v1.oneCell' = true) (h2 : v2.oneCell' = true) (h3 : v3.oneCell' = true) : ∀ u ∈ [v0, v1, v2, v3], u.oneCell' = true := one1 h0 (one1 h1 (one1 h2 (one1 h3 (one0))))
theorem on8 {v0 v1 v2 v3 v4 v5 v6 v7 : Value} (h0 : v0.oneCell' = true) (h1 : v1.oneCell' = true) (h2 : v2.oneCell' = true) (h3 : v3.oneCell' = true) (h4 : v4.oneCell' = true) (h5 : v5.oneCell' = true) (h6 : v6.oneCell' = true) (h7 : v7.oneCell' = true) : ∀ u ∈ [v0, v1, v2, v3, v4, v5, v6, v7], u.oneCell' = true := one1 h0 (one1 h1 (one1 h2 (one1 h3 (one1 h4 (one1 h5 (one1 h6 (one1 h7 (one0))))))))
theorem on27 {v0 v1 v2 v3 v4 v5 v6 v7 v8 v9 v10 v11 v12 v13 v14 v15 v16 v17 v18 v19 v20 v21 v22 v23 v24 v25 v26 : Value} (h0 : v0.oneCell' = true) (h1 : v1.oneCell' = true) (h2 : v2.oneCell' = true) (h3 : v3.oneCell' = true) (h4 : v4.oneCell' = true) (h5 : v5.oneCell' = true) (h6 : v6.oneCell' = true) (h7 : v7.oneCell' = true) (h8 : v8.oneCell' = true) (h9 : v9.oneCell' = true) (h10 : v10.oneCell' = true) (h11 : v11.oneCell' = true) (h12 : v12.oneCell' = true) (h13 : v13.oneCell' = true) (h14 : v14.oneCell' = true) (h15 : v15.oneCell' = true) (h16 : v16.oneCell' = true) (h17 : v17.oneCell' = true) (h18 : v18.oneCell' = true) (h19 : v19.oneCell' = true) (h20 : v20.oneCell' = true) (h21 : v21.oneCell' = true) (h22 : v22.oneCell' = true) (h23 : v23.oneCell' = true) (h24 : v24.oneCell' = true) (h25 : v25.oneCell' = true) (h26 : v26.oneCell' = true) : ∀ u ∈ [v0, v1, v2, v3, v4, v5, v6, v7, v8, v9, v10, v11, v12, v13, v14, v15, v16, v17, v18, v19, v20, v21, v22, v23, v24, v25, v26], u.oneCell' = true := one1 h0 (one1 h1 (one1 h2 (one1 h3 (one1 h4 (one1 h5 (one1 h6 (one1 h7 (one1 h8 (one1 h9 (one1 h10 (one1 h11 (one1 h12 (one1 h13 (one1 h14 (one1 h15 (one1 h16 (one1 h17 (one1 h18 (one1 h19 (one1 h20 (one1 h21 (one1 h22 (one1 h23 (one1 h24 (one1 h25 (one1 h26 (one0)))))))))))))))))))))))))))
def pick : List Nat → Env → Option Env
  | [], _ => some []
  | k :: ks, L => match look L k, pick ks L with
    | some v, some r => some ((k, v) :: r)
    | _, _ => none
theorem pick_sub : ∀ {ks : List Nat} {L L' : Env}, pick ks L' = some L → Sub L L'
  | [], _, _, h => by cases h; exact Sub.nil _
  | k :: ks, L, L', h => by
    unfold pick at h
    split at h
    · rename_i v r h1 h2
      cases h
      exact Sub.cons h1 (pick_sub h2)
    · cases h
theorem cw_keep {P : Program} {N : Nat} {ds : List Deferred} {L L' : Env} {w : World} {A B : Out} {X : Nat → Out} {Z : List PanicEntry → Out} {c : Code} (ks : List Nat) (hp : pick ks L' = some L) (h : CW P N c ds L w A B X Z) : CW P N c ds L' w A B X Z := cw_sub (pick_sub hp) h
theorem Reg.nilK {P : Program} {N : Nat} {ops : Array Oper} {ds : List Deferred} {L L0 : Env} {w : World} {A B : Out} {X : Nat → Out} {Z : List PanicEntry → Out} (ks : List Nat) (hp : pick ks L = some L0) (h : A ds L0 w) : Reg P N ops .seq [] ds L w A B X Z := Reg.nilS (pick_sub hp) h
end
end Go.Sx
namespace Go.Proofs.YtepjkmoipjeghaaDoor
open Go Go.Sx
/-- A report's cells. -/
abbrev vR (x : Report) : List Value := [vi x.id, vi x.source, vi x.account, vi x.made, vi x.about, vu x.kind, vi x.cents, vi x.of_]
abbrev zR : List Value := [vi 0, vi 0, vi 0, vi 0, vi 0, vu 0, vi 0, vi 0]
/-- The cells of what is told, ahead of others. -/
abbrev tV (x : Told) (v : Value) (l : List Value) : List Value := vu x.known :: vi x.cents :: vi x.since :: v :: l
abbrev tZ (l : List Value) : List Value := vu 0 :: vi 0 :: vi 0 :: vn :: l
abbrev zSt : List Value := tZ (tZ (tZ (tZ (tZ (tZ [vi 0, vi 0, vu 0])))))
end Go.Proofs.YtepjkmoipjeghaaDoor
namespace Go.Proofs.YtepjkmoipjeghaaDoor
open Go Go.Sx Go.RowKit
variable [Trk]
abbrev Ky3 : Ky Tryd.prog 3 Int := intKy .i64 Tryd.underlying3
/-- What the variable most holds. -/
def glob0 : List Int := [0, 0, 1000000000000, 1000000000000, 1000000000000, 10000, 1000000000000, 0, 1000000000000, 0]
theorem glob0_in {i y : Int} (h : ixo glob0 i = some y) : InK .i64 y := by
  obtain ⟨h0, h1, h2⟩ := ixo_out h
  have : y ∈ glob0 := List.mem_of_getElem? h2
  rw [InK.i64]
  simp [glob0] at this
  omega
end Go.Proofs.YtepjkmoipjeghaaDoor
set_option maxRecDepth 20000
set_option maxHeartbeats 4000000
namespace Go.Proofs.YtepjkmoipjeghaaDoor
open Go Go.Sx Go.RowKit
variable [Trk]
noncomputable def P.ref03_SameReports (a : (List Report)) (b : (List Report)) : Option Bool :=
  cond (!decide ((a.length : Int) = (b.length : Int))) (some false) (Option.bind (loopM (S := Int) (R := (Unit) ⊕ (Bool)) (fun x2 => cond (decide (x2 < (a.length : Int))) (Option.bind (ixo a x2) fun y4 => Option.bind (ixo b x2) fun y18 => cond (!decide (y4 = y18)) (some (.inr (.inr false))) (Option.bind (chk .i64 (x2 + 1)) fun n36 => some (.inl n36))) (some (.inr (.inl ())))) 0) fun j37 => Sum.elim (fun _ => some true) (fun r38 => some r38)  j37)
theorem C_ref03_SameReports {M : List Nat} {w : World} (hM : MLt M w) {a : (List Report)} {v_a_0 : Value} (f_a_0 : RdS ReportE M w v_a_0 a) {b : (List Report)} {v_b_0 : Value} (f_b_0 : RdS ReportE M w v_b_0 b) {r0 : Bool} (h : P.ref03_SameReports a b = some r0) :
  Calls Tryd.prog 19 (List.toArray [v_a_0, v_b_0]) w fun e w' => e = .returned (Value.bool r0) ∧ Ext w w' := by
 have hI := Hp.start (Mu := []) hM
 refine calls_cw Tryd.func19 rfl Tryd.ntmps19 rfl ?_
 refine cw_seq (cw_regF (s_as rfl rfl (Reg.nil (cw_seq (cw_seq (cw_regF (s_mv rfl rfl (s_len rfl f_a_0 Tryd.underlying22 rfl (s_mv rfl rfl (s_len rfl f_b_0 Tryd.underlying22 rfl (s_neq rfl rfl rfl ?_)))))))))))
 refine Reg.nil (cw_cond rfl (fun hc1 => ?_) (fun hc1 => ?_))
 ·replace h := cdT hc1 h
  refine cw_seq (cw_regF (s_as rfl rfl (Reg.nil (cw_ret ?_))))
  obtain rfl := Option.some.inj h
  refine fin1 Tryd.results19 rfl ?_
  exact ⟨rfl, hI.kp⟩
 replace h := cdF hc1 h
 refine cw_skip (cw_seq (cw_seq (cw_regF (s_as rfl rfl (Reg.nil ?_)))))
 obtain ⟨j2, h3, h⟩ := bnd h
 refine cw_keep [0, 1, 5] rfl (cw_unitD 3 (ι := Unit) (fun _ => []) (fun _ => fun w4 => Hp w [] M [] w4 ∧ Adv (mm [] M) (mm [] M) w w4 ∧ (.inl ()) = j2) ?_ ?_)
 ·refine cw_block (cw_keep [5, 0, 1] rfl ?_)
  refine cw_loopM 1 (ι := Int) _ (fun x7 => [(5, vi x7)]) (fun x7 => x7) (fun x7 => fun w9 => Hp w [] M [] w9 ∧ Adv (mm [] M) (mm [] M) w w9 ∧ InK .i64 x7) 0 h3 ⟨hI, (Adv.refl _ _), (by decide)⟩ (sb3 rfl rfl rfl) ?_
  rintro x7 w9 ⟨hI10, hA11, r8⟩ y12 h13 hR14
  refine cw_seq (cw_seq (cw_regF (s_mv rfl rfl (s_mv rfl rfl (s_len rfl (f_a_0.adv hI10.adv) Tryd.underlying22 rfl (s_lss rfl rfl rfl (Reg.nil (cw_cond rfl (fun hc15 => ?_) (fun hc15 => ?_)))))))))
  ·replace h13 := cdT hc15 h13
   refine cw_skip (cw_seq (cw_block (cw_seq ?_)))
   refine cw_regT fol (by kernel_rfl) ?_
   refine s_mv rfl rfl (s_mv rfl rfl ?_)
   obtain ⟨y16, hy16, h13⟩ := bnd h13
   refine p_ia rfl rfl (f_a_0.adv hI10.adv) hy16 Tryd.underlying22 Tryd.sizeOf61 rfl ?_
   intro b17 o18 cs19 hR20 hC21
   obtain ⟨rfl, r22, r23, r24, r25, r26, r27, r28, r29⟩ := ReportE_R.1 hR20
   refine s_lda rfl hC21.cells Tryd.isAgg61 rfl Tryd.sizeOf61 rfl (s_mv rfl rfl (s_mv rfl rfl ?_))
   obtain ⟨y30, hy30, h13⟩ := bnd h13
   refine p_ia rfl rfl (f_b_0.adv hI10.adv) hy30 Tryd.underlying22 Tryd.sizeOf61 rfl ?_
   intro b31 o32 cs33 hR34 hC35
   obtain ⟨rfl, r36, r37, r38, r39, r40, r41, r42, r43⟩ := ReportE_R.1 hR34
   refine s_lda rfl hC35.cells Tryd.isAgg61 rfl Tryd.sizeOf61 rfl (s_neS (Report_eq y16 y30) Tryd.eqGuardType61 rfl rfl rfl ?_)
   refine Reg.nilq (fun w44 e45 => ?_)
   have hI46 := hI10.ext e45
   refine cw_cond rfl (fun hc47 => ?_) (fun hc47 => ?_)
   ·replace h13 := cdT hc47 h13
    refine cw_seq (cw_regF (s_as rfl rfl (Reg.nil (cw_ret ?_))))
    obtain rfl := Option.some.inj h13
    obtain rfl := hR14 _ rfl
    replace h := elimR h
    obtain rfl := Option.some.inj h
    refine fin1 Tryd.results19 rfl ?_
    exact ⟨rfl, hI46.kp⟩
   replace h13 := cdF hc47 h13
   refine cw_skip (cw_regF (s_mv rfl rfl ?_))
   obtain ⟨n48, hn48, h13⟩ := bnd h13
   replace hn48 := chk_out hn48
   refine p_add rfl rfl rfl hn48 (s_as rfl rfl (Reg.nil ?_))
   obtain rfl := Option.some.inj h13
   refine ⟨rfl, n48, ⟨⟨hI46, hI46.adv, hn48.2⟩, rfl⟩, sb3 rfl rfl rfl⟩
  replace h13 := cdF hc15 h13
  refine cw_exit (exB_same ?_)
  obtain rfl := Option.some.inj h13
  obtain rfl := hR14 _ rfl
  refine ⟨rfl, (), ⟨hI10, hI10.adv, rfl⟩, Sub.nil _⟩
 rintro _ w4 ⟨hI5, hA6, rfl⟩
 replace h := elimL h
 refine cw_seq (cw_regF (s_as rfl rfl (Reg.nil (cw_ret ?_))))
 obtain rfl := Option.some.inj h
 refine fin1 Tryd.results19 rfl ?_
 exact ⟨rfl, hI5.kp⟩
noncomputable def P.ref03_within (n : Int) (lo : Int) (hi : Int) : Option Bool :=
  Option.bind (cond (decide (lo ≤ n)) (some (decide (n ≤ hi))) (some false)) fun x2 => some x2
theorem C_ref03_within {M : List Nat} {w : World} (hM : MLt M w) {n : Int} (f_n_0 : InK .i64 n) {lo : Int} (f_lo_0 : InK .i64 lo) {hi : Int} (f_hi_0 : InK .i64 hi) {r0 : Bool} (h : P.ref03_within n lo hi = some r0) :
  Calls Tryd.prog 39 (List.toArray [vi n, vi lo, vi hi]) w fun e w' => e = .returned (Value.bool r0) ∧ Ext w w' := by
 have hI := Hp.start (Mu := []) hM
 refine calls_cw Tryd.func39 rfl Tryd.ntmps39 rfl ?_
 refine cw_seq (cw_regF (s_as rfl rfl (Reg.nil ?_)))
 obtain ⟨j1, h2, h⟩ := bnd h
 refine cw_keep [0, 1, 2] rfl (cw_seqD 3 (ι := Bool) (fun x3 => [(6, Value.bool x3)]) (fun x3 => fun w4 => w = w4 ∧ x3 = j1) ?_ ?_)
 ·refine cw_regF (s_mv rfl rfl (s_mv rfl rfl (s_geq rfl rfl rfl (s_mv rfl rfl (Reg.gsplit (t := 10) rfl (fun hg7 => ?_) (fun hg7 => ?_))))))
  ·replace h2 := cdT hg7 h2
   refine Reg.take rfl rfl (s_mv rfl rfl (Reg.take rfl rfl (s_mv rfl rfl (Reg.take rfl rfl (s_leq rfl rfl rfl (s_pkT rfl rfl rfl (s_as rfl rfl (Reg.nil ?_))))))))
   obtain rfl := Option.some.inj h2
   refine ⟨rfl, decide (n ≤ hi), ⟨rfl, rfl⟩, sb1 rfl⟩
  replace h2 := cdF hg7 h2
  iterate 3 refine Reg.pass rfl rfl rfl rfl ?_
  refine s_pkF rfl rfl rfl (s_as rfl rfl (Reg.nil ?_))
  obtain rfl := Option.some.inj h2
  refine ⟨rfl, false, ⟨rfl, rfl⟩, sb1 rfl⟩
 rintro x3 _ ⟨rfl, rfl⟩
 refine cw_ret ?_
 obtain rfl := Option.some.inj h
 refine fin1 Tryd.results39 rfl ?_
 exact ⟨rfl, hI.kp⟩
noncomputable def P.ref03_cents (kind : Int) (n : Int) : Option Bool :=
  Option.bind (Option.bind (cond (decide (kind = 1)) (some (decide (kind = 1))) (some (decide (kind = 7)))) fun x2 => some x2) fun x3 => cond x3 (some (decide (n = 0))) (cond (decide (kind = 5)) (Option.bind (P.ref03_within n 0 10000) fun z6 => some z6) (Option.bind (P.ref03_within n 0 1000000000000) fun z11 => some z11))
theorem C_ref03_cents {M : List Nat} {w : World} (hM : MLt M w) {kind : Int} (f_kind_0 : InK .u8 kind) {n : Int} (f_n_0 : InK .i64 n) {r0 : Bool} (h : P.ref03_cents kind n = some r0) :
  Calls Tryd.prog 78 (List.toArray [vu kind, vi n]) w fun e w' => e = .returned (Value.bool r0) ∧ Ext w w' := by
 have hI := Hp.start (Mu := []) hM
 refine calls_cw Tryd.func78 rfl Tryd.ntmps78 rfl ?_
 refine cw_seq (cw_regF (s_as rfl rfl (Reg.nil (cw_seq (cw_seq (cw_regF (s_mv rfl rfl (Reg.nil (cw_block ?_)))))))))
 obtain ⟨j1, h2, h⟩ := bnd h
 refine cw_keep [1, 5] rfl (cw_seqD 0 (ι := Bool) (fun x3 => [(6, Value.bool x3)]) (fun x3 => fun w4 => w = w4 ∧ x3 = j1) ?_ ?_)
 ·refine cw_seq (cw_regF (s_eql rfl rfl rfl (s_as rfl rfl (Reg.nil ?_))))
  obtain ⟨j7, h8, h2⟩ := bnd h2
  refine cw_keep [6, 1, 5] rfl (cw_unitD 1 (ι := Bool) (fun x9 => [(6, Value.bool x9)]) (fun x9 => fun w10 => w = w10 ∧ x9 = j7) ?_ ?_)
  ·refine cw_cond rfl (fun hc13 => ?_) (fun hc13 => ?_)
   ·replace h8 := cdT hc13 h8
    refine cw_skip ?_
    obtain rfl := Option.some.inj h8
    refine ⟨rfl, decide (kind = 1), ⟨rfl, rfl⟩, sb3 rfl rfl rfl⟩
   replace h8 := cdF hc13 h8
   refine cw_regF (s_eql rfl rfl rfl (s_as rfl rfl (Reg.nil ?_)))
   obtain rfl := Option.some.inj h8
   refine ⟨rfl, decide (kind = 7), ⟨rfl, rfl⟩, sb3 rfl rfl rfl⟩
  rintro x9 _ ⟨rfl, rfl⟩
  obtain rfl := Option.some.inj h2
  refine ⟨rfl, x9, ⟨rfl, rfl⟩, sb3 rfl rfl rfl⟩
 rintro x3 _ ⟨rfl, rfl⟩
 refine cw_cond rfl (fun hc14 => ?_) (fun hc14 => ?_)
 ·replace h := cdT hc14 h
  refine cw_seq (cw_regF (s_mv rfl rfl (s_eql rfl rfl rfl (s_as rfl rfl (Reg.nil (cw_ret ?_))))))
  obtain rfl := Option.some.inj h
  refine fin1 Tryd.results78 rfl ?_
  exact ⟨rfl, hI.kp⟩
 replace h := cdF hc14 h
 refine cw_seq (cw_regF (s_eql rfl rfl rfl (s_as rfl rfl (Reg.nil (cw_cond rfl (fun hc15 => ?_) (fun hc15 => ?_))))))
 ·replace h := cdT hc15 h
  refine cw_seq (cw_regF (s_mv rfl rfl ?_))
  obtain ⟨z16, hz17, h⟩ := bnd h
  refine s_call rfl Tryd.call39 rfl ?_
  refine (C_ref03_within hI.mlt f_n_0 (by decide) (by decide) hz17).mono ?_
  rintro _ w18 ⟨rfl, e19⟩
  refine ⟨_, rfl, ?_⟩
  have hI20 := hI.ext e19
  refine s_as rfl rfl (Reg.nil (cw_ret ?_))
  obtain rfl := Option.some.inj h
  refine fin1 Tryd.results78 rfl ?_
  exact ⟨rfl, hI20.kp⟩
 replace h := cdF hc15 h
 refine cw_skip (cw_seq (cw_regF (s_mv rfl rfl ?_)))
 obtain ⟨z21, hz22, h⟩ := bnd h
 refine s_call rfl Tryd.call39 rfl ?_
 refine (C_ref03_within hI.mlt f_n_0 (by decide) (by decide) hz22).mono ?_
 rintro _ w23 ⟨rfl, e24⟩
 refine ⟨_, rfl, ?_⟩
 have hI25 := hI.ext e24
 refine s_as rfl rfl (Reg.nil (cw_ret ?_))
 obtain rfl := Option.some.inj h
 refine fin1 Tryd.results78 rfl ?_
 exact ⟨rfl, hI25.kp⟩
noncomputable def P.ref03_Valid (r : Report) : Option Bool :=
  Option.bind (Option.bind (P.ref03_within r.id 0 999999) fun z7 => cond (!z7) (some true) (Option.bind (P.ref03_within r.source 0 999999) fun z13 => cond (!z13) (some true) (Option.bind (P.ref03_within r.account 0 999999) fun z19 => cond (!z19) (some true) (Option.bind (P.ref03_within r.made 0 100000) fun z25 => cond (!z25) (some true) (Option.bind (P.ref03_within r.about 0 100000) fun z31 => cond (!z31) (some true) (Option.bind (chk .i64 r.kind) fun n37 => Option.bind (P.ref03_within n37 1 9) fun z38 => some (!z38))))))) fun x43 => cond x43 (some false) (cond (decide (r.kind ≤ 7)) (Option.bind (Option.bind (P.ref03_cents r.kind r.cents) fun z46 => cond z46 (some (decide (r.of_ = 0))) (some false)) fun x52 => some x52) (Option.bind (Option.bind (P.ref03_within r.of_ 0 999999) fun z53 => cond (!z53) (some true) (some (decide (r.of_ = r.id)))) fun x59 => cond x59 (some false) (cond (decide (r.kind = 8)) (Option.bind (P.ref03_within r.cents 0 1000000000000) fun z62 => some z62) (Option.bind (cond (decide (r.cents = 0)) (some (decide (r.about = 0))) (some false)) fun x68 => some x68))))
theorem C_ref03_Valid {M : List Nat} {w : World} (hM : MLt M w) {r : Report} (f_r_0 : InK .i64 r.id) (f_r_1 : InK .i64 r.source) (f_r_2 : InK .i64 r.account) (f_r_3 : InK .i64 r.made) (f_r_4 : InK .i64 r.about) (f_r_5 : InK .u8 r.kind) (f_r_6 : InK .i64 r.cents) (f_r_7 : InK .i64 r.of_) {r0 : Bool} (h : P.ref03_Valid r = some r0) :
  Calls Tryd.prog 51 (List.toArray [Value.agg (List.toArray (vR r))]) w fun e w' => e = .returned (Value.bool r0) ∧ Ext w w' := by
 have hI := Hp.start (Mu := []) hM
 refine calls_cw Tryd.func51 rfl Tryd.ntmps51 rfl ?_
 refine cw_seq (cw_regF (y_box hI rfl rfl rfl ?_))
 intro b1 w2 hI3 x4
 have hC6 := hI3.freezeRow 0 rfl
 have hI5 := hI3.erase 0
 refine s_as rfl rfl (Reg.nil (cw_seq ?_))
 obtain ⟨j7, h8, h⟩ := bnd h
 refine cw_keep [1] rfl (cw_seqD 0 (ι := Bool) (fun x9 => [(37, Value.bool x9)]) (fun x9 => fun w10 => Hp w [] M [] w10 ∧ Adv (mm [] M) (mm [] M) w2 w10 ∧ x9 = j7) ?_ ?_)
 ·refine cw_regF (s_fa rfl Tryd.underlying61 rfl Tryd.sizeOf3 rfl (s_ld rfl (hC6.cells.at 0 rfl) Tryd.isAgg3 rfl ?_))
  obtain ⟨z13, hz14, h8⟩ := bnd h8
  refine s_call rfl Tryd.call39 rfl ?_
  refine (C_ref03_within hI5.mlt f_r_0 (by decide) (by decide) hz14).mono ?_
  rintro _ w15 ⟨rfl, e16⟩
  refine ⟨_, rfl, ?_⟩
  have hI17 := hI5.ext e16
  refine s_not rfl rfl (s_mv rfl rfl (Reg.gsplit (t := 7) rfl (fun hg18 => ?_) (fun hg18 => ?_)))
  ·replace h8 := cdT hg18 h8
   iterate 4 refine Reg.pass rfl rfl rfl rfl ?_
   refine s_pkT rfl rfl rfl (s_mv rfl rfl ?_)
   iterate 4 refine Reg.pass rfl rfl rfl rfl ?_
   refine s_pkT rfl rfl rfl (s_mv rfl rfl ?_)
   iterate 4 refine Reg.pass rfl rfl rfl rfl ?_
   refine s_pkT rfl rfl rfl (s_mv rfl rfl ?_)
   iterate 4 refine Reg.pass rfl rfl rfl rfl ?_
   refine s_pkT rfl rfl rfl (s_mv rfl rfl ?_)
   iterate 5 refine Reg.pass rfl rfl rfl rfl ?_
   refine s_pkT rfl rfl rfl (Reg.nil ?_)
   obtain rfl := Option.some.inj h8
   refine ⟨rfl, true, ⟨hI17, (Adv.of_ext e16), rfl⟩, sb2 rfl rfl⟩
  replace h8 := cdF hg18 h8
  refine Reg.take rfl rfl (s_fa rfl Tryd.underlying61 rfl Tryd.sizeOf3 rfl (Reg.take rfl rfl (s_ld rfl ((hC6.adv (Adv.of_ext e16)).cells.at 1 rfl) Tryd.isAgg3 rfl (Reg.take rfl rfl ?_))))
  obtain ⟨z19, hz20, h8⟩ := bnd h8
  refine s_call rfl Tryd.call39 rfl ?_
  refine (C_ref03_within hI17.mlt f_r_1 (by decide) (by decide) hz20).mono ?_
  rintro _ w21 ⟨rfl, e22⟩
  refine ⟨_, rfl, ?_⟩
  have hI23 := hI17.ext e22
  refine Reg.take rfl rfl (s_not rfl rfl (s_pkF rfl rfl rfl (s_mv rfl rfl (Reg.gsplit (t := 13) rfl (fun hg24 => ?_) (fun hg24 => ?_)))))
  ·replace h8 := cdT hg24 h8
   iterate 4 refine Reg.pass rfl rfl rfl rfl ?_
   refine s_pkT rfl rfl rfl (s_mv rfl rfl ?_)
   iterate 4 refine Reg.pass rfl rfl rfl rfl ?_
   refine s_pkT rfl rfl rfl (s_mv rfl rfl ?_)
   iterate 4 refine Reg.pass rfl rfl rfl rfl ?_
   refine s_pkT rfl rfl rfl (s_mv rfl rfl ?_)
   iterate 5 refine Reg.pass rfl rfl rfl rfl ?_
   refine s_pkT rfl rfl rfl (Reg.nil ?_)
   obtain rfl := Option.some.inj h8
   refine ⟨rfl, true, ⟨hI23, ((Adv.of_ext e16).trans (Adv.of_ext e22)), rfl⟩, sb2 rfl rfl⟩
  replace h8 := cdF hg24 h8
  refine Reg.take rfl rfl (s_fa rfl Tryd.underlying61 rfl Tryd.sizeOf3 rfl (Reg.take rfl rfl (s_ld rfl ((hC6.adv ((Adv.of_ext e16).trans (Adv.of_ext e22))).cells.at 2 rfl) Tryd.isAgg3 rfl (Reg.take rfl rfl ?_))))
  obtain ⟨z25, hz26, h8⟩ := bnd h8
  refine s_call rfl Tryd.call39 rfl ?_
  refine (C_ref03_within hI23.mlt f_r_2 (by decide) (by decide) hz26).mono ?_
  rintro _ w27 ⟨rfl, e28⟩
  refine ⟨_, rfl, ?_⟩
  have hI29 := hI23.ext e28
  refine Reg.take rfl rfl (s_not rfl rfl (s_pkF rfl rfl rfl (s_mv rfl rfl (Reg.gsplit (t := 19) rfl (fun hg30 => ?_) (fun hg30 => ?_)))))
  ·replace h8 := cdT hg30 h8
   iterate 4 refine Reg.pass rfl rfl rfl rfl ?_
   refine s_pkT rfl rfl rfl (s_mv rfl rfl ?_)
   iterate 4 refine Reg.pass rfl rfl rfl rfl ?_
   refine s_pkT rfl rfl rfl (s_mv rfl rfl ?_)
   iterate 5 refine Reg.pass rfl rfl rfl rfl ?_
   refine s_pkT rfl rfl rfl (Reg.nil ?_)
   obtain rfl := Option.some.inj h8
   refine ⟨rfl, true, ⟨hI29, ((Adv.of_ext e16).trans ((Adv.of_ext e22).trans (Adv.of_ext e28))), rfl⟩, sb2 rfl rfl⟩
  replace h8 := cdF hg30 h8
  refine Reg.take rfl rfl (s_fa rfl Tryd.underlying61 rfl Tryd.sizeOf3 rfl (Reg.take rfl rfl (s_ld rfl ((hC6.adv ((Adv.of_ext e16).trans ((Adv.of_ext e22).trans (Adv.of_ext e28)))).cells.at 3 rfl) Tryd.isAgg3 rfl (Reg.take rfl rfl ?_))))
  obtain ⟨z31, hz32, h8⟩ := bnd h8
  refine s_call rfl Tryd.call39 rfl ?_
  refine (C_ref03_within hI29.mlt f_r_3 (by decide) (by decide) hz32).mono ?_
  rintro _ w33 ⟨rfl, e34⟩
  refine ⟨_, rfl, ?_⟩
  have hI35 := hI29.ext e34
  refine Reg.take rfl rfl (s_not rfl rfl (s_pkF rfl rfl rfl (s_mv rfl rfl (Reg.gsplit (t := 25) rfl (fun hg36 => ?_) (fun hg36 => ?_)))))
  ·replace h8 := cdT hg36 h8
   iterate 4 refine Reg.pass rfl rfl rfl rfl ?_
   refine s_pkT rfl rfl rfl (s_mv rfl rfl ?_)
   iterate 5 refine Reg.pass rfl rfl rfl rfl ?_
   refine s_pkT rfl rfl rfl (Reg.nil ?_)
   obtain rfl := Option.some.inj h8
   refine ⟨rfl, true, ⟨hI35, ((Adv.of_ext e16).trans ((Adv.of_ext e22).trans ((Adv.of_ext e28).trans (Adv.of_ext e34)))), rfl⟩, sb2 rfl rfl⟩
  replace h8 := cdF hg36 h8
  refine Reg.take rfl rfl (s_fa rfl Tryd.underlying61 rfl Tryd.sizeOf3 rfl (Reg.take rfl rfl (s_ld rfl ((hC6.adv ((Adv.of_ext e16).trans ((Adv.of_ext e22).trans ((Adv.of_ext e28).trans (Adv.of_ext e34))))).cells.at 4 rfl) Tryd.isAgg3 rfl (Reg.take rfl rfl ?_))))
  obtain ⟨z37, hz38, h8⟩ := bnd h8
  refine s_call rfl Tryd.call39 rfl ?_
  refine (C_ref03_within hI35.mlt f_r_4 (by decide) (by decide) hz38).mono ?_
  rintro _ w39 ⟨rfl, e40⟩
  refine ⟨_, rfl, ?_⟩
  have hI41 := hI35.ext e40
  refine Reg.take rfl rfl (s_not rfl rfl (s_pkF rfl rfl rfl (s_mv rfl rfl (Reg.gsplit (t := 31) rfl (fun hg42 => ?_) (fun hg42 => ?_)))))
  ·replace h8 := cdT hg42 h8
   iterate 5 refine Reg.pass rfl rfl rfl rfl ?_
   refine s_pkT rfl rfl rfl (Reg.nil ?_)
   obtain rfl := Option.some.inj h8
   refine ⟨rfl, true, ⟨hI41, ((Adv.of_ext e16).trans ((Adv.of_ext e22).trans ((Adv.of_ext e28).trans ((Adv.of_ext e34).trans (Adv.of_ext e40))))), rfl⟩, sb2 rfl rfl⟩
  replace h8 := cdF hg42 h8
  refine Reg.take rfl rfl (s_fa rfl Tryd.underlying61 rfl Tryd.sizeOf5 rfl (Reg.take rfl rfl (s_ld rfl ((hC6.adv ((Adv.of_ext e16).trans ((Adv.of_ext e22).trans ((Adv.of_ext e28).trans ((Adv.of_ext e34).trans (Adv.of_ext e40)))))).cells.at 5 rfl) Tryd.isAgg5 rfl (Reg.take rfl rfl ?_))))
  obtain ⟨n43, hn43, h8⟩ := bnd h8
  replace hn43 := chk_out hn43
  refine p_cvt rfl Tryd.underlying5 Tryd.underlying3 rfl hn43 ?_
  refine Reg.take rfl rfl ?_
  obtain ⟨z44, hz45, h8⟩ := bnd h8
  refine s_call rfl Tryd.call39 rfl ?_
  refine (C_ref03_within hI41.mlt hn43.2 (by decide) (by decide) hz45).mono ?_
  rintro _ w46 ⟨rfl, e47⟩
  refine ⟨_, rfl, ?_⟩
  have hI48 := hI41.ext e47
  refine Reg.take rfl rfl (s_not rfl rfl (s_pkF rfl rfl rfl (Reg.nil ?_)))
  obtain rfl := Option.some.inj h8
  refine ⟨rfl, !z44, ⟨hI48, ((Adv.of_ext e16).trans ((Adv.of_ext e22).trans ((Adv.of_ext e28).trans ((Adv.of_ext e34).trans ((Adv.of_ext e40).trans (Adv.of_ext e47)))))), rfl⟩, sb2 rfl rfl⟩
 rintro x9 w10 ⟨hI11, hA12, rfl⟩
 refine cw_cond rfl (fun hc49 => ?_) (fun hc49 => ?_)
 ·replace h := cdT hc49 h
  refine cw_seq (cw_regF (s_as rfl rfl (Reg.nil (cw_ret ?_))))
  obtain rfl := Option.some.inj h
  refine fin1 Tryd.results51 rfl ?_
  exact ⟨rfl, hI11.kp⟩
 replace h := cdF hc49 h
 refine cw_skip (cw_seq (cw_seq (cw_regF (s_fa rfl Tryd.underlying61 rfl Tryd.sizeOf5 rfl (s_ld rfl ((hC6.adv hA12).cells.at 5 rfl) Tryd.isAgg5 rfl (s_leq rfl rfl rfl (Reg.nil (cw_cond rfl (fun hc50 => ?_) (fun hc50 => ?_)))))))))
 ·replace h := cdT hc50 h
  obtain ⟨j51, h52, h⟩ := bnd h
  refine cw_keep [1] rfl (cw_seqD 1 (ι := Bool) (fun x53 => [(2, Value.bool x53)]) (fun x53 => fun w54 => Hp w [] M [] w54 ∧ Adv (mm [] M) (mm [] M) w10 w54 ∧ x53 = j51) ?_ ?_)
  ·refine cw_regF (s_fa rfl Tryd.underlying61 rfl Tryd.sizeOf5 rfl (s_ld rfl ((hC6.adv hA12).cells.at 5 rfl) Tryd.isAgg5 rfl (s_fa rfl Tryd.underlying61 rfl Tryd.sizeOf3 rfl (s_ld rfl ((hC6.adv hA12).cells.at 6 rfl) Tryd.isAgg3 rfl ?_))))
   obtain ⟨z57, hz58, h52⟩ := bnd h52
   refine s_call rfl Tryd.call78 rfl ((C_ref03_cents hI11.mlt f_r_5 f_r_6 hz58).mono ?_)
   rintro _ w59 ⟨rfl, e60⟩
   refine ⟨_, rfl, ?_⟩
   have hI61 := hI11.ext e60
   refine s_mv rfl rfl (Reg.gsplit (t := 46) rfl (fun hg62 => ?_) (fun hg62 => ?_))
   ·replace h52 := cdT hg62 h52
    refine Reg.take rfl rfl (s_fa rfl Tryd.underlying61 rfl Tryd.sizeOf3 rfl (Reg.take rfl rfl (s_ld rfl ((hC6.adv (hA12.trans (Adv.of_ext e60))).cells.at 7 rfl) Tryd.isAgg3 rfl (Reg.take rfl rfl (s_eql rfl rfl rfl (s_pkT rfl rfl rfl (s_as rfl rfl (Reg.nil ?_))))))))
    obtain rfl := Option.some.inj h52
    refine ⟨rfl, decide (r.of_ = 0), ⟨hI61, (Adv.of_ext e60), rfl⟩, sb1 rfl⟩
   replace h52 := cdF hg62 h52
   iterate 3 refine Reg.pass rfl rfl rfl rfl ?_
   refine s_pkF rfl rfl rfl (s_as rfl rfl (Reg.nil ?_))
   obtain rfl := Option.some.inj h52
   refine ⟨rfl, false, ⟨hI61, (Adv.of_ext e60), rfl⟩, sb1 rfl⟩
  rintro x53 w54 ⟨hI55, hA56, rfl⟩
  refine cw_ret ?_
  obtain rfl := Option.some.inj h
  refine fin1 Tryd.results51 rfl ?_
  exact ⟨rfl, hI55.kp⟩
 replace h := cdF hc50 h
 refine cw_skip (cw_seq ?_)
 obtain ⟨j63, h64, h⟩ := bnd h
 refine cw_keep [1] rfl (cw_seqD 0 (ι := Bool) (fun x65 => [(61, Value.bool x65)]) (fun x65 => fun w66 => Hp w [] M [] w66 ∧ Adv (mm [] M) (mm [] M) w10 w66 ∧ x65 = j63) ?_ ?_)
 ·refine cw_regF (s_fa rfl Tryd.underlying61 rfl Tryd.sizeOf3 rfl (s_ld rfl ((hC6.adv hA12).cells.at 7 rfl) Tryd.isAgg3 rfl ?_))
  obtain ⟨z69, hz70, h64⟩ := bnd h64
  refine s_call rfl Tryd.call39 rfl ?_
  refine (C_ref03_within hI11.mlt f_r_7 (by decide) (by decide) hz70).mono ?_
  rintro _ w71 ⟨rfl, e72⟩
  refine ⟨_, rfl, ?_⟩
  have hI73 := hI11.ext e72
  refine s_not rfl rfl (s_mv rfl rfl (Reg.gsplit (t := 55) rfl (fun hg74 => ?_) (fun hg74 => ?_)))
  ·replace h64 := cdT hg74 h64
   iterate 5 refine Reg.pass rfl rfl rfl rfl ?_
   refine s_pkT rfl rfl rfl (Reg.nil ?_)
   obtain rfl := Option.some.inj h64
   refine ⟨rfl, true, ⟨hI73, (Adv.of_ext e72), rfl⟩, sb2 rfl rfl⟩
  replace h64 := cdF hg74 h64
  refine Reg.take rfl rfl (s_fa rfl Tryd.underlying61 rfl Tryd.sizeOf3 rfl (Reg.take rfl rfl (s_ld rfl ((hC6.adv (hA12.trans (Adv.of_ext e72))).cells.at 7 rfl) Tryd.isAgg3 rfl (Reg.take rfl rfl (s_fa rfl Tryd.underlying61 rfl Tryd.sizeOf3 rfl (Reg.take rfl rfl (s_ld rfl ((hC6.adv (hA12.trans (Adv.of_ext e72))).cells.at 0 rfl) Tryd.isAgg3 rfl (Reg.take rfl rfl (s_eql rfl rfl rfl (s_pkF rfl rfl rfl (Reg.nil ?_)))))))))))
  obtain rfl := Option.some.inj h64
  refine ⟨rfl, decide (r.of_ = r.id), ⟨hI73, (Adv.of_ext e72), rfl⟩, sb2 rfl rfl⟩
 rintro x65 w66 ⟨hI67, hA68, rfl⟩
 refine cw_cond rfl (fun hc75 => ?_) (fun hc75 => ?_)
 ·replace h := cdT hc75 h
  refine cw_seq (cw_regF (s_as rfl rfl (Reg.nil (cw_ret ?_))))
  obtain rfl := Option.some.inj h
  refine fin1 Tryd.results51 rfl ?_
  exact ⟨rfl, hI67.kp⟩
 replace h := cdF hc75 h
 refine cw_skip (cw_seq (cw_seq (cw_regF (s_fa rfl Tryd.underlying61 rfl Tryd.sizeOf5 rfl (s_ld rfl ((hC6.adv (hA12.trans hA68)).cells.at 5 rfl) Tryd.isAgg5 rfl (s_eql rfl rfl rfl (Reg.nil (cw_cond rfl (fun hc76 => ?_) (fun hc76 => ?_)))))))))
 ·replace h := cdT hc76 h
  refine cw_seq (cw_regF (s_fa rfl Tryd.underlying61 rfl Tryd.sizeOf3 rfl (s_ld rfl ((hC6.adv (hA12.trans hA68)).cells.at 6 rfl) Tryd.isAgg3 rfl ?_)))
  obtain ⟨z77, hz78, h⟩ := bnd h
  refine s_call rfl Tryd.call39 rfl ?_
  refine (C_ref03_within hI67.mlt f_r_6 (by decide) (by decide) hz78).mono ?_
  rintro _ w79 ⟨rfl, e80⟩
  refine ⟨_, rfl, ?_⟩
  have hI81 := hI67.ext e80
  refine s_as rfl rfl (Reg.nil (cw_ret ?_))
  obtain rfl := Option.some.inj h
  refine fin1 Tryd.results51 rfl ?_
  exact ⟨rfl, hI81.kp⟩
 replace h := cdF hc76 h
 refine cw_skip ?_
 obtain ⟨j82, h83, h⟩ := bnd h
 refine cw_keep [1] rfl (cw_seqD 1 (ι := Bool) (fun x84 => [(2, Value.bool x84)]) (fun x84 => fun w85 => w66 = w85 ∧ x84 = j82) ?_ ?_)
 ·refine cw_regF (s_fa rfl Tryd.underlying61 rfl Tryd.sizeOf3 rfl (s_ld rfl ((hC6.adv (hA12.trans hA68)).cells.at 6 rfl) Tryd.isAgg3 rfl (s_eql rfl rfl rfl (s_mv rfl rfl (Reg.gsplit (t := 71) rfl (fun hg88 => ?_) (fun hg88 => ?_))))))
  ·replace h83 := cdT hg88 h83
   refine Reg.take rfl rfl (s_fa rfl Tryd.underlying61 rfl Tryd.sizeOf3 rfl (Reg.take rfl rfl (s_ld rfl ((hC6.adv (hA12.trans hA68)).cells.at 4 rfl) Tryd.isAgg3 rfl (Reg.take rfl rfl (s_eql rfl rfl rfl (s_pkT rfl rfl rfl (s_as rfl rfl (Reg.nil ?_))))))))
   obtain rfl := Option.some.inj h83
   refine ⟨rfl, decide (r.about = 0), ⟨rfl, rfl⟩, sb1 rfl⟩
  replace h83 := cdF hg88 h83
  iterate 3 refine Reg.pass rfl rfl rfl rfl ?_
  refine s_pkF rfl rfl rfl (s_as rfl rfl (Reg.nil ?_))
  obtain rfl := Option.some.inj h83
  refine ⟨rfl, false, ⟨rfl, rfl⟩, sb1 rfl⟩
 rintro x84 _ ⟨rfl, rfl⟩
 refine cw_ret ?_
 obtain rfl := Option.some.inj h
 refine fin1 Tryd.results51 rfl ?_
 exact ⟨rfl, hI67.kp⟩
noncomputable def P.ref03_Check (l : (List Report)) : Option Int :=
  cond (decide (60 < (l.length : Int))) (some 4) (Option.bind (loopM (S := Int) (R := (Unit) ⊕ (Int)) (fun x2 => cond (decide (x2 < (l.length : Int))) (Option.bind (ixo l x2) fun y4 => Option.bind (P.ref03_Valid y4) fun z18 => cond (!z18) (some (.inr (.inr 30))) (Option.bind (chk .i64 (x2 + 1)) fun n24 => some (.inl n24))) (some (.inr (.inl ())))) 0) fun j25 => Sum.elim (fun _ => Option.bind (loopM (S := Int) (R := (Unit) ⊕ (Int)) (fun x26 => cond (decide (x26 < (l.length : Int))) (Option.bind (loopM (S := Int) (R := (Unit) ⊕ (Int)) (fun x28 => cond (decide (x28 < x26)) (Option.bind (Option.bind (ixo l x26) fun y30 => Option.bind (ixo l x28) fun y44 => cond (decide (y30.id = y44.id)) (Option.bind (ixo l x26) fun y59 => Option.bind (ixo l x28) fun y73 => some (!decide (y59 = y73))) (some false)) fun x93 => cond x93 (some (.inr (.inr 31))) (Option.bind (chk .i64 (x28 + 1)) fun n95 => some (.inl n95))) (some (.inr (.inl ())))) 0) fun j96 => Sum.elim (fun _ => Option.bind (chk .i64 (x26 + 1)) fun n97 => some (.inl n97)) (fun r98 => some (.inr (.inr r98)))  j96) (some (.inr (.inl ())))) 0) fun j99 => Sum.elim (fun _ => some 0) (fun r100 => some r100)  j99) (fun r101 => some r101)  j25)
theorem C_ref03_Check {M : List Nat} {w : World} (hM : MLt M w) {l : (List Report)} {v_l_0 : Value} (f_l_0 : RdS ReportE M w v_l_0 l) {r0 : Int} (h : P.ref03_Check l = some r0) :
  Calls Tryd.prog 18 (List.toArray [v_l_0]) w fun e w' => e = .returned (vi r0) ∧ InK .i64 r0 ∧ Ext w w' := by
 have hI := Hp.start (Mu := []) hM
 refine calls_cw Tryd.func18 rfl Tryd.ntmps18 rfl ?_
 refine cw_seq (cw_regF (s_as rfl rfl (Reg.nil (cw_seq (cw_seq (cw_regF (s_mv rfl rfl (s_len rfl f_l_0 Tryd.underlying22 rfl (s_gtr rfl rfl rfl (Reg.nil (cw_cond rfl (fun hc1 => ?_) (fun hc1 => ?_))))))))))))
 ·replace h := cdT hc1 h
  refine cw_seq (cw_regF (s_as rfl rfl (Reg.nil (cw_ret ?_))))
  obtain rfl := Option.some.inj h
  refine fin1 Tryd.results18 rfl ?_
  exact ⟨rfl, (by decide), hI.kp⟩
 replace h := cdF hc1 h
 refine cw_skip (cw_seq (cw_seq (cw_regF (s_as rfl rfl (Reg.nil ?_)))))
 obtain ⟨j2, h3, h⟩ := bnd h
 refine cw_keep [3, 0] rfl (cw_unitD 1 (ι := Unit) (fun _ => []) (fun _ => fun w4 => Hp w [] M [] w4 ∧ Adv (mm [] M) (mm [] M) w w4 ∧ (.inl ()) = j2) ?_ ?_)
 ·refine cw_block (cw_keep [3, 0] rfl ?_)
  refine cw_loopM 1 (ι := Int) _ (fun x7 => [(3, vi x7)]) (fun x7 => x7) (fun x7 => fun w9 => Hp w [] M [] w9 ∧ Adv (mm [] M) (mm [] M) w w9 ∧ InK .i64 x7) 0 h3 ⟨hI, (Adv.refl _ _), (by decide)⟩ (sb2 rfl rfl) ?_
  rintro x7 w9 ⟨hI10, hA11, r8⟩ y12 h13 hR14
  refine cw_seq (cw_seq (cw_regF (s_mv rfl rfl (s_mv rfl rfl (s_len rfl (f_l_0.adv hI10.adv) Tryd.underlying22 rfl (s_lss rfl rfl rfl (Reg.nil (cw_cond rfl (fun hc15 => ?_) (fun hc15 => ?_)))))))))
  ·replace h13 := cdT hc15 h13
   refine cw_skip (cw_seq (cw_block (cw_seq (cw_regF (s_mv rfl rfl (s_mv rfl rfl ?_))))))
   obtain ⟨y16, hy16, h13⟩ := bnd h13
   refine p_ia rfl rfl (f_l_0.adv hI10.adv) hy16 Tryd.underlying22 Tryd.sizeOf61 rfl ?_
   intro b17 o18 cs19 hR20 hC21
   obtain ⟨rfl, r22, r23, r24, r25, r26, r27, r28, r29⟩ := ReportE_R.1 hR20
   refine s_lda rfl hC21.cells Tryd.isAgg61 rfl Tryd.sizeOf61 rfl ?_
   obtain ⟨z30, hz31, h13⟩ := bnd h13
   refine s_call rfl Tryd.call51 rfl ((C_ref03_Valid hI10.mlt r22 r23 r24 r25 r26 r27 r28 r29 hz31).mono ?_)
   rintro _ w32 ⟨rfl, e33⟩
   refine ⟨_, rfl, ?_⟩
   have hI34 := hI10.ext e33
   refine s_not rfl rfl (Reg.nil (cw_cond rfl (fun hc35 => ?_) (fun hc35 => ?_)))
   ·replace h13 := cdT hc35 h13
    refine cw_seq (cw_regF (s_as rfl rfl (Reg.nil (cw_ret ?_))))
    obtain rfl := Option.some.inj h13
    obtain rfl := hR14 _ rfl
    replace h := elimR h
    obtain rfl := Option.some.inj h
    refine fin1 Tryd.results18 rfl ?_
    exact ⟨rfl, (by decide), hI34.kp⟩
   replace h13 := cdF hc35 h13
   refine cw_skip (cw_regF (s_mv rfl rfl ?_))
   obtain ⟨n36, hn36, h13⟩ := bnd h13
   replace hn36 := chk_out hn36
   refine p_add rfl rfl rfl hn36 (s_as rfl rfl (Reg.nil ?_))
   obtain rfl := Option.some.inj h13
   refine ⟨rfl, n36, ⟨⟨hI34, hI34.adv, hn36.2⟩, rfl⟩, sb2 rfl rfl⟩
  replace h13 := cdF hc15 h13
  refine cw_exit (exB_same ?_)
  obtain rfl := Option.some.inj h13
  obtain rfl := hR14 _ rfl
  refine ⟨rfl, (), ⟨hI10, hI10.adv, rfl⟩, sb1 rfl⟩
 rintro _ w4 ⟨hI5, hA6, rfl⟩
 replace h := elimL h
 refine cw_seq (cw_seq (cw_regF (s_as rfl rfl (Reg.nil ?_))))
 obtain ⟨j37, h38, h⟩ := bnd h
 refine cw_keep [0, 4] rfl (cw_unitD 2 (ι := Unit) (fun _ => []) (fun _ => fun w39 => Hp w [] M [] w39 ∧ Adv (mm [] M) (mm [] M) w4 w39 ∧ (.inl ()) = j37) ?_ ?_)
 ·refine cw_block (cw_keep [4, 0] rfl ?_)
  refine cw_loopM 1 (ι := Int) _ (fun x42 => [(4, vi x42)]) (fun x42 => x42) (fun x42 => fun w44 => Hp w [] M [] w44 ∧ Adv (mm [] M) (mm [] M) w4 w44 ∧ InK .i64 x42) 0 h38 ⟨hI5, (Adv.refl _ _), (by decide)⟩ (sb2 rfl rfl) ?_
  rintro x42 w44 ⟨hI45, hA46, r43⟩ y47 h48 hR49
  refine cw_seq (cw_seq (cw_regF (s_mv rfl rfl (s_mv rfl rfl (s_len rfl (f_l_0.adv hI45.adv) Tryd.underlying22 rfl (s_lss rfl rfl rfl (Reg.nil (cw_cond rfl (fun hc50 => ?_) (fun hc50 => ?_)))))))))
  ·replace h48 := cdT hc50 h48
   refine cw_skip (cw_seq (cw_block (cw_seq (cw_regF (s_as rfl rfl (Reg.nil ?_))))))
   obtain ⟨j51, h52, h48⟩ := bnd h48
   refine cw_keep [5, 0, 4] rfl (cw_unitD 1 (ι := Unit) (fun _ => []) (fun _ => fun w53 => Hp w [] M [] w53 ∧ Adv (mm [] M) (mm [] M) w44 w53 ∧ (.inl ()) = j51) ?_ ?_)
   ·refine cw_block (cw_keep [5, 0, 4] rfl ?_)
    refine cw_loopM 1 (ι := Int) _ (fun x56 => [(5, vi x56)]) (fun x56 => x56) (fun x56 => fun w58 => Hp w [] M [] w58 ∧ Adv (mm [] M) (mm [] M) w44 w58 ∧ InK .i64 x56) 0 h52 ⟨hI45, (Adv.refl _ _), (by decide)⟩ (sb3 rfl rfl rfl) ?_
    rintro x56 w58 ⟨hI59, hA60, r57⟩ y61 h62 hR63
    refine cw_seq (cw_seq (cw_regF (s_mv rfl rfl (s_mv rfl rfl (s_lss rfl rfl rfl (Reg.nil (cw_cond rfl (fun hc64 => ?_) (fun hc64 => ?_))))))))
    ·replace h62 := cdT hc64 h62
     refine cw_skip (cw_seq (cw_block ?_))
     obtain ⟨j65, h66, h62⟩ := bnd h62
     refine cw_keep [0, 4, 5] rfl (cw_seqD 0 (ι := Bool) (fun x67 => [(53, Value.bool x67)]) (fun x67 => fun w68 => Hp w [] M [] w68 ∧ Adv (mm [] M) (mm [] M) w58 w68 ∧ x67 = j65) ?_ ?_)
     ·refine cw_regT fol (by kernel_rfl) ?_
      refine s_mv rfl rfl (s_mv rfl rfl ?_)
      obtain ⟨y71, hy71, h66⟩ := bnd h66
      refine p_ia rfl rfl (f_l_0.adv hI59.adv) hy71 Tryd.underlying22 Tryd.sizeOf61 rfl ?_
      intro b72 o73 cs74 hR75 hC76
      obtain ⟨rfl, r77, r78, r79, r80, r81, r82, r83, r84⟩ := ReportE_R.1 hR75
      refine s_fa rfl Tryd.underlying61 rfl Tryd.sizeOf3 rfl (s_ld rfl (hC76.cells.at 0 rfl) Tryd.isAgg3 rfl (s_mv rfl rfl (s_mv rfl rfl ?_)))
      obtain ⟨y85, hy85, h66⟩ := bnd h66
      refine p_ia rfl rfl (f_l_0.adv hI59.adv) hy85 Tryd.underlying22 Tryd.sizeOf61 rfl ?_
      intro b86 o87 cs88 hR89 hC90
      obtain ⟨rfl, r91, r92, r93, r94, r95, r96, r97, r98⟩ := ReportE_R.1 hR89
      refine s_fa rfl Tryd.underlying61 rfl Tryd.sizeOf3 rfl (s_ld rfl (hC90.cells.at 0 rfl) Tryd.isAgg3 rfl (s_eql rfl rfl rfl (s_mv rfl rfl (Reg.gsplit (t := 43) rfl (fun hg99 => ?_) (fun hg99 => ?_)))))
      ·replace h66 := cdT hg99 h66
       refine Reg.take rfl rfl (s_mv rfl rfl (Reg.take rfl rfl (s_mv rfl rfl (Reg.take rfl rfl ?_))))
       obtain ⟨y100, hy100, h66⟩ := bnd h66
       refine p_ia rfl rfl (f_l_0.adv hI59.adv) hy100 Tryd.underlying22 Tryd.sizeOf61 rfl ?_
       intro b101 o102 cs103 hR104 hC105
       obtain ⟨rfl, r106, r107, r108, r109, r110, r111, r112, r113⟩ := ReportE_R.1 hR104
       refine Reg.take rfl rfl (s_lda rfl hC105.cells Tryd.isAgg61 rfl Tryd.sizeOf61 rfl (Reg.take rfl rfl (s_mv rfl rfl (Reg.take rfl rfl (s_mv rfl rfl (Reg.take rfl rfl ?_))))))
       obtain ⟨y114, hy114, h66⟩ := bnd h66
       refine p_ia rfl rfl (f_l_0.adv hI59.adv) hy114 Tryd.underlying22 Tryd.sizeOf61 rfl ?_
       intro b115 o116 cs117 hR118 hC119
       obtain ⟨rfl, r120, r121, r122, r123, r124, r125, r126, r127⟩ := ReportE_R.1 hR118
       refine Reg.take rfl rfl (s_lda rfl hC119.cells Tryd.isAgg61 rfl Tryd.sizeOf61 rfl (Reg.take rfl rfl (s_neS (Report_eq y100 y114) Tryd.eqGuardType61 rfl rfl rfl ?_)))
       refine s_pkT rfl rfl rfl (Reg.nilq (fun w128 e129 => ?_))
       have hI130 := hI59.ext e129
       obtain rfl := Option.some.inj h66
       refine ⟨rfl, !decide (y100 = y114), ⟨hI130, (Adv.of_ext e129), rfl⟩, sb4 rfl rfl rfl rfl⟩
      replace h66 := cdF hg99 h66
      iterate 9 refine Reg.pass rfl rfl rfl rfl ?_
      refine s_pkF rfl rfl rfl (Reg.nilq (fun w131 e132 => ?_))
      have hI133 := hI59.ext e132
      obtain rfl := Option.some.inj h66
      refine ⟨rfl, false, ⟨hI133, (Adv.of_ext e132), rfl⟩, sb4 rfl rfl rfl rfl⟩
     rintro x67 w68 ⟨hI69, hA70, rfl⟩
     refine cw_cond rfl (fun hc134 => ?_) (fun hc134 => ?_)
     ·replace h62 := cdT hc134 h62
      refine cw_seq (cw_regF (s_as rfl rfl (Reg.nil (cw_ret ?_))))
      obtain rfl := Option.some.inj h62
      obtain rfl := hR63 _ rfl
      replace h48 := elimR h48
      obtain rfl := Option.some.inj h48
      obtain rfl := hR49 _ rfl
      replace h := elimR h
      obtain rfl := Option.some.inj h
      refine fin1 Tryd.results18 rfl ?_
      exact ⟨rfl, (by decide), hI69.kp⟩
     replace h62 := cdF hc134 h62
     refine cw_skip (cw_regF (s_mv rfl rfl ?_))
     obtain ⟨n135, hn135, h62⟩ := bnd h62
     replace hn135 := chk_out hn135
     refine p_add rfl rfl rfl hn135 (s_as rfl rfl (Reg.nil ?_))
     obtain rfl := Option.some.inj h62
     refine ⟨rfl, n135, ⟨⟨hI69, (hA60.trans hA70), hn135.2⟩, rfl⟩, sb3 rfl rfl rfl⟩
    replace h62 := cdF hc64 h62
    refine cw_exit (exB_same ?_)
    obtain rfl := Option.some.inj h62
    obtain rfl := hR63 _ rfl
    refine ⟨rfl, (), ⟨hI59, hA60, rfl⟩, sb2 rfl rfl⟩
   rintro _ w53 ⟨hI54, hA55, rfl⟩
   replace h48 := elimL h48
   refine cw_regF (s_mv rfl rfl ?_)
   obtain ⟨n136, hn136, h48⟩ := bnd h48
   replace hn136 := chk_out hn136
   refine p_add rfl rfl rfl hn136 (s_as rfl rfl (Reg.nil ?_))
   obtain rfl := Option.some.inj h48
   refine ⟨rfl, n136, ⟨⟨hI54, (hA46.trans hA55), hn136.2⟩, rfl⟩, sb2 rfl rfl⟩
  replace h48 := cdF hc50 h48
  refine cw_exit (exB_same ?_)
  obtain rfl := Option.some.inj h48
  obtain rfl := hR49 _ rfl
  refine ⟨rfl, (), ⟨hI45, hA46, rfl⟩, Sub.nil _⟩
 rintro _ w39 ⟨hI40, hA41, rfl⟩
 replace h := elimL h
 refine cw_seq (cw_regF (s_as rfl rfl (Reg.nil (cw_ret ?_))))
 obtain rfl := Option.some.inj h
 refine fin1 Tryd.results18 rfl ?_
 exact ⟨rfl, (by decide), hI40.kp⟩
noncomputable def P.ref03_At (l : (List Report)) (id : Int) : Option Int :=
  Option.bind (loopM (S := Int) (R := (Unit) ⊕ (Int)) (fun x1 => cond (decide (x1 < (l.length : Int))) (Option.bind (ixo l x1) fun y3 => cond (decide (y3.id = id)) (some (.inr (.inr x1))) (Option.bind (chk .i64 (x1 + 1)) fun n18 => some (.inl n18))) (some (.inr (.inl ())))) 0) fun j19 => Sum.elim (fun _ => some (-1)) (fun r20 => some r20)  j19
theorem C_ref03_At {M : List Nat} {w : World} (hM : MLt M w) {l : (List Report)} {v_l_0 : Value} (f_l_0 : RdS ReportE M w v_l_0 l) {id : Int} (f_id_0 : InK .i64 id) {r0 : Int} (h : P.ref03_At l id = some r0) :
  Calls Tryd.prog 44 (List.toArray [v_l_0, vi id]) w fun e w' => e = .returned (vi r0) ∧ InK .i64 r0 ∧ Ext w w' := by
 have hI := Hp.start (Mu := []) hM
 refine calls_cw Tryd.func44 rfl Tryd.ntmps44 rfl ?_
 refine cw_seq (cw_regF (s_as rfl rfl (Reg.nil (cw_seq (cw_seq (cw_regF (s_as rfl rfl (Reg.nil ?_))))))))
 obtain ⟨j1, h2, h⟩ := bnd h
 refine cw_keep [0, 1, 5] rfl (cw_unitD 3 (ι := Unit) (fun _ => []) (fun _ => fun w3 => w = w3 ∧ (.inl ()) = j1) ?_ ?_)
 ·refine cw_block (cw_keep [5, 0, 1] rfl ?_)
  refine cw_loopM 1 (ι := Int) _ (fun x6 => [(5, vi x6)]) (fun x6 => x6) (fun x6 => fun w8 => w = w8 ∧ InK .i64 x6) 0 h2 ⟨rfl, (by decide)⟩ (sb3 rfl rfl rfl) ?_
  rintro x6 _ ⟨rfl, r7⟩ y11 h12 hR13
  refine cw_seq (cw_seq (cw_regF (s_mv rfl rfl (s_mv rfl rfl (s_len rfl f_l_0 Tryd.underlying22 rfl (s_lss rfl rfl rfl (Reg.nil (cw_cond rfl (fun hc14 => ?_) (fun hc14 => ?_)))))))))
  ·replace h12 := cdT hc14 h12
   refine cw_skip (cw_seq (cw_block (cw_seq (cw_regF (s_mv rfl rfl (s_mv rfl rfl ?_))))))
   obtain ⟨y15, hy15, h12⟩ := bnd h12
   refine p_ia rfl rfl f_l_0 hy15 Tryd.underlying22 Tryd.sizeOf61 rfl ?_
   intro b16 o17 cs18 hR19 hC20
   obtain ⟨rfl, r21, r22, r23, r24, r25, r26, r27, r28⟩ := ReportE_R.1 hR19
   refine s_fa rfl Tryd.underlying61 rfl Tryd.sizeOf3 rfl (s_ld rfl (hC20.cells.at 0 rfl) Tryd.isAgg3 rfl (s_mv rfl rfl (s_eql rfl rfl rfl (Reg.nil (cw_cond rfl (fun hc29 => ?_) (fun hc29 => ?_))))))
   ·replace h12 := cdT hc29 h12
    refine cw_seq (cw_regF (s_mv rfl rfl (s_as rfl rfl (Reg.nil (cw_ret ?_)))))
    obtain rfl := Option.some.inj h12
    obtain rfl := hR13 _ rfl
    replace h := elimR h
    obtain rfl := Option.some.inj h
    refine fin1 Tryd.results44 rfl ?_
    exact ⟨rfl, r7, hI.kp⟩
   replace h12 := cdF hc29 h12
   refine cw_skip (cw_regF (s_mv rfl rfl ?_))
   obtain ⟨n30, hn30, h12⟩ := bnd h12
   replace hn30 := chk_out hn30
   refine p_add rfl rfl rfl hn30 (s_as rfl rfl (Reg.nil ?_))
   obtain rfl := Option.some.inj h12
   refine ⟨rfl, n30, ⟨⟨rfl, hn30.2⟩, rfl⟩, sb3 rfl rfl rfl⟩
  replace h12 := cdF hc14 h12
  refine cw_exit (exB_same ?_)
  obtain rfl := Option.some.inj h12
  obtain rfl := hR13 _ rfl
  refine ⟨rfl, (), ⟨rfl, rfl⟩, Sub.nil _⟩
 rintro _ _ ⟨rfl, rfl⟩
 replace h := elimL h
 refine cw_seq (cw_regF (s_as rfl rfl (Reg.nil (cw_ret ?_))))
 obtain rfl := Option.some.inj h
 refine fin1 Tryd.results44 rfl ?_
 exact ⟨rfl, (by decide), hI.kp⟩
end Go.Proofs.YtepjkmoipjeghaaDoor
set_option maxRecDepth 20000
set_option maxHeartbeats 4000000
namespace Go.Proofs.YtepjkmoipjeghaaDoor
open Go Go.Sx Go.RowKit
variable [Trk]
noncomputable def P.ref03_Known (l : (List Report)) (known : Int) : Option (List Report) :=
  Option.bind (loopM (S := (List Report) × Int) (R := ((List Report))) (fun (x1, x2) => cond (decide (x2 < (l.length : Int))) (Option.bind (Option.bind (Option.bind (ixo l x2) fun y4 => cond (decide (y4.made ≤ known)) (Option.bind (ixo l x2) fun y19 => Option.bind (P.ref03_At x1 y19.id) fun z33 => some (decide (z33 < 0))) (some false)) fun x39 => Option.bind (cond x39 (Option.bind (ixo l x2) fun y41 => Option.bind (appo 64 x1 ([y41] : List Report)) fun l61 => some l61) (some x1)) fun x66 => some x66) fun x67 => Option.bind (chk .i64 (x2 + 1)) fun n68 => some (.inl (x67, n68))) (some (.inr x1))) ([], 0)) fun x69 => some x69
theorem C_ref03_Known {M : List Nat} {w : World} (hM : MLt M w) {l : (List Report)} {v_l_0 : Value} (f_l_0 : RdS ReportE M w v_l_0 l) {known : Int} (f_known_0 : InK .i64 known) {r0 : (List Report)} (h : P.ref03_Known l known = some r0) :
  Calls Tryd.prog 41 (List.toArray [v_l_0, vi known]) w fun e w' => ∃ v0_0 : Value, e = .returned (v0_0) ∧ (Own ReportE 61 0 M w' v0_0 r0 ∧ ∀ b ∈ ob v0_0, w.heap.size ≤ b) ∧ Ext w w' := by
 have hI := Hp.start (Mu := []) hM
 refine calls_cw Tryd.func41 rfl Tryd.ntmps41 rfl ?_
 refine cw_seq (cw_regF (s_as rfl rfl (Reg.nil (cw_seq (cw_regF (s_as rfl rfl (Reg.nil (cw_seq (cw_seq (cw_regF (s_as rfl rfl ?_)))))))))))
 refine Reg.nil ?_
 obtain ⟨j1, h2, h⟩ := bnd h
 refine cw_keep [0, 1, 5, 6] rfl (cw_unitD 4 (ι := (List Report) × Value) (fun ⟨x3, v4⟩ => [(5, v4)]) (fun ⟨x3, v4⟩ => fun w5 => Hp w [] M [ownR [] ReportE 61 v4 x3] w5 ∧ Adv (mm [] M) (mm [ownR [] ReportE 61 v4 x3] M) w w5 ∧ x3 = j1) ?_ ?_)
 ·refine cw_block (cw_keep [5, 6, 0, 1] rfl ?_)
  have hI15 := hI.addNil ReportE 61
  refine cw_loopM 2 (ι := (List Report) × Int × Value) _ (fun ⟨x8, x10, v9⟩ => [(5, v9), (6, vi x10)]) (fun ⟨x8, x10, v9⟩ => (x8, x10)) (fun ⟨x8, x10, v9⟩ => fun w12 => Hp w [] M [ownR [] ReportE 61 v9 x8] w12 ∧ Adv (mm [] M) (mm [ownR [] ReportE 61 v9 x8] M) w w12 ∧ InK .i64 x10) (([] : List Report), 0, (vn)) h2 ⟨hI15, hI15.adv, (by decide)⟩ (sb4 rfl rfl rfl rfl) ?_
  rintro ⟨x8, x10, v9⟩ w12 ⟨hI13, hA14, r11⟩ y16 h17 hR18
  refine cw_seq (cw_seq (cw_regF (s_mv rfl rfl (s_mv rfl rfl (s_len rfl (f_l_0.adv hI13.adv) Tryd.underlying22 rfl (s_lss rfl rfl rfl (Reg.nil (cw_cond rfl (fun hc19 => ?_) (fun hc19 => ?_)))))))))
  ·replace h17 := cdT hc19 h17
   refine cw_skip ?_
   obtain ⟨j20, h21, h17⟩ := bnd h17
   refine cw_keep [5, 0, 1, 6] rfl (cw_seqD 1 (ι := (List Report) × Value) (fun ⟨x22, v23⟩ => [(5, v23)]) (fun ⟨x22, v23⟩ => fun w24 => Hp w [] M [ownR [] ReportE 61 v23 x22] w24 ∧ Adv (mm [ownR [] ReportE 61 v9 x8] M) (mm [ownR [] ReportE 61 v23 x22] M) w12 w24 ∧ x22 = j20) ?_ ?_)
   ·refine cw_block ?_
    obtain ⟨j27, h28, h21⟩ := bnd h21
    refine cw_keep [0, 1, 5, 6] rfl (cw_seqD 0 (ι := Bool) (fun x29 => [(29, Value.bool x29)]) (fun x29 => fun w30 => Hp w [] M [ownR [] ReportE 61 v9 x8] w30 ∧ Adv (mm [ownR [] ReportE 61 v9 x8] M) (mm [ownR [] ReportE 61 v9 x8] M) w12 w30 ∧ x29 = j27) ?_ ?_)
    ·refine cw_regF (s_mv rfl rfl (s_mv rfl rfl ?_))
     obtain ⟨y33, hy33, h28⟩ := bnd h28
     refine p_ia rfl rfl (f_l_0.adv hI13.adv) hy33 Tryd.underlying22 Tryd.sizeOf61 rfl ?_
     intro b34 o35 cs36 hR37 hC38
     obtain ⟨rfl, r39, r40, r41, r42, r43, r44, r45, r46⟩ := ReportE_R.1 hR37
     refine s_fa rfl Tryd.underlying61 rfl Tryd.sizeOf3 rfl (s_ld rfl (hC38.cells.at 3 rfl) Tryd.isAgg3 rfl (s_mv rfl rfl (s_leq rfl rfl rfl (s_mv rfl rfl (Reg.gsplit (t := 20) rfl (fun hg47 => ?_) (fun hg47 => ?_))))))
     ·replace h28 := cdT hg47 h28
      refine Reg.take rfl rfl (s_mv rfl rfl (Reg.take rfl rfl (s_mv rfl rfl (Reg.take rfl rfl (s_mv rfl rfl (Reg.take rfl rfl ?_))))))
      obtain ⟨y48, hy48, h28⟩ := bnd h28
      refine p_ia rfl rfl (f_l_0.adv hI13.adv) hy48 Tryd.underlying22 Tryd.sizeOf61 rfl ?_
      intro b49 o50 cs51 hR52 hC53
      obtain ⟨rfl, r54, r55, r56, r57, r58, r59, r60, r61⟩ := ReportE_R.1 hR52
      refine Reg.take rfl rfl (s_fa rfl Tryd.underlying61 rfl Tryd.sizeOf3 rfl (Reg.take rfl rfl (s_ld rfl (hC53.cells.at 0 rfl) Tryd.isAgg3 rfl (Reg.take rfl rfl ?_))))
      obtain ⟨z62, hz63, h28⟩ := bnd h28
      refine s_call rfl Tryd.call44 rfl ((C_ref03_At (hI13.sel [] rfl).mlt (hI13.lendRd [] 0 rfl rfl) r54 hz63).mono ?_)
      rintro _ w64 ⟨rfl, r66, e65⟩
      refine ⟨_, rfl, ?_⟩
      have hI67 := hI13.ext e65
      refine Reg.take rfl rfl (s_lss rfl rfl rfl (s_pkT rfl rfl rfl (Reg.nil ?_)))
      obtain rfl := Option.some.inj h28
      refine ⟨rfl, decide (z62 < 0), ⟨hI67, (Adv.of_ext e65), rfl⟩, sb5 rfl rfl rfl rfl rfl⟩
     replace h28 := cdF hg47 h28
     iterate 8 refine Reg.pass rfl rfl rfl rfl ?_
     refine s_pkF rfl rfl rfl (Reg.nil ?_)
     obtain rfl := Option.some.inj h28
     refine ⟨rfl, false, ⟨hI13, (Adv.refl _ _), rfl⟩, sb5 rfl rfl rfl rfl rfl⟩
    rintro x29 w30 ⟨hI31, hA32, rfl⟩
    obtain ⟨j68, h69, h21⟩ := bnd h21
    refine cw_keep [5, 29, 0, 1, 6] rfl (cw_unitD 2 (ι := (List Report) × Value) (fun ⟨x70, v71⟩ => [(5, v71)]) (fun ⟨x70, v71⟩ => fun w72 => Hp w [] M [ownR [] ReportE 61 v71 x70] w72 ∧ Adv (mm [ownR [] ReportE 61 v9 x8] M) (mm [ownR [] ReportE 61 v71 x70] M) w30 w72 ∧ x70 = j68) ?_ ?_)
    ·refine cw_cond rfl (fun hc75 => ?_) (fun hc75 => ?_)
     ·replace h69 := cdT hc75 h69
      refine cw_regF ?_
      iterate 3 refine s_mv rfl rfl ?_
      obtain ⟨y76, hy76, h69⟩ := bnd h69
      refine p_ia rfl rfl (f_l_0.adv hI31.adv) hy76 Tryd.underlying22 Tryd.sizeOf61 rfl ?_
      intro b77 o78 cs79 hR80 hC81
      obtain ⟨rfl, r82, r83, r84, r85, r86, r87, r88, r89⟩ := ReportE_R.1 hR80
      refine s_lda rfl hC81.cells Tryd.isAgg61 rfl Tryd.sizeOf61 rfl (y_bs (E := ReportE) (xs := [y76]) sl22 hI31 rfl rfl (Cls.cons rfl Cls.nil) (Chs.cons ((ReportE_R (x := y76)).2 ⟨rfl, r82, r83, r84, r85, r86, r87, r88, r89⟩) Chs.nil) rfl rfl ?_)
      intro v90 w91 hI92 x93
      have hf94 := hI92.freeze 0 rfl
      have hI95 := hI92.erase 0
      obtain ⟨l96, hl96, h69⟩ := bnd h69
      obtain ⟨hbl96, el96⟩ := appo_out hl96
      refine y_app 0 sl22 hI95 rfl rfl rfl hf94 hbl96 rfl ?_
      rw [← el96]
      intro v97 w98 hI99 x100
      refine s_as rfl rfl (Reg.nil ?_)
      obtain rfl := Option.some.inj h69
      refine ⟨rfl, (l96, v97), ⟨hI99, (x93.trans ((hI92.eraseH 0).trans x100)), rfl⟩, sb4 rfl rfl rfl rfl⟩
     replace h69 := cdF hc75 h69
     refine cw_skip ?_
     obtain rfl := Option.some.inj h69
     refine ⟨rfl, (x8, v9), ⟨hI31, (Adv.refl _ _), rfl⟩, sb4 rfl rfl rfl rfl⟩
    rintro ⟨x70, v71⟩ w72 ⟨hI73, hA74, rfl⟩
    obtain rfl := Option.some.inj h21
    refine ⟨rfl, (x70, v71), ⟨hI73, (hA32.trans hA74), rfl⟩, sb4 rfl rfl rfl rfl⟩
   rintro ⟨x22, v23⟩ w24 ⟨hI25, hA26, rfl⟩
   refine cw_regF (s_mv rfl rfl ?_)
   obtain ⟨n101, hn101, h17⟩ := bnd h17
   replace hn101 := chk_out hn101
   refine p_add rfl rfl rfl hn101 (s_as rfl rfl (Reg.nil ?_))
   obtain rfl := Option.some.inj h17
   refine ⟨rfl, (x22, n101, v23), ⟨⟨hI25, hI25.adv, hn101.2⟩, rfl⟩, sb4 rfl rfl rfl rfl⟩
  replace h17 := cdF hc19 h17
  refine cw_exit (exB_same ?_)
  obtain rfl := Option.some.inj h17
  obtain rfl := hR18 _ rfl
  refine ⟨rfl, (x8, v9), ⟨hI13, hI13.adv, rfl⟩, sb1 rfl⟩
 rintro ⟨x3, v4⟩ w5 ⟨hI6, hA7, rfl⟩
 refine cw_seq (cw_regF (s_mv rfl rfl (s_as rfl rfl (Reg.nil (cw_ret ?_)))))
 obtain rfl := Option.some.inj h
 refine fin1 Tryd.results41 rfl ?_
 exact ⟨_, rfl, (hI6.ownOut 0 rfl), hI6.kp⟩
noncomputable def P.ref03_aims (l : (List Report)) (r : Report) : Option Bool :=
  Option.bind (P.ref03_At l r.of_) fun z7 => Option.bind (cond (decide (0 ≤ z7)) (Option.bind (ixo l z7) fun y14 => cond (decide (y14.source = r.source)) (Option.bind (ixo l z7) fun y29 => some (decide (y29.account = r.account))) (some false)) (some false)) fun x52 => some x52
theorem C_ref03_aims {M : List Nat} {w : World} (hM : MLt M w) {l : (List Report)} {v_l_0 : Value} (f_l_0 : RdS ReportE M w v_l_0 l) {r : Report} (f_r_0 : InK .i64 r.id) (f_r_1 : InK .i64 r.source) (f_r_2 : InK .i64 r.account) (f_r_3 : InK .i64 r.made) (f_r_4 : InK .i64 r.about) (f_r_5 : InK .u8 r.kind) (f_r_6 : InK .i64 r.cents) (f_r_7 : InK .i64 r.of_) {r0 : Bool} (h : P.ref03_aims l r = some r0) :
  Calls Tryd.prog 45 (List.toArray [v_l_0, Value.agg (List.toArray (vR r))]) w fun e w' => e = .returned (Value.bool r0) ∧ Ext w w' := by
 have hI := Hp.start (Mu := []) hM
 refine calls_cw Tryd.func45 rfl Tryd.ntmps45 rfl ?_
 refine cw_seq (cw_regF (y_box hI rfl rfl rfl ?_))
 intro b1 w2 hI3 x4
 have hC6 := hI3.freezeRow 0 rfl
 have hI5 := hI3.erase 0
 refine s_as rfl rfl (Reg.nil (cw_seq (cw_regF (s_mv rfl rfl (s_fa rfl Tryd.underlying61 rfl Tryd.sizeOf3 rfl (s_ld rfl (hC6.cells.at 7 rfl) Tryd.isAgg3 rfl ?_))))))
 obtain ⟨z7, hz8, h⟩ := bnd h
 refine s_call rfl Tryd.call44 rfl ((C_ref03_At hI5.mlt (f_l_0.adv hI5.adv) f_r_7 hz8).mono ?_)
 rintro _ w9 ⟨rfl, r11, e10⟩
 refine ⟨_, rfl, ?_⟩
 have hI12 := hI5.ext e10
 refine s_as rfl rfl (Reg.nil ?_)
 obtain ⟨j13, h14, h⟩ := bnd h
 refine cw_keep [0, 3, 5] rfl (cw_seqD 3 (ι := Bool) (fun x15 => [(4, Value.bool x15)]) (fun x15 => fun w16 => Hp w [] M [] w16 ∧ Adv (mm [] M) (mm [] M) w9 w16 ∧ x15 = j13) ?_ ?_)
 ·refine cw_regT fol (by kernel_rfl) ?_
  refine s_mv rfl rfl (s_geq rfl rfl rfl (s_mv rfl rfl (Reg.gsplit (t := 12) rfl (fun hg19 => ?_) (fun hg19 => ?_))))
  ·replace h14 := cdT hg19 h14
   refine Reg.take rfl rfl (s_mv rfl rfl (Reg.take rfl rfl (s_mv rfl rfl (Reg.take rfl rfl ?_))))
   obtain ⟨y20, hy20, h14⟩ := bnd h14
   refine p_ia rfl rfl (f_l_0.adv hI12.adv) hy20 Tryd.underlying22 Tryd.sizeOf61 rfl ?_
   intro b21 o22 cs23 hR24 hC25
   obtain ⟨rfl, r26, r27, r28, r29, r30, r31, r32, r33⟩ := ReportE_R.1 hR24
   refine Reg.take rfl rfl (s_fa rfl Tryd.underlying61 rfl Tryd.sizeOf3 rfl (Reg.take rfl rfl (s_ld rfl (hC25.cells.at 1 rfl) Tryd.isAgg3 rfl (Reg.take rfl rfl (s_fa rfl Tryd.underlying61 rfl Tryd.sizeOf3 rfl (Reg.take rfl rfl (s_ld rfl ((hC6.adv (Adv.of_ext e10)).cells.at 1 rfl) Tryd.isAgg3 rfl (Reg.take rfl rfl (s_eql rfl rfl rfl (s_pkT rfl rfl rfl (s_mv rfl rfl ?_)))))))))))
   refine Reg.gsplit (t := 22) rfl (fun hg34 => ?_) (fun hg34 => ?_)
   ·replace h14 := cdT hg34 h14
    refine Reg.take rfl rfl (s_mv rfl rfl (Reg.take rfl rfl (s_mv rfl rfl (Reg.take rfl rfl ?_))))
    obtain ⟨y35, hy35, h14⟩ := bnd h14
    refine p_ia rfl rfl (f_l_0.adv hI12.adv) hy35 Tryd.underlying22 Tryd.sizeOf61 rfl ?_
    intro b36 o37 cs38 hR39 hC40
    obtain ⟨rfl, r41, r42, r43, r44, r45, r46, r47, r48⟩ := ReportE_R.1 hR39
    refine Reg.take rfl rfl (s_fa rfl Tryd.underlying61 rfl Tryd.sizeOf3 rfl (Reg.take rfl rfl (s_ld rfl (hC40.cells.at 2 rfl) Tryd.isAgg3 rfl (Reg.take rfl rfl (s_fa rfl Tryd.underlying61 rfl Tryd.sizeOf3 rfl (Reg.take rfl rfl (s_ld rfl ((hC6.adv (Adv.of_ext e10)).cells.at 2 rfl) Tryd.isAgg3 rfl (Reg.take rfl rfl (s_eql rfl rfl rfl (s_pkT rfl rfl rfl (s_as rfl rfl ?_)))))))))))
    refine Reg.nilq (fun w49 e50 => ?_)
    have hI51 := hI12.ext e50
    obtain rfl := Option.some.inj h14
    refine ⟨rfl, decide (y35.account = r.account), ⟨hI51, (Adv.of_ext e50), rfl⟩, sb1 rfl⟩
   replace h14 := cdF hg34 h14
   iterate 8 refine Reg.pass rfl rfl rfl rfl ?_
   refine s_pkF rfl rfl rfl (s_as rfl rfl (Reg.nilq (fun w52 e53 => ?_)))
   have hI54 := hI12.ext e53
   obtain rfl := Option.some.inj h14
   refine ⟨rfl, false, ⟨hI54, (Adv.of_ext e53), rfl⟩, sb1 rfl⟩
  replace h14 := cdF hg19 h14
  iterate 8 refine Reg.pass rfl rfl rfl rfl ?_
  refine s_pkF rfl rfl rfl (s_mv rfl rfl ?_)
  iterate 8 refine Reg.pass rfl rfl rfl rfl ?_
  refine s_pkF rfl rfl rfl (s_as rfl rfl (Reg.nilq (fun w55 e56 => ?_)))
  have hI57 := hI12.ext e56
  obtain rfl := Option.some.inj h14
  refine ⟨rfl, false, ⟨hI57, (Adv.of_ext e56), rfl⟩, sb1 rfl⟩
 rintro x15 w16 ⟨hI17, hA18, rfl⟩
 refine cw_ret ?_
 obtain rfl := Option.some.inj h
 refine fin1 Tryd.results45 rfl ?_
 exact ⟨rfl, hI17.kp⟩
noncomputable def P.ref03_withdrawn (l : (List Report)) (id : Int) : Option Int :=
  Option.bind (P.ref03_At l id) fun z1 => Option.bind (loopM (S := Int × Int) (R := (Int)) (fun (x7, x8) => cond (decide (x8 < (l.length : Int))) (Option.bind (Option.bind (Option.bind (ixo l x8) fun y10 => cond (decide (y10.kind = 9)) (Option.bind (ixo l x8) fun y25 => cond (decide (y25.of_ = id)) (Option.bind (ixo l z1) fun y40 => cond (!decide (y40.kind = 9)) (Option.bind (ixo l x8) fun y55 => Option.bind (P.ref03_aims l y55) fun z69 => cond z69 (cond (decide (x7 < 0)) (some true) (Option.bind (ixo l x8) fun y76 => some (decide (y76.id < x7)))) (some false)) (some false)) (some false)) (some false)) fun x90 => Option.bind (cond x90 (Option.bind (ixo l x8) fun y92 => some y92.id) (some x7)) fun x106 => some x106) fun x107 => Option.bind (chk .i64 (x8 + 1)) fun n108 => some (.inl (x107, n108))) (some (.inr x7))) ((-1), 0)) fun x109 => some x109
theorem C_ref03_withdrawn {M : List Nat} {w : World} (hM : MLt M w) {l : (List Report)} {v_l_0 : Value} (f_l_0 : RdS ReportE M w v_l_0 l) {id : Int} (f_id_0 : InK .i64 id) {r0 : Int} (h : P.ref03_withdrawn l id = some r0) :
  Calls Tryd.prog 46 (List.toArray [v_l_0, vi id]) w fun e w' => e = .returned (vi r0) ∧ InK .i64 r0 ∧ Ext w w' := by
 have hI := Hp.start (Mu := []) hM
 refine calls_cw Tryd.func46 rfl Tryd.ntmps46 rfl ?_
 refine cw_seq (cw_regF (s_as rfl rfl (Reg.nil (cw_seq (cw_regF (s_as rfl rfl (Reg.nil (cw_seq (cw_regF (s_mv rfl rfl (s_mv rfl rfl ?_)))))))))))
 obtain ⟨z1, hz2, h⟩ := bnd h
 refine s_call rfl Tryd.call44 rfl ((C_ref03_At hI.mlt f_l_0 f_id_0 hz2).mono ?_)
 rintro _ w3 ⟨rfl, r5, e4⟩
 refine ⟨_, rfl, ?_⟩
 have hI6 := hI.ext e4
 refine s_as rfl rfl (Reg.nil (cw_seq (cw_seq (cw_regF (s_as rfl rfl (Reg.nil ?_))))))
 obtain ⟨j7, h8, h⟩ := bnd h
 refine cw_keep [0, 1, 5, 6, 7] rfl (cw_unitD 5 (ι := Int) (fun x9 => [(5, vi x9)]) (fun x9 => fun w11 => Hp w [] M [] w11 ∧ Adv (mm [] M) (mm [] M) w3 w11 ∧ InK .i64 x9 ∧ x9 = j7) ?_ ?_)
 ·refine cw_block (cw_keep [5, 7, 0, 1, 6] rfl ?_)
  refine cw_loopM 2 (ι := Int × Int) _ (fun ⟨x14, x16⟩ => [(5, vi x14), (7, vi x16)]) (fun ⟨x14, x16⟩ => (x14, x16)) (fun ⟨x14, x16⟩ => fun w18 => Hp w [] M [] w18 ∧ Adv (mm [] M) (mm [] M) w3 w18 ∧ InK .i64 x14 ∧ InK .i64 x16) ((-1), 0) h8 ⟨hI6, (Adv.refl _ _), (by decide), (by decide)⟩ (sb5 rfl rfl rfl rfl rfl) ?_
  rintro ⟨x14, x16⟩ w18 ⟨hI19, hA20, r15, r17⟩ y21 h22 hR23
  refine cw_seq (cw_seq (cw_regF (s_mv rfl rfl (s_mv rfl rfl (s_len rfl (f_l_0.adv hI19.adv) Tryd.underlying22 rfl (s_lss rfl rfl rfl (Reg.nil (cw_cond rfl (fun hc24 => ?_) (fun hc24 => ?_)))))))))
  ·replace h22 := cdT hc24 h22
   refine cw_skip ?_
   obtain ⟨j25, h26, h22⟩ := bnd h22
   refine cw_keep [5, 0, 1, 6, 7] rfl (cw_seqD 1 (ι := Int) (fun x27 => [(5, vi x27)]) (fun x27 => fun w29 => Hp w [] M [] w29 ∧ Adv (mm [] M) (mm [] M) w18 w29 ∧ InK .i64 x27 ∧ x27 = j25) ?_ ?_)
   ·refine cw_block ?_
    obtain ⟨j32, h33, h26⟩ := bnd h26
    refine cw_keep [0, 1, 5, 6, 7] rfl (cw_seqD 0 (ι := Bool) (fun x34 => [(60, Value.bool x34)]) (fun x34 => fun w35 => Hp w [] M [] w35 ∧ Adv (mm [] M) (mm [] M) w18 w35 ∧ x34 = j32) ?_ ?_)
    ·refine cw_regF (s_mv rfl rfl (s_mv rfl rfl ?_))
     obtain ⟨y38, hy38, h33⟩ := bnd h33
     refine p_ia rfl rfl (f_l_0.adv hI19.adv) hy38 Tryd.underlying22 Tryd.sizeOf61 rfl ?_
     intro b39 o40 cs41 hR42 hC43
     obtain ⟨rfl, r44, r45, r46, r47, r48, r49, r50, r51⟩ := ReportE_R.1 hR42
     refine s_fa rfl Tryd.underlying61 rfl Tryd.sizeOf5 rfl (s_ld rfl (hC43.cells.at 5 rfl) Tryd.isAgg5 rfl (s_eql rfl rfl rfl (s_mv rfl rfl (Reg.gsplit (t := 23) rfl (fun hg52 => ?_) (fun hg52 => ?_)))))
     ·replace h33 := cdT hg52 h33
      refine Reg.take rfl rfl (s_mv rfl rfl (Reg.take rfl rfl (s_mv rfl rfl (Reg.take rfl rfl ?_))))
      obtain ⟨y53, hy53, h33⟩ := bnd h33
      refine p_ia rfl rfl (f_l_0.adv hI19.adv) hy53 Tryd.underlying22 Tryd.sizeOf61 rfl ?_
      intro b54 o55 cs56 hR57 hC58
      obtain ⟨rfl, r59, r60, r61, r62, r63, r64, r65, r66⟩ := ReportE_R.1 hR57
      refine Reg.take rfl rfl (s_fa rfl Tryd.underlying61 rfl Tryd.sizeOf3 rfl (Reg.take rfl rfl (s_ld rfl (hC58.cells.at 7 rfl) Tryd.isAgg3 rfl (Reg.take rfl rfl (s_mv rfl rfl (Reg.take rfl rfl (s_eql rfl rfl rfl (s_pkT rfl rfl rfl (s_mv rfl rfl (Reg.gsplit (t := 32) rfl (fun hg67 => ?_) (fun hg67 => ?_)))))))))))
      ·replace h33 := cdT hg67 h33
       refine Reg.take rfl rfl (s_mv rfl rfl (Reg.take rfl rfl (s_mv rfl rfl (Reg.take rfl rfl ?_))))
       obtain ⟨y68, hy68, h33⟩ := bnd h33
       refine p_ia rfl rfl (f_l_0.adv hI19.adv) hy68 Tryd.underlying22 Tryd.sizeOf61 rfl ?_
       intro b69 o70 cs71 hR72 hC73
       obtain ⟨rfl, r74, r75, r76, r77, r78, r79, r80, r81⟩ := ReportE_R.1 hR72
       refine Reg.take rfl rfl (s_fa rfl Tryd.underlying61 rfl Tryd.sizeOf5 rfl (Reg.take rfl rfl (s_ld rfl (hC73.cells.at 5 rfl) Tryd.isAgg5 rfl (Reg.take rfl rfl (s_neq rfl rfl rfl (s_pkT rfl rfl rfl (s_mv rfl rfl (Reg.gsplit (t := 40) rfl (fun hg82 => ?_) (fun hg82 => ?_)))))))))
       ·replace h33 := cdT hg82 h33
        refine Reg.take rfl rfl (s_mv rfl rfl (Reg.take rfl rfl (s_mv rfl rfl (Reg.take rfl rfl (s_mv rfl rfl (Reg.take rfl rfl ?_))))))
        obtain ⟨y83, hy83, h33⟩ := bnd h33
        refine p_ia rfl rfl (f_l_0.adv hI19.adv) hy83 Tryd.underlying22 Tryd.sizeOf61 rfl ?_
        intro b84 o85 cs86 hR87 hC88
        obtain ⟨rfl, r89, r90, r91, r92, r93, r94, r95, r96⟩ := ReportE_R.1 hR87
        refine Reg.take rfl rfl (s_lda rfl hC88.cells Tryd.isAgg61 rfl Tryd.sizeOf61 rfl (Reg.take rfl rfl ?_))
        obtain ⟨z97, hz98, h33⟩ := bnd h33
        refine s_call rfl Tryd.call45 rfl ((C_ref03_aims hI19.mlt (f_l_0.adv hI19.adv) r89 r90 r91 r92 r93 r94 r95 r96 hz98).mono ?_)
        rintro _ w99 ⟨rfl, e100⟩
        refine ⟨_, rfl, ?_⟩
        have hI101 := hI19.ext e100
        refine s_pkT rfl rfl rfl (s_mv rfl rfl (Reg.gsplit (t := 48) rfl (fun hg102 => ?_) (fun hg102 => ?_)))
        ·replace h33 := cdT hg102 h33
         refine Reg.take rfl rfl (s_mv rfl rfl (Reg.take rfl rfl (s_lss rfl rfl rfl (Reg.take rfl rfl (s_mv rfl rfl (Reg.gsplit (t := 51) rfl (fun hg103 => ?_) (fun hg103 => ?_)))))))
         ·replace h33 := cdT hg103 h33
          iterate 7 refine Reg.pass rfl rfl rfl rfl ?_
          refine Reg.take rfl rfl (s_pkT rfl rfl rfl (s_pkT rfl rfl rfl (Reg.nil ?_)))
          obtain rfl := Option.some.inj h33
          refine ⟨rfl, true, ⟨hI101, (Adv.of_ext e100), rfl⟩, sb6 rfl rfl rfl rfl rfl rfl⟩
         replace h33 := cdF hg103 h33
         refine Reg.take rfl rfl (s_mv rfl rfl (Reg.take rfl rfl (s_mv rfl rfl (Reg.take rfl rfl ?_))))
         obtain ⟨y104, hy104, h33⟩ := bnd h33
         refine p_ia rfl rfl (f_l_0.adv hI101.adv) hy104 Tryd.underlying22 Tryd.sizeOf61 rfl ?_
         intro b105 o106 cs107 hR108 hC109
         obtain ⟨rfl, r110, r111, r112, r113, r114, r115, r116, r117⟩ := ReportE_R.1 hR108
         refine Reg.take rfl rfl (s_fa rfl Tryd.underlying61 rfl Tryd.sizeOf3 rfl (Reg.take rfl rfl (s_ld rfl (hC109.cells.at 0 rfl) Tryd.isAgg3 rfl (Reg.take rfl rfl (s_mv rfl rfl (Reg.take rfl rfl (s_lss rfl rfl rfl (Reg.take rfl rfl (s_pkF rfl rfl rfl (s_pkT rfl rfl rfl (Reg.nil ?_)))))))))))
         obtain rfl := Option.some.inj h33
         refine ⟨rfl, decide (y104.id < x14), ⟨hI101, (Adv.of_ext e100), rfl⟩, sb6 rfl rfl rfl rfl rfl rfl⟩
        replace h33 := cdF hg102 h33
        iterate 3 refine Reg.pass rfl rfl rfl rfl ?_
        iterate 7 refine Reg.passU rfl rfl rfl ?_
        refine Reg.pass rfl rfl rfl rfl (s_pkF rfl rfl rfl (Reg.nil ?_))
        obtain rfl := Option.some.inj h33
        refine ⟨rfl, false, ⟨hI101, (Adv.of_ext e100), rfl⟩, sb6 rfl rfl rfl rfl rfl rfl⟩
       replace h33 := cdF hg82 h33
       iterate 6 refine Reg.pass rfl rfl rfl rfl ?_
       refine s_pkF rfl rfl rfl (s_mv rfl rfl ?_)
       iterate 3 refine Reg.pass rfl rfl rfl rfl ?_
       iterate 7 refine Reg.passU rfl rfl rfl ?_
       refine Reg.pass rfl rfl rfl rfl (s_pkF rfl rfl rfl (Reg.nil ?_))
       obtain rfl := Option.some.inj h33
       refine ⟨rfl, false, ⟨hI19, (Adv.refl _ _), rfl⟩, sb6 rfl rfl rfl rfl rfl rfl⟩
      replace h33 := cdF hg67 h33
      iterate 6 refine Reg.pass rfl rfl rfl rfl ?_
      refine s_pkF rfl rfl rfl (s_mv rfl rfl ?_)
      iterate 6 refine Reg.pass rfl rfl rfl rfl ?_
      refine s_pkF rfl rfl rfl (s_mv rfl rfl ?_)
      iterate 3 refine Reg.pass rfl rfl rfl rfl ?_
      iterate 7 refine Reg.passU rfl rfl rfl ?_
      refine Reg.pass rfl rfl rfl rfl (s_pkF rfl rfl rfl (Reg.nil ?_))
      obtain rfl := Option.some.inj h33
      refine ⟨rfl, false, ⟨hI19, (Adv.refl _ _), rfl⟩, sb6 rfl rfl rfl rfl rfl rfl⟩
     replace h33 := cdF hg52 h33
     iterate 7 refine Reg.pass rfl rfl rfl rfl ?_
     refine s_pkF rfl rfl rfl (s_mv rfl rfl ?_)
     iterate 6 refine Reg.pass rfl rfl rfl rfl ?_
     refine s_pkF rfl rfl rfl (s_mv rfl rfl ?_)
     iterate 6 refine Reg.pass rfl rfl rfl rfl ?_
     refine s_pkF rfl rfl rfl (s_mv rfl rfl ?_)
     iterate 3 refine Reg.pass rfl rfl rfl rfl ?_
     iterate 7 refine Reg.passU rfl rfl rfl ?_
     refine Reg.pass rfl rfl rfl rfl (s_pkF rfl rfl rfl (Reg.nil ?_))
     obtain rfl := Option.some.inj h33
     refine ⟨rfl, false, ⟨hI19, (Adv.refl _ _), rfl⟩, sb6 rfl rfl rfl rfl rfl rfl⟩
    rintro x34 w35 ⟨hI36, hA37, rfl⟩
    obtain ⟨j118, h119, h26⟩ := bnd h26
    refine cw_keep [5, 60, 0, 1, 6, 7] rfl (cw_unitD 2 (ι := Int) (fun x120 => [(5, vi x120)]) (fun x120 => fun w122 => w35 = w122 ∧ InK .i64 x120 ∧ x120 = j118) ?_ ?_)
    ·refine cw_cond rfl (fun hc125 => ?_) (fun hc125 => ?_)
     ·replace h119 := cdT hc125 h119
      refine cw_regF (s_mv rfl rfl (s_mv rfl rfl ?_))
      obtain ⟨y126, hy126, h119⟩ := bnd h119
      refine p_ia rfl rfl (f_l_0.adv hI36.adv) hy126 Tryd.underlying22 Tryd.sizeOf61 rfl ?_
      intro b127 o128 cs129 hR130 hC131
      obtain ⟨rfl, r132, r133, r134, r135, r136, r137, r138, r139⟩ := ReportE_R.1 hR130
      refine s_fa rfl Tryd.underlying61 rfl Tryd.sizeOf3 rfl (s_ld rfl (hC131.cells.at 0 rfl) Tryd.isAgg3 rfl (s_as rfl rfl (Reg.nil ?_)))
      obtain rfl := Option.some.inj h119
      refine ⟨rfl, y126.id, ⟨rfl, r132, rfl⟩, sb5 rfl rfl rfl rfl rfl⟩
     replace h119 := cdF hc125 h119
     refine cw_skip ?_
     obtain rfl := Option.some.inj h119
     refine ⟨rfl, x14, ⟨rfl, r15, rfl⟩, sb5 rfl rfl rfl rfl rfl⟩
    rintro x120 _ ⟨rfl, r121, rfl⟩
    obtain rfl := Option.some.inj h26
    refine ⟨rfl, x120, ⟨hI36, hA37, r121, rfl⟩, sb5 rfl rfl rfl rfl rfl⟩
   rintro x27 w29 ⟨hI30, hA31, r28, rfl⟩
   refine cw_regF (s_mv rfl rfl ?_)
   obtain ⟨n140, hn140, h22⟩ := bnd h22
   replace hn140 := chk_out hn140
   refine p_add rfl rfl rfl hn140 (s_as rfl rfl (Reg.nil ?_))
   obtain rfl := Option.some.inj h22
   refine ⟨rfl, (x27, n140), ⟨⟨hI30, (hA20.trans hA31), r28, hn140.2⟩, rfl⟩, sb5 rfl rfl rfl rfl rfl⟩
  replace h22 := cdF hc24 h22
  refine cw_exit (exB_same ?_)
  obtain rfl := Option.some.inj h22
  obtain rfl := hR23 _ rfl
  refine ⟨rfl, x14, ⟨hI19, hA20, r15, rfl⟩, sb1 rfl⟩
 rintro x9 w11 ⟨hI12, hA13, r10, rfl⟩
 refine cw_seq (cw_regF (s_mv rfl rfl (s_as rfl rfl (Reg.nil (cw_ret ?_)))))
 obtain rfl := Option.some.inj h
 refine fin1 Tryd.results46 rfl ?_
 exact ⟨rfl, r10, hI12.kp⟩
noncomputable def P.ref03_corrected (l : (List Report)) (id : Int) : Option Int :=
  Option.bind (P.ref03_At l id) fun z1 => Option.bind (loopM (S := Int × Int) (R := (Int)) (fun (x7, x8) => cond (decide (x8 < (l.length : Int))) (Option.bind (Option.bind (Option.bind (ixo l x8) fun y10 => cond (!decide (y10.kind = 8)) (some true) (Option.bind (ixo l x8) fun y28 => cond (!decide (y28.of_ = id)) (some true) (Option.bind (ixo l x8) fun y46 => Option.bind (P.ref03_aims l y46) fun z60 => cond (!z60) (some true) (Option.bind (ixo l x8) fun y68 => Option.bind (P.ref03_withdrawn l y68.id) fun z82 => cond (decide (0 ≤ z82)) (some true) (Option.bind (ixo l z1) fun y91 => Option.bind (ixo l x8) fun y105 => Option.bind (P.ref03_cents y91.kind y105.cents) fun z119 => some (!z119)))))) fun x126 => cond x126 (some x7) (Option.bind (cond (decide (x7 < 0)) (some true) (Option.bind (ixo l x8) fun y132 => Option.bind (P.ref03_At l x7) fun z146 => Option.bind (ixo l z146) fun y151 => cond (decide (y151.made < y132.made)) (some true) (Option.bind (ixo l x8) fun y169 => Option.bind (P.ref03_At l x7) fun z183 => Option.bind (ixo l z183) fun y188 => cond (decide (y169.made = y188.made)) (Option.bind (ixo l x8) fun y203 => some (decide (x7 < y203.id))) (some false)))) fun x223 => Option.bind (cond x223 (Option.bind (ixo l x8) fun y225 => some y225.id) (some x7)) fun x239 => some x239)) fun x240 => Option.bind (chk .i64 (x8 + 1)) fun n241 => some (.inl (x240, n241))) (some (.inr x7))) ((-1), 0)) fun x242 => some x242
theorem C_ref03_corrected {M : List Nat} {w : World} (hM : MLt M w) {l : (List Report)} {v_l_0 : Value} (f_l_0 : RdS ReportE M w v_l_0 l) {id : Int} (f_id_0 : InK .i64 id) {r0 : Int} (h : P.ref03_corrected l id = some r0) :
  Calls Tryd.prog 47 (List.toArray [v_l_0, vi id]) w fun e w' => e = .returned (vi r0) ∧ InK .i64 r0 ∧ Ext w w' := by
 have hI := Hp.start (Mu := []) hM
 refine calls_cw Tryd.func47 rfl Tryd.ntmps47 rfl ?_
 refine cw_seq (cw_regF (s_as rfl rfl (Reg.nil (cw_seq (cw_regF (s_as rfl rfl (Reg.nil (cw_seq (cw_regF (s_mv rfl rfl (s_mv rfl rfl ?_)))))))))))
 obtain ⟨z1, hz2, h⟩ := bnd h
 refine s_call rfl Tryd.call44 rfl ((C_ref03_At hI.mlt f_l_0 f_id_0 hz2).mono ?_)
 rintro _ w3 ⟨rfl, r5, e4⟩
 refine ⟨_, rfl, ?_⟩
 have hI6 := hI.ext e4
 refine s_as rfl rfl (Reg.nil (cw_seq (cw_seq (cw_regF (s_as rfl rfl (Reg.nil ?_))))))
 obtain ⟨j7, h8, h⟩ := bnd h
 refine cw_keep [0, 1, 5, 6, 7] rfl (cw_unitD 5 (ι := Int) (fun x9 => [(5, vi x9)]) (fun x9 => fun w11 => Hp w [] M [] w11 ∧ Adv (mm [] M) (mm [] M) w3 w11 ∧ InK .i64 x9 ∧ x9 = j7) ?_ ?_)
 ·refine cw_block (cw_keep [5, 7, 0, 1, 6] rfl ?_)
  refine cw_loopM 2 (ι := Int × Int) _ (fun ⟨x14, x16⟩ => [(5, vi x14), (7, vi x16)]) (fun ⟨x14, x16⟩ => (x14, x16)) (fun ⟨x14, x16⟩ => fun w18 => Hp w [] M [] w18 ∧ Adv (mm [] M) (mm [] M) w3 w18 ∧ InK .i64 x14 ∧ InK .i64 x16) ((-1), 0) h8 ⟨hI6, (Adv.refl _ _), (by decide), (by decide)⟩ (sb5 rfl rfl rfl rfl rfl) ?_
  rintro ⟨x14, x16⟩ w18 ⟨hI19, hA20, r15, r17⟩ y21 h22 hR23
  refine cw_seq (cw_seq (cw_regF (s_mv rfl rfl (s_mv rfl rfl (s_len rfl (f_l_0.adv hI19.adv) Tryd.underlying22 rfl (s_lss rfl rfl rfl (Reg.nil (cw_cond rfl (fun hc24 => ?_) (fun hc24 => ?_)))))))))
  ·replace h22 := cdT hc24 h22
   refine cw_skip ?_
   obtain ⟨j25, h26, h22⟩ := bnd h22
   refine cw_keep [5, 0, 1, 6, 7] rfl (cw_seqD 1 (ι := Int) (fun x27 => [(5, vi x27)]) (fun x27 => fun w29 => Hp w [] M [] w29 ∧ Adv (mm [] M) (mm [] M) w18 w29 ∧ InK .i64 x27 ∧ x27 = j25) ?_ ?_)
   ·refine cw_block (cw_seq ?_)
    obtain ⟨j32, h33, h26⟩ := bnd h26
    refine cw_keep [0, 1, 5, 6, 7] rfl (cw_seqD 0 (ι := Bool) (fun x34 => [(64, Value.bool x34)]) (fun x34 => fun w35 => Hp w [] M [] w35 ∧ Adv (mm [] M) (mm [] M) w18 w35 ∧ x34 = j32) ?_ ?_)
    ·refine cw_regT fol (by kernel_rfl) ?_
     refine s_mv rfl rfl (s_mv rfl rfl ?_)
     obtain ⟨y38, hy38, h33⟩ := bnd h33
     refine p_ia rfl rfl (f_l_0.adv hI19.adv) hy38 Tryd.underlying22 Tryd.sizeOf61 rfl ?_
     intro b39 o40 cs41 hR42 hC43
     obtain ⟨rfl, r44, r45, r46, r47, r48, r49, r50, r51⟩ := ReportE_R.1 hR42
     refine s_fa rfl Tryd.underlying61 rfl Tryd.sizeOf5 rfl (s_ld rfl (hC43.cells.at 5 rfl) Tryd.isAgg5 rfl (s_neq rfl rfl rfl (s_mv rfl rfl (Reg.gsplit (t := 23) rfl (fun hg52 => ?_) (fun hg52 => ?_)))))
     ·replace h33 := cdT hg52 h33
      iterate 7 refine Reg.pass rfl rfl rfl rfl ?_
      refine s_pkT rfl rfl rfl (s_mv rfl rfl ?_)
      iterate 7 refine Reg.pass rfl rfl rfl rfl ?_
      refine s_pkT rfl rfl rfl (s_mv rfl rfl ?_)
      iterate 8 refine Reg.pass rfl rfl rfl rfl ?_
      refine s_pkT rfl rfl rfl (s_mv rfl rfl ?_)
      iterate 12 refine Reg.pass rfl rfl rfl rfl ?_
      refine s_pkT rfl rfl rfl (Reg.nilq (fun w53 e54 => ?_))
      have hI55 := hI19.ext e54
      obtain rfl := Option.some.inj h33
      refine ⟨rfl, true, ⟨hI55, (Adv.of_ext e54), rfl⟩, sb6 rfl rfl rfl rfl rfl rfl⟩
     replace h33 := cdF hg52 h33
     refine Reg.take rfl rfl (s_mv rfl rfl (Reg.take rfl rfl (s_mv rfl rfl (Reg.take rfl rfl ?_))))
     obtain ⟨y56, hy56, h33⟩ := bnd h33
     refine p_ia rfl rfl (f_l_0.adv hI19.adv) hy56 Tryd.underlying22 Tryd.sizeOf61 rfl ?_
     intro b57 o58 cs59 hR60 hC61
     obtain ⟨rfl, r62, r63, r64, r65, r66, r67, r68, r69⟩ := ReportE_R.1 hR60
     refine Reg.take rfl rfl (s_fa rfl Tryd.underlying61 rfl Tryd.sizeOf3 rfl (Reg.take rfl rfl (s_ld rfl (hC61.cells.at 7 rfl) Tryd.isAgg3 rfl (Reg.take rfl rfl (s_mv rfl rfl (Reg.take rfl rfl (s_neq rfl rfl rfl (s_pkF rfl rfl rfl (s_mv rfl rfl (Reg.gsplit (t := 32) rfl (fun hg70 => ?_) (fun hg70 => ?_)))))))))))
     ·replace h33 := cdT hg70 h33
      iterate 7 refine Reg.pass rfl rfl rfl rfl ?_
      refine s_pkT rfl rfl rfl (s_mv rfl rfl ?_)
      iterate 8 refine Reg.pass rfl rfl rfl rfl ?_
      refine s_pkT rfl rfl rfl (s_mv rfl rfl ?_)
      iterate 12 refine Reg.pass rfl rfl rfl rfl ?_
      refine s_pkT rfl rfl rfl (Reg.nilq (fun w71 e72 => ?_))
      have hI73 := hI19.ext e72
      obtain rfl := Option.some.inj h33
      refine ⟨rfl, true, ⟨hI73, (Adv.of_ext e72), rfl⟩, sb6 rfl rfl rfl rfl rfl rfl⟩
     replace h33 := cdF hg70 h33
     refine Reg.take rfl rfl (s_mv rfl rfl (Reg.take rfl rfl (s_mv rfl rfl (Reg.take rfl rfl (s_mv rfl rfl (Reg.take rfl rfl ?_))))))
     obtain ⟨y74, hy74, h33⟩ := bnd h33
     refine p_ia rfl rfl (f_l_0.adv hI19.adv) hy74 Tryd.underlying22 Tryd.sizeOf61 rfl ?_
     intro b75 o76 cs77 hR78 hC79
     obtain ⟨rfl, r80, r81, r82, r83, r84, r85, r86, r87⟩ := ReportE_R.1 hR78
     refine Reg.take rfl rfl (s_lda rfl hC79.cells Tryd.isAgg61 rfl Tryd.sizeOf61 rfl (Reg.take rfl rfl ?_))
     obtain ⟨z88, hz89, h33⟩ := bnd h33
     refine s_callq rfl rfl Tryd.call45 rfl (fun w90 e91 => (C_ref03_aims (hI19.mlt.ext e91) ((f_l_0.adv hI19.adv).adv (Adv.of_ext e91)) r80 r81 r82 r83 r84 r85 r86 r87 hz89).mono (fun _ _ hq => ⟨hq.1, hq.2⟩)) ?_
     refine Reg.take rfl rfl (s_not rfl rfl (s_pkF rfl rfl rfl (s_mv rfl rfl (Reg.gsplit (t := 41) rfl (fun hg92 => ?_) (fun hg92 => ?_)))))
     ·replace h33 := cdT hg92 h33
      iterate 8 refine Reg.pass rfl rfl rfl rfl ?_
      refine s_pkT rfl rfl rfl (s_mv rfl rfl ?_)
      iterate 12 refine Reg.pass rfl rfl rfl rfl ?_
      refine s_pkT rfl rfl rfl (Reg.nilq (fun w93 e94 => ?_))
      have hI95 := hI19.ext e94
      obtain rfl := Option.some.inj h33
      refine ⟨rfl, true, ⟨hI95, (Adv.of_ext e94), rfl⟩, sb6 rfl rfl rfl rfl rfl rfl⟩
     replace h33 := cdF hg92 h33
     refine Reg.take rfl rfl (s_mv rfl rfl (Reg.take rfl rfl (s_mv rfl rfl (Reg.take rfl rfl (s_mv rfl rfl (Reg.take rfl rfl ?_))))))
     obtain ⟨y96, hy96, h33⟩ := bnd h33
     refine p_ia rfl rfl (f_l_0.adv hI19.adv) hy96 Tryd.underlying22 Tryd.sizeOf61 rfl ?_
     intro b97 o98 cs99 hR100 hC101
     obtain ⟨rfl, r102, r103, r104, r105, r106, r107, r108, r109⟩ := ReportE_R.1 hR100
     refine Reg.take rfl rfl (s_fa rfl Tryd.underlying61 rfl Tryd.sizeOf3 rfl (Reg.take rfl rfl (s_ld rfl (hC101.cells.at 0 rfl) Tryd.isAgg3 rfl (Reg.take rfl rfl ?_))))
     obtain ⟨z110, hz111, h33⟩ := bnd h33
     refine s_callq rfl rfl Tryd.call46 rfl (fun w112 e113 => (C_ref03_withdrawn (hI19.mlt.ext e113) ((f_l_0.adv hI19.adv).adv (Adv.of_ext e113)) r102 hz111).mono (fun _ _ hq => ⟨hq.1, hq.2.2⟩)) ?_
     have r114 := Calls.fact (C_ref03_withdrawn hI19.mlt (f_l_0.adv hI19.adv) r102 hz111) (fun _ _ hq => hq.2.1)
     refine Reg.take rfl rfl (s_geq rfl rfl rfl (s_pkF rfl rfl rfl (s_mv rfl rfl (Reg.gsplit (t := 51) rfl (fun hg115 => ?_) (fun hg115 => ?_)))))
     ·replace h33 := cdT hg115 h33
      iterate 12 refine Reg.pass rfl rfl rfl rfl ?_
      refine s_pkT rfl rfl rfl (Reg.nilq (fun w116 e117 => ?_))
      have hI118 := hI19.ext e117
      obtain rfl := Option.some.inj h33
      refine ⟨rfl, true, ⟨hI118, (Adv.of_ext e117), rfl⟩, sb6 rfl rfl rfl rfl rfl rfl⟩
     replace h33 := cdF hg115 h33
     refine Reg.take rfl rfl (s_mv rfl rfl (Reg.take rfl rfl (s_mv rfl rfl (Reg.take rfl rfl ?_))))
     obtain ⟨y119, hy119, h33⟩ := bnd h33
     refine p_ia rfl rfl (f_l_0.adv hI19.adv) hy119 Tryd.underlying22 Tryd.sizeOf61 rfl ?_
     intro b120 o121 cs122 hR123 hC124
     obtain ⟨rfl, r125, r126, r127, r128, r129, r130, r131, r132⟩ := ReportE_R.1 hR123
     refine Reg.take rfl rfl (s_fa rfl Tryd.underlying61 rfl Tryd.sizeOf5 rfl (Reg.take rfl rfl (s_ld rfl (hC124.cells.at 5 rfl) Tryd.isAgg5 rfl (Reg.take rfl rfl (s_mv rfl rfl (Reg.take rfl rfl (s_mv rfl rfl (Reg.take rfl rfl ?_))))))))
     obtain ⟨y133, hy133, h33⟩ := bnd h33
     refine p_ia rfl rfl (f_l_0.adv hI19.adv) hy133 Tryd.underlying22 Tryd.sizeOf61 rfl ?_
     intro b134 o135 cs136 hR137 hC138
     obtain ⟨rfl, r139, r140, r141, r142, r143, r144, r145, r146⟩ := ReportE_R.1 hR137
     refine Reg.take rfl rfl (s_fa rfl Tryd.underlying61 rfl Tryd.sizeOf3 rfl (Reg.take rfl rfl (s_ld rfl (hC138.cells.at 6 rfl) Tryd.isAgg3 rfl (Reg.take rfl rfl ?_))))
     obtain ⟨z147, hz148, h33⟩ := bnd h33
     refine s_callq rfl rfl Tryd.call78 rfl (fun w149 e150 => (C_ref03_cents (hI19.mlt.ext e150) r130 r145 hz148).mono (fun _ _ hq => ⟨hq.1, hq.2⟩)) ?_
     refine Reg.take rfl rfl (s_not rfl rfl (s_pkF rfl rfl rfl (Reg.nilq (fun w151 e152 => ?_))))
     have hI153 := hI19.ext e152
     obtain rfl := Option.some.inj h33
     refine ⟨rfl, !z147, ⟨hI153, (Adv.of_ext e152), rfl⟩, sb6 rfl rfl rfl rfl rfl rfl⟩
    rintro x34 w35 ⟨hI36, hA37, rfl⟩
    refine cw_cond rfl (fun hc154 => ?_) (fun hc154 => ?_)
    ·replace h26 := cdT hc154 h26
     refine cw_exit (exB_same ?_)
     obtain rfl := Option.some.inj h26
     refine ⟨rfl, x14, ⟨hI36, hA37, r15, rfl⟩, sb5 rfl rfl rfl rfl rfl⟩
    replace h26 := cdF hc154 h26
    refine cw_skip ?_
    obtain ⟨j155, h156, h26⟩ := bnd h26
    refine cw_keep [0, 1, 5, 6, 7] rfl (cw_seqD 0 (ι := Bool) (fun x157 => [(105, Value.bool x157)]) (fun x157 => fun w158 => Hp w [] M [] w158 ∧ Adv (mm [] M) (mm [] M) w35 w158 ∧ x157 = j155) ?_ ?_)
    ·refine cw_regT fol (by kernel_rfl) ?_
     refine s_mv rfl rfl (s_lss rfl rfl rfl (s_mv rfl rfl (Reg.gsplit (t := 67) rfl (fun hg161 => ?_) (fun hg161 => ?_))))
     ·replace h156 := cdT hg161 h156
      iterate 13 refine Reg.pass rfl rfl rfl rfl ?_
      refine s_pkT rfl rfl rfl (s_mv rfl rfl ?_)
      iterate 14 refine Reg.pass rfl rfl rfl rfl ?_
      iterate 7 refine Reg.passU rfl rfl rfl ?_
      refine Reg.pass rfl rfl rfl rfl (s_pkT rfl rfl rfl (Reg.nilq (fun w162 e163 => ?_)))
      have hI164 := hI36.ext e163
      obtain rfl := Option.some.inj h156
      refine ⟨rfl, true, ⟨hI164, (Adv.of_ext e163), rfl⟩, sb6 rfl rfl rfl rfl rfl rfl⟩
     replace h156 := cdF hg161 h156
     refine Reg.take rfl rfl (s_mv rfl rfl (Reg.take rfl rfl (s_mv rfl rfl (Reg.take rfl rfl ?_))))
     obtain ⟨y165, hy165, h156⟩ := bnd h156
     refine p_ia rfl rfl (f_l_0.adv hI36.adv) hy165 Tryd.underlying22 Tryd.sizeOf61 rfl ?_
     intro b166 o167 cs168 hR169 hC170
     obtain ⟨rfl, r171, r172, r173, r174, r175, r176, r177, r178⟩ := ReportE_R.1 hR169
     refine Reg.take rfl rfl (s_fa rfl Tryd.underlying61 rfl Tryd.sizeOf3 rfl (Reg.take rfl rfl (s_ld rfl (hC170.cells.at 3 rfl) Tryd.isAgg3 rfl (Reg.take rfl rfl (s_mv rfl rfl (Reg.take rfl rfl (s_mv rfl rfl (Reg.take rfl rfl (s_mv rfl rfl (Reg.take rfl rfl ?_))))))))))
     obtain ⟨z179, hz180, h156⟩ := bnd h156
     refine s_callq rfl rfl Tryd.call44 rfl (fun w181 e182 => (C_ref03_At (hI36.mlt.ext e182) ((f_l_0.adv hI36.adv).adv (Adv.of_ext e182)) r15 hz180).mono (fun _ _ hq => ⟨hq.1, hq.2.2⟩)) ?_
     have r183 := Calls.fact (C_ref03_At hI36.mlt (f_l_0.adv hI36.adv) r15 hz180) (fun _ _ hq => hq.2.1)
     refine Reg.take rfl rfl ?_
     obtain ⟨y184, hy184, h156⟩ := bnd h156
     refine p_ia rfl rfl (f_l_0.adv hI36.adv) hy184 Tryd.underlying22 Tryd.sizeOf61 rfl ?_
     intro b185 o186 cs187 hR188 hC189
     obtain ⟨rfl, r190, r191, r192, r193, r194, r195, r196, r197⟩ := ReportE_R.1 hR188
     refine Reg.take rfl rfl (s_fa rfl Tryd.underlying61 rfl Tryd.sizeOf3 rfl (Reg.take rfl rfl (s_ld rfl (hC189.cells.at 3 rfl) Tryd.isAgg3 rfl (Reg.take rfl rfl (s_gtr rfl rfl rfl (s_pkF rfl rfl rfl (s_mv rfl rfl (Reg.gsplit (t := 82) rfl (fun hg198 => ?_) (fun hg198 => ?_)))))))))
     ·replace h156 := cdT hg198 h156
      iterate 14 refine Reg.pass rfl rfl rfl rfl ?_
      iterate 7 refine Reg.passU rfl rfl rfl ?_
      refine Reg.pass rfl rfl rfl rfl (s_pkT rfl rfl rfl (Reg.nilq (fun w199 e200 => ?_)))
      have hI201 := hI36.ext e200
      obtain rfl := Option.some.inj h156
      refine ⟨rfl, true, ⟨hI201, (Adv.of_ext e200), rfl⟩, sb6 rfl rfl rfl rfl rfl rfl⟩
     replace h156 := cdF hg198 h156
     refine Reg.take rfl rfl (s_mv rfl rfl (Reg.take rfl rfl (s_mv rfl rfl (Reg.take rfl rfl ?_))))
     obtain ⟨y202, hy202, h156⟩ := bnd h156
     refine p_ia rfl rfl (f_l_0.adv hI36.adv) hy202 Tryd.underlying22 Tryd.sizeOf61 rfl ?_
     intro b203 o204 cs205 hR206 hC207
     obtain ⟨rfl, r208, r209, r210, r211, r212, r213, r214, r215⟩ := ReportE_R.1 hR206
     refine Reg.take rfl rfl (s_fa rfl Tryd.underlying61 rfl Tryd.sizeOf3 rfl (Reg.take rfl rfl (s_ld rfl (hC207.cells.at 3 rfl) Tryd.isAgg3 rfl (Reg.take rfl rfl (s_mv rfl rfl (Reg.take rfl rfl (s_mv rfl rfl (Reg.take rfl rfl (s_mv rfl rfl (Reg.take rfl rfl ?_))))))))))
     obtain ⟨z216, hz217, h156⟩ := bnd h156
     refine s_callq rfl rfl Tryd.call44 rfl (fun w218 e219 => (C_ref03_At (hI36.mlt.ext e219) ((f_l_0.adv hI36.adv).adv (Adv.of_ext e219)) r15 hz217).mono (fun _ _ hq => ⟨hq.1, hq.2.2⟩)) ?_
     have r220 := Calls.fact (C_ref03_At hI36.mlt (f_l_0.adv hI36.adv) r15 hz217) (fun _ _ hq => hq.2.1)
     refine Reg.take rfl rfl ?_
     obtain ⟨y221, hy221, h156⟩ := bnd h156
     refine p_ia rfl rfl (f_l_0.adv hI36.adv) hy221 Tryd.underlying22 Tryd.sizeOf61 rfl ?_
     intro b222 o223 cs224 hR225 hC226
     obtain ⟨rfl, r227, r228, r229, r230, r231, r232, r233, r234⟩ := ReportE_R.1 hR225
     refine Reg.take rfl rfl (s_fa rfl Tryd.underlying61 rfl Tryd.sizeOf3 rfl (Reg.take rfl rfl (s_ld rfl (hC226.cells.at 3 rfl) Tryd.isAgg3 rfl (Reg.take rfl rfl (s_eql rfl rfl rfl (Reg.take rfl rfl (s_mv rfl rfl (Reg.gsplit (t := 96) rfl (fun hg235 => ?_) (fun hg235 => ?_)))))))))
     ·replace h156 := cdT hg235 h156
      refine Reg.take rfl rfl (s_mv rfl rfl (Reg.take rfl rfl (s_mv rfl rfl (Reg.take rfl rfl ?_))))
      obtain ⟨y236, hy236, h156⟩ := bnd h156
      refine p_ia rfl rfl (f_l_0.adv hI36.adv) hy236 Tryd.underlying22 Tryd.sizeOf61 rfl ?_
      intro b237 o238 cs239 hR240 hC241
      obtain ⟨rfl, r242, r243, r244, r245, r246, r247, r248, r249⟩ := ReportE_R.1 hR240
      refine Reg.take rfl rfl (s_fa rfl Tryd.underlying61 rfl Tryd.sizeOf3 rfl (Reg.take rfl rfl (s_ld rfl (hC241.cells.at 0 rfl) Tryd.isAgg3 rfl (Reg.take rfl rfl (s_mv rfl rfl (Reg.take rfl rfl (s_gtr rfl rfl rfl (Reg.take rfl rfl (s_pkT rfl rfl rfl (s_pkF rfl rfl rfl (Reg.nilq (fun w250 e251 => ?_))))))))))))
      have hI252 := hI36.ext e251
      obtain rfl := Option.some.inj h156
      refine ⟨rfl, decide (x14 < y236.id), ⟨hI252, (Adv.of_ext e251), rfl⟩, sb6 rfl rfl rfl rfl rfl rfl⟩
     replace h156 := cdF hg235 h156
     iterate 7 refine Reg.pass rfl rfl rfl rfl ?_
     refine Reg.take rfl rfl (s_pkF rfl rfl rfl (s_pkF rfl rfl rfl (Reg.nilq (fun w253 e254 => ?_))))
     have hI255 := hI36.ext e254
     obtain rfl := Option.some.inj h156
     refine ⟨rfl, false, ⟨hI255, (Adv.of_ext e254), rfl⟩, sb6 rfl rfl rfl rfl rfl rfl⟩
    rintro x157 w158 ⟨hI159, hA160, rfl⟩
    obtain ⟨j256, h257, h26⟩ := bnd h26
    refine cw_keep [5, 105, 0, 1, 6, 7] rfl (cw_unitD 2 (ι := Int) (fun x258 => [(5, vi x258)]) (fun x258 => fun w260 => w158 = w260 ∧ InK .i64 x258 ∧ x258 = j256) ?_ ?_)
    ·refine cw_cond rfl (fun hc263 => ?_) (fun hc263 => ?_)
     ·replace h257 := cdT hc263 h257
      refine cw_regF (s_mv rfl rfl (s_mv rfl rfl ?_))
      obtain ⟨y264, hy264, h257⟩ := bnd h257
      refine p_ia rfl rfl (f_l_0.adv hI159.adv) hy264 Tryd.underlying22 Tryd.sizeOf61 rfl ?_
      intro b265 o266 cs267 hR268 hC269
      obtain ⟨rfl, r270, r271, r272, r273, r274, r275, r276, r277⟩ := ReportE_R.1 hR268
      refine s_fa rfl Tryd.underlying61 rfl Tryd.sizeOf3 rfl (s_ld rfl (hC269.cells.at 0 rfl) Tryd.isAgg3 rfl (s_as rfl rfl (Reg.nil ?_)))
      obtain rfl := Option.some.inj h257
      refine ⟨rfl, y264.id, ⟨rfl, r270, rfl⟩, sb5 rfl rfl rfl rfl rfl⟩
     replace h257 := cdF hc263 h257
     refine cw_skip ?_
     obtain rfl := Option.some.inj h257
     refine ⟨rfl, x14, ⟨rfl, r15, rfl⟩, sb5 rfl rfl rfl rfl rfl⟩
    rintro x258 _ ⟨rfl, r259, rfl⟩
    obtain rfl := Option.some.inj h26
    refine ⟨rfl, x258, ⟨hI159, (hA37.trans hA160), r259, rfl⟩, sb5 rfl rfl rfl rfl rfl⟩
   rintro x27 w29 ⟨hI30, hA31, r28, rfl⟩
   refine cw_regF (s_mv rfl rfl ?_)
   obtain ⟨n278, hn278, h22⟩ := bnd h22
   replace hn278 := chk_out hn278
   refine p_add rfl rfl rfl hn278 (s_as rfl rfl (Reg.nil ?_))
   obtain rfl := Option.some.inj h22
   refine ⟨rfl, (x27, n278), ⟨⟨hI30, (hA20.trans hA31), r28, hn278.2⟩, rfl⟩, sb5 rfl rfl rfl rfl rfl⟩
  replace h22 := cdF hc24 h22
  refine cw_exit (exB_same ?_)
  obtain rfl := Option.some.inj h22
  obtain rfl := hR23 _ rfl
  refine ⟨rfl, x14, ⟨hI19, hA20, r15, rfl⟩, sb1 rfl⟩
 rintro x9 w11 ⟨hI12, hA13, r10, rfl⟩
 refine cw_seq (cw_regF (s_mv rfl rfl (s_as rfl rfl (Reg.nil (cw_ret ?_)))))
 obtain rfl := Option.some.inj h
 refine fin1 Tryd.results47 rfl ?_
 exact ⟨rfl, r10, hI12.kp⟩
noncomputable def P.ref03_before (a : Report) (b : Report) : Option Bool :=
  Option.bind (cond (decide (a.about < b.about)) (some true) (cond (decide (a.about = b.about)) (some (decide (a.id < b.id))) (some false))) fun x15 => some x15
theorem C_ref03_before {M : List Nat} {w : World} (hM : MLt M w) {a : Report} (f_a_0 : InK .i64 a.id) (f_a_1 : InK .i64 a.source) (f_a_2 : InK .i64 a.account) (f_a_3 : InK .i64 a.made) (f_a_4 : InK .i64 a.about) (f_a_5 : InK .u8 a.kind) (f_a_6 : InK .i64 a.cents) (f_a_7 : InK .i64 a.of_) {b : Report} (f_b_0 : InK .i64 b.id) (f_b_1 : InK .i64 b.source) (f_b_2 : InK .i64 b.account) (f_b_3 : InK .i64 b.made) (f_b_4 : InK .i64 b.about) (f_b_5 : InK .u8 b.kind) (f_b_6 : InK .i64 b.cents) (f_b_7 : InK .i64 b.of_) {r0 : Bool} (h : P.ref03_before a b = some r0) :
  Calls Tryd.prog 77 (List.toArray [Value.agg (List.toArray (vR a)), Value.agg (List.toArray (vR b))]) w fun e w' => e = .returned (Value.bool r0) ∧ Ext w w' := by
 have hI := Hp.start (Mu := []) hM
 refine calls_cw Tryd.func77 rfl Tryd.ntmps77 rfl ?_
 refine cw_seq (cw_regF (y_box hI rfl rfl rfl ?_))
 intro b1 w2 hI3 x4
 have hC6 := hI3.freezeRow 0 rfl
 have hI5 := hI3.erase 0
 refine y_box hI5 rfl rfl rfl ?_
 intro b7 w8 hI9 x10
 have hC12 := hI9.freezeRow 0 rfl
 have hI11 := hI9.erase 0
 refine s_as rfl rfl (Reg.nil ?_)
 obtain ⟨j13, h14, h⟩ := bnd h
 refine cw_keep [2, 3] rfl (cw_seqD 2 (ι := Bool) (fun x15 => [(4, Value.bool x15)]) (fun x15 => fun w16 => w8 = w16 ∧ x15 = j13) ?_ ?_)
 ·refine cw_regF (s_fa rfl Tryd.underlying61 rfl Tryd.sizeOf3 rfl (s_ld rfl ((hC6.adv (x10.trans (hI9.eraseH 0))).cells.at 4 rfl) Tryd.isAgg3 rfl (s_fa rfl Tryd.underlying61 rfl Tryd.sizeOf3 rfl (s_ld rfl (hC12.cells.at 4 rfl) Tryd.isAgg3 rfl (s_lss rfl rfl rfl (s_mv rfl rfl (Reg.gsplit (t := 10) rfl (fun hg19 => ?_) (fun hg19 => ?_))))))))
  ·replace h14 := cdT hg19 h14
   iterate 6 refine Reg.pass rfl rfl rfl rfl ?_
   iterate 5 refine Reg.passU rfl rfl rfl ?_
   refine Reg.pass rfl rfl rfl rfl (s_pkT rfl rfl rfl (s_as rfl rfl (Reg.nil ?_)))
   obtain rfl := Option.some.inj h14
   refine ⟨rfl, true, ⟨rfl, rfl⟩, sb1 rfl⟩
  replace h14 := cdF hg19 h14
  refine Reg.take rfl rfl (s_fa rfl Tryd.underlying61 rfl Tryd.sizeOf3 rfl (Reg.take rfl rfl (s_ld rfl ((hC6.adv (x10.trans (hI9.eraseH 0))).cells.at 4 rfl) Tryd.isAgg3 rfl (Reg.take rfl rfl (s_fa rfl Tryd.underlying61 rfl Tryd.sizeOf3 rfl (Reg.take rfl rfl (s_ld rfl (hC12.cells.at 4 rfl) Tryd.isAgg3 rfl (Reg.take rfl rfl (s_eql rfl rfl rfl (Reg.take rfl rfl (s_mv rfl rfl ?_)))))))))))
  refine Reg.gsplit (t := 16) rfl (fun hg20 => ?_) (fun hg20 => ?_)
  ·replace h14 := cdT hg20 h14
   refine Reg.take rfl rfl (s_fa rfl Tryd.underlying61 rfl Tryd.sizeOf3 rfl (Reg.take rfl rfl (s_ld rfl ((hC6.adv (x10.trans (hI9.eraseH 0))).cells.at 0 rfl) Tryd.isAgg3 rfl (Reg.take rfl rfl (s_fa rfl Tryd.underlying61 rfl Tryd.sizeOf3 rfl (Reg.take rfl rfl (s_ld rfl (hC12.cells.at 0 rfl) Tryd.isAgg3 rfl (Reg.take rfl rfl (s_lss rfl rfl rfl (Reg.take rfl rfl (s_pkT rfl rfl rfl ?_)))))))))))
   refine s_pkF rfl rfl rfl (s_as rfl rfl (Reg.nil ?_))
   obtain rfl := Option.some.inj h14
   refine ⟨rfl, decide (a.id < b.id), ⟨rfl, rfl⟩, sb1 rfl⟩
  replace h14 := cdF hg20 h14
  iterate 5 refine Reg.pass rfl rfl rfl rfl ?_
  refine Reg.take rfl rfl (s_pkF rfl rfl rfl (s_pkF rfl rfl rfl (s_as rfl rfl (Reg.nil ?_))))
  obtain rfl := Option.some.inj h14
  refine ⟨rfl, false, ⟨rfl, rfl⟩, sb1 rfl⟩
 rintro x15 _ ⟨rfl, rfl⟩
 refine cw_ret ?_
 obtain rfl := Option.some.inj h
 refine fin1 Tryd.results77 rfl ?_
 exact ⟨rfl, hI11.kp⟩
noncomputable def P.ref03_standing (l : (List Report)) : Option (List Report) :=
  Option.bind (loopM (S := (List Report) × Int) (R := ((List Report))) (fun (x1, x2) => cond (decide (x2 < (l.length : Int))) (Option.bind (Option.bind (ixo l x2) fun y4 => Option.bind (cond (decide (7 < y4.kind)) (some true) (Option.bind (P.ref03_withdrawn l y4.id) fun z26 => some (decide (0 ≤ z26)))) fun x32 => cond x32 (some x1) (Option.bind (Option.bind (P.ref03_corrected l y4.id) fun z34 => Option.bind (cond (decide (0 ≤ z34)) (Option.bind (Option.bind (P.ref03_At l z34) fun z41 => Option.bind (ixo l z41) fun y46 => Option.bind (P.ref03_At l z34) fun z60 => Option.bind (ixo l z60) fun y68 => some (y46.about, y68.cents)) fun (x107, x108) => some (x107, x108)) (some (y4.about, y4.cents))) fun (x109, x110) => some (x109, x110)) fun (x111, x112) => Option.bind (appo 64 x1 ([(Report.mk y4.id y4.source y4.account y4.made x111 y4.kind x112 y4.of_)] : List Report)) fun l119 => Option.bind (chk .i64 ((l119.length : Int) - 1)) fun n124 => Option.bind (loopM (S := Int × (List Report)) (R := ((List Report))) (fun (x125, x126) => Option.bind (cond (decide (0 < x125)) (Option.bind (ixo x126 x125) fun y128 => Option.bind (chk .i64 (x125 - 1)) fun n142 => Option.bind (ixo x126 n142) fun y143 => Option.bind (P.ref03_before y128 y143) fun z157 => some z157) (some false)) fun x167 => cond x167 (Option.bind (Option.bind (chk .i64 (x125 - 1)) fun n169 => Option.bind (ixo x126 n169) fun y170 => Option.bind (ixo x126 x125) fun y184 => Option.bind (ixo x126 x125) fun y198 => Option.bind (chk .i64 (x125 - 1)) fun n215 => Option.bind (seto x126 x125 (Report.mk y170.id y170.source y170.account y170.made y170.about y170.kind y170.cents y170.of_)) fun l231 => Option.bind (ixo l231 n215) fun y238 => Option.bind (seto l231 n215 (Report.mk y184.id y184.source y184.account y184.made y184.about y184.kind y184.cents y184.of_)) fun l266 => some l266) fun x273 => Option.bind (chk .i64 (x125 - 1)) fun n274 => some (.inl (n274, x273))) (some (.inr x126))) (n124, l119)) fun x275 => some x275)) fun x276 => Option.bind (chk .i64 (x2 + 1)) fun n277 => some (.inl (x276, n277))) (some (.inr x1))) ([], 0)) fun x278 => some x278
theorem C_ref03_standing {M : List Nat} {w : World} (hM : MLt M w) {l : (List Report)} {v_l_0 : Value} (f_l_0 : RdS ReportE M w v_l_0 l) {r0 : (List Report)} (h : P.ref03_standing l = some r0) :
  Calls Tryd.prog 40 (List.toArray [v_l_0]) w fun e w' => ∃ v0_0 : Value, e = .returned (v0_0) ∧ (Own ReportE 61 0 M w' v0_0 r0 ∧ ∀ b ∈ ob v0_0, w.heap.size ≤ b) ∧ Ext w w' := by
 have hI := Hp.start (Mu := []) hM
 refine calls_cw Tryd.func40 rfl Tryd.ntmps40 rfl ?_
 refine cw_seq (cw_regF (s_as rfl rfl (Reg.nil (cw_seq (cw_regF (s_as rfl rfl (Reg.nil (cw_seq (cw_seq (cw_regF (s_as rfl rfl ?_)))))))))))
 refine Reg.nil ?_
 obtain ⟨j1, h2, h⟩ := bnd h
 refine cw_keep [0, 3, 4] rfl (cw_unitD 3 (ι := (List Report) × Value) (fun ⟨x3, v4⟩ => [(3, v4)]) (fun ⟨x3, v4⟩ => fun w5 => Hp w [] M [ownR [] ReportE 61 v4 x3] w5 ∧ Adv (mm [] M) (mm [ownR [] ReportE 61 v4 x3] M) w w5 ∧ x3 = j1) ?_ ?_)
 ·refine cw_block (cw_keep [3, 4, 0] rfl ?_)
  have hI15 := hI.addNil ReportE 61
  refine cw_loopM 2 (ι := (List Report) × Int × Value) _ (fun ⟨x8, x10, v9⟩ => [(3, v9), (4, vi x10)]) (fun ⟨x8, x10, v9⟩ => (x8, x10)) (fun ⟨x8, x10, v9⟩ => fun w12 => Hp w [] M [ownR [] ReportE 61 v9 x8] w12 ∧ Adv (mm [] M) (mm [ownR [] ReportE 61 v9 x8] M) w w12 ∧ InK .i64 x10) (([] : List Report), 0, (vn)) h2 ⟨hI15, hI15.adv, (by decide)⟩ (sb3 rfl rfl rfl) ?_
  rintro ⟨x8, x10, v9⟩ w12 ⟨hI13, hA14, r11⟩ y16 h17 hR18
  refine cw_seq (cw_seq (cw_regF (s_mv rfl rfl (s_mv rfl rfl (s_len rfl (f_l_0.adv hI13.adv) Tryd.underlying22 rfl (s_lss rfl rfl rfl (Reg.nil (cw_cond rfl (fun hc19 => ?_) (fun hc19 => ?_)))))))))
  ·replace h17 := cdT hc19 h17
   refine cw_skip ?_
   obtain ⟨j20, h21, h17⟩ := bnd h17
   refine cw_keep [3, 0, 4] rfl (cw_seqD 1 (ι := (List Report) × Value) (fun ⟨x22, v23⟩ => [(3, v23)]) (fun ⟨x22, v23⟩ => fun w24 => Hp w [] M [ownR [] ReportE 61 v23 x22] w24 ∧ Adv (mm [ownR [] ReportE 61 v9 x8] M) (mm [ownR [] ReportE 61 v23 x22] M) w12 w24 ∧ x22 = j20) ?_ ?_)
   ·refine cw_block (cw_seq (cw_regF (s_mv rfl rfl (s_mv rfl rfl ?_))))
    obtain ⟨y27, hy27, h21⟩ := bnd h21
    refine p_ia rfl rfl (f_l_0.adv hI13.adv) hy27 Tryd.underlying22 Tryd.sizeOf61 rfl ?_
    intro b28 o29 cs30 hR31 hC32
    obtain ⟨rfl, r33, r34, r35, r36, r37, r38, r39, r40⟩ := ReportE_R.1 hR31
    refine s_lda rfl hC32.cells Tryd.isAgg61 rfl Tryd.sizeOf61 rfl (y_al hI13 Tryd.zeroValue61 rfl rfl ?_)
    intro b41 w42 hI43 x44
    refine y_st 0 hI43 rfl rfl rfl rfl Tryd.sizeOf61 rfl rfl (on8 rfl rfl rfl rfl rfl rfl rfl rfl) ?_
    intro w45 hI46 x47
    refine Reg.nil (cw_seq ?_)
    obtain ⟨j48, h49, h21⟩ := bnd h21
    refine cw_keep [0, 3, 4, 5] rfl (cw_seqD 0 (ι := Bool) (fun x50 => [(27, Value.bool x50)]) (fun x50 => fun w51 => Hp w [] M [rowR 61 b41 (vR y27), ownR [] ReportE 61 v9 x8] w51 ∧ Adv (mm [rowR 61 b41 (vR y27), ownR [] ReportE 61 v9 x8] M) (mm [rowR 61 b41 (vR y27), ownR [] ReportE 61 v9 x8] M) w45 w51 ∧ x50 = j48) ?_ ?_)
    ·refine cw_regF (s_fa rfl Tryd.underlying61 rfl Tryd.sizeOf5 rfl (s_ld rfl ((hI46.row 0 rfl).rd.cells.at 5 rfl) Tryd.isAgg5 rfl (s_gtr rfl rfl rfl (s_mv rfl rfl (Reg.gsplit (t := 21) rfl (fun hg54 => ?_) (fun hg54 => ?_))))))
     ·replace h49 := cdT hg54 h49
      iterate 5 refine Reg.pass rfl rfl rfl rfl ?_
      refine s_pkT rfl rfl rfl (Reg.nil ?_)
      obtain rfl := Option.some.inj h49
      refine ⟨rfl, true, ⟨hI46, (Adv.refl _ _), rfl⟩, sb5 rfl rfl rfl rfl rfl⟩
     replace h49 := cdF hg54 h49
     refine Reg.take rfl rfl (s_mv rfl rfl (Reg.take rfl rfl (s_fa rfl Tryd.underlying61 rfl Tryd.sizeOf3 rfl (Reg.take rfl rfl (s_ld rfl ((hI46.row 0 rfl).rd.cells.at 0 rfl) Tryd.isAgg3 rfl (Reg.take rfl rfl ?_))))))
     obtain ⟨z55, hz56, h49⟩ := bnd h49
     refine s_call rfl Tryd.call46 rfl ((C_ref03_withdrawn hI46.mlt (f_l_0.adv hI46.adv) r33 hz56).mono ?_)
     rintro _ w57 ⟨rfl, r59, e58⟩
     refine ⟨_, rfl, ?_⟩
     have hI60 := hI46.ext e58
     refine Reg.take rfl rfl (s_geq rfl rfl rfl (s_pkF rfl rfl rfl (Reg.nil ?_)))
     obtain rfl := Option.some.inj h49
     refine ⟨rfl, decide (0 ≤ z55), ⟨hI60, (Adv.of_ext e58), rfl⟩, sb5 rfl rfl rfl rfl rfl⟩
    rintro x50 w51 ⟨hI52, hA53, rfl⟩
    refine cw_cond rfl (fun hc61 => ?_) (fun hc61 => ?_)
    ·replace h21 := cdT hc61 h21
     refine cw_exit (exB_same ?_)
     obtain rfl := Option.some.inj h21
     refine ⟨rfl, (x8, v9), ⟨(hI52.sel [1] rfl), ((x44.trans (x47.trans hA53)).trans (Hp.selA (σ := [rowR 61 b41 (vR y27), ownR [] ReportE 61 v9 x8]) [1])), rfl⟩, sb3 rfl rfl rfl⟩
    replace h21 := cdF hc61 h21
    refine cw_skip ?_
    obtain ⟨j62, h63, h21⟩ := bnd h21
    refine cw_keep [0, 3, 4, 5] rfl (cw_seqD 0 (ι := Int × Int) (fun ⟨x64, x66⟩ => []) (fun ⟨x64, x66⟩ => fun w68 => Hp w [] M [rowR 61 b41 [vi y27.id, vi y27.source, vi y27.account, vi y27.made, vi x64, vu y27.kind, vi x66, vi y27.of_], ownR [] ReportE 61 v9 x8] w68 ∧ Adv (mm [rowR 61 b41 (vR y27), ownR [] ReportE 61 v9 x8] M) (mm [rowR 61 b41 [vi y27.id, vi y27.source, vi y27.account, vi y27.made, vi x64, vu y27.kind, vi x66, vi y27.of_], ownR [] ReportE 61 v9 x8] M) w51 w68 ∧ InK .i64 x64 ∧ InK .i64 x66 ∧ (x64, x66) = j62) ?_ ?_)
    ·refine cw_seq (cw_regF (s_mv rfl rfl (s_fa rfl Tryd.underlying61 rfl Tryd.sizeOf3 rfl (s_ld rfl ((hI52.row 0 rfl).rd.cells.at 0 rfl) Tryd.isAgg3 rfl ?_))))
     obtain ⟨z71, hz72, h63⟩ := bnd h63
     refine s_call rfl Tryd.call47 rfl ((C_ref03_corrected hI52.mlt (f_l_0.adv hI52.adv) r33 hz72).mono ?_)
     rintro _ w73 ⟨rfl, r75, e74⟩
     refine ⟨_, rfl, ?_⟩
     have hI76 := hI52.ext e74
     refine s_as rfl rfl (Reg.nil (cw_seq (cw_regF (s_mv rfl rfl (s_geq rfl rfl rfl (Reg.nil ?_))))))
     obtain ⟨j77, h78, h63⟩ := bnd h63
     refine cw_keep [6, 33, 0, 3, 4, 5] rfl (cw_unitD 2 (ι := Int × Int) (fun ⟨x79, x81⟩ => []) (fun ⟨x79, x81⟩ => fun w83 => Hp w [] M [rowR 61 b41 [vi y27.id, vi y27.source, vi y27.account, vi y27.made, vi x79, vu y27.kind, vi x81, vi y27.of_], ownR [] ReportE 61 v9 x8] w83 ∧ Adv (mm [rowR 61 b41 (vR y27), ownR [] ReportE 61 v9 x8] M) (mm [rowR 61 b41 [vi y27.id, vi y27.source, vi y27.account, vi y27.made, vi x79, vu y27.kind, vi x81, vi y27.of_], ownR [] ReportE 61 v9 x8] M) w73 w83 ∧ InK .i64 x79 ∧ InK .i64 x81 ∧ (x79, x81) = j77) ?_ ?_)
     ·refine cw_cond rfl (fun hc86 => ?_) (fun hc86 => ?_)
      ·replace h78 := cdT hc86 h78
       obtain ⟨j87, h88, h78⟩ := bnd h78
       refine cw_keep [6, 0, 3, 4, 5] rfl (cw_unitD 1 (ι := Int × Int) (fun ⟨x89, x91⟩ => []) (fun ⟨x89, x91⟩ => fun w93 => Hp w [] M [rowR 61 b41 [vi y27.id, vi y27.source, vi y27.account, vi y27.made, vi x89, vu y27.kind, vi x91, vi y27.of_], ownR [] ReportE 61 v9 x8] w93 ∧ Adv (mm [rowR 61 b41 (vR y27), ownR [] ReportE 61 v9 x8] M) (mm [rowR 61 b41 [vi y27.id, vi y27.source, vi y27.account, vi y27.made, vi x89, vu y27.kind, vi x91, vi y27.of_], ownR [] ReportE 61 v9 x8] M) w73 w93 ∧ InK .i64 x89 ∧ InK .i64 x91 ∧ (x89, x91) = j87) ?_ ?_)
       ·refine cw_regSea [0, 1, 2, 3, 4, 5, 6, 7, 8, 9, 10, 14] [11, 12, 13, 15, 16, 17] [] [15, 17] [[15, 3], [15, 4], [15, 5], [15, 6], [15, 10], [15, 14], [17, 3], [17, 4], [17, 5], [17, 6], [17, 10], [17, 14]] [] fol (by kernel_rfl) rfl (by kernel_rfl) rfl rfl ?_
        iterate 3 refine s_mv rfl rfl ?_
        obtain ⟨z96, hz97, h88⟩ := bnd h88
        refine s_callq rfl rfl Tryd.call44 rfl (fun w98 e99 => (C_ref03_At (hI76.mlt.ext e99) ((f_l_0.adv hI76.adv).adv (Adv.of_ext e99)) r75 hz97).mono (fun _ _ hq => ⟨hq.1, hq.2.2⟩)) ?_
        have r100 := Calls.fact (C_ref03_At hI76.mlt (f_l_0.adv hI76.adv) r75 hz97) (fun _ _ hq => hq.2.1)
        obtain ⟨y101, hy101, h88⟩ := bnd h88
        refine p_ia rfl rfl (f_l_0.adv hI76.adv) hy101 Tryd.underlying22 Tryd.sizeOf61 rfl ?_
        intro b102 o103 cs104 hR105 hC106
        obtain ⟨rfl, r107, r108, r109, r110, r111, r112, r113, r114⟩ := ReportE_R.1 hR105
        refine s_fa rfl Tryd.underlying61 rfl Tryd.sizeOf3 rfl (s_ld rfl (hC106.cells.at 4 rfl) Tryd.isAgg3 rfl ?_)
        iterate 3 refine s_mv rfl rfl ?_
        obtain ⟨z115, hz116, h88⟩ := bnd h88
        refine s_callq rfl rfl Tryd.call44 rfl (fun w117 e118 => (C_ref03_At (hI76.mlt.ext e118) ((f_l_0.adv hI76.adv).adv (Adv.of_ext e118)) r75 hz116).mono (fun _ _ hq => ⟨hq.1, hq.2.2⟩)) ?_
        have r119 := Calls.fact (C_ref03_At hI76.mlt (f_l_0.adv hI76.adv) r75 hz116) (fun _ _ hq => hq.2.1)
        refine s_fa rfl Tryd.underlying61 rfl Tryd.sizeOf3 rfl (Reg.nilX ⟨rfl, rfl, rfl, ?_⟩)
        intro w120 e121
        have hI122 := (Hp.start (Mu := []) hI76.mlt).ext e121
        obtain ⟨y123, hy123, h88⟩ := bnd h88
        refine SeaWalk.step [11, 15] (by kernel_rfl) (AllL.cons ?_ (AllL.cons ?_ (AllL.nil)))
        ·refine ⟨_, [], rfl, RSub.nil, rfl, nodupB_spec rfl, ?_⟩
         simp only [relOut]
         refine p_ia rfl rfl (f_l_0.adv (hI76.adv.trans (Adv.of_ext e121))) hy123 Tryd.underlying22 Tryd.sizeOf61 rfl ?_
         intro b162 o163 cs164 hR165 hC166
         obtain ⟨rfl, r167, r168, r169, r170, r171, r172, r173, r174⟩ := ReportE_R.1 hR165
         refine Reg.nil ⟨rfl, .inr hI122.kp, rfl, ?_⟩
         intro w175 e176
         have hI177 := hI122.ext e176
         refine SeaWalk.step [12, 15] (by kernel_rfl) (AllL.cons ?_ (AllL.cons ?_ (AllL.nil)))
         ·refine ⟨_, [], rfl, RSub.nil, rfl, nodupB_spec rfl, ?_⟩
          simp only [relOut]
          refine s_fa rfl Tryd.underlying61 rfl Tryd.sizeOf3 rfl (Reg.nil ⟨rfl, .inr hI177.kp, rfl, ?_⟩)
          intro w178 e179
          have hI180 := hI177.ext e179
          refine SeaWalk.step [13, 15] (by kernel_rfl) (AllL.cons ?_ (AllL.cons ?_ (AllL.nil)))
          ·refine ⟨_, [], rfl, RSub.nil, rfl, nodupB_spec rfl, ?_⟩
           simp only [relOut]
           refine s_ld rfl ((hC166.adv ((Adv.of_ext e176).trans (Adv.of_ext e179))).cells.at 6 rfl) Tryd.isAgg3 rfl (Reg.nil ⟨rfl, .inr hI180.kp, rfl, ?_⟩)
           intro w181 e182
           have hI183 := hI180.ext e182
           refine SeaWalk.step [15] (by kernel_rfl) (AllL.cons ?_ (AllL.nil))
           refine ⟨_, [], rfl, RSub.nil, rfl, nodupB_spec rfl, ?_⟩
           simp only [relOut]
           have hI184 := hI76.join hI183
           refine y_st 0 hI184 rfl rfl rfl rfl Tryd.sizeOf3 rfl rfl (one1 rfl one0) ?_
           intro w185 hI186 x187
           refine Reg.nil ⟨rfl, .inl rfl, rfl, ?_⟩
           intro w188 e189
           have hI190 := hI186.ext e189
           refine SeaWalk.step [16] (by kernel_rfl) (AllL.cons ?_ (AllL.nil))
           refine ⟨_, [], rfl, RSub.nil, rfl, nodupB_spec rfl, ?_⟩
           simp only [relOut]
           refine s_fa rfl Tryd.underlying61 rfl Tryd.sizeOf3 rfl (Reg.nil ⟨rfl, .inl rfl, rfl, ?_⟩)
           intro w191 e192
           have hI193 := hI190.ext e192
           refine SeaWalk.step [17] (by kernel_rfl) (AllL.cons ?_ (AllL.nil))
           refine ⟨_, [], rfl, RSub.nil, rfl, nodupB_spec rfl, ?_⟩
           simp only [relOut]
           refine y_st 0 hI193 rfl rfl rfl rfl Tryd.sizeOf3 rfl rfl (one1 rfl one0) ?_
           intro w194 hI195 x196
           refine Reg.nil ⟨rfl, .inl rfl, rfl, ?_⟩
           intro w197 e198
           have hI199 := hI195.ext e198
           refine SeaWalk.done ?_
           obtain rfl := Option.some.inj h88
           refine ⟨rfl, (y101.about, y123.cents), ⟨hI199, ((Adv.of_ext e121).trans ((Adv.of_ext e176).trans ((Adv.of_ext e179).trans ((Adv.of_ext e182).trans (x187.trans ((Adv.of_ext e189).trans ((Adv.of_ext e192).trans (x196.trans (Adv.of_ext e198))))))))), r111, r173, rfl⟩, sb4 rfl rfl rfl rfl⟩
          refine ⟨_, [], rfl, RSub.nil, rfl, nodupB_spec rfl, ?_⟩
          simp only [relOut]
          have hI200 := hI76.join hI180
          refine y_st 0 hI200 rfl rfl rfl rfl Tryd.sizeOf3 rfl rfl (one1 rfl one0) ?_
          intro w201 hI202 x203
          refine Reg.nil ⟨rfl, .inl rfl, rfl, ?_⟩
          intro w204 e205
          have hI206 := hI202.ext e205
          refine SeaWalk.step [13] (by kernel_rfl) (AllL.cons ?_ (AllL.nil))
          refine ⟨_, [], rfl, RSub.nil, rfl, nodupB_spec rfl, ?_⟩
          simp only [relOut]
          refine s_ld rfl ((hC166.adv ((Adv.of_ext e176).trans ((Adv.of_ext e179).trans (x203.trans (Adv.of_ext e205))))).cells.at 6 rfl) Tryd.isAgg3 rfl (Reg.nil ⟨rfl, .inl rfl, rfl, ?_⟩)
          intro w207 e208
          have hI209 := hI206.ext e208
          refine SeaWalk.step [16] (by kernel_rfl) (AllL.cons ?_ (AllL.nil))
          refine ⟨_, [], rfl, RSub.nil, rfl, nodupB_spec rfl, ?_⟩
          simp only [relOut]
          refine s_fa rfl Tryd.underlying61 rfl Tryd.sizeOf3 rfl (Reg.nil ⟨rfl, .inl rfl, rfl, ?_⟩)
          intro w210 e211
          have hI212 := hI209.ext e211
          refine SeaWalk.step [17] (by kernel_rfl) (AllL.cons ?_ (AllL.nil))
          refine ⟨_, [], rfl, RSub.nil, rfl, nodupB_spec rfl, ?_⟩
          simp only [relOut]
          refine y_st 0 hI212 rfl rfl rfl rfl Tryd.sizeOf3 rfl rfl (one1 rfl one0) ?_
          intro w213 hI214 x215
          refine Reg.nil ⟨rfl, .inl rfl, rfl, ?_⟩
          intro w216 e217
          have hI218 := hI214.ext e217
          refine SeaWalk.done ?_
          obtain rfl := Option.some.inj h88
          refine ⟨rfl, (y101.about, y123.cents), ⟨hI218, ((Adv.of_ext e121).trans ((Adv.of_ext e176).trans ((Adv.of_ext e179).trans (x203.trans ((Adv.of_ext e205).trans ((Adv.of_ext e208).trans ((Adv.of_ext e211).trans (x215.trans (Adv.of_ext e217))))))))), r111, r173, rfl⟩, sb4 rfl rfl rfl rfl⟩
         refine ⟨_, [], rfl, RSub.nil, rfl, nodupB_spec rfl, ?_⟩
         simp only [relOut]
         have hI219 := hI76.join hI177
         refine y_st 0 hI219 rfl rfl rfl rfl Tryd.sizeOf3 rfl rfl (one1 rfl one0) ?_
         intro w220 hI221 x222
         refine Reg.nil ⟨rfl, .inl rfl, rfl, ?_⟩
         intro w223 e224
         have hI225 := hI221.ext e224
         refine SeaWalk.step [12] (by kernel_rfl) (AllL.cons ?_ (AllL.nil))
         refine ⟨_, [], rfl, RSub.nil, rfl, nodupB_spec rfl, ?_⟩
         simp only [relOut]
         refine s_fa rfl Tryd.underlying61 rfl Tryd.sizeOf3 rfl (Reg.nil ⟨rfl, .inl rfl, rfl, ?_⟩)
         intro w226 e227
         have hI228 := hI225.ext e227
         refine SeaWalk.step [13] (by kernel_rfl) (AllL.cons ?_ (AllL.nil))
         refine ⟨_, [], rfl, RSub.nil, rfl, nodupB_spec rfl, ?_⟩
         simp only [relOut]
         refine s_ld rfl ((hC166.adv ((Adv.of_ext e176).trans (x222.trans ((Adv.of_ext e224).trans (Adv.of_ext e227))))).cells.at 6 rfl) Tryd.isAgg3 rfl (Reg.nil ⟨rfl, .inl rfl, rfl, ?_⟩)
         intro w229 e230
         have hI231 := hI228.ext e230
         refine SeaWalk.step [16] (by kernel_rfl) (AllL.cons ?_ (AllL.nil))
         refine ⟨_, [], rfl, RSub.nil, rfl, nodupB_spec rfl, ?_⟩
         simp only [relOut]
         refine s_fa rfl Tryd.underlying61 rfl Tryd.sizeOf3 rfl (Reg.nil ⟨rfl, .inl rfl, rfl, ?_⟩)
         intro w232 e233
         have hI234 := hI231.ext e233
         refine SeaWalk.step [17] (by kernel_rfl) (AllL.cons ?_ (AllL.nil))
         refine ⟨_, [], rfl, RSub.nil, rfl, nodupB_spec rfl, ?_⟩
         simp only [relOut]
         refine y_st 0 hI234 rfl rfl rfl rfl Tryd.sizeOf3 rfl rfl (one1 rfl one0) ?_
         intro w235 hI236 x237
         refine Reg.nil ⟨rfl, .inl rfl, rfl, ?_⟩
         intro w238 e239
         have hI240 := hI236.ext e239
         refine SeaWalk.done ?_
         obtain rfl := Option.some.inj h88
         refine ⟨rfl, (y101.about, y123.cents), ⟨hI240, ((Adv.of_ext e121).trans ((Adv.of_ext e176).trans (x222.trans ((Adv.of_ext e224).trans ((Adv.of_ext e227).trans ((Adv.of_ext e230).trans ((Adv.of_ext e233).trans (x237.trans (Adv.of_ext e239))))))))), r111, r173, rfl⟩, sb4 rfl rfl rfl rfl⟩
        refine ⟨_, [], rfl, RSub.nil, rfl, nodupB_spec rfl, ?_⟩
        simp only [relOut]
        have hI241 := hI76.join hI122
        refine y_st 0 hI241 rfl rfl rfl rfl Tryd.sizeOf3 rfl rfl (one1 rfl one0) ?_
        intro w242 hI243 x244
        refine Reg.nil ⟨rfl, .inl rfl, rfl, ?_⟩
        intro w245 e246
        have hI247 := hI243.ext e246
        refine SeaWalk.step [11] (by kernel_rfl) (AllL.cons ?_ (AllL.nil))
        refine ⟨_, [], rfl, RSub.nil, rfl, nodupB_spec rfl, ?_⟩
        simp only [relOut]
        refine p_ia rfl rfl (f_l_0.adv hI247.adv) hy123 Tryd.underlying22 Tryd.sizeOf61 rfl ?_
        intro b248 o249 cs250 hR251 hC252
        obtain ⟨rfl, r253, r254, r255, r256, r257, r258, r259, r260⟩ := ReportE_R.1 hR251
        refine Reg.nil ⟨rfl, .inl rfl, rfl, ?_⟩
        intro w261 e262
        have hI263 := hI247.ext e262
        refine SeaWalk.step [12] (by kernel_rfl) (AllL.cons ?_ (AllL.nil))
        refine ⟨_, [], rfl, RSub.nil, rfl, nodupB_spec rfl, ?_⟩
        simp only [relOut]
        refine s_fa rfl Tryd.underlying61 rfl Tryd.sizeOf3 rfl (Reg.nil ⟨rfl, .inl rfl, rfl, ?_⟩)
        intro w264 e265
        have hI266 := hI263.ext e265
        refine SeaWalk.step [13] (by kernel_rfl) (AllL.cons ?_ (AllL.nil))
        refine ⟨_, [], rfl, RSub.nil, rfl, nodupB_spec rfl, ?_⟩
        simp only [relOut]
        refine s_ld rfl ((hC252.adv ((Adv.of_ext e262).trans (Adv.of_ext e265))).cells.at 6 rfl) Tryd.isAgg3 rfl (Reg.nil ⟨rfl, .inl rfl, rfl, ?_⟩)
        intro w267 e268
        have hI269 := hI266.ext e268
        refine SeaWalk.step [16] (by kernel_rfl) (AllL.cons ?_ (AllL.nil))
        refine ⟨_, [], rfl, RSub.nil, rfl, nodupB_spec rfl, ?_⟩
        simp only [relOut]
        refine s_fa rfl Tryd.underlying61 rfl Tryd.sizeOf3 rfl (Reg.nil ⟨rfl, .inl rfl, rfl, ?_⟩)
        intro w270 e271
        have hI272 := hI269.ext e271
        refine SeaWalk.step [17] (by kernel_rfl) (AllL.cons ?_ (AllL.nil))
        refine ⟨_, [], rfl, RSub.nil, rfl, nodupB_spec rfl, ?_⟩
        simp only [relOut]
        refine y_st 0 hI272 rfl rfl rfl rfl Tryd.sizeOf3 rfl rfl (one1 rfl one0) ?_
        intro w273 hI274 x275
        refine Reg.nil ⟨rfl, .inl rfl, rfl, ?_⟩
        intro w276 e277
        have hI278 := hI274.ext e277
        refine SeaWalk.done ?_
        obtain rfl := Option.some.inj h88
        refine ⟨rfl, (y101.about, y123.cents), ⟨hI278, ((Adv.of_ext e121).trans (x244.trans ((Adv.of_ext e246).trans ((Adv.of_ext e262).trans ((Adv.of_ext e265).trans ((Adv.of_ext e268).trans ((Adv.of_ext e271).trans (x275.trans (Adv.of_ext e277))))))))), r111, r259, rfl⟩, sb4 rfl rfl rfl rfl⟩
       rintro ⟨x89, x91⟩ w93 ⟨hI94, hA95, r90, r92, rfl⟩
       obtain rfl := Option.some.inj h78
       refine ⟨rfl, (x89, x91), ⟨hI94, hA95, r90, r92, rfl⟩, sb4 rfl rfl rfl rfl⟩
      replace h78 := cdF hc86 h78
      refine cw_skip ?_
      obtain rfl := Option.some.inj h78
      refine ⟨rfl, (y27.about, y27.cents), ⟨hI76, (Adv.refl _ _), r37, r39, rfl⟩, sb4 rfl rfl rfl rfl⟩
     rintro ⟨x79, x81⟩ w83 ⟨hI84, hA85, r80, r82, rfl⟩
     obtain rfl := Option.some.inj h63
     refine ⟨rfl, (x79, x81), ⟨hI84, ((Adv.of_ext e74).trans hA85), r80, r82, rfl⟩, sb4 rfl rfl rfl rfl⟩
    rintro ⟨x64, x66⟩ w68 ⟨hI69, hA70, r65, r67, rfl⟩
    refine cw_seq (cw_regF (s_mv rfl rfl (s_lda rfl (hI69.row 0 rfl).rd.cells Tryd.isAgg61 rfl Tryd.sizeOf61 rfl (y_bs (E := ReportE) (xs := [(Report.mk y27.id y27.source y27.account y27.made x64 y27.kind x66 y27.of_)]) sl22 hI69 rfl rfl (Cls.cons rfl Cls.nil) (Chs.cons ((ReportE_R (x := (Report.mk y27.id y27.source y27.account y27.made x64 y27.kind x66 y27.of_))).2 ⟨rfl, r33, r34, r35, r36, r65, r38, r67, r40⟩) Chs.nil) rfl rfl ?_))))
    intro v279 w280 hI281 x282
    have hf283 := hI281.freeze 0 rfl
    have hI284 := hI281.erase 0
    obtain ⟨l285, hl285, h21⟩ := bnd h21
    obtain ⟨hbl285, el285⟩ := appo_out hl285
    refine y_app 1 sl22 hI284 rfl rfl rfl hf283 hbl285 rfl ?_
    rw [← el285]
    intro v286 w287 hI288 x289
    refine s_as rfl rfl (Reg.nil (cw_seq (cw_regF (s_mv rfl rfl (s_lenO rfl (hI288.ownAt 1 rfl) Tryd.underlying22 rfl ?_)))))
    obtain ⟨n290, hn290, h21⟩ := bnd h21
    replace hn290 := chk_out hn290
    refine p_sub rfl rfl rfl hn290 ?_
    refine s_as rfl rfl (Reg.nil ?_)
    obtain ⟨j291, h292, h21⟩ := bnd h21
    refine cw_keep [7, 0, 3, 4] rfl (cw_unitD 1 (ι := (List Report)) (fun x293 => []) (fun x293 => fun w294 => Hp w [] M [rowR 61 b41 [vi y27.id, vi y27.source, vi y27.account, vi y27.made, vi x64, vu y27.kind, vi x66, vi y27.of_], ownR [] ReportE 61 v286 x293] w294 ∧ Adv (mm [rowR 61 b41 [vi y27.id, vi y27.source, vi y27.account, vi y27.made, vi x64, vu y27.kind, vi x66, vi y27.of_], ownR [] ReportE 61 v286 l285] M) (mm [rowR 61 b41 [vi y27.id, vi y27.source, vi y27.account, vi y27.made, vi x64, vu y27.kind, vi x66, vi y27.of_], ownR [] ReportE 61 v286 x293] M) w287 w294 ∧ x293 = j291) ?_ ?_)
    ·refine cw_block (cw_keep [7, 0, 3, 4] rfl (cw_loopM 1 (ι := Int × (List Report)) _ (fun ⟨x297, x299⟩ => [(7, vi x297)]) (fun ⟨x297, x299⟩ => (x297, x299)) (fun ⟨x297, x299⟩ => fun w300 => Hp w [] M [rowR 61 b41 [vi y27.id, vi y27.source, vi y27.account, vi y27.made, vi x64, vu y27.kind, vi x66, vi y27.of_], ownR [] ReportE 61 v286 x299] w300 ∧ Adv (mm [rowR 61 b41 [vi y27.id, vi y27.source, vi y27.account, vi y27.made, vi x64, vu y27.kind, vi x66, vi y27.of_], ownR [] ReportE 61 v286 l285] M) (mm [rowR 61 b41 [vi y27.id, vi y27.source, vi y27.account, vi y27.made, vi x64, vu y27.kind, vi x66, vi y27.of_], ownR [] ReportE 61 v286 x299] M) w287 w300 ∧ InK .i64 x297) (n290, l285) h292 ⟨hI288, (Adv.refl _ _), hn290.2⟩ (sb4 rfl rfl rfl rfl) ?_))
     rintro ⟨x297, x299⟩ w300 ⟨hI301, hA302, r298⟩ y303 h304 hR305
     refine cw_seq ?_
     obtain ⟨j306, h307, h304⟩ := bnd h304
     refine cw_keep [0, 3, 4, 7] rfl (cw_seqD 0 (ι := Bool) (fun x308 => [(70, Value.bool x308)]) (fun x308 => fun w309 => Hp w [] M [rowR 61 b41 [vi y27.id, vi y27.source, vi y27.account, vi y27.made, vi x64, vu y27.kind, vi x66, vi y27.of_], ownR [] ReportE 61 v286 x299] w309 ∧ Adv (mm [rowR 61 b41 [vi y27.id, vi y27.source, vi y27.account, vi y27.made, vi x64, vu y27.kind, vi x66, vi y27.of_], ownR [] ReportE 61 v286 x299] M) (mm [rowR 61 b41 [vi y27.id, vi y27.source, vi y27.account, vi y27.made, vi x64, vu y27.kind, vi x66, vi y27.of_], ownR [] ReportE 61 v286 x299] M) w300 w309 ∧ x308 = j306) ?_ ?_)
     ·refine cw_regT fol (by kernel_rfl) ?_
      refine s_mv rfl rfl (s_gtr rfl rfl rfl (s_mv rfl rfl (Reg.gsplit (t := 59) rfl (fun hg312 => ?_) (fun hg312 => ?_))))
      ·replace h307 := cdT hg312 h307
       refine Reg.take rfl rfl (s_mv rfl rfl (Reg.take rfl rfl (s_mv rfl rfl (Reg.take rfl rfl ?_))))
       obtain ⟨y313, hy313, h307⟩ := bnd h307
       refine y_ia 1 hI301 rfl rfl rfl hy313 Tryd.underlying22 Tryd.sizeOf61 rfl ?_
       intro g314 cs315 hg316 hR317 hC318
       have khR317 := hR317
       obtain ⟨rfl, r319, r320, r321, r322, r323, r324, r325, r326⟩ := ReportE_R.1 hR317
       refine Reg.take rfl rfl (s_lda rfl hC318 Tryd.isAgg61 rfl Tryd.sizeOf61 rfl (Reg.take rfl rfl (s_mv rfl rfl (Reg.take rfl rfl (s_mv rfl rfl (Reg.take rfl rfl ?_))))))
       obtain ⟨n327, hn327, h307⟩ := bnd h307
       replace hn327 := chk_out hn327
       refine p_sub rfl rfl rfl hn327 ?_
       refine Reg.take rfl rfl ?_
       obtain ⟨y328, hy328, h307⟩ := bnd h307
       refine y_ia 1 hI301 rfl rfl rfl hy328 Tryd.underlying22 Tryd.sizeOf61 rfl ?_
       intro g329 cs330 hg331 hR332 hC333
       have khR332 := hR332
       obtain ⟨rfl, r334, r335, r336, r337, r338, r339, r340, r341⟩ := ReportE_R.1 hR332
       refine Reg.take rfl rfl (s_lda rfl hC333 Tryd.isAgg61 rfl Tryd.sizeOf61 rfl (Reg.take rfl rfl ?_))
       obtain ⟨z342, hz343, h307⟩ := bnd h307
       refine s_callq rfl rfl Tryd.call77 rfl (fun w344 e345 => (C_ref03_before (hI301.mlt.ext e345) r319 r320 r321 r322 r323 r324 r325 r326 r334 r335 r336 r337 r338 r339 r340 r341 hz343).mono (fun _ _ hq => ⟨hq.1, hq.2⟩)) ?_
       refine s_pkT rfl rfl rfl (Reg.nilq (fun w346 e347 => ?_))
       have hI348 := hI301.ext e347
       obtain rfl := Option.some.inj h307
       refine ⟨rfl, z342, ⟨hI348, (Adv.of_ext e347), rfl⟩, sb5 rfl rfl rfl rfl rfl⟩
      replace h307 := cdF hg312 h307
      iterate 10 refine Reg.pass rfl rfl rfl rfl ?_
      refine s_pkF rfl rfl rfl (Reg.nilq (fun w349 e350 => ?_))
      have hI351 := hI301.ext e350
      obtain rfl := Option.some.inj h307
      refine ⟨rfl, false, ⟨hI351, (Adv.of_ext e350), rfl⟩, sb5 rfl rfl rfl rfl rfl⟩
     rintro x308 w309 ⟨hI310, hA311, rfl⟩
     refine cw_cond rfl (fun hc352 => ?_) (fun hc352 => ?_)
     ·replace h304 := cdT hc352 h304
      refine cw_skip (cw_seq (cw_block ?_))
      obtain ⟨j353, h354, h304⟩ := bnd h304
      refine cw_keep [0, 3, 4, 7] rfl (cw_unitD 0 (ι := (List Report)) (fun x355 => []) (fun x355 => fun w356 => Hp w [] M [rowR 61 b41 [vi y27.id, vi y27.source, vi y27.account, vi y27.made, vi x64, vu y27.kind, vi x66, vi y27.of_], ownR [] ReportE 61 v286 x355] w356 ∧ Adv (mm [rowR 61 b41 [vi y27.id, vi y27.source, vi y27.account, vi y27.made, vi x64, vu y27.kind, vi x66, vi y27.of_], ownR [] ReportE 61 v286 x299] M) (mm [rowR 61 b41 [vi y27.id, vi y27.source, vi y27.account, vi y27.made, vi x64, vu y27.kind, vi x66, vi y27.of_], ownR [] ReportE 61 v286 x355] M) w309 w356 ∧ x355 = j353) ?_ ?_)
      ·refine cw_regSea [0, 1, 2, 3, 5, 6, 7, 8, 9, 10, 11, 12, 13, 14] [4, 15, 16, 17] [] [15, 17] [[15, 7], [15, 8], [15, 9], [15, 13, 12], [15, 14], [17, 7], [17, 8], [17, 9], [17, 12], [17, 13], [17, 14]] [] fol (by kernel_rfl) rfl (by kernel_rfl) rfl rfl ?_
       iterate 6 refine s_mv rfl rfl ?_
       obtain ⟨n359, hn359, h354⟩ := bnd h354
       replace hn359 := chk_out hn359
       refine p_sub rfl rfl rfl hn359 ?_
       obtain ⟨y360, hy360, h354⟩ := bnd h354
       refine y_ia 1 hI310 rfl rfl rfl hy360 Tryd.underlying22 Tryd.sizeOf61 rfl ?_
       intro g361 cs362 hg363 hR364 hC365
       have khR364 := hR364
       obtain ⟨rfl, r366, r367, r368, r369, r370, r371, r372, r373⟩ := ReportE_R.1 hR364
       refine s_lda rfl hC365 Tryd.isAgg61 rfl Tryd.sizeOf61 rfl (s_mv rfl rfl (s_mv rfl rfl ?_))
       obtain ⟨y374, hy374, h354⟩ := bnd h354
       refine y_ia 1 hI310 rfl rfl rfl hy374 Tryd.underlying22 Tryd.sizeOf61 rfl ?_
       intro g375 cs376 hg377 hR378 hC379
       have khR378 := hR378
       obtain ⟨rfl, r380, r381, r382, r383, r384, r385, r386, r387⟩ := ReportE_R.1 hR378
       refine s_lda rfl hC379 Tryd.isAgg61 rfl Tryd.sizeOf61 rfl ?_
       obtain ⟨y388, hy388, h354⟩ := bnd h354
       refine y_ia 1 hI310 rfl rfl rfl hy388 Tryd.underlying22 Tryd.sizeOf61 rfl ?_
       intro g389 cs390 hg391 hR392 hC393
       have khR392 := hR392
       obtain ⟨rfl, r394, r395, r396, r397, r398, r399, r400, r401⟩ := ReportE_R.1 hR392
       refine Reg.nilX ⟨rfl, rfl, rfl, ?_⟩
       intro w402 e403
       have hI404 := (Hp.start (Mu := []) hI310.mlt).ext e403
       obtain ⟨n405, hn405, h354⟩ := bnd h354
       obtain ⟨l421, hl421, h354⟩ := bnd h354
       obtain ⟨y428, hy428, h354⟩ := bnd h354
       obtain ⟨l456, hl456, h354⟩ := bnd h354
       refine SeaWalk.step [4, 15] (by kernel_rfl) (AllL.cons ?_ (AllL.cons ?_ (AllL.nil)))
       ·refine ⟨_, [], rfl, RSub.nil, rfl, nodupB_spec rfl, ?_⟩
        simp only [relOut]
        replace hn405 := chk_out hn405
        refine p_sub rfl rfl rfl hn405 ?_
        refine Reg.nil ⟨rfl, .inr hI404.kp, rfl, ?_⟩
        intro w463 e464
        have hI465 := hI404.ext e464
        refine SeaWalk.step [15] (by kernel_rfl) (AllL.cons ?_ (AllL.nil))
        refine ⟨_, [], rfl, RSub.nil, rfl, nodupB_spec rfl, ?_⟩
        simp only [relOut]
        have hI466 := hI310.join hI465
        obtain ⟨cs467, hR468, hC469⟩ := (hI466.ownAt 1 rfl).cellsAt hg391 (ixo_out hy388).2.2
        have khR468 := hR468
        obtain ⟨rfl, r470, r471, r472, r473, r474, r475, r476, r477⟩ := ReportE_R.1 hR468
        refine y_sto 1 (E := ReportE) (o := 0) hI466 rfl rfl rfl rfl hg391 hl421 ((ReportE_R (x := y388)).2 ⟨rfl, r470, r471, r472, r473, r474, r475, r476, r477⟩) hC469 ((ReportE_R (x := (Report.mk y360.id y360.source y360.account y360.made y360.about y360.kind y360.cents y360.of_))).2 ⟨rfl, r366, r367, r368, r369, r370, r371, r372, r373⟩) rfl Tryd.sizeOf61 rfl (on8 rfl rfl rfl rfl rfl rfl rfl rfl) ?_
        intro w478 hI479 x480
        refine Reg.nil ⟨rfl, .inl rfl, rfl, ?_⟩
        intro w481 e482
        have hI483 := hI479.ext e482
        refine SeaWalk.step [16] (by kernel_rfl) (AllL.cons ?_ (AllL.nil))
        refine ⟨_, [], rfl, RSub.nil, rfl, nodupB_spec rfl, ?_⟩
        simp only [relOut]
        refine y_ia 1 hI483 rfl rfl rfl hy428 Tryd.underlying22 Tryd.sizeOf61 rfl ?_
        intro g484 cs485 hg486 hR487 hC488
        have khR487 := hR487
        obtain ⟨rfl, r489, r490, r491, r492, r493, r494, r495, r496⟩ := ReportE_R.1 hR487
        refine Reg.nil ⟨rfl, .inl rfl, rfl, ?_⟩
        intro w497 e498
        have hI499 := hI483.ext e498
        refine SeaWalk.step [17] (by kernel_rfl) (AllL.cons ?_ (AllL.nil))
        refine ⟨_, [], rfl, RSub.nil, rfl, nodupB_spec rfl, ?_⟩
        simp only [relOut]
        obtain ⟨cs500, hR501, hC502⟩ := (hI499.ownAt 1 rfl).cellsAt hg486 (ixo_out hy428).2.2
        have khR501 := hR501
        obtain ⟨rfl, r503, r504, r505, r506, r507, r508, r509, r510⟩ := ReportE_R.1 hR501
        refine y_sto 1 (E := ReportE) (o := 0) hI499 rfl rfl rfl rfl hg486 hl456 ((ReportE_R (x := y428)).2 ⟨rfl, r503, r504, r505, r506, r507, r508, r509, r510⟩) hC502 ((ReportE_R (x := (Report.mk y374.id y374.source y374.account y374.made y374.about y374.kind y374.cents y374.of_))).2 ⟨rfl, r380, r381, r382, r383, r384, r385, r386, r387⟩) rfl Tryd.sizeOf61 rfl (on8 rfl rfl rfl rfl rfl rfl rfl rfl) ?_
        intro w511 hI512 x513
        refine Reg.nil ⟨rfl, .inl rfl, rfl, ?_⟩
        intro w514 e515
        have hI516 := hI512.ext e515
        refine SeaWalk.done ?_
        obtain rfl := Option.some.inj h354
        refine ⟨rfl, l456, ⟨hI516, ((Adv.of_ext e403).trans ((Adv.of_ext e464).trans (x480.trans ((Adv.of_ext e482).trans ((Adv.of_ext e498).trans (x513.trans (Adv.of_ext e515))))))), rfl⟩, sb4 rfl rfl rfl rfl⟩
       refine ⟨_, [], rfl, RSub.nil, rfl, nodupB_spec rfl, ?_⟩
       simp only [relOut]
       have hI517 := hI310.join hI404
       obtain ⟨cs518, hR519, hC520⟩ := (hI517.ownAt 1 rfl).cellsAt hg391 (ixo_out hy388).2.2
       have khR519 := hR519
       obtain ⟨rfl, r521, r522, r523, r524, r525, r526, r527, r528⟩ := ReportE_R.1 hR519
       refine y_sto 1 (E := ReportE) (o := 0) hI517 rfl rfl rfl rfl hg391 hl421 ((ReportE_R (x := y388)).2 ⟨rfl, r521, r522, r523, r524, r525, r526, r527, r528⟩) hC520 ((ReportE_R (x := (Report.mk y360.id y360.source y360.account y360.made y360.about y360.kind y360.cents y360.of_))).2 ⟨rfl, r366, r367, r368, r369, r370, r371, r372, r373⟩) rfl Tryd.sizeOf61 rfl (on8 rfl rfl rfl rfl rfl rfl rfl rfl) ?_
       intro w529 hI530 x531
       refine Reg.nil ⟨rfl, .inl rfl, rfl, ?_⟩
       intro w532 e533
       have hI534 := hI530.ext e533
       refine SeaWalk.step [4] (by kernel_rfl) (AllL.cons ?_ (AllL.nil))
       refine ⟨_, [], rfl, RSub.nil, rfl, nodupB_spec rfl, ?_⟩
       simp only [relOut]
       replace hn405 := chk_out hn405
       refine p_sub rfl rfl rfl hn405 ?_
       refine Reg.nil ⟨rfl, .inl rfl, rfl, ?_⟩
       intro w535 e536
       have hI537 := hI534.ext e536
       refine SeaWalk.step [16] (by kernel_rfl) (AllL.cons ?_ (AllL.nil))
       refine ⟨_, [], rfl, RSub.nil, rfl, nodupB_spec rfl, ?_⟩
       simp only [relOut]
       refine y_ia 1 hI537 rfl rfl rfl hy428 Tryd.underlying22 Tryd.sizeOf61 rfl ?_
       intro g538 cs539 hg540 hR541 hC542
       have khR541 := hR541
       obtain ⟨rfl, r543, r544, r545, r546, r547, r548, r549, r550⟩ := ReportE_R.1 hR541
       refine Reg.nil ⟨rfl, .inl rfl, rfl, ?_⟩
       intro w551 e552
       have hI553 := hI537.ext e552
       refine SeaWalk.step [17] (by kernel_rfl) (AllL.cons ?_ (AllL.nil))
       refine ⟨_, [], rfl, RSub.nil, rfl, nodupB_spec rfl, ?_⟩
       simp only [relOut]
       obtain ⟨cs554, hR555, hC556⟩ := (hI553.ownAt 1 rfl).cellsAt hg540 (ixo_out hy428).2.2
       have khR555 := hR555
       obtain ⟨rfl, r557, r558, r559, r560, r561, r562, r563, r564⟩ := ReportE_R.1 hR555
       refine y_sto 1 (E := ReportE) (o := 0) hI553 rfl rfl rfl rfl hg540 hl456 ((ReportE_R (x := y428)).2 ⟨rfl, r557, r558, r559, r560, r561, r562, r563, r564⟩) hC556 ((ReportE_R (x := (Report.mk y374.id y374.source y374.account y374.made y374.about y374.kind y374.cents y374.of_))).2 ⟨rfl, r380, r381, r382, r383, r384, r385, r386, r387⟩) rfl Tryd.sizeOf61 rfl (on8 rfl rfl rfl rfl rfl rfl rfl rfl) ?_
       intro w565 hI566 x567
       refine Reg.nil ⟨rfl, .inl rfl, rfl, ?_⟩
       intro w568 e569
       have hI570 := hI566.ext e569
       refine SeaWalk.done ?_
       obtain rfl := Option.some.inj h354
       refine ⟨rfl, l456, ⟨hI570, ((Adv.of_ext e403).trans (x531.trans ((Adv.of_ext e533).trans ((Adv.of_ext e536).trans ((Adv.of_ext e552).trans (x567.trans (Adv.of_ext e569))))))), rfl⟩, sb4 rfl rfl rfl rfl⟩
      rintro x355 w356 ⟨hI357, hA358, rfl⟩
      refine cw_regF (s_mv rfl rfl ?_)
      obtain ⟨n571, hn571, h304⟩ := bnd h304
      replace hn571 := chk_out hn571
      refine p_sub rfl rfl rfl hn571 ?_
      refine s_as rfl rfl (Reg.nil ?_)
      obtain rfl := Option.some.inj h304
      refine ⟨rfl, (n571, x355), ⟨⟨hI357, (hA302.trans (hA311.trans hA358)), hn571.2⟩, rfl⟩, sb4 rfl rfl rfl rfl⟩
     replace h304 := cdF hc352 h304
     refine cw_exit (exB_same ?_)
     obtain rfl := Option.some.inj h304
     obtain rfl := hR305 _ rfl
     refine ⟨rfl, x299, ⟨hI310, (hA302.trans hA311), rfl⟩, sb3 rfl rfl rfl⟩
    rintro x293 w294 ⟨hI295, hA296, rfl⟩
    obtain rfl := Option.some.inj h21
    refine ⟨rfl, (x293, v286), ⟨(hI295.sel [1] rfl), ((x44.trans (x47.trans (hA53.trans (hA70.trans (x282.trans ((hI281.eraseH 0).trans (x289.trans hA296))))))).trans (Hp.selA (σ := [rowR 61 b41 [vi y27.id, vi y27.source, vi y27.account, vi y27.made, vi x64, vu y27.kind, vi x66, vi y27.of_], ownR [] ReportE 61 v286 x293]) [1])), rfl⟩, sb3 rfl rfl rfl⟩
   rintro ⟨x22, v23⟩ w24 ⟨hI25, hA26, rfl⟩
   refine cw_regF (s_mv rfl rfl ?_)
   obtain ⟨n572, hn572, h17⟩ := bnd h17
   replace hn572 := chk_out hn572
   refine p_add rfl rfl rfl hn572 (s_as rfl rfl (Reg.nil ?_))
   obtain rfl := Option.some.inj h17
   refine ⟨rfl, (x22, n572, v23), ⟨⟨hI25, hI25.adv, hn572.2⟩, rfl⟩, sb3 rfl rfl rfl⟩
  replace h17 := cdF hc19 h17
  refine cw_exit (exB_same ?_)
  obtain rfl := Option.some.inj h17
  obtain rfl := hR18 _ rfl
  refine ⟨rfl, (x8, v9), ⟨hI13, hI13.adv, rfl⟩, sb1 rfl⟩
 rintro ⟨x3, v4⟩ w5 ⟨hI6, hA7, rfl⟩
 refine cw_seq (cw_regF (s_mv rfl rfl (s_as rfl rfl (Reg.nil (cw_ret ?_)))))
 obtain rfl := Option.some.inj h
 refine fin1 Tryd.results40 rfl ?_
 exact ⟨_, rfl, (hI6.ownOut 0 rfl), hI6.kp⟩
end Go.Proofs.YtepjkmoipjeghaaDoor
