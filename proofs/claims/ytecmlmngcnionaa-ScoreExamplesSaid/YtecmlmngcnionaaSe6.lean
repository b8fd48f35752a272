/-
  Part 6 of the texts that the statement's proof stands on: what memory holds, how code is walked, what the functions reckon. In the order in which they build.
-/
import Derived.Shelf.SlGeneric
import Derived.Shelf.SlLaysM
import Derived.Ground.SlgmProg
import Derived.Test.YtecmlmngcnionaaProg
import Derived.Shelf.SortM.Plain
import Derived.Shelf.SortM.SortNone
import Derived.Shelf.SlLaysF
import Derived.Ground.SlsfProg
import Derived.Shelf.SlSortCmp.Whole1
import Derived.Shelf.SlSortCmp.NoneTotal
import Derived.ProofKit
import Derived.Deep.Slices
import Derived.Test.YtecmlmngcnionaaSe5
set_option linter.unusedVariables false
namespace Go.Proofs
open Go.Shelf
def Try.laySort_ren : Go.Shelf.Ren := ⟨fun | 5 => 77 | 8 => 72 | 7 => 90 | 19 => 87 | 20 => 88 | 10 => 96 | 11 => 97 | 12 => 98 | 13 => 99 | 14 => 100 | 15 => 101 | 16 => 102 | 17 => 103 | 18 => 104 | 30 => 106 | 31 => 92 | 32 => 93 | 33 => 107 | 34 => 108 | 35 => 89 | 40 => 109 | n => n, fun | 23 => 26 | 25 => 3 | 3 => 3 | 32 => 127 | 22 => 26 | 0 => 0 | 44 => 65 | 46 => 140 | 4 => 4 | 36 => 132 | 35 => 131 | 41 => 136 | 5 => 5 | 9 => 9 | 53 => 142 | 57 => 146 | 63 => 154 | 64 => 155 | n => n, fun | n => n⟩
theorem Try.laySort : Go.Proofs.SlLaysM.n5 Try.prog Try.laySort_ren := {
  mixed := by kernel_rfl
  f5 := ⟨Try.f77.name, by decide, Try.func77.trans (congrArg some (by kernel_rfl))⟩
  f7 := ⟨Try.f90.name, by decide, Try.func90.trans (congrArg some (by kernel_rfl))⟩
  f8 := Try.func72.trans (congrArg some (by kernel_rfl))
  f10 := ⟨Try.f96.name, by decide, Try.func96.trans (congrArg some (by kernel_rfl))⟩
  f11 := ⟨Try.f97.name, by decide, Try.func97.trans (congrArg some (by kernel_rfl))⟩
  f12 := ⟨Try.f98.name, by decide, Try.func98.trans (congrArg some (by kernel_rfl))⟩
  f13 := ⟨Try.f99.name, by decide, Try.func99.trans (congrArg some (by kernel_rfl))⟩
  f14 := ⟨Try.f100.name, by decide, Try.func100.trans (congrArg some (by kernel_rfl))⟩
  f15 := ⟨Try.f101.name, by decide, Try.func101.trans (congrArg some (by kernel_rfl))⟩
  f16 := ⟨Try.f102.name, by decide, Try.func102.trans (congrArg some (by kernel_rfl))⟩
  f17 := ⟨Try.f103.name, by decide, Try.func103.trans (congrArg some (by kernel_rfl))⟩
  f18 := ⟨Try.f104.name, by decide, Try.func104.trans (congrArg some (by kernel_rfl))⟩
  f19 := Try.func87.trans (congrArg some (by kernel_rfl))
  f20 := Try.func88.trans (congrArg some (by kernel_rfl))
  f30 := ⟨Try.f106.name, by decide, Try.func106.trans (congrArg some (by kernel_rfl))⟩
  f31 := Try.func92.trans (congrArg some (by kernel_rfl))
  f32 := Try.func93.trans (congrArg some (by kernel_rfl))
  f33 := ⟨Try.f107.name, by decide, Try.func107.trans (congrArg some (by kernel_rfl))⟩
  f34 := ⟨Try.f108.name, by decide, Try.func108.trans (congrArg some (by kernel_rfl))⟩
  f35 := ⟨Try.f89.name, by decide, Try.func89.trans (congrArg some (by kernel_rfl))⟩
  f40 := ⟨Try.f109.name, by decide, Try.func109.trans (congrArg some (by kernel_rfl))⟩
  t0 := Try.underlying0
  a0 := Try.isAgg0
  z0 := Try.sizeOf0
  v0 := Try.zeroValue0
  t3 := Try.underlying3
  a3 := Try.isAgg3
  z3 := Try.sizeOf3
  v3 := Try.zeroValue3
  t4 := Try.underlying4
  a4 := Try.isAgg4
  z4 := Try.sizeOf4
  v4 := Try.zeroValue4
  t5 := Try.underlying5
  a5 := Try.isAgg5
  z5 := Try.sizeOf5
  v5 := Try.zeroValue5
  t9 := Try.underlying9
  a9 := Try.isAgg9
  z9 := Try.sizeOf9
  v9 := Try.zeroValue9
  t22 := Try.underlying26
  a22 := Try.isAgg26
  z22 := Try.sizeOf26
  v22 := Try.zeroValue26
  t23 := Try.underlying26
  a23 := Try.isAgg26
  z23 := Try.sizeOf26
  v23 := Try.zeroValue26
  t25 := Try.underlying3
  a25 := Try.isAgg3
  z25 := Try.sizeOf3
  v25 := Try.zeroValue3
  t32 := Try.underlying127
  a32 := Try.isAgg127
  z32 := Try.sizeOf127
  v32 := Try.zeroValue127
  t35 := Try.underlying131
  a35 := Try.isAgg131
  z35 := Try.sizeOf131
  v35 := Try.zeroValue131
  t36 := Try.underlying132
  a36 := Try.isAgg132
  z36 := Try.sizeOf132
  v36 := Try.zeroValue132
  t41 := Try.underlying136
  a41 := Try.isAgg136
  z41 := Try.sizeOf136
  v41 := Try.zeroValue136
  t44 := Try.underlying65
  a44 := Try.isAgg65
  z44 := Try.sizeOf65
  v44 := Try.zeroValue65
  t46 := Try.underlying140
  a46 := Try.isAgg140
  z46 := Try.sizeOf140
  v46 := Try.zeroValue140
  t53 := Try.underlying142
  a53 := Try.isAgg142
  z53 := Try.sizeOf142
  v53 := Try.zeroValue142
  t57 := Try.underlying146
  a57 := Try.isAgg146
  z57 := Try.sizeOf146
  v57 := Try.zeroValue146
  t63 := Try.underlying154
  a63 := Try.isAgg154
  z63 := Try.sizeOf154
  v63 := Try.zeroValue154
  t64 := Try.underlying155
  a64 := Try.isAgg155
  z64 := Try.sizeOf155
  v64 := Try.zeroValue155 }
end Go.Proofs
namespace Go.Proofs.Ytecmlmngcnionaa
open Go Go.Sx Go.RowKit Go.Sort
def P.slices_Sort_77 (x : List Int) : Option (List Int) := if x.length < 4611686018427387904 then some (x.mergeSort fun a b => decide (a ≤ b)) else none
theorem C_slices_Sort_77 {M : List Nat} {w : World} {v_x : Value} (_ : MLt M w) (_ : ∀ b ∈ ob v_x, b ∉ M) {x : List Int} (p_x : Own (intE .i64) 3 0 M w v_x x) {r0 : List Int} (h : P.slices_Sort_77 x = some r0) :
    Calls Try.prog 77 (List.toArray [v_x]) w fun e w' => e = .returned (Value.tuple #[]) ∧ (Own (intE .i64) 3 0 M w' v_x r0 ∧ (∀ b ∈ ob v_x, b ∈ ob v_x ∨ w.heap.size ≤ b) ∧ Kp (ob v_x) w w') := by
  obtain ⟨hlen, rfl⟩ : x.length < 4611686018427387904 ∧ (x.mergeSort fun a b => decide (a ≤ b)) = r0 := by
    unfold P.slices_Sort_77 at h
    split at h
    · exact ⟨by assumption, Option.some.inj h⟩
    · cases h
  rcases p_x with ⟨a, rfl, rfl⟩ | ⟨g, cap, cur, rfl, h1, h2, h3, h4, h5, h6⟩
  · have hc := AnyM.slices_Sort_int_none Try.laySort a 0 w
    change Calls Try.prog 77 _ _ _ at hc
    refine hc.mono ?_
    rintro e w' ⟨rfl, rfl⟩
    exact ⟨rfl, .inl ⟨a, rfl, by simp⟩, fun b hb => .inl hb, Kp.refl _ _⟩
  · have hc := AnyM.slices_Sort_int Try.laySort g 0 (cap + 1) x w (Own.holds h2 h3 h5 h6) (heap_lt h2) hlen
    change Calls Try.prog 77 _ _ _ at hc
    refine hc.mono ?_
    rintro e w' ⟨rfl, n, os, rfl⟩
    have hp : ∀ y ∈ x.mergeSort fun a b => decide (a ≤ b), InK .i64 y := fun y hy => (chunks_int.1 h6).2 y ((List.mergeSort_perm x _).mem_iff.1 hy)
    obtain ⟨h7, h8⟩ := Own.put (M := M) (n := n) (os := os) h2 h3 h4 h5 (ys := x.mergeSort fun a b => decide (a ≤ b)) (List.length_mergeSort x) hp
    exact ⟨rfl, h7, fun b hb => .inl hb, h8.mono fun b hb => .inl (by simpa [ob] using hb)⟩
end Go.Proofs.Ytecmlmngcnionaa
set_option maxRecDepth 20000
namespace Go.Proofs.Ytecmlmngcnionaa
open Go Go.Sx Go.RowKit
noncomputable def P.score_unique_int_in1 (n : Int) (so_c : Int → Option Bool) : Option Bool :=
 Option.bind (so_c n) fun z1 => some (!z1)
theorem C_score_unique_int_in1 {M : List Nat} {w : World} (hM : MLt M w) {n : Int} (f_n_0 : InK .i64 n) {v_so_c : Value} {so_c : Int → Option Bool} (f_so_c : ∀ (x0 : Int) (r : Bool) (w1 : World), Kp [] w w1 → InK .i64 x0 → so_c x0 = some r → CallsV Try.prog v_so_c [Value.int .i64 x0] w1 fun e w2 => e = .returned (Value.bool r) ∧ Ext w1 w2) {b_so_c : Nat} (c_so_c : RdC M w b_so_c 0 [v_so_c]) {r0 : Bool} (h : P.score_unique_int_in1 n so_c = some r0) :
  Calls Try.prog 76 (List.toArray [Value.int .i64 n, Value.pointer (some ⟨b_so_c, 0, none⟩)]) w fun e w' => e = .returned (Value.bool r0) ∧ Ext w w' := by
 have hI := Hp.start (Mu := []) hM
 refine calls_cw Try.func76 rfl Try.ntmps76 rfl ?_
 refine cw_seq (cw_regF ?_)
 refine s_as rfl rfl ?_
 refine Reg.nil ?_
 refine cw_seq (cw_regF ?_)
 refine s_ld rfl (c_so_c.cells.at 0 rfl) Try.isAgg84 rfl ?_
 refine s_mv rfl rfl ?_
 obtain ⟨z1, hz1, h⟩ := bnd h
 refine s_callV rfl rfl rfl ?_
 refine (f_so_c _ _ _ hI.kp f_n_0 hz1).mono ?_
 rintro _ w2 ⟨rfl, e3⟩
 refine ⟨_, rfl, ?_⟩
 have hI5 := hI.ext e3
 refine s_not rfl rfl ?_
 refine s_as rfl rfl ?_
 refine Reg.nil ?_
 refine cw_ret ?_
 obtain rfl := Option.some.inj h
 refine fin1 Try.results76 rfl ?_
 exact ⟨rfl, hI5.kp⟩
noncomputable def P.score_unique_69 (l : (List Int)) (so : Int → Option Bool) : Option (List Int) :=
 Option.bind (P.slices_DeleteFunc_75 l (fun x0_ => P.score_unique_int_in1 x0_ so)) fun z7 => Option.bind (P.slices_Sort_77 z7) fun l14 => Option.bind (P.slices_Compact_78 l14) fun z20 => some z20
theorem C_score_unique_69 {M : List Nat} {w : World} {v_l : Value} (hM : MLt M w) (hd : ∀ b ∈ ob v_l, b ∉ M) {l : (List Int)} (p_l : Own (intE .i64) 3 0 M w v_l l) {v_so : Value} {so : Int → Option Bool} (f_so : ∀ (x0 : Int) (r : Bool) (w1 : World), Kp (ob v_l) w w1 → InK .i64 x0 → so x0 = some r → CallsV Try.prog v_so [Value.int .i64 x0] w1 fun e w2 => e = .returned (Value.bool r) ∧ Ext w1 w2) (k_so : v_so.cells = [v_so].toArray ∧ v_so.oneCell' = true) {r0 : (List Int)} (h : P.score_unique_69 l so = some r0) :
  Calls Try.prog 69 (List.toArray [v_l, v_so]) w fun e w' => ∃ v0_0 : Value, e = .returned (v0_0) ∧ (Own (intE .i64) 3 0 M w' v0_0 r0 ∧ (∀ b ∈ ob v0_0, b ∈ ob v_l ∨ w.heap.size ≤ b) ∧ Kp (ob v_l) w w') := by
 have hI := Hp.startOwn hM hd p_l
 refine calls_cw Try.func69 rfl Try.ntmps69 rfl ?_
 refine cw_seq (cw_regF ?_)
 refine y_box hI rfl k_so.1 rfl ?_
 intro b1 w2 hI3 x4
 have hC6 := hI3.freezeRow 0 rfl
 have hI5 := hI3.erase 0
 refine s_as rfl rfl ?_
 refine Reg.nil ?_
 refine cw_seq (cw_regF ?_)
 refine s_mv rfl rfl ?_
 refine s_mf rfl rfl ?_
 obtain ⟨z7, hz8, h⟩ := bnd h
 refine s_call rfl Try.call75 rfl ?_
 refine (C_slices_DeleteFunc_75 (hI5.erase 0).mlt (hI5.apart 0 rfl) (hI5.lendOwn 0 rfl) (fun a0 r w9 e9 f0 hr => CallsV.ofL Try.call76 rfl (C_score_unique_int_in1 ((hI5.lendM 0 rfl).ext e9) f0 (fun c0 r0 w10 e10 g0 hr0 => f_so c0 r0 w10 ((Kp.tail hI5.kp e9 (fun _ hb => .inl hb)).trans (Ext.kp e10)) g0 hr0) (hC6.adv ((Hp.lendA (σ := [ownR (ob v_l) (intE .i64) 3 v_l l]) (M := M) 0 rfl).trans (Adv.lent e9))) hr)) hz8).mono ?_
 rintro _ w9 ⟨v11, rfl, hf12⟩
 refine ⟨_, rfl, ?_⟩
 have hI13 := hI5.took 0 rfl hf12
 refine s_as rfl rfl ?_
 refine Reg.nil ?_
 refine cw_seq (cw_regF ?_)
 refine s_mv rfl rfl ?_
 obtain ⟨l14, hz15, h⟩ := bnd h
 refine s_call rfl Try.call77 rfl ?_
 refine (C_slices_Sort_77 (hI13.erase 0).mlt (hI13.apart 0 rfl) (hI13.lendOwn 0 rfl) hz15).mono ?_
 rintro _ w16 ⟨rfl, hf18⟩
 refine ⟨_, rfl, ?_⟩
 have hI19 := hI13.took 0 rfl hf18
 refine Reg.nil ?_
 refine cw_seq (cw_regF ?_)
 refine s_mv rfl rfl ?_
 obtain ⟨z20, hz21, h⟩ := bnd h
 refine s_call rfl Try.call78 rfl ?_
 refine (C_slices_Compact_78 (hI19.erase 0).mlt (hI19.apart 0 rfl) (hI19.lendOwn 0 rfl) hz21).mono ?_
 rintro _ w22 ⟨v24, rfl, hf25⟩
 refine ⟨_, rfl, ?_⟩
 have hI26 := hI19.took 0 rfl hf25
 refine s_as rfl rfl ?_
 refine Reg.nil ?_
 refine cw_ret ?_
 obtain rfl := Option.some.inj h
 refine fin1 Try.results69 rfl ?_
 exact ⟨_, rfl, (hI26.ownBack 0 rfl)⟩
end Go.Proofs.Ytecmlmngcnionaa
set_option maxRecDepth 20000
namespace Go.Proofs.Ytecmlmngcnionaa
open Go Go.Sx Go.RowKit
noncomputable def P.slices_Values_68 (s : (List Int)) : Option (List Int) :=
 some s
theorem C_slices_Values_68 {M : List Nat} {w : World} (hM : MLt M w) {s : (List Int)} {v_s_0 : Value} (f_s_0 : RdS (intE .i64) M w v_s_0 s) {r0 : (List Int)} (h : P.slices_Values_68 s = some r0) :
  Calls Try.prog 68 (List.toArray [v_s_0]) w fun e w' => ∃ v0_0 : Value, e = .returned (v0_0) ∧ ItS (intE .i64) 74 M w' v0_0 r0 ∧ Ext w w' := by
 have hI := Hp.start (Mu := []) hM
 refine calls_cw Try.func68 rfl Try.ntmps68 rfl ?_
 refine cw_seq (cw_regF ?_)
 refine y_box hI rfl (RdS.cells1 f_s_0) rfl ?_
 intro b1 w2 hI3 x4
 have hC6 := hI3.freezeRow 0 rfl
 have hI5 := hI3.erase 0
 refine s_as rfl rfl ?_
 refine Reg.nil ?_
 refine cw_seq (cw_regF ?_)
 refine s_mf rfl rfl ?_
 refine s_as rfl rfl ?_
 refine Reg.nil ?_
 refine cw_ret ?_
 obtain rfl := Option.some.inj h
 refine fin1 Try.results68 rfl ?_
 exact ⟨_, rfl, ⟨_, _, rfl, hC6.adv (Hp.baseA (σ := [])), (f_s_0.adv hI5.adv).adv (Hp.baseA (σ := []))⟩, hI5.kp⟩
noncomputable def P.score_works_stand (w_ : Works) (trait : Int) (s : Span) : Option (List Int) :=
 Option.bind (loopM (S := (List Int) × Int) (R := ((List Int))) (fun (x17, x18) => cond (decide (x18 < (w_.parts.length : Int))) (Option.bind (Option.bind (ixo w_.parts x18) fun y20 => Option.bind (Option.bind (cond (I87.is105 y20) (Option.bind (ixo ((I87.as105 y20).scales) trait) fun y45 => Option.bind (appo 8 x17 y45.cuts) fun l56 => some l56) (Option.bind (cond (I87.is106 y20) (Option.bind (loopM (S := (List Int) × Int) (R := ((List Int))) (fun (x77, x78) => cond (decide (x78 < (((I87.as106 y20).nodes).length : Int))) (Option.bind (Option.bind (ixo ((I87.as106 y20).nodes) x78) fun y80 => Option.bind (cond (decide (y80.trait = trait)) (Option.bind (appo 8 x77 ([y80.cut] : List Int)) fun l107 => some l107) (some x77)) fun x112 => some x112) fun x113 => Option.bind (chk .i64 (x78 + 1)) fun n114 => some (.inl (x113, n114))) (some (.inr x77))) (x17, 0)) fun x115 => some x115) (some x17)) fun x116 => some x116)) fun x117 => some x117) fun x118 => some x118) fun x119 => Option.bind (chk .i64 (x18 + 1)) fun n120 => some (.inl (x119, n120))) (some (.inr x17))) (([s.lo] : List Int), 0)) fun x121 => Option.bind (P.score_unique_69 x121 (fun x0_ => P.score_works_stand_in1 x0_ (Span.mk s.lo s.hi))) fun z122 => Option.bind (P.slices_Values_68 z122) fun z131 => some z131
theorem C_score_works_stand {M : List Nat} {w : World} (hM : MLt M w) {w_ : Works} {v_w__1 : Value} {v_w__2 : Value} {v_w__4 : Value} (f_w__0 : InK .i64 w_.model.traits) (f_w__1 : RdS CardE M w v_w__1 w_.model.cards) (f_w__2 : RdS TreeE M w v_w__2 w_.model.trees) (f_w__3 : InK .i64 w_.model.need) (f_w__4 : RdS I87E M w v_w__4 w_.parts) {trait : Int} (f_trait_0 : InK .i64 trait) {s : Span} (f_s_0 : InK .i64 s.lo) (f_s_1 : InK .i64 s.hi) {r0 : (List Int)} (h : P.score_works_stand w_ trait s = some r0) :
  Calls Try.prog 60 (List.toArray [Value.agg (List.toArray [Value.int .i64 w_.model.traits, v_w__1, v_w__2, Value.int .i64 w_.model.need, v_w__4]), Value.int .i64 trait, Value.agg (List.toArray [Value.int .i64 s.lo, Value.int .i64 s.hi])]) w fun e w' => ∃ v0_0 : Value, e = .returned (v0_0) ∧ ItS (intE .i64) 74 M w' v0_0 r0 ∧ Ext w w' := by
 have hI := Hp.start (Mu := []) hM
 refine calls_cw Try.func60 rfl Try.ntmps60 rfl ?_
 refine cw_seq (cw_regF ?_)
 refine y_box hI rfl rfl rfl ?_
 intro b1 w2 hI3 x4
 have hC6 := hI3.freezeRow 0 rfl
 have hI5 := hI3.erase 0
 refine y_box hI5 rfl rfl rfl ?_
 intro b7 w8 hI9 x10
 have hC12 := hI9.freezeRow 0 rfl
 have hI11 := hI9.erase 0
 refine s_as rfl rfl ?_
 refine Reg.nil ?_
 refine cw_seq (cw_regF ?_)
 refine s_fa rfl Try.underlying45 rfl Try.sizeOf3 rfl ?_
 refine s_ld rfl (hC12.cells.at 0 rfl) Try.isAgg3 rfl ?_
 refine y_bs (E := (intE .i64)) (xs := [s.lo]) sl26 hI11 rfl rfl (Cls.cons rfl Cls.nil) (Chs.cons ⟨rfl, f_s_0⟩ Chs.nil) rfl rfl ?_
 intro v13 w14 hI15 x16
 refine s_as rfl rfl ?_
 refine Reg.nil ?_
 refine cw_seq (cw_seq (cw_regF ?_))
 refine s_fa rfl Try.underlying80 rfl Try.sizeOf78 rfl ?_
 refine s_ld rfl ((hC6.adv (x10.trans ((Hp.eraseA (σ := [rowR 45 b7 [Value.int .i64 s.lo, Value.int .i64 s.hi]]) 0).trans x16))).cells.at 4 rfl) Try.isAgg78 rfl ?_
 refine s_len rfl (f_w__4.adv hI15.adv) Try.underlying78 rfl ?_
 refine s_mv rfl rfl ?_
 refine Reg.nil ?_
 obtain ⟨j17, h18, h⟩ := bnd h
 refine cw_sub (L := [(1, _), (7, _), (18, _), (19, _), (20, _), (5, _)]) (Sub.cons rfl (Sub.cons rfl (Sub.cons rfl (Sub.cons rfl (Sub.cons rfl (Sub.cons rfl (Sub.nil _))))))) ?_
 refine cw_unitD 5 (ι := (List Int) × Value) (fun ⟨x19, v20⟩ => [(7, v20)]) (fun ⟨x19, v20⟩ => fun w21 => Hp w [] M [ownR [] (intE .i64) 3 v20 x19] w21 ∧ Adv (mm [ownR [] (intE .i64) 3 v13 ([s.lo] : List Int)] M) (mm [ownR [] (intE .i64) 3 v20 x19] M) w14 w21 ∧ x19 = j17) ?_ ?_
 ·skip
  refine cw_block ?_
  refine cw_sub (L := [(7, _), (20, _), (1, _), (5, _), (18, _), (19, _)]) (Sub.cons rfl (Sub.cons rfl (Sub.cons rfl (Sub.cons rfl (Sub.cons rfl (Sub.cons rfl (Sub.nil _))))))) ?_
  refine cw_loopM 2 (ι := (List Int) × Int × Value) _ (fun ⟨x24, x26, v25⟩ => [(7, v25), (20, Value.int .i64 x26)]) (fun ⟨x24, x26, v25⟩ => (x24, x26)) (fun ⟨x24, x26, v25⟩ => fun w28 => Hp w [] M [ownR [] (intE .i64) 3 v25 x24] w28 ∧ Adv (mm [ownR [] (intE .i64) 3 v13 ([s.lo] : List Int)] M) (mm [ownR [] (intE .i64) 3 v25 x24] M) w14 w28 ∧ InK .i64 x26) (([s.lo] : List Int), 0, v13) h18 ⟨hI15, (Adv.refl _ _), (by decide)⟩ (Sub.cons rfl (Sub.cons rfl (Sub.cons rfl (Sub.cons rfl (Sub.cons rfl (Sub.cons rfl (Sub.nil _))))))) ?_
  rintro ⟨x24, x26, v25⟩ w28 ⟨hI29, hA30, r27⟩ y31 h32 hR33
  refine cw_seq (cw_regF ?_)
  refine s_lss rfl rfl rfl ?_
  refine Reg.nil ?_
  refine cw_seq ?_
  refine cw_cond rfl (fun hc34 => ?_) (fun hc34 => ?_)
  ·replace h32 := cdT hc34 h32
   refine cw_skip ?_
   obtain ⟨j35, h36, h32⟩ := bnd h32
   refine cw_sub (L := [(7, _), (1, _), (5, _), (18, _), (19, _), (20, _)]) (Sub.cons rfl (Sub.cons rfl (Sub.cons rfl (Sub.cons rfl (Sub.cons rfl (Sub.cons rfl (Sub.nil _))))))) ?_
   refine cw_seqD 1 (ι := (List Int) × Value) (fun ⟨x37, v38⟩ => [(7, v38)]) (fun ⟨x37, v38⟩ => fun w39 => Hp w [] M [ownR [] (intE .i64) 3 v38 x37] w39 ∧ Adv (mm [ownR [] (intE .i64) 3 v25 x24] M) (mm [ownR [] (intE .i64) 3 v38 x37] M) w28 w39 ∧ x37 = j35) ?_ ?_
   ·skip
    refine cw_block ?_
    refine cw_seq (cw_regF ?_)
    obtain ⟨y42, hy42, h36⟩ := bnd h36
    refine p_ia rfl rfl (f_w__4.adv hI29.adv) hy42 Try.underlying78 Try.sizeOf87 rfl ?_
    intro b43 o44 cs45 hR46 hC47
    obtain ⟨v48, rfl, hf49⟩ := I87E_one hR46
    refine s_ld rfl (hC47.cells.at 0 rfl) Try.isAgg87 rfl ?_
    refine s_as rfl rfl ?_
    refine Reg.nil ?_
    refine cw_seq (cw_regF ?_)
    refine s_mv rfl rfl ?_
    refine Reg.nil ?_
    obtain ⟨j50, h51, h36⟩ := bnd h36
    refine cw_sub (L := [(7, _), (24, _), (1, _), (5, _), (18, _), (19, _), (20, _)]) (Sub.cons rfl (Sub.cons rfl (Sub.cons rfl (Sub.cons rfl (Sub.cons rfl (Sub.cons rfl (Sub.cons rfl (Sub.nil _)))))))) ?_
    refine cw_unitD 2 (ι := (List Int) × Value) (fun ⟨x52, v53⟩ => [(7, v53)]) (fun ⟨x52, v53⟩ => fun w54 => Hp w [] M [ownR [] (intE .i64) 3 v53 x52] w54 ∧ Adv (mm [ownR [] (intE .i64) 3 v25 x24] M) (mm [ownR [] (intE .i64) 3 v53 x52] M) w28 w54 ∧ x52 = j50) ?_ ?_
    ·skip
     refine cw_block ?_
     refine cw_seq (cw_regF ?_)
     obtain ⟨ds57, hR58, ht59⟩ := I87E_ta105 hf49
     obtain ⟨v62, rfl, g60, g61, g63⟩ := CardE_R.1 hR58
     refine s_ta rfl ht59 rfl ?_
     refine s_xt rfl rfl rfl ?_
     refine s_xt rfl rfl rfl ?_
     refine Reg.nil ?_
     obtain ⟨j64, h65, h51⟩ := bnd h51
     refine cw_sub (L := [(7, _), (24, _), (26, _), (27, _), (1, _), (5, _), (18, _), (19, _), (20, _)]) (Sub.cons rfl (Sub.cons rfl (Sub.cons rfl (Sub.cons rfl (Sub.cons rfl (Sub.cons rfl (Sub.cons rfl (Sub.cons rfl (Sub.cons rfl (Sub.nil _)))))))))) ?_
     refine cw_unitD 4 (ι := (List Int) × Value) (fun ⟨x66, v67⟩ => [(7, v67)]) (fun ⟨x66, v67⟩ => fun w68 => Hp w [] M [ownR [] (intE .i64) 3 v67 x66] w68 ∧ Adv (mm [ownR [] (intE .i64) 3 v25 x24] M) (mm [ownR [] (intE .i64) 3 v67 x66] M) w28 w68 ∧ x66 = j64) ?_ ?_
     ·skip
      refine cw_cond rfl (fun hc71 => ?_) (fun hc71 => ?_)
      ·replace h65 := cdT hc71 h65
       refine cw_seq (cw_regF ?_)
       refine y_al hI29 Try.zeroValue105 rfl rfl ?_
       intro b72 w73 hI74 x75
       refine y_st 0 hI74 rfl rfl rfl rfl Try.sizeOf105 rfl rfl (one1 rfl (one1 rfl (one1 (RdS.oneC g63) one0))) ?_
       intro w76 hI77 x78
       have hC80 := hI77.freezeRow 0 rfl
       have hI79 := hI77.erase 0
       refine Reg.nil ?_
       refine cw_regF ?_
       refine s_mv rfl rfl ?_
       refine s_fa rfl Try.underlying105 rfl Try.sizeOf52 rfl ?_
       refine s_ld rfl (hC80.cells.at 2 rfl) Try.isAgg52 rfl ?_
       refine s_mv rfl rfl ?_
       obtain ⟨y81, hy81, h65⟩ := bnd h65
       refine p_ia rfl rfl (g63.adv (x75.trans (x78.trans (Hp.eraseA (σ := [rowR 105 b72 [Value.int .i64 ((I87.as105 y42).weight), Value.int .i64 ((I87.as105 y42).base), v62], ownR [] (intE .i64) 3 v25 x24]) 0)))) hy81 Try.underlying52 Try.sizeOf56 rfl ?_
       intro b82 o83 cs84 hR85 hC86
       obtain ⟨v87, v89, rfl, hf88, hf90, r91⟩ := ScaleE_R.1 hR85
       refine s_fa rfl Try.underlying56 rfl Try.sizeOf26 rfl ?_
       refine s_ld rfl (hC86.cells.at 0 rfl) Try.isAgg26 rfl ?_
       obtain ⟨l92, hl92, h65⟩ := bnd h65
       obtain ⟨hbl92, el92⟩ := appo_out hl92
       refine y_app 0 sl26 hI79 rfl rfl rfl hf88 hbl92 rfl ?_
       rw [← el92]
       intro v93 w94 hI95 x96
       refine s_as rfl rfl ?_
       refine Reg.nil ?_
       obtain rfl := Option.some.inj h65
       refine ⟨rfl, (l92, v93), ⟨hI95, (x75.trans (x78.trans ((Hp.eraseA (σ := [rowR 105 b72 [Value.int .i64 ((I87.as105 y42).weight), Value.int .i64 ((I87.as105 y42).base), v62], ownR [] (intE .i64) 3 v25 x24]) 0).trans x96))), rfl⟩, Sub.cons rfl (Sub.cons rfl (Sub.cons rfl (Sub.cons rfl (Sub.cons rfl (Sub.cons rfl (Sub.nil _))))))⟩
      ·replace h65 := cdF hc71 h65
       refine cw_seq (cw_regF ?_)
       obtain ⟨ds97, hR98, ht99⟩ := I87E_ta106 hf49
       obtain ⟨v101, rfl, g100, g102⟩ := TreeE_R.1 hR98
       refine s_ta rfl ht99 rfl ?_
       refine s_xt rfl rfl rfl ?_
       refine s_xt rfl rfl rfl ?_
       refine Reg.nil ?_
       obtain ⟨j103, h104, h65⟩ := bnd h65
       refine cw_sub (L := [(7, _), (37, _), (38, _), (1, _), (5, _), (18, _), (19, _), (20, _)]) (Sub.cons rfl (Sub.cons rfl (Sub.cons rfl (Sub.cons rfl (Sub.cons rfl (Sub.cons rfl (Sub.cons rfl (Sub.cons rfl (Sub.nil _))))))))) ?_
       refine cw_unitD 3 (ι := (List Int) × Value) (fun ⟨x105, v106⟩ => [(7, v106)]) (fun ⟨x105, v106⟩ => fun w107 => Hp w [] M [ownR [] (intE .i64) 3 v106 x105] w107 ∧ Adv (mm [ownR [] (intE .i64) 3 v25 x24] M) (mm [ownR [] (intE .i64) 3 v106 x105] M) w28 w107 ∧ x105 = j103) ?_ ?_
       ·skip
        refine cw_cond rfl (fun hc110 => ?_) (fun hc110 => ?_)
        ·replace h104 := cdT hc110 h104
         refine cw_seq (cw_regF ?_)
         refine y_al hI29 Try.zeroValue106 rfl rfl ?_
         intro b111 w112 hI113 x114
         refine y_st 0 hI113 rfl rfl rfl rfl Try.sizeOf106 rfl rfl (one1 rfl (one1 (RdS.oneC g102) one0)) ?_
         intro w115 hI116 x117
         have hC119 := hI116.freezeRow 0 rfl
         have hI118 := hI116.erase 0
         refine Reg.nil ?_
         refine cw_seq (cw_regF ?_)
         refine s_fa rfl Try.underlying106 rfl Try.sizeOf57 rfl ?_
         refine s_ld rfl (hC119.cells.at 1 rfl) Try.isAgg57 rfl ?_
         refine s_len rfl (g102.adv (x114.trans (x117.trans (Hp.eraseA (σ := [rowR 106 b111 [Value.int .i64 ((I87.as106 y42).weight), v101], ownR [] (intE .i64) 3 v25 x24]) 0)))) Try.underlying57 rfl ?_
         refine s_mv rfl rfl ?_
         refine Reg.nil ?_
         obtain ⟨j120, h121, h104⟩ := bnd h104
         refine cw_sub (L := [(7, _), (40, _), (41, _), (42, _), (1, _), (5, _), (18, _), (19, _), (20, _)]) (Sub.cons rfl (Sub.cons rfl (Sub.cons rfl (Sub.cons rfl (Sub.cons rfl (Sub.cons rfl (Sub.cons rfl (Sub.cons rfl (Sub.cons rfl (Sub.nil _)))))))))) ?_
         refine cw_unitD 4 (ι := (List Int) × Value) (fun ⟨x122, v123⟩ => [(7, v123)]) (fun ⟨x122, v123⟩ => fun w124 => Hp w [] M [ownR [] (intE .i64) 3 v123 x122] w124 ∧ Adv (mm [ownR [] (intE .i64) 3 v25 x24] M) (mm [ownR [] (intE .i64) 3 v123 x122] M) w115 w124 ∧ x122 = j120) ?_ ?_
         ·skip
          refine cw_block ?_
          refine cw_sub (L := [(7, _), (42, _), (1, _), (5, _), (18, _), (19, _), (20, _), (40, _), (41, _)]) (Sub.cons rfl (Sub.cons rfl (Sub.cons rfl (Sub.cons rfl (Sub.cons rfl (Sub.cons rfl (Sub.cons rfl (Sub.cons rfl (Sub.cons rfl (Sub.nil _)))))))))) ?_
          refine cw_loopM 2 (ι := (List Int) × Int × Value) _ (fun ⟨x127, x129, v128⟩ => [(7, v128), (42, Value.int .i64 x129)]) (fun ⟨x127, x129, v128⟩ => (x127, x129)) (fun ⟨x127, x129, v128⟩ => fun w131 => Hp w [] M [ownR [] (intE .i64) 3 v128 x127] w131 ∧ Adv (mm [ownR [] (intE .i64) 3 v25 x24] M) (mm [ownR [] (intE .i64) 3 v128 x127] M) w115 w131 ∧ InK .i64 x129) (x24, 0, v25) h121 ⟨hI118, (Adv.refl _ _), (by decide)⟩ (Sub.cons rfl (Sub.cons rfl (Sub.cons rfl (Sub.cons rfl (Sub.cons rfl (Sub.cons rfl (Sub.cons rfl (Sub.cons rfl (Sub.cons rfl (Sub.nil _)))))))))) ?_
          rintro ⟨x127, x129, v128⟩ w131 ⟨hI132, hA133, r130⟩ y134 h135 hR136
          refine cw_seq (cw_regF ?_)
          refine s_lss rfl rfl rfl ?_
          refine Reg.nil ?_
          refine cw_seq ?_
          refine cw_cond rfl (fun hc137 => ?_) (fun hc137 => ?_)
          ·replace h135 := cdT hc137 h135
           refine cw_skip ?_
           obtain ⟨j138, h139, h135⟩ := bnd h135
           refine cw_sub (L := [(7, _), (1, _), (5, _), (18, _), (19, _), (20, _), (40, _), (41, _), (42, _)]) (Sub.cons rfl (Sub.cons rfl (Sub.cons rfl (Sub.cons rfl (Sub.cons rfl (Sub.cons rfl (Sub.cons rfl (Sub.cons rfl (Sub.cons rfl (Sub.nil _)))))))))) ?_
           refine cw_seqD 1 (ι := (List Int) × Value) (fun ⟨x140, v141⟩ => [(7, v141)]) (fun ⟨x140, v141⟩ => fun w142 => Hp w [] M [ownR [] (intE .i64) 3 v141 x140] w142 ∧ Adv (mm [ownR [] (intE .i64) 3 v128 x127] M) (mm [ownR [] (intE .i64) 3 v141 x140] M) w131 w142 ∧ x140 = j138) ?_ ?_
           ·skip
            refine cw_block ?_
            refine cw_seq (cw_regF ?_)
            obtain ⟨y145, hy145, h139⟩ := bnd h139
            refine p_ia rfl rfl (g102.adv (x114.trans (x117.trans ((Hp.eraseA (σ := [rowR 106 b111 [Value.int .i64 ((I87.as106 y42).weight), v101], ownR [] (intE .i64) 3 v25 x24]) 0).trans hA133)))) hy145 Try.underlying57 Try.sizeOf62 rfl ?_
            intro b146 o147 cs148 hR149 hC150
            obtain ⟨rfl, r151, r152, r153, r154, r155⟩ := NodeE_R.1 hR149
            refine s_lda rfl hC150.cells Try.isAgg62 rfl Try.sizeOf62 rfl ?_
            refine y_al hI132 Try.zeroValue62 rfl rfl ?_
            intro b156 w157 hI158 x159
            refine y_st 0 hI158 rfl rfl rfl rfl Try.sizeOf62 rfl rfl (one1 rfl (one1 rfl (one1 rfl (one1 rfl (one1 rfl one0))))) ?_
            intro w160 hI161 x162
            have hC164 := hI161.freezeRow 0 rfl
            have hI163 := hI161.erase 0
            refine Reg.nil ?_
            refine cw_seq (cw_regF ?_)
            refine s_fa rfl Try.underlying62 rfl Try.sizeOf3 rfl ?_
            refine s_ld rfl (hC164.cells.at 0 rfl) Try.isAgg3 rfl ?_
            refine s_mv rfl rfl ?_
            refine s_eql rfl rfl rfl ?_
            refine Reg.nil ?_
            obtain ⟨j165, h166, h139⟩ := bnd h139
            refine cw_sub (L := [(7, _), (13, _), (49, _), (1, _), (5, _), (18, _), (19, _), (20, _), (40, _), (41, _), (42, _)]) (Sub.cons rfl (Sub.cons rfl (Sub.cons rfl (Sub.cons rfl (Sub.cons rfl (Sub.cons rfl (Sub.cons rfl (Sub.cons rfl (Sub.cons rfl (Sub.cons rfl (Sub.cons rfl (Sub.nil _)))))))))))) ?_
            refine cw_unitD 3 (ι := (List Int) × Value) (fun ⟨x167, v168⟩ => [(7, v168)]) (fun ⟨x167, v168⟩ => fun w169 => Hp w [] M [ownR [] (intE .i64) 3 v168 x167] w169 ∧ Adv (mm [ownR [] (intE .i64) 3 v128 x127] M) (mm [ownR [] (intE .i64) 3 v168 x167] M) w160 w169 ∧ x167 = j165) ?_ ?_
            ·skip
             refine cw_cond rfl (fun hc172 => ?_) (fun hc172 => ?_)
             ·replace h166 := cdT hc172 h166
              refine cw_regF ?_
              refine s_mv rfl rfl ?_
              refine s_fa rfl Try.underlying62 rfl Try.sizeOf3 rfl ?_
              refine s_ld rfl (hC164.cells.at 1 rfl) Try.isAgg3 rfl ?_
              refine y_bs (E := (intE .i64)) (xs := [y145.cut]) sl26 hI163 rfl rfl (Cls.cons rfl Cls.nil) (Chs.cons ⟨rfl, r152⟩ Chs.nil) rfl rfl ?_
              intro v173 w174 hI175 x176
              have hf177 := hI175.freeze 0 rfl
              have hI178 := hI175.erase 0
              obtain ⟨l179, hl179, h166⟩ := bnd h166
              obtain ⟨hbl179, el179⟩ := appo_out hl179
              refine y_app 0 sl26 hI178 rfl rfl rfl hf177 hbl179 rfl ?_
              rw [← el179]
              intro v180 w181 hI182 x183
              refine s_as rfl rfl ?_
              refine Reg.nil ?_
              obtain rfl := Option.some.inj h166
              refine ⟨rfl, (l179, v180), ⟨hI182, (x176.trans ((Hp.eraseA (σ := [ownR [] (intE .i64) 3 v173 ([y145.cut] : List Int), ownR [] (intE .i64) 3 v128 x127]) 0).trans x183)), rfl⟩, Sub.cons rfl (Sub.cons rfl (Sub.cons rfl (Sub.cons rfl (Sub.cons rfl (Sub.cons rfl (Sub.cons rfl (Sub.cons rfl (Sub.cons rfl (Sub.nil _)))))))))⟩
             ·replace h166 := cdF hc172 h166
              refine cw_skip ?_
              obtain rfl := Option.some.inj h166
              refine ⟨rfl, (x127, v128), ⟨hI163, (Adv.refl _ _), rfl⟩, Sub.cons rfl (Sub.cons rfl (Sub.cons rfl (Sub.cons rfl (Sub.cons rfl (Sub.cons rfl (Sub.cons rfl (Sub.cons rfl (Sub.cons rfl (Sub.nil _)))))))))⟩
            ·skip
             rintro ⟨x167, v168⟩ w169 ⟨hI170, hA171, rfl⟩
             obtain rfl := Option.some.inj h139
             refine ⟨rfl, (x167, v168), ⟨hI170, (x159.trans (x162.trans ((Hp.eraseA (σ := [rowR 62 b156 [Value.int .i64 y145.trait, Value.int .i64 y145.cut, Value.int .i64 y145.low, Value.int .i64 y145.high, Value.int .i64 y145.points], ownR [] (intE .i64) 3 v128 x127]) 0).trans hA171))), rfl⟩, Sub.cons rfl (Sub.cons rfl (Sub.cons rfl (Sub.cons rfl (Sub.cons rfl (Sub.cons rfl (Sub.cons rfl (Sub.cons rfl (Sub.cons rfl (Sub.nil _)))))))))⟩
           ·skip
            rintro ⟨x140, v141⟩ w142 ⟨hI143, hA144, rfl⟩
            refine cw_regF ?_
            obtain ⟨n184, hn184, h135⟩ := bnd h135
            replace hn184 := chk_out hn184
            refine p_add rfl rfl rfl hn184 ?_
            refine s_mv rfl rfl ?_
            refine Reg.nil ?_
            obtain rfl := Option.some.inj h135
            refine ⟨rfl, (x140, n184, v141), ⟨⟨hI143, (hA133.trans hA144), hn184.2⟩, rfl⟩, Sub.cons rfl (Sub.cons rfl (Sub.cons rfl (Sub.cons rfl (Sub.cons rfl (Sub.cons rfl (Sub.cons rfl (Sub.cons rfl (Sub.cons rfl (Sub.nil _)))))))))⟩
          ·replace h135 := cdF hc137 h135
           refine cw_exit ?_
           refine exB_same ?_
           obtain rfl := Option.some.inj h135
           obtain rfl := hR136 _ rfl
           refine ⟨rfl, (x127, v128), ⟨hI132, hA133, rfl⟩, Sub.cons rfl (Sub.cons rfl (Sub.cons rfl (Sub.cons rfl (Sub.cons rfl (Sub.cons rfl (Sub.nil _))))))⟩
         ·skip
          rintro ⟨x122, v123⟩ w124 ⟨hI125, hA126, rfl⟩
          obtain rfl := Option.some.inj h104
          refine ⟨rfl, (x122, v123), ⟨hI125, (x114.trans (x117.trans ((Hp.eraseA (σ := [rowR 106 b111 [Value.int .i64 ((I87.as106 y42).weight), v101], ownR [] (intE .i64) 3 v25 x24]) 0).trans hA126))), rfl⟩, Sub.cons rfl (Sub.cons rfl (Sub.cons rfl (Sub.cons rfl (Sub.cons rfl (Sub.cons rfl (Sub.nil _))))))⟩
        ·replace h104 := cdF hc110 h104
         refine cw_skip ?_
         obtain rfl := Option.some.inj h104
         refine ⟨rfl, (x24, v25), ⟨hI29, (Adv.refl _ _), rfl⟩, Sub.cons rfl (Sub.cons rfl (Sub.cons rfl (Sub.cons rfl (Sub.cons rfl (Sub.cons rfl (Sub.nil _))))))⟩
       ·skip
        rintro ⟨x105, v106⟩ w107 ⟨hI108, hA109, rfl⟩
        obtain rfl := Option.some.inj h65
        refine ⟨rfl, (x105, v106), ⟨hI108, hA109, rfl⟩, Sub.cons rfl (Sub.cons rfl (Sub.cons rfl (Sub.cons rfl (Sub.cons rfl (Sub.cons rfl (Sub.nil _))))))⟩
     ·skip
      rintro ⟨x66, v67⟩ w68 ⟨hI69, hA70, rfl⟩
      obtain rfl := Option.some.inj h51
      refine ⟨rfl, (x66, v67), ⟨hI69, hA70, rfl⟩, Sub.cons rfl (Sub.cons rfl (Sub.cons rfl (Sub.cons rfl (Sub.cons rfl (Sub.cons rfl (Sub.nil _))))))⟩
    ·skip
     rintro ⟨x52, v53⟩ w54 ⟨hI55, hA56, rfl⟩
     obtain rfl := Option.some.inj h36
     refine ⟨rfl, (x52, v53), ⟨hI55, hA56, rfl⟩, Sub.cons rfl (Sub.cons rfl (Sub.cons rfl (Sub.cons rfl (Sub.cons rfl (Sub.cons rfl (Sub.nil _))))))⟩
   ·skip
    rintro ⟨x37, v38⟩ w39 ⟨hI40, hA41, rfl⟩
    refine cw_regF ?_
    obtain ⟨n185, hn185, h32⟩ := bnd h32
    replace hn185 := chk_out hn185
    refine p_add rfl rfl rfl hn185 ?_
    refine s_mv rfl rfl ?_
    refine Reg.nil ?_
    obtain rfl := Option.some.inj h32
    refine ⟨rfl, (x37, n185, v38), ⟨⟨hI40, (hA30.trans hA41), hn185.2⟩, rfl⟩, Sub.cons rfl (Sub.cons rfl (Sub.cons rfl (Sub.cons rfl (Sub.cons rfl (Sub.cons rfl (Sub.nil _))))))⟩
  ·replace h32 := cdF hc34 h32
   refine cw_exit ?_
   refine exB_same ?_
   obtain rfl := Option.some.inj h32
   obtain rfl := hR33 _ rfl
   refine ⟨rfl, (x24, v25), ⟨hI29, hA30, rfl⟩, Sub.cons rfl (Sub.cons rfl (Sub.nil _))⟩
 ·skip
  rintro ⟨x19, v20⟩ w21 ⟨hI22, hA23, rfl⟩
  refine cw_seq (cw_regF ?_)
  refine s_mv rfl rfl ?_
  refine s_mf rfl rfl ?_
  obtain ⟨z186, hz187, h⟩ := bnd h
  refine s_call rfl Try.call69 rfl ?_
  refine (C_score_unique_69 (hI22.erase 0).mlt (hI22.apart 0 rfl) (hI22.lendOwn 0 rfl) (fun a0 r w9 e9 f0 hr => CallsV.ofL Try.call70 rfl (C_score_works_stand_in1 ((hI22.lendM 0 rfl).ext e9) f0 f_s_0 f_s_1 ((hC12.adv (x16.trans hA23)).adv ((Hp.lendA (σ := [ownR [] (intE .i64) 3 v20 x19]) (M := M) 0 rfl).trans (Adv.lent e9))) hr)) ⟨rfl, rfl⟩ hz187).mono ?_
  rintro _ w188 ⟨v190, rfl, hf191⟩
  refine ⟨_, rfl, ?_⟩
  have hI192 := hI22.took 0 rfl hf191
  have hf193 := hI192.freeze 0 rfl
  have hI194 := hI192.erase 0
  obtain ⟨z195, hz196, h⟩ := bnd h
  refine s_call rfl Try.call68 rfl ?_
  refine (C_slices_Values_68 hI194.mlt hf193 hz196).mono ?_
  rintro _ w197 ⟨v199, rfl, hf200, e198⟩
  refine ⟨_, rfl, ?_⟩
  have hI201 := hI194.ext e198
  refine s_as rfl rfl ?_
  refine Reg.nil ?_
  refine cw_ret ?_
  obtain rfl := Option.some.inj h
  refine fin1 Try.results60 rfl ?_
  exact ⟨_, rfl, (hf200.adv (Hp.baseA (σ := []))), hI201.kp⟩
end Go.Proofs.Ytecmlmngcnionaa
namespace Go.Sx
open Go Go.RowKit
section
variable {P : Program} {N : Nat} {ops : Array Oper} {q : Md} {rest : List Oper} {ds : List Deferred} {L : Env} {w : World} {A B : Out} {X : Nat → Out} {Z : List PanicEntry → Out} {d : Nat} {ty : TypeId} {pos : String} {af : Array Edge}
theorem s_iarr {t e : TypeId} {x y : Operand} {b o n sz : Nat} {k : IntKind} (i : Nat) (hx : ev L x = some (.pointer (some ⟨b, o, none⟩))) (hy : ev L y = some (.int k (i : Int))) (ht : P.underlying t = some (.array n e)) (hi : i < n) (hs : ∀ w, (sizeOf e).run P w = .ok sz w) (hN : Nat.blt d N = true)
    (h : Reg P N ops q rest ds ((d, .pointer (some ⟨b, o + i * sz, none⟩)) :: L) w A B X Z) : Reg P N ops q (⟨some d, .indexAddr t x y, ty, pos, af, none⟩ :: rest) ds L w A B X Z := by
  refine Reg.val (.pointer (some ⟨b, o + i * sz, none⟩)) rfl rfl hN (fun a ha w' _ => ?_) h
  have h1 : (0 : Int) ≤ (i : Int) ∧ (i : Int) < (n : Int) := ⟨by omega, by omega⟩
  simp [execOp, ha.eval hx, ha.eval hy, Instr.indexAt, asIntOf, run_underlying ht, Instr.sureAddr, h1, hi, hs, add_none]
theorem s_bda2 {t e : TypeId} {x y : Operand} {z v0 v1 z0 z1 : Value} (hz : ∀ w, (zeroValue t).run P w = .ok z w) (hzc : z.cells = #[z0, z1]) (ht : P.underlying t = some (.array 2 e)) (hs : ∀ w, (sizeOf e).run P w = .ok 1 w) (hx : ev L x = some v0) (hy : ev L y = some v1) (h0 : v0.cells = #[v0]) (h1 : v1.cells = #[v1]) (hN : Nat.blt d N = true)
    (h : Reg P N ops q rest ds ((d, .agg [v0, v1].toArray) :: L) w A B X Z) : Reg P N ops q (⟨some d, .build t #[(0, x), (1, y)], ty, pos, af, none⟩ :: rest) ds L w A B X Z := by
  refine Reg.val (.agg [v0, v1].toArray) rfl rfl hN (fun a ha w' _ => ?_) h
  simp [execOp, Instr.build, hz, hzc, run_underlying ht, hs, ha.eval hx, ha.eval hy, Instr.fill, h0, h1]
end
end Go.Sx
namespace Go.Proofs.Ytecmlmngcnionaa
open Go Go.Sx
namespace S
def lexc : List Int → List Int → Int
  | [], [] => 0
  | [], _ :: _ => -1
  | _ :: _, [] => 1
  | a :: r, b :: t => if a < b then -1 else if b < a then 1 else lexc r t
def setc (a b : List Int) : Int := if a.length = b.length then lexc a b else (a.length : Int) - b.length
theorem p_cmp (x y : Int) : P.cmp_Compare_73 x y = some (if x < y then -1 else if y < x then 1 else 0) := by
  unfold P.cmp_Compare_73 P.cmp_isNaN_89
  by_cases h1 : x < y
  · simp [h1]
  · by_cases h2 : y < x <;> simp [h1, h2]
def cmpAt (b : List Int) (i : Nat) (y : Int) : Option (Unit ⊕ Int) := match b[i]? with
  | none => some (.inr 1)
  | some z => if y < z then some (.inr (-1)) else if z < y then some (.inr 1) else none
theorem cmp_find (b : List Int) : ∀ (a : List Int) (k : Nat), Sum.elim (fun _ => if a.length + k < b.length then (-1 : Int) else 0) id (((a.zipIdx k).findSome? fun p => cmpAt b p.2 p.1).getD (.inl ())) = lexc a (b.drop k)
  | [], k => by
    simp only [List.zipIdx_nil, List.findSome?_nil, Option.getD_none, Sum.elim_inl, List.length_nil, Nat.zero_add]
    by_cases h : k < b.length
    · rw [List.drop_eq_getElem_cons h]; simp [h, lexc]
    · rw [List.drop_eq_nil_of_le (by omega)]; simp [h, lexc]
  | x :: a, k => by
    rw [List.zipIdx_cons, List.findSome?_cons]
    by_cases h : k < b.length
    · have hb : b[k]? = some b[k] := List.getElem?_eq_getElem h
      rw [List.drop_eq_getElem_cons h]
      simp only [cmpAt, hb, lexc]
      by_cases h1 : x < b[k]
      · simp [h1]
      · by_cases h2 : b[k] < x
        · simp [h1, h2]
        · simp only [h1, h2, if_false]
          have := cmp_find b a (k + 1)
          rw [List.length_cons, show a.length + 1 + k = a.length + (k + 1) by omega]
          exact this
    · rw [List.drop_eq_nil_of_le (by omega)]
      have hb : b[k]? = none := List.getElem?_eq_none (by omega)
      simp [cmpAt, hb, lexc]
theorem p_compare (a b : List Int) (ha : a.length ≤ 9223372036854775807) (hb : b.length ≤ 9223372036854775807) : P.slices_Compare_64 a b = some (lexc a b) := by
  unfold P.slices_Compare_64
  have key : loopM (S := Int) (R := (Unit) ⊕ (Int)) (fun x1 => cond (decide (x1 < (a.length : Int))) (Option.bind (ixo a x1) fun y3 => cond (decide ((b.length : Int) ≤ x1)) (some (.inr (.inr 1))) (Option.bind (ixo b x1) fun y11 => Option.bind (P.cmp_Compare_73 y3 y11) fun z18 => cond (!decide (z18 = 0)) (some (.inr (.inr z18))) (Option.bind (chk .i64 (x1 + 1)) fun n25 => some (.inl n25)))) (some (.inr (.inl ())))) 0 = some (((a.zipIdx 0).findSome? fun p => cmpAt b p.2 p.1).getD (.inl ())) :=
    loop_find a (fun i => (i : Int)) (fun i y => cmpAt b i y) (.inl ()) (fun i y hy => by
      have hi := get_lt hy
      simp only [lt_cast hi, condT, ixo_at hy, bindS, chk_nat (i := i) (by omega), cmpAt]
      by_cases h : i < b.length
      · have e1 : decide ((b.length : Int) ≤ i) = false := decide_eq_false (by omega)
        have hz : b[i]? = some b[i] := List.getElem?_eq_getElem h
        simp only [e1, condF, ixo_at hz, hz, bindS, p_cmp]
        by_cases h1 : y < b[i]
        · simp [h1]
        · by_cases h2 : b[i] < y
          · simp [h1, h2]
          · simp [h1, h2]
      · have e1 : decide ((b.length : Int) ≤ i) = true := decide_eq_true (by omega)
        have hz : b[i]? = none := List.getElem?_eq_none (by omega)
        simp only [e1, condT, hz]) (by simp only [not_lt_cast, condF])
  rw [key, bindS]
  have := cmp_find b a 0
  rw [List.drop_zero, Nat.add_zero] at this
  cases h : ((a.zipIdx 0).findSome? fun p => cmpAt b p.2 p.1).getD (.inl ()) with
  | inl u =>
    rw [h, Sum.elim_inl] at this
    rw [elimLS, ← this]
    by_cases h1 : a.length < b.length
    · have e1 : decide ((a.length : Int) < b.length) = true := decide_eq_true (by omega)
      rw [e1, condT, if_pos h1]
    · have e1 : decide ((a.length : Int) < b.length) = false := decide_eq_false (by omega)
      rw [e1, condF, if_neg h1]
  | inr r =>
    rw [h, Sum.elim_inr] at this
    rw [elimRS, ← this]; rfl
theorem p_sets1 (a b : List Int) (ha : a.length ≤ 9223372036854775807) (hb : b.length ≤ 9223372036854775807) : P.score_sets_in1 a b = some (setc a b) := by
  unfold P.score_sets_in1 setc
  rw [chk_i64 (by omega), bindS]
  by_cases h : a.length = b.length
  · have e : decide ((a.length : Int) - b.length = 0) = true := decide_eq_true (by omega)
    rw [e, notT, condF, p_compare a b ha hb, bindS, if_pos h]
  · have e : decide ((a.length : Int) - b.length = 0) = false := decide_eq_false (by omega)
    rw [e, notF, condT, if_neg h]
theorem lexc_anti : ∀ a b : List Int, lexc b a = - lexc a b
  | [], [] => rfl
  | [], _ :: _ => rfl
  | _ :: _, [] => rfl
  | x :: a, y :: b => by
    simp only [lexc]
    have := lexc_anti a b
    by_cases h1 : x < y
    · have : ¬ y < x := by omega
      simp [h1, this]
    · by_cases h2 : y < x <;> simp [h1, h2, this]
theorem lexc_trans : ∀ a b c : List Int, lexc a b ≤ 0 → lexc b c ≤ 0 → lexc a c ≤ 0 ∧ (lexc a b < 0 ∨ lexc b c < 0 → lexc a c < 0)
  | [], [], [], _, _ => by simp [lexc]
  | [], [], _ :: _, _, _ => by simp [lexc]
  | [], _ :: _, [], _, h => by simp [lexc] at h
  | [], _ :: _, _ :: _, _, _ => by simp [lexc]
  | _ :: _, [], _, h, _ => by simp [lexc] at h
  | _ :: _, _ :: _, [], _, h => by simp [lexc] at h
  | x :: a, y :: b, z :: c, h1, h2 => by
    simp only [lexc] at h1 h2 ⊢
    have ih := lexc_trans a b c
    by_cases e1 : x < y
    · by_cases e2 : y < z
      · have : x < z := by omega
        simp [this]
      · by_cases e3 : z < y
        · simp [e2, e3] at h2
        · have : x < z := by omega
          simp [this]
    · by_cases e2 : y < x
      · simp [e1, e2] at h1
      · have e : x = y := by omega
        subst e
        simp only [Int.lt_irrefl, if_false] at h1 ⊢
        by_cases e3 : x < z
        · simp [e3]
        · by_cases e4 : z < x
          · simp [e3, e4] at h2
          · simp only [e3, e4, if_false] at h2 ⊢
            exact ih h1 h2
theorem setc_anti (a b : List Int) : setc b a = - setc a b := by
  unfold setc
  by_cases h : a.length = b.length
  · rw [if_pos h, if_pos h.symm, lexc_anti]
  · rw [if_neg h, if_neg (fun e => h e.symm)]; omega
theorem setc_trans (a b c : List Int) (h1 : setc a b ≤ 0) (h2 : setc b c ≤ 0) : setc a c ≤ 0 ∧ (setc a b < 0 ∨ setc b c < 0 → setc a c < 0) := by
  unfold setc at h1 h2 ⊢
  by_cases e1 : a.length = b.length
  · by_cases e2 : b.length = c.length
    · have e3 : a.length = c.length := by omega
      rw [if_pos e1] at h1; rw [if_pos e2] at h2
      rw [if_pos e3, if_pos e1, if_pos e2]
      exact lexc_trans a b c h1 h2
    · have e3 : ¬ a.length = c.length := by omega
      rw [if_neg e2] at h2
      rw [if_neg e3]; omega
  · rw [if_neg e1] at h1
    by_cases e2 : b.length = c.length
    · have e3 : ¬ a.length = c.length := by omega
      rw [if_neg e3]; omega
    · rw [if_neg e2] at h2
      have e3 : ¬ a.length = c.length := by omega
      rw [if_neg e3]; omega
end S
end Go.Proofs.Ytecmlmngcnionaa
namespace Go.Proofs.Ytecmlmngcnionaa
namespace S
theorem lexc_zero : ∀ a b : List Int, lexc a b = 0 → a = b
  | [], [], _ => rfl
  | [], _ :: _, h => by simp [lexc] at h
  | _ :: _, [], h => by simp [lexc] at h
  | x :: a, y :: b, h => by
    simp only [lexc] at h
    by_cases h1 : x < y
    · simp [h1] at h
    · by_cases h2 : y < x
      · simp [h1, h2] at h
      · simp only [h1, h2, if_false] at h
        rw [lexc_zero a b h, show x = y by omega]
theorem setc_zero (a b : List Int) (h1 : setc a b ≤ 0) (h2 : setc b a ≤ 0) : a = b := by
  have h3 := setc_anti a b
  have h4 : setc a b = 0 := by omega
  unfold setc at h4
  by_cases e : a.length = b.length
  · rw [if_pos e] at h4; exact lexc_zero a b h4
  · rw [if_neg e] at h4; omega
theorem sorted_one {α : Type} {r : α → α → Prop} (anti : ∀ a b, r a b → r b a → a = b) : ∀ l1 l2 : List α, l1.Perm l2 → l1.Pairwise r → l2.Pairwise r → l1 = l2
  | [], l2, hp, _, _ => hp.nil_eq
  | a :: l1, [], hp, _, _ => absurd hp.length_eq (by simp)
  | a :: l1, b :: l2, hp, h1, h2 => by
    rw [List.pairwise_cons] at h1 h2
    have hab : a = b := by
      rcases List.mem_cons.1 (hp.mem_iff.1 (List.mem_cons_self ..)) with h | h
      · exact h
      · rcases List.mem_cons.1 (hp.mem_iff.2 (List.mem_cons_self (a := b) (l := l2))) with h' | h'
        · exact h'.symm
        · exact anti a b (h1.1 b h') (h2.1 a h)
    subst hab
    rw [sorted_one anti l1 l2 (List.Perm.cons_inv hp) h1.2 h2.2]
theorem setc_total (a b : List Int) : (decide (setc a b ≤ 0) || decide (setc b a ≤ 0)) = true := by
  have := setc_anti a b
  rw [Bool.or_eq_true, decide_eq_true_eq, decide_eq_true_eq]; omega
theorem sort_is {r x : List (List Int)} (hp : r.Perm x) (hs : ∀ (i j : Nat) (a b : List Int), i < j → r[i]? = some a → r[j]? = some b → setc a b ≤ 0) : r = x.mergeSort fun a b => decide (setc a b ≤ 0) := by
  refine sorted_one (r := fun a b => setc a b ≤ 0) setc_zero _ _ (hp.trans (List.mergeSort_perm x _).symm) ?_ ?_
  · rw [List.pairwise_iff_getElem]
    intro i j hi hj hij
    exact hs i j _ _ hij (List.getElem?_eq_getElem hi) (List.getElem?_eq_getElem hj)
  · have := List.pairwise_mergeSort (le := fun a b => decide (setc a b ≤ 0)) (fun a b c h1 h2 => by
      rw [decide_eq_true_eq] at *
      exact (setc_trans a b c h1 h2).1) setc_total x
    exact this.imp fun h => by simpa using h
end S
end Go.Proofs.Ytecmlmngcnionaa
set_option maxRecDepth 20000
namespace Go.Proofs.Ytecmlmngcnionaa
open Go Go.Sx Go.RowKit
theorem W_cmp_isNaN_89 {M : List Nat} {w : World} (hM : MLt M w) {x : Int} (f_x_0 : InK IntKind.i64 x) {r0 : Bool} (h : P.cmp_isNaN_89 x = some r0) :
    Calls Try.prog 89 (List.toArray [Value.int IntKind.i64 x]) w fun e w' => e = .returned (Value.bool r0) ∧ w = w' := by
  have hI := Hp.start (Mu := []) hM
  refine calls_cw Try.func89 rfl Try.ntmps89 rfl ?_
  refine cw_seq ?_
  refine cw_regF ?_
  refine s_as rfl rfl ?_
  refine Reg.nil ?_
  refine cw_seq ?_
  refine cw_regF ?_
  refine s_mv rfl rfl ?_
  refine s_mv rfl rfl ?_
  refine s_neq rfl rfl rfl ?_
  refine s_as rfl rfl ?_
  refine Reg.nil ?_
  refine cw_ret ?_
  obtain rfl := Option.some.inj h
  refine fin1 Try.results89 rfl ?_
  exact ⟨rfl, rfl⟩
theorem W_cmp_Compare_73 {M : List Nat} {w : World} (hM : MLt M w) {x : Int} (f_x_0 : InK IntKind.i64 x) {y : Int} (f_y_0 : InK IntKind.i64 y) {r0 : Int} (h : P.cmp_Compare_73 x y = some r0) :
    Calls Try.prog 73 (List.toArray [Value.int IntKind.i64 x, Value.int IntKind.i64 y]) w fun e w' => e = .returned (Value.int IntKind.i64 r0) ∧ InK IntKind.i64 r0 ∧ w = w' := by
  have hI := Hp.start (Mu := []) hM
  refine calls_cw Try.func73 rfl Try.ntmps73 rfl ?_
  refine cw_seq ?_
  refine cw_regF ?_
  refine s_as rfl rfl ?_
  refine Reg.nil ?_
  refine cw_seq ?_
  refine cw_regF ?_
  refine s_mv rfl rfl ?_
  obtain ⟨z1, hz2, h⟩ := bnd h
  refine s_call rfl Try.call89 rfl ?_
  refine (W_cmp_isNaN_89 hI.mlt f_x_0 hz2).mono ?_
  rintro _ _ ⟨rfl, rfl⟩
  refine ⟨_, rfl, ?_⟩
  refine s_as rfl rfl ?_
  refine Reg.nil ?_
  refine cw_seq ?_
  refine cw_regF ?_
  refine s_mv rfl rfl ?_
  obtain ⟨z5, hz6, h⟩ := bnd h
  refine s_call rfl Try.call89 rfl ?_
  refine (W_cmp_isNaN_89 hI.mlt f_y_0 hz6).mono ?_
  rintro _ _ ⟨rfl, rfl⟩
  refine ⟨_, rfl, ?_⟩
  refine s_as rfl rfl ?_
  refine Reg.nil ?_
  refine cw_seq ?_
  refine cw_seq ?_
  refine cw_regF ?_
  refine s_mv rfl rfl ?_
  refine Reg.nil ?_
  refine cw_cond rfl (fun hc9 => ?_) (fun hc9 => ?_)
  · replace h := cdT hc9 h
    refine cw_seq ?_
    refine cw_seq ?_
    refine cw_regF ?_
    refine s_mv rfl rfl ?_
    refine Reg.nil ?_
    refine cw_cond rfl (fun hc10 => ?_) (fun hc10 => ?_)
    · replace h := cdT hc10 h
      refine cw_seq ?_
      refine cw_regF ?_
      refine s_as rfl rfl ?_
      refine Reg.nil ?_
      refine cw_ret ?_
      obtain rfl := Option.some.inj h
      refine fin1 Try.results73 rfl ?_
      exact ⟨rfl, (by decide), rfl⟩
    · replace h := cdF hc10 h
      refine cw_skip ?_
      refine cw_seq ?_
      refine cw_regF ?_
      refine s_as rfl rfl ?_
      refine Reg.nil ?_
      refine cw_ret ?_
      obtain rfl := Option.some.inj h
      refine fin1 Try.results73 rfl ?_
      exact ⟨rfl, (by decide), rfl⟩
  · replace h := cdF hc9 h
    refine cw_skip ?_
    refine cw_seq ?_
    refine cw_seq ?_
    refine cw_regF ?_
    refine s_mv rfl rfl ?_
    refine Reg.nil ?_
    refine cw_cond rfl (fun hc11 => ?_) (fun hc11 => ?_)
    · replace h := cdT hc11 h
      refine cw_seq ?_
      refine cw_regF ?_
      refine s_as rfl rfl ?_
      refine Reg.nil ?_
      refine cw_ret ?_
      obtain rfl := Option.some.inj h
      refine fin1 Try.results73 rfl ?_
      exact ⟨rfl, (by decide), rfl⟩
    · replace h := cdF hc11 h
      refine cw_skip ?_
      refine cw_seq ?_
      refine cw_seq ?_
      refine cw_regF ?_
      refine s_mv rfl rfl ?_
      refine s_mv rfl rfl ?_
      refine s_lss rfl rfl rfl ?_
      refine Reg.nil ?_
      refine cw_cond rfl (fun hc12 => ?_) (fun hc12 => ?_)
      · replace h := cdT hc12 h
        refine cw_seq ?_
        refine cw_regF ?_
        refine s_as rfl rfl ?_
        refine Reg.nil ?_
        refine cw_ret ?_
        obtain rfl := Option.some.inj h
        refine fin1 Try.results73 rfl ?_
        exact ⟨rfl, (by decide), rfl⟩
      · replace h := cdF hc12 h
        refine cw_skip ?_
        refine cw_seq ?_
        refine cw_seq ?_
        refine cw_regF ?_
        refine s_mv rfl rfl ?_
        refine s_mv rfl rfl ?_
        refine s_gtr rfl rfl rfl ?_
        refine Reg.nil ?_
        refine cw_cond rfl (fun hc13 => ?_) (fun hc13 => ?_)
        · replace h := cdT hc13 h
          refine cw_seq ?_
          refine cw_regF ?_
          refine s_as rfl rfl ?_
          refine Reg.nil ?_
          refine cw_ret ?_
          obtain rfl := Option.some.inj h
          refine fin1 Try.results73 rfl ?_
          exact ⟨rfl, (by decide), rfl⟩
        · replace h := cdF hc13 h
          refine cw_skip ?_
          refine cw_seq ?_
          refine cw_regF ?_
          refine s_as rfl rfl ?_
          refine Reg.nil ?_
          refine cw_ret ?_
          obtain rfl := Option.some.inj h
          refine fin1 Try.results73 rfl ?_
          exact ⟨rfl, (by decide), rfl⟩
theorem W_slices_Compare_64 {M : List Nat} {w : World} (hM : MLt M w) {s1 : (List Int)} {v_s1_0 : Value} (f_s1_0 : RdS (intE .i64) M w v_s1_0 s1) {s2 : (List Int)} {v_s2_0 : Value} (f_s2_0 : RdS (intE .i64) M w v_s2_0 s2) {r0 : Int} (h : P.slices_Compare_64 s1 s2 = some r0) :
    Calls Try.prog 64 (List.toArray [v_s1_0, v_s2_0]) w fun e w' => e = .returned (Value.int IntKind.i64 r0) ∧ InK IntKind.i64 r0 ∧ w = w' := by
  have hI := Hp.start (Mu := []) hM
  refine calls_cw Try.func64 rfl Try.ntmps64 rfl ?_
  refine cw_seq ?_
  refine cw_regF ?_
  refine s_as rfl rfl ?_
  refine Reg.nil ?_
  refine cw_seq ?_
  refine cw_seq ?_
  refine cw_regF ?_
  refine s_mv rfl rfl ?_
  refine s_len rfl f_s1_0 Try.underlying26 rfl ?_
  refine s_mv rfl rfl ?_
  refine Reg.nil ?_
  obtain ⟨j1, h2, h⟩ := bnd h
  refine cw_sub (L := [(9, _), (10, _), (11, _), (0, _), (1, _)]) (Sub.cons rfl (Sub.cons rfl (Sub.cons rfl (Sub.cons rfl (Sub.cons rfl (Sub.nil _)))))) ?_
  refine cw_unitD 3 (ι := Unit) (fun _ => []) (fun _ => fun w3 => w = w3 ∧ (.inl ()) = j1) ?_ ?_
  · skip
    refine cw_block ?_
    refine cw_sub (L := [(11, _), (0, _), (1, _), (9, _), (10, _)]) (Sub.cons rfl (Sub.cons rfl (Sub.cons rfl (Sub.cons rfl (Sub.cons rfl (Sub.nil _)))))) ?_
    refine cw_loopM 1 (ι := Int) _ (fun x6 => [(11, Value.int IntKind.i64 (x6))]) (fun x6 => x6) (fun x6 => fun w8 => w = w8 ∧ InK IntKind.i64 x6) 0 h2 ⟨rfl, (by decide)⟩ (Sub.cons rfl (Sub.cons rfl (Sub.cons rfl (Sub.cons rfl (Sub.cons rfl (Sub.nil _)))))) ?_
    rintro x6 _ ⟨rfl, r7⟩ y11 h12 hR13
    refine cw_seq ?_
    refine cw_regF ?_
    refine s_lss rfl rfl rfl ?_
    refine Reg.nil ?_
    refine cw_seq ?_
    refine cw_cond rfl (fun hc14 => ?_) (fun hc14 => ?_)
    · replace h12 := cdT hc14 h12
      refine cw_skip ?_
      refine cw_seq ?_
      refine cw_block ?_
      refine cw_seq ?_
      refine cw_regF ?_
      refine s_mv rfl rfl ?_
      obtain ⟨y15, hy15, h12⟩ := bnd h12
      refine p_ia rfl rfl f_s1_0 hy15 Try.underlying26 Try.sizeOf3 rfl ?_
      intro b16 o17 cs18 hR19 hC20
      obtain ⟨rfl, r21⟩ := hR19
      refine s_ld rfl (hC20.cells.at 0 rfl) Try.isAgg3 rfl ?_
      refine s_as rfl rfl ?_
      refine s_as rfl rfl ?_
      refine Reg.nil ?_
      refine cw_seq ?_
      refine cw_seq ?_
      refine cw_regF ?_
      refine s_mv rfl rfl ?_
      refine s_mv rfl rfl ?_
      refine s_len rfl f_s2_0 Try.underlying26 rfl ?_
      refine s_geq rfl rfl rfl ?_
      refine Reg.nil ?_
      refine cw_cond rfl (fun hc22 => ?_) (fun hc22 => ?_)
      · replace h12 := cdT hc22 h12
        refine cw_seq ?_
        refine cw_regF ?_
        refine s_as rfl rfl ?_
        refine Reg.nil ?_
        refine cw_ret ?_
        obtain rfl := Option.some.inj h12
        obtain rfl := hR13 _ rfl
        replace h := elimR h
        obtain rfl := Option.some.inj h
        refine fin1 Try.results64 rfl ?_
        exact ⟨rfl, (by decide), rfl⟩
      · replace h12 := cdF hc22 h12
        refine cw_skip ?_
        refine cw_seq ?_
        refine cw_regF ?_
        refine s_mv rfl rfl ?_
        refine s_mv rfl rfl ?_
        obtain ⟨y23, hy23, h12⟩ := bnd h12
        refine p_ia rfl rfl f_s2_0 hy23 Try.underlying26 Try.sizeOf3 rfl ?_
        intro b24 o25 cs26 hR27 hC28
        obtain ⟨rfl, r29⟩ := hR27
        refine s_ld rfl (hC28.cells.at 0 rfl) Try.isAgg3 rfl ?_
        refine s_as rfl rfl ?_
        refine Reg.nil ?_
        refine cw_seq ?_
        refine cw_regF ?_
        refine s_mv rfl rfl ?_
        refine s_mv rfl rfl ?_
        obtain ⟨z30, hz31, h12⟩ := bnd h12
        refine s_call rfl Try.call73 rfl ?_
        refine (W_cmp_Compare_73 hI.mlt r21 r29 hz31).mono ?_
        rintro _ _ ⟨rfl, r34, rfl⟩
        refine ⟨_, rfl, ?_⟩
        refine s_as rfl rfl ?_
        refine Reg.nil ?_
        refine cw_seq ?_
        refine cw_regF ?_
        refine s_mv rfl rfl ?_
        refine s_neq rfl rfl rfl ?_
        refine Reg.nil ?_
        refine cw_cond rfl (fun hc35 => ?_) (fun hc35 => ?_)
        · replace h12 := cdT hc35 h12
          refine cw_seq ?_
          refine cw_regF ?_
          refine s_mv rfl rfl ?_
          refine s_as rfl rfl ?_
          refine Reg.nil ?_
          refine cw_ret ?_
          obtain rfl := Option.some.inj h12
          obtain rfl := hR13 _ rfl
          replace h := elimR h
          obtain rfl := Option.some.inj h
          refine fin1 Try.results64 rfl ?_
          exact ⟨rfl, r34, rfl⟩
        · replace h12 := cdF hc35 h12
          refine cw_skip ?_
          refine cw_regF ?_
          obtain ⟨n36, hn36, h12⟩ := bnd h12
          replace hn36 := chk_out hn36
          refine p_add rfl rfl rfl hn36 ?_
          refine s_mv rfl rfl ?_
          refine Reg.nil ?_
          obtain rfl := Option.some.inj h12
          refine ⟨rfl, n36, ⟨⟨rfl, hn36.2⟩, rfl⟩, Sub.cons rfl (Sub.cons rfl (Sub.cons rfl (Sub.cons rfl (Sub.cons rfl (Sub.nil _)))))⟩
    · replace h12 := cdF hc14 h12
      refine cw_exit ?_
      refine exB_same ?_
      obtain rfl := Option.some.inj h12
      obtain rfl := hR13 _ rfl
      refine ⟨rfl, (), ⟨rfl, rfl⟩, Sub.cons rfl (Sub.cons rfl (Sub.nil _))⟩
  · skip
    rintro _ _ ⟨rfl, rfl⟩
    replace h := elimL h
    refine cw_seq ?_
    refine cw_seq ?_
    refine cw_regF ?_
    refine s_mv rfl rfl ?_
    refine s_len rfl f_s1_0 Try.underlying26 rfl ?_
    refine s_mv rfl rfl ?_
    refine s_len rfl f_s2_0 Try.underlying26 rfl ?_
    refine s_lss rfl rfl rfl ?_
    refine Reg.nil ?_
    refine cw_cond rfl (fun hc37 => ?_) (fun hc37 => ?_)
    · replace h := cdT hc37 h
      refine cw_seq ?_
      refine cw_regF ?_
      refine s_as rfl rfl ?_
      refine Reg.nil ?_
      refine cw_ret ?_
      obtain rfl := Option.some.inj h
      refine fin1 Try.results64 rfl ?_
      exact ⟨rfl, (by decide), rfl⟩
    · replace h := cdF hc37 h
      refine cw_skip ?_
      refine cw_seq ?_
      refine cw_regF ?_
      refine s_as rfl rfl ?_
      refine Reg.nil ?_
      refine cw_ret ?_
      obtain rfl := Option.some.inj h
      refine fin1 Try.results64 rfl ?_
      exact ⟨rfl, (by decide), rfl⟩
theorem W_score_sets_in1 {M : List Nat} {w : World} (hM : MLt M w) {a : (List Int)} {v_a_0 : Value} (f_a_0 : RdS (intE .i64) M w v_a_0 a) {b : (List Int)} {v_b_0 : Value} (f_b_0 : RdS (intE .i64) M w v_b_0 b) {r0 : Int} (h : P.score_sets_in1 a b = some r0) :
    Calls Try.prog 63 (List.toArray [v_a_0, v_b_0]) w fun e w' => e = .returned (Value.int IntKind.i64 r0) ∧ InK IntKind.i64 r0 ∧ w = w' := by
  have hI := Hp.start (Mu := []) hM
  refine calls_cw Try.func63 rfl Try.ntmps63 rfl ?_
  refine cw_seq ?_
  refine cw_regF ?_
  refine s_as rfl rfl ?_
  refine Reg.nil ?_
  refine cw_seq ?_
  refine cw_seq ?_
  refine cw_regF ?_
  refine s_mv rfl rfl ?_
  refine s_len rfl f_a_0 Try.underlying26 rfl ?_
  refine s_mv rfl rfl ?_
  refine s_len rfl f_b_0 Try.underlying26 rfl ?_
  obtain ⟨n1, hn1, h⟩ := bnd h
  replace hn1 := chk_out hn1
  refine p_sub rfl rfl rfl hn1 ?_
  refine s_as rfl rfl ?_
  refine Reg.nil ?_
  refine cw_seq ?_
  refine cw_regF ?_
  refine s_mv rfl rfl ?_
  refine s_neq rfl rfl rfl ?_
  refine Reg.nil ?_
  refine cw_cond rfl (fun hc2 => ?_) (fun hc2 => ?_)
  · replace h := cdT hc2 h
    refine cw_seq ?_
    refine cw_regF ?_
    refine s_mv rfl rfl ?_
    refine s_as rfl rfl ?_
    refine Reg.nil ?_
    refine cw_ret ?_
    obtain rfl := Option.some.inj h
    refine fin1 Try.results63 rfl ?_
    exact ⟨rfl, hn1.2, rfl⟩
  · replace h := cdF hc2 h
    refine cw_skip ?_
    refine cw_seq ?_
    refine cw_regF ?_
    refine s_mv rfl rfl ?_
    refine s_mv rfl rfl ?_
    obtain ⟨z3, hz4, h⟩ := bnd h
    refine s_call rfl Try.call64 rfl ?_
    refine (W_slices_Compare_64 hI.mlt f_a_0 f_b_0 hz4).mono ?_
    rintro _ _ ⟨rfl, r7, rfl⟩
    refine ⟨_, rfl, ?_⟩
    refine s_as rfl rfl ?_
    refine Reg.nil ?_
    refine cw_ret ?_
    obtain rfl := Option.some.inj h
    refine fin1 Try.results63 rfl ?_
    exact ⟨rfl, r7, rfl⟩
end Go.Proofs.Ytecmlmngcnionaa
namespace Go.Proofs
open Go.Shelf
def Try.laySortFunc_ren : Go.Shelf.Ren := ⟨fun | 6 => 62 | 15 => 72 | 14 => 71 | 28 => 87 | 29 => 88 | 20 => 79 | 21 => 80 | 22 => 81 | 23 => 82 | 24 => 83 | 25 => 84 | 26 => 85 | 27 => 86 | 46 => 91 | 47 => 92 | 48 => 93 | 49 => 94 | 50 => 95 | 57 => 105 | n => n, fun | 22 => 98 | 24 => 26 | 25 => 119 | 3 => 3 | 39 => 127 | 0 => 0 | 53 => 65 | 55 => 140 | 4 => 4 | 46 => 132 | 45 => 131 | 50 => 136 | 5 => 5 | 9 => 9 | 66 => 142 | 70 => 146 | 76 => 154 | 77 => 155 | n => n, fun | n => n⟩
theorem Try.laySortFunc : Go.Proofs.SlLaysF.n6 Try.prog Try.laySortFunc_ren := {
  mixed := by kernel_rfl
  f6 := ⟨Try.f62.name, by decide, Try.func62.trans (congrArg some (by kernel_rfl))⟩
  f14 := ⟨Try.f71.name, by decide, Try.func71.trans (congrArg some (by kernel_rfl))⟩
  f15 := Try.func72.trans (congrArg some (by kernel_rfl))
  f20 := ⟨Try.f79.name, by decide, Try.func79.trans (congrArg some (by kernel_rfl))⟩
  f21 := ⟨Try.f80.name, by decide, Try.func80.trans (congrArg some (by kernel_rfl))⟩
  f22 := ⟨Try.f81.name, by decide, Try.func81.trans (congrArg some (by kernel_rfl))⟩
  f23 := ⟨Try.f82.name, by decide, Try.func82.trans (congrArg some (by kernel_rfl))⟩
  f24 := ⟨Try.f83.name, by decide, Try.func83.trans (congrArg some (by kernel_rfl))⟩
  f25 := ⟨Try.f84.name, by decide, Try.func84.trans (congrArg some (by kernel_rfl))⟩
  f26 := ⟨Try.f85.name, by decide, Try.func85.trans (congrArg some (by kernel_rfl))⟩
  f27 := ⟨Try.f86.name, by decide, Try.func86.trans (congrArg some (by kernel_rfl))⟩
  f28 := Try.func87.trans (congrArg some (by kernel_rfl))
  f29 := Try.func88.trans (congrArg some (by kernel_rfl))
  f46 := ⟨Try.f91.name, by decide, Try.func91.trans (congrArg some (by kernel_rfl))⟩
  f47 := Try.func92.trans (congrArg some (by kernel_rfl))
  f48 := Try.func93.trans (congrArg some (by kernel_rfl))
  f49 := ⟨Try.f94.name, by decide, Try.func94.trans (congrArg some (by kernel_rfl))⟩
  f50 := ⟨Try.f95.name, by decide, Try.func95.trans (congrArg some (by kernel_rfl))⟩
  f57 := ⟨Try.f105.name, by decide, Try.func105.trans (congrArg some (by kernel_rfl))⟩
  t0 := Try.underlying0
  a0 := Try.isAgg0
  z0 := Try.sizeOf0
  v0 := Try.zeroValue0
  t3 := Try.underlying3
  a3 := Try.isAgg3
  z3 := Try.sizeOf3
  v3 := Try.zeroValue3
  t4 := Try.underlying4
  a4 := Try.isAgg4
  z4 := Try.sizeOf4
  v4 := Try.zeroValue4
  t5 := Try.underlying5
  a5 := Try.isAgg5
  z5 := Try.sizeOf5
  v5 := Try.zeroValue5
  t9 := Try.underlying9
  a9 := Try.isAgg9
  z9 := Try.sizeOf9
  v9 := Try.zeroValue9
  t22 := Try.underlying98
  a22 := Try.isAgg98
  z22 := Try.sizeOf98
  v22 := Try.zeroValue98
  a24 := Try.isAgg26
  z24 := Try.sizeOf26
  t25 := Try.underlying119
  a25 := Try.isAgg119
  z25 := Try.sizeOf119
  v25 := Try.zeroValue119
  t39 := Try.underlying127
  a39 := Try.isAgg127
  z39 := Try.sizeOf127
  v39 := Try.zeroValue127
  t45 := Try.underlying131
  a45 := Try.isAgg131
  z45 := Try.sizeOf131
  v45 := Try.zeroValue131
  t46 := Try.underlying132
  a46 := Try.isAgg132
  z46 := Try.sizeOf132
  v46 := Try.zeroValue132
  t50 := Try.underlying136
  a50 := Try.isAgg136
  z50 := Try.sizeOf136
  v50 := Try.zeroValue136
  t53 := Try.underlying65
  a53 := Try.isAgg65
  z53 := Try.sizeOf65
  v53 := Try.zeroValue65
  t55 := Try.underlying140
  a55 := Try.isAgg140
  z55 := Try.sizeOf140
  v55 := Try.zeroValue140
  t66 := Try.underlying142
  a66 := Try.isAgg142
  z66 := Try.sizeOf142
  v66 := Try.zeroValue142
  t70 := Try.underlying146
  a70 := Try.isAgg146
  z70 := Try.sizeOf146
  v70 := Try.zeroValue146
  t76 := Try.underlying154
  a76 := Try.isAgg154
  z76 := Try.sizeOf154
  v76 := Try.zeroValue154
  t77 := Try.underlying155
  a77 := Try.isAgg155
  z77 := Try.sizeOf155
  v77 := Try.zeroValue155 }
end Go.Proofs
namespace Go.Proofs.Ytecmlmngcnionaa
open Go Go.Sx Go.RowKit Go.Sort Go.Shelf
/-- A slice of numbers as it stands in w, with what it reads as. -/
def El (M : List Nat) (w : World) : Type := { p : Value × List Int // RdS (intE .i64) M w p.1 p.2 }
instance {M : List Nat} {w : World} : Inhabited (El M w) := ⟨⟨(.slice none 0 0, []), RdS.nil _ _ _⟩⟩
def El.v {M : List Nat} {w : World} (x : El M w) : Value := x.1.1
def El.l {M : List Nat} {w : World} (x : El M w) : List Int := x.1.2
theorem chunks_el {M : List Nat} {w : World} : ∀ {cs : List Value} {xs : List (List Int)}, Chunks (sliceE (intE .i64)) M w cs xs → ∃ d : List (El M w), cs = d.map El.v ∧ xs = d.map El.l
  | cs, [], h => ⟨[], h, rfl⟩
  | cs, x :: xs, ⟨c, rest, he, hR, hr⟩ => by
    obtain ⟨u, hu, hS⟩ := sliceE_R.1 hR
    obtain ⟨d, h1, h2⟩ := chunks_el hr
    exact ⟨⟨(u, x), hS⟩ :: d, by rw [he, hu, h1]; rfl, by rw [h2]; rfl⟩
theorem el_chunks {M M' : List Nat} {w w' : World} (ha : ∀ {v : Value} {l : List Int}, RdS (intE .i64) M w v l → RdS (intE .i64) M' w' v l) : ∀ d : List (El M w), Chunks (sliceE (intE .i64)) M' w' (d.map El.v) (d.map El.l)
  | [] => rfl
  | x :: d => ⟨[x.v], d.map El.v, rfl, sliceE_R.2 ⟨x.v, rfl, ha x.2⟩, el_chunks ha d⟩
theorem put_takeE {α : Type} [Inhabited α] {enc : α → Value} {ys : List α} {cur : Array Value} (h : ys.length ≤ cur.size) : (putCells enc 0 ys.toArray cur).toList.take ys.length = ys.map enc := by
  apply List.ext_getElem?
  intro i
  rw [List.getElem?_take, List.getElem?_map]
  split
  · rename_i hi
    have hc : cur[i]? = some cur[i] := Array.getElem?_eq_getElem (by omega)
    simp only [putCells, Array.getElem?_toList, Array.getElem?_mapIdx, hc, Option.map_some]
    rw [if_pos ⟨by omega, by simpa using hi⟩]
    simp [hi]
  · rename_i hi
    rw [List.getElem?_eq_none (by omega)]; rfl
theorem swo_sets {M : List Nat} {w : World} : SWO (ltOf fun x y : El M w => S.setc x.l y.l) where
  irrefl x := by
    have := S.setc_anti x.l x.l
    unfold ltOf; rw [decide_eq_false_iff_not]; show ¬ S.setc x.l x.l < 0; omega
  trans x y z h1 h2 := by
    unfold ltOf at *
    rw [decide_eq_true_eq] at *
    have h1 : S.setc x.l y.l < 0 := h1
    have h2 : S.setc y.l z.l < 0 := h2
    exact (S.setc_trans x.l y.l z.l (by omega) (by omega)).2 (.inl h1)
  ntrans x y z h1 h2 := by
    unfold ltOf at *
    rw [decide_eq_false_iff_not] at *
    have h1 : ¬ S.setc x.l y.l < 0 := h1
    have h2 : ¬ S.setc y.l z.l < 0 := h2
    show ¬ S.setc x.l z.l < 0
    have a1 := S.setc_anti x.l y.l
    have a2 := S.setc_anti y.l z.l
    have a3 := S.setc_anti x.l z.l
    have := (S.setc_trans z.l y.l x.l (by omega) (by omega)).1
    omega
theorem kp_sort {α : Type} [Inhabited α] {enc : α → Value} {w : World} {g n : Nat} {d : Array α} {os : Array Obj} : Kp [g] w (sortWorld enc w g 0 n d os) := by
  refine ⟨rfl, rfl, rfl, by simp [sortWorld], fun j hj hm => ?_⟩
  have hne : ¬ g = j := fun e => hm (by simp [e])
  unfold sortWorld
  rw [heap_grow_old _ _ (by simpa using hj)]
  show (w.heap.modify g (onCells (putCells enc 0 d)))[j]? = _
  rw [Array.getElem?_modify, if_neg hne]
theorem sorted_sets {M : List Nat} {w : World} (hM : MLt M w) {g cap : Nat} {cur : Array Value} {x : List (List Int)} (h2 : w.heap[g]? = some (.cells cur 26 (0, 0))) (h3 : x.length ≤ cap + 1) (h4 : cap + 1 ≤ maxLen) (h5 : cur.size = (cap + 1) * 1)
    (h6 : Chunks (sliceE (intE .i64)) (g :: M) w (cur.toList.take (x.length * 1)) x) (hlen : x.length < 4611686018427387904) :
    Calls Try.prog 62 #[.slice (some ⟨g, 0, none⟩) x.length (cap + 1), .func (.func 63) #[] #[]] w fun e w' => e = .returned (.tuple #[]) ∧ ∃ r : List (List Int), r.Perm x ∧ (∀ (i j : Nat) (a b : List Int), i < j → r[i]? = some a → r[j]? = some b → S.setc a b ≤ 0) ∧
      Own (sliceE (intE .i64)) 26 0 M w' (.slice (some ⟨g, 0, none⟩) x.length (cap + 1)) r ∧ Kp [g] w w' := by
  have hg := heap_lt h2
  obtain ⟨d, hd1, hd2⟩ := chunks_el h6
  have hdl : d.length = x.length := by rw [hd2]; simp
  have hH : Holds (El.v (M := g :: M) (w := w)) w g 0 d.toArray := fun j hj => by
    have hj' : j < d.length := by simpa using hj
    have h8 := congrArg (fun l => l[j]?) hd1
    simp only [Nat.mul_one, List.getElem?_take, show j < x.length by omega, if_true, Array.getElem?_toList, List.getElem?_map, List.getElem?_eq_getElem hj', Option.map_some] at h8
    constructor
    · have : w.cell? ⟨g, 0 + j, none⟩ = cur[j]? := by simp [World.cell?, h2]
      rw [this, h8]; simp [hj']
    · simp [World.frozen?, h2]
  have eg : ∀ args w, (callFunc 63 args).run Try.prog w = .ok (.enter 63 args) w := enters_of Try.func63 (by kernel_rfl) rfl
  have hMg : MLt (g :: M) w := fun b hb => by
    rcases List.mem_cons.1 hb with rfl | hb
    · exact hg
    · exact hM b hb
  have hst : ∀ {n : Nat} {d' : Array (El (g :: M) w)} {os : Array Obj} {v : Value} {l : List Int}, RdS (intE .i64) (g :: M) w v l → RdS (intE .i64) (g :: M) (sortWorld El.v w g 0 n d' os) v l := fun h => h.kp (kp_sort.mono fun b hb => .inl (by simp at hb; simp [hb]))
  have hcmp : CmpLays1 Try.prog 63 #[] (El.v (M := g :: M) (w := w)) (fun a b => S.setc a.l b.l) g 0 d.toArray.size w := fun m os dk _ a b => by
    have ha := (hst (n := m) (d' := dk) (os := os) a.2)
    have hb := (hst (n := m) (d' := dk) (os := os) b.2)
    have hml : MLt (g :: M) (sortWorld El.v w g 0 m dk os) := fun c hc => Nat.lt_of_lt_of_le (hMg c hc) kp_sort.size
    refine (W_score_sets_in1 hml ha hb (S.p_sets1 a.l b.l ha.len hb.len)).mono ?_
    rintro e w' ⟨rfl, _, rfl⟩
    exact ⟨rfl, 0, #[], by rw [grow_empty]; rfl⟩
  have hc := Any.slices_SortFunc Try.laySortFunc (El.v (M := g :: M) (w := w)) (fun a => a.2.oneC) (fun a b => S.setc a.l b.l) swo_sets 63 #[] g 0 (cap + 1) d.toArray w eg hcmp hH hg (by simpa [hdl] using hlen)
  change Calls Try.prog 62 _ _ _ at hc
  rw [show d.toArray.size = x.length by simp [hdl]] at hc
  refine hc.mono ?_
  rintro e w' ⟨rfl, d', n, os, hp, hs, rfl⟩
  obtain ⟨hp1, _, hp3⟩ := hp
  have hsz : d'.size = x.length := by rw [hp1]; simp [hdl]
  refine ⟨rfl, d'.toList.map El.l, ?_, fun i j a b hij ha hb => ?_, .inr ⟨g, cap, putCells El.v 0 d' cur, by simp [hsz], Nat.zero_le _, ?_, by simp [hsz]; exact h3, h4, ?_, ?_⟩, kp_sort⟩
  · rw [hd2]
    refine List.Perm.map _ ?_
    have h1 : (d'.extract 0 x.length).toList = d'.toList := by rw [← hsz]; simp
    have h2 : (d.toArray.extract 0 x.length).toList = d := by rw [← hdl]; simp
    rw [h1, h2] at hp3
    exact hp3
  · simp only [List.getElem?_map, Option.map_eq_some_iff] at ha hb
    obtain ⟨a', ha', rfl⟩ := ha
    obtain ⟨b', hb', rfl⟩ := hb
    have hjl : j < d'.size := by simpa using get_lt hb'
    have := hs i j (Nat.zero_le _) hij (by omega)
    unfold ltOf at this
    rw [decide_eq_false_iff_not] at this
    have ea : d'[i]! = a' := by
      rw [Array.getElem?_toList] at ha'
      simp [Array.getElem!_eq_getD, ha']
    have eb : d'[j]! = b' := by
      rw [Array.getElem?_toList] at hb'
      simp [Array.getElem!_eq_getD, hb']
    rw [ea, eb] at this
    have h0 : ¬ S.setc b'.l a'.l < 0 := this
    have := S.setc_anti a'.l b'.l
    omega
  · unfold sortWorld
    rw [heap_grow_old _ _ (by simpa using hg)]
    show (w.heap.modify g (onCells (putCells El.v 0 d')))[g]? = _
    rw [Array.getElem?_modify, if_pos rfl, h2]; rfl
  · show (putCells El.v 0 d' cur).size = (cap + 1) * 1
    rw [← h5]; simp [putCells]
  · show Chunks (sliceE (intE .i64)) (g :: M) _ ((putCells El.v 0 d' cur).toList.take ((d'.toList.map El.l).length * 1)) _
    have h9 := put_takeE (enc := El.v (M := g :: M) (w := w)) (ys := d'.toList) (cur := cur) (by rw [Array.length_toList, hsz]; omega)
    rw [Nat.mul_one, List.length_map]
    rw [show d'.toList.toArray = d' by simp] at h9
    rw [h9]
    exact el_chunks hst d'.toList
end Go.Proofs.Ytecmlmngcnionaa
namespace Go.Proofs.Ytecmlmngcnionaa
open Go Go.Sx Go.RowKit Go.Sort Go.Shelf
noncomputable def P.slices_SortFunc_62 (x : List (List Int)) (_ : List Int → List Int → Option Int) : Option (List (List Int)) := if x.length < 4611686018427387904 then some (x.mergeSort fun a b => decide (S.setc a b ≤ 0)) else none
theorem C_slices_SortFunc_62 {M : List Nat} {w : World} {v_x : Value} (hM : MLt M w) (_ : ∀ b ∈ ob v_x, b ∉ M) {x : List (List Int)} (p_x : Own (sliceE (intE .i64)) 26 0 M w v_x x) {cmp : List Int → List Int → Option Int}
    (_ : ∀ (x0 : (List Int)) (vx0_0 : Value) (x1 : (List Int)) (vx1_0 : Value) (r : Int) (w1 : World), Kp (ob v_x) w w1 → RdS (intE .i64) (ob v_x ++ M) w1 vx0_0 x0 → RdS (intE .i64) (ob v_x ++ M) w1 vx1_0 x1 → cmp x0 x1 = some r → CallsV Try.prog (.func (.func 63) #[] [].toArray) [vx0_0, vx1_0] w1 fun e w2 => e = .returned (Value.int IntKind.i64 r) ∧ InK IntKind.i64 r ∧ Ext w1 w2)
    {r0 : List (List Int)} (h : P.slices_SortFunc_62 x cmp = some r0) :
    Calls Try.prog 62 (List.toArray [v_x, .func (.func 63) #[] [].toArray]) w fun e w' => e = .returned (Value.tuple #[]) ∧ (Own (sliceE (intE .i64)) 26 0 M w' v_x r0 ∧ (∀ b ∈ ob v_x, b ∈ ob v_x ∨ w.heap.size ≤ b) ∧ Kp (ob v_x) w w') := by
  obtain ⟨hlen, rfl⟩ : x.length < 4611686018427387904 ∧ (x.mergeSort fun a b => decide (S.setc a b ≤ 0)) = r0 := by
    unfold P.slices_SortFunc_62 at h
    split at h
    · exact ⟨by assumption, Option.some.inj h⟩
    · cases h
  rcases p_x with ⟨a, rfl, rfl⟩ | ⟨g, cap, cur, rfl, h1, h2, h3, h4, h5, h6⟩
  · have hc := AnyF.slices_SortFunc_none (P := Try.prog) (ρ := Try.laySortFunc_ren) { Try.laySortFunc with } a 0 (.func (.func 63) #[] [].toArray) w
    change Calls Try.prog 62 _ _ _ at hc
    refine hc.mono ?_
    rintro e w' h9
    obtain ⟨rfl, h9⟩ := h9
    subst h9
    exact ⟨rfl, .inl ⟨a, rfl, by simp⟩, fun b hb => .inl hb, Kp.refl _ _⟩
  · refine (sorted_sets hM h2 h3 h4 h5 h6 hlen).mono ?_
    rintro e w' ⟨rfl, r, hp, hs, ho, hk⟩
    obtain rfl := S.sort_is hp hs
    have hl := hp.length_eq
    exact ⟨rfl, by simpa using ho, fun b hb => .inl hb, hk.mono fun b hb => .inl (by simpa [ob] using hb)⟩
end Go.Proofs.Ytecmlmngcnionaa
set_option maxRecDepth 20000
namespace Go.Proofs.Ytecmlmngcnionaa
open Go Go.Sx Go.RowKit
noncomputable def P.score_sets (traits : Int) : Option (List (List Int)) :=
 Option.bind (shlO .i64 1 traits) fun n1 => Option.bind (loopM (S := (List (List Int)) × Int) (R := ((List (List Int)))) (fun (x2, x3) => cond (decide (x3 < n1)) (Option.bind (Option.bind (loopM (S := (List Int) × Int) (R := ((List Int))) (fun (x5, x6) => cond (decide (x6 < traits)) (Option.bind (Option.bind (shrO x3 x6 IntKind.i64.bits) fun n8 => Option.bind (cond (decide (andI .i64 n8 1 = 1)) (Option.bind (appo 8 x5 ([x6] : List Int)) fun l16 => some l16) (some x5)) fun x21 => some x21) fun x22 => Option.bind (chk .i64 (x6 + 1)) fun n23 => some (.inl (x22, n23))) (some (.inr x5))) ([], 0)) fun x24 => Option.bind (cond (decide (0 < (x24.length : Int))) (Option.bind (appo 24 x2 ([x24] : List (List Int))) fun l34 => some l34) (some x2)) fun x39 => some x39) fun x40 => Option.bind (chk .i64 (x3 + 1)) fun n41 => some (.inl (x40, n41))) (some (.inr x2))) ([], 0)) fun x42 => Option.bind (P.slices_SortFunc_62 x42 (fun x0_ x1_ => P.score_sets_in1 x0_ x1_)) fun l43 => some l43
theorem C_score_sets {M : List Nat} {w : World} (hM : MLt M w) {traits : Int} (f_traits_0 : InK .i64 traits) {r0 : (List (List Int))} (h : P.score_sets traits = some r0) :
  Calls Try.prog 48 (List.toArray [Value.int .i64 traits]) w fun e w' => ∃ v0_0 : Value, e = .returned (v0_0) ∧ (Own (sliceE (intE .i64)) 26 0 M w' v0_0 r0 ∧ ∀ b ∈ ob v0_0, w.heap.size ≤ b) ∧ Ext w w' := by
 have hI := Hp.start (Mu := []) hM
 refine calls_cw Try.func48 rfl Try.ntmps48 rfl ?_
 refine cw_seq (cw_regF ?_)
 refine s_as rfl rfl ?_
 refine Reg.nil ?_
 refine cw_seq (cw_regF ?_)
 refine s_as rfl rfl ?_
 refine Reg.nil ?_
 refine cw_seq (cw_seq (cw_regF ?_))
 refine s_mv rfl rfl ?_
 obtain ⟨n1, hn1, h⟩ := bnd h
 refine p_shl rfl rfl rfl hn1 ?_
 refine s_mv rfl rfl ?_
 refine Reg.nil ?_
 obtain ⟨j2, h3, h⟩ := bnd h
 refine cw_sub (L := [(0, _), (3, _), (8, _), (9, _)]) (Sub.cons rfl (Sub.cons rfl (Sub.cons rfl (Sub.cons rfl (Sub.nil _))))) ?_
 refine cw_unitD 4 (ι := (List (List Int)) × Value) (fun ⟨x4, v5⟩ => [(3, v5)]) (fun ⟨x4, v5⟩ => fun w6 => Hp w [] M [ownR [] (sliceE (intE .i64)) 26 v5 x4] w6 ∧ Adv (mm [] M) (mm [ownR [] (sliceE (intE .i64)) 26 v5 x4] M) w w6 ∧ x4 = j2) ?_ ?_
 ·skip
  refine cw_block ?_
  refine cw_sub (L := [(3, _), (9, _), (0, _), (8, _)]) (Sub.cons rfl (Sub.cons rfl (Sub.cons rfl (Sub.cons rfl (Sub.nil _))))) ?_
  have hI16 := hI.addNil (sliceE (intE .i64)) 26
  refine cw_loopM 2 (ι := (List (List Int)) × Int × Value) _ (fun ⟨x9, x11, v10⟩ => [(3, v10), (9, Value.int .i64 x11)]) (fun ⟨x9, x11, v10⟩ => (x9, x11)) (fun ⟨x9, x11, v10⟩ => fun w13 => Hp w [] M [ownR [] (sliceE (intE .i64)) 26 v10 x9] w13 ∧ Adv (mm [] M) (mm [ownR [] (sliceE (intE .i64)) 26 v10 x9] M) w w13 ∧ InK .i64 x11) (([] : List (List Int)), 0, (Value.slice none 0 0)) h3 ⟨hI16, hI16.adv, (by decide)⟩ (Sub.cons rfl (Sub.cons rfl (Sub.cons rfl (Sub.cons rfl (Sub.nil _))))) ?_
  rintro ⟨x9, x11, v10⟩ w13 ⟨hI14, hA15, r12⟩ y17 h18 hR19
  refine cw_seq (cw_regF ?_)
  refine s_lss rfl rfl rfl ?_
  refine Reg.nil ?_
  refine cw_seq ?_
  refine cw_cond rfl (fun hc20 => ?_) (fun hc20 => ?_)
  ·replace h18 := cdT hc20 h18
   refine cw_skip ?_
   obtain ⟨j21, h22, h18⟩ := bnd h18
   refine cw_sub (L := [(3, _), (0, _), (8, _), (9, _)]) (Sub.cons rfl (Sub.cons rfl (Sub.cons rfl (Sub.cons rfl (Sub.nil _))))) ?_
   refine cw_seqD 1 (ι := (List (List Int)) × Value) (fun ⟨x23, v24⟩ => [(3, v24)]) (fun ⟨x23, v24⟩ => fun w25 => Hp w [] M [ownR [] (sliceE (intE .i64)) 26 v24 x23] w25 ∧ Adv (mm [ownR [] (sliceE (intE .i64)) 26 v10 x9] M) (mm [ownR [] (sliceE (intE .i64)) 26 v24 x23] M) w13 w25 ∧ x23 = j21) ?_ ?_
   ·skip
    refine cw_block ?_
    refine cw_seq (cw_regF ?_)
    refine s_mv rfl rfl ?_
    refine s_as rfl rfl ?_
    refine Reg.nil ?_
    refine cw_seq (cw_regF ?_)
    refine s_as rfl rfl ?_
    refine Reg.nil ?_
    refine cw_seq (cw_seq (cw_regF ?_))
    refine s_mv rfl rfl ?_
    refine s_mv rfl rfl ?_
    refine Reg.nil ?_
    obtain ⟨j28, h29, h22⟩ := bnd h22
    refine cw_sub (L := [(4, _), (5, _), (12, _), (13, _), (0, _), (3, _), (8, _), (9, _)]) (Sub.cons rfl (Sub.cons rfl (Sub.cons rfl (Sub.cons rfl (Sub.cons rfl (Sub.cons rfl (Sub.cons rfl (Sub.cons rfl (Sub.nil _))))))))) ?_
    refine cw_unitD 4 (ι := (List Int) × Value) (fun ⟨x30, v31⟩ => [(5, v31)]) (fun ⟨x30, v31⟩ => fun w32 => Hp w [] M [ownR [] (intE .i64) 3 v31 x30, ownR [] (sliceE (intE .i64)) 26 v10 x9] w32 ∧ Adv (mm [ownR [] (sliceE (intE .i64)) 26 v10 x9] M) (mm [ownR [] (intE .i64) 3 v31 x30, ownR [] (sliceE (intE .i64)) 26 v10 x9] M) w13 w32 ∧ x30 = j28) ?_ ?_
    ·skip
     refine cw_block ?_
     refine cw_sub (L := [(5, _), (13, _), (0, _), (3, _), (4, _), (8, _), (9, _), (12, _)]) (Sub.cons rfl (Sub.cons rfl (Sub.cons rfl (Sub.cons rfl (Sub.cons rfl (Sub.cons rfl (Sub.cons rfl (Sub.cons rfl (Sub.nil _))))))))) ?_
     have hI42 := hI14.addNil (intE .i64) 3
     refine cw_loopM 2 (ι := (List Int) × Int × Value) _ (fun ⟨x35, x37, v36⟩ => [(5, v36), (13, Value.int .i64 x37)]) (fun ⟨x35, x37, v36⟩ => (x35, x37)) (fun ⟨x35, x37, v36⟩ => fun w39 => Hp w [] M [ownR [] (intE .i64) 3 v36 x35, ownR [] (sliceE (intE .i64)) 26 v10 x9] w39 ∧ Adv (mm [ownR [] (sliceE (intE .i64)) 26 v10 x9] M) (mm [ownR [] (intE .i64) 3 v36 x35, ownR [] (sliceE (intE .i64)) 26 v10 x9] M) w13 w39 ∧ InK .i64 x37) (([] : List Int), 0, (Value.slice none 0 0)) h29 ⟨hI42, (Hp.addNilA (σ := [ownR [] (sliceE (intE .i64)) 26 v10 x9]) (intE .i64) 3), (by decide)⟩ (Sub.cons rfl (Sub.cons rfl (Sub.cons rfl (Sub.cons rfl (Sub.cons rfl (Sub.cons rfl (Sub.cons rfl (Sub.cons rfl (Sub.nil _))))))))) ?_
     rintro ⟨x35, x37, v36⟩ w39 ⟨hI40, hA41, r38⟩ y43 h44 hR45
     refine cw_seq (cw_regF ?_)
     refine s_lss rfl rfl rfl ?_
     refine Reg.nil ?_
     refine cw_seq ?_
     refine cw_cond rfl (fun hc46 => ?_) (fun hc46 => ?_)
     ·replace h44 := cdT hc46 h44
      refine cw_skip ?_
      obtain ⟨j47, h48, h44⟩ := bnd h44
      refine cw_sub (L := [(5, _), (0, _), (3, _), (4, _), (8, _), (9, _), (12, _), (13, _)]) (Sub.cons rfl (Sub.cons rfl (Sub.cons rfl (Sub.cons rfl (Sub.cons rfl (Sub.cons rfl (Sub.cons rfl (Sub.cons rfl (Sub.nil _))))))))) ?_
      refine cw_seqD 1 (ι := (List Int) × Value) (fun ⟨x49, v50⟩ => [(5, v50)]) (fun ⟨x49, v50⟩ => fun w51 => Hp w [] M [ownR [] (intE .i64) 3 v50 x49, ownR [] (sliceE (intE .i64)) 26 v10 x9] w51 ∧ Adv (mm [ownR [] (intE .i64) 3 v36 x35, ownR [] (sliceE (intE .i64)) 26 v10 x9] M) (mm [ownR [] (intE .i64) 3 v50 x49, ownR [] (sliceE (intE .i64)) 26 v10 x9] M) w39 w51 ∧ x49 = j47) ?_ ?_
      ·skip
       refine cw_block ?_
       refine cw_seq (cw_regF ?_)
       refine s_mv rfl rfl ?_
       refine s_as rfl rfl ?_
       refine Reg.nil ?_
       refine cw_seq (cw_regF ?_)
       refine s_mv rfl rfl ?_
       refine s_mv rfl rfl ?_
       obtain ⟨n54, hn54, h48⟩ := bnd h48
       refine p_shr rfl rfl rfl hn54 ?_
       refine s_and rfl rfl rfl ?_
       refine s_eql rfl rfl rfl ?_
       refine Reg.nil ?_
       obtain ⟨j55, h56, h48⟩ := bnd h48
       refine cw_sub (L := [(5, _), (6, _), (20, _), (0, _), (3, _), (4, _), (8, _), (9, _), (12, _), (13, _)]) (Sub.cons rfl (Sub.cons rfl (Sub.cons rfl (Sub.cons rfl (Sub.cons rfl (Sub.cons rfl (Sub.cons rfl (Sub.cons rfl (Sub.cons rfl (Sub.cons rfl (Sub.nil _))))))))))) ?_
       refine cw_unitD 3 (ι := (List Int) × Value) (fun ⟨x57, v58⟩ => [(5, v58)]) (fun ⟨x57, v58⟩ => fun w59 => Hp w [] M [ownR [] (intE .i64) 3 v58 x57, ownR [] (sliceE (intE .i64)) 26 v10 x9] w59 ∧ Adv (mm [ownR [] (intE .i64) 3 v36 x35, ownR [] (sliceE (intE .i64)) 26 v10 x9] M) (mm [ownR [] (intE .i64) 3 v58 x57, ownR [] (sliceE (intE .i64)) 26 v10 x9] M) w39 w59 ∧ x57 = j55) ?_ ?_
       ·skip
        refine cw_cond rfl (fun hc62 => ?_) (fun hc62 => ?_)
        ·replace h56 := cdT hc62 h56
         refine cw_regF ?_
         refine s_mv rfl rfl ?_
         refine s_mv rfl rfl ?_
         refine y_bs (E := (intE .i64)) (xs := [x37]) sl26 hI40 rfl rfl (Cls.cons rfl Cls.nil) (Chs.cons ⟨rfl, r38⟩ Chs.nil) rfl rfl ?_
         intro v63 w64 hI65 x66
         have hf67 := hI65.freeze 0 rfl
         have hI68 := hI65.erase 0
         obtain ⟨l69, hl69, h56⟩ := bnd h56
         obtain ⟨hbl69, el69⟩ := appo_out hl69
         refine y_app 0 sl26 hI68 rfl rfl rfl hf67 hbl69 rfl ?_
         rw [← el69]
         intro v70 w71 hI72 x73
         refine s_as rfl rfl ?_
         refine Reg.nil ?_
         obtain rfl := Option.some.inj h56
         refine ⟨rfl, (l69, v70), ⟨hI72, (x66.trans ((Hp.eraseA (σ := [ownR [] (intE .i64) 3 v63 ([x37] : List Int), ownR [] (intE .i64) 3 v36 x35, ownR [] (sliceE (intE .i64)) 26 v10 x9]) 0).trans x73)), rfl⟩, Sub.cons rfl (Sub.cons rfl (Sub.cons rfl (Sub.cons rfl (Sub.cons rfl (Sub.cons rfl (Sub.cons rfl (Sub.cons rfl (Sub.nil _))))))))⟩
        ·replace h56 := cdF hc62 h56
         refine cw_skip ?_
         obtain rfl := Option.some.inj h56
         refine ⟨rfl, (x35, v36), ⟨hI40, (Adv.refl _ _), rfl⟩, Sub.cons rfl (Sub.cons rfl (Sub.cons rfl (Sub.cons rfl (Sub.cons rfl (Sub.cons rfl (Sub.cons rfl (Sub.cons rfl (Sub.nil _))))))))⟩
       ·skip
        rintro ⟨x57, v58⟩ w59 ⟨hI60, hA61, rfl⟩
        obtain rfl := Option.some.inj h48
        refine ⟨rfl, (x57, v58), ⟨hI60, hA61, rfl⟩, Sub.cons rfl (Sub.cons rfl (Sub.cons rfl (Sub.cons rfl (Sub.cons rfl (Sub.cons rfl (Sub.cons rfl (Sub.cons rfl (Sub.nil _))))))))⟩
      ·skip
       rintro ⟨x49, v50⟩ w51 ⟨hI52, hA53, rfl⟩
       refine cw_regF ?_
       obtain ⟨n74, hn74, h44⟩ := bnd h44
       replace hn74 := chk_out hn74
       refine p_add rfl rfl rfl hn74 ?_
       refine s_mv rfl rfl ?_
       refine Reg.nil ?_
       obtain rfl := Option.some.inj h44
       refine ⟨rfl, (x49, n74, v50), ⟨⟨hI52, (hA41.trans hA53), hn74.2⟩, rfl⟩, Sub.cons rfl (Sub.cons rfl (Sub.cons rfl (Sub.cons rfl (Sub.cons rfl (Sub.cons rfl (Sub.cons rfl (Sub.cons rfl (Sub.nil _))))))))⟩
     ·replace h44 := cdF hc46 h44
      refine cw_exit ?_
      refine exB_same ?_
      obtain rfl := Option.some.inj h44
      obtain rfl := hR45 _ rfl
      refine ⟨rfl, (x35, v36), ⟨hI40, hA41, rfl⟩, Sub.cons rfl (Sub.cons rfl (Sub.cons rfl (Sub.cons rfl (Sub.cons rfl (Sub.nil _)))))⟩
    ·skip
     rintro ⟨x30, v31⟩ w32 ⟨hI33, hA34, rfl⟩
     refine cw_seq (cw_regF ?_)
     refine s_mv rfl rfl ?_
     refine s_lenO rfl (hI33.ownAt 0 rfl) Try.underlying26 rfl ?_
     refine s_gtr rfl rfl rfl ?_
     refine Reg.nil ?_
     obtain ⟨j75, h76, h22⟩ := bnd h22
     refine cw_sub (L := [(3, _), (5, _), (28, _), (0, _), (8, _), (9, _)]) (Sub.cons rfl (Sub.cons rfl (Sub.cons rfl (Sub.cons rfl (Sub.cons rfl (Sub.cons rfl (Sub.nil _))))))) ?_
     refine cw_unitD 3 (ι := (List (List Int)) × Value) (fun ⟨x77, v78⟩ => [(3, v78)]) (fun ⟨x77, v78⟩ => fun w79 => Hp w [] M [ownR [] (sliceE (intE .i64)) 26 v78 x77] w79 ∧ Adv (mm [ownR [] (intE .i64) 3 v31 x30, ownR [] (sliceE (intE .i64)) 26 v10 x9] M) (mm [ownR [] (sliceE (intE .i64)) 26 v78 x77] M) w32 w79 ∧ x77 = j75) ?_ ?_
     ·skip
      refine cw_cond rfl (fun hc82 => ?_) (fun hc82 => ?_)
      ·replace h76 := cdT hc82 h76
       refine cw_regF ?_
       refine s_mv rfl rfl ?_
       refine s_mv rfl rfl ?_
       have hf83 := hI33.freeze 0 rfl
       have hI84 := hI33.erase 0
       refine y_bs (E := (sliceE (intE .i64))) (xs := [x30]) sl98 hI84 rfl rfl (Cls.cons (RdS.cells1 hf83) Cls.nil) (Chs.cons ⟨_, rfl, hf83⟩ Chs.nil) rfl rfl ?_
       intro v85 w86 hI87 x88
       have hf89 := hI87.freeze 0 rfl
       have hI90 := hI87.erase 0
       obtain ⟨l91, hl91, h76⟩ := bnd h76
       obtain ⟨hbl91, el91⟩ := appo_out hl91
       refine y_app 0 sl98 hI90 rfl rfl rfl hf89 hbl91 rfl ?_
       rw [← el91]
       intro v92 w93 hI94 x95
       refine s_as rfl rfl ?_
       refine Reg.nil ?_
       obtain rfl := Option.some.inj h76
       refine ⟨rfl, (l91, v92), ⟨hI94, ((Hp.eraseA (σ := [ownR [] (intE .i64) 3 v31 x30, ownR [] (sliceE (intE .i64)) 26 v10 x9]) 0).trans (x88.trans ((Hp.eraseA (σ := [ownR [] (sliceE (intE .i64)) 26 v85 ([x30] : List (List Int)), ownR [] (sliceE (intE .i64)) 26 v10 x9]) 0).trans x95))), rfl⟩, Sub.cons rfl (Sub.cons rfl (Sub.cons rfl (Sub.cons rfl (Sub.nil _))))⟩
      ·replace h76 := cdF hc82 h76
       refine cw_skip ?_
       obtain rfl := Option.some.inj h76
       refine ⟨rfl, (x9, v10), ⟨(hI33.sel [1] rfl), (Hp.selA (σ := [ownR [] (intE .i64) 3 v31 x30, ownR [] (sliceE (intE .i64)) 26 v10 x9]) [1]), rfl⟩, Sub.cons rfl (Sub.cons rfl (Sub.cons rfl (Sub.cons rfl (Sub.nil _))))⟩
     ·skip
      rintro ⟨x77, v78⟩ w79 ⟨hI80, hA81, rfl⟩
      obtain rfl := Option.some.inj h22
      refine ⟨rfl, (x77, v78), ⟨hI80, (hA34.trans hA81), rfl⟩, Sub.cons rfl (Sub.cons rfl (Sub.cons rfl (Sub.cons rfl (Sub.nil _))))⟩
   ·skip
    rintro ⟨x23, v24⟩ w25 ⟨hI26, hA27, rfl⟩
    refine cw_regF ?_
    obtain ⟨n96, hn96, h18⟩ := bnd h18
    replace hn96 := chk_out hn96
    refine p_add rfl rfl rfl hn96 ?_
    refine s_mv rfl rfl ?_
    refine Reg.nil ?_
    obtain rfl := Option.some.inj h18
    refine ⟨rfl, (x23, n96, v24), ⟨⟨hI26, hI26.adv, hn96.2⟩, rfl⟩, Sub.cons rfl (Sub.cons rfl (Sub.cons rfl (Sub.cons rfl (Sub.nil _))))⟩
  ·replace h18 := cdF hc20 h18
   refine cw_exit ?_
   refine exB_same ?_
   obtain rfl := Option.some.inj h18
   obtain rfl := hR19 _ rfl
   refine ⟨rfl, (x9, v10), ⟨hI14, hI14.adv, rfl⟩, Sub.cons rfl (Sub.nil _)⟩
 ·skip
  rintro ⟨x4, v5⟩ w6 ⟨hI7, hA8, rfl⟩
  refine cw_seq (cw_regF ?_)
  refine s_mv rfl rfl ?_
  obtain ⟨l97, hz98, h⟩ := bnd h
  refine s_call rfl Try.call62 rfl ?_
  refine (C_slices_SortFunc_62 (hI7.erase 0).mlt (hI7.apart 0 rfl) (hI7.lendOwn 0 rfl) (fun a0 a1 a2 a3 r w9 e9 f0 f1 hr => CallsV.ofL Try.call63 rfl (C_score_sets_in1 ((hI7.lendM 0 rfl).ext e9) f0 f1 hr)) hz98).mono ?_
  rintro _ w99 ⟨rfl, hf101⟩
  refine ⟨_, rfl, ?_⟩
  have hI102 := hI7.took 0 rfl hf101
  refine Reg.nil ?_
  refine cw_seq (cw_regF ?_)
  refine s_mv rfl rfl ?_
  refine s_as rfl rfl ?_
  refine Reg.nil ?_
  refine cw_ret ?_
  obtain rfl := Option.some.inj h
  refine fin1 Try.results48 rfl ?_
  exact ⟨_, rfl, (hI102.ownOut 0 rfl), hI102.kp⟩
end Go.Proofs.Ytecmlmngcnionaa
namespace Go.Sx
open Go Go.RowKit
section
variable {P : Program} {N : Nat} {ops : Array Oper} {rest : List Oper} {ds : List Deferred} {L : Env} {w : World} {A B : Out} {X : Nat → Out} {Z : List PanicEntry → Out} {PR : List (Nat × PK)}
/-- An operation whose value is known, walked alone, in whatever world; what it reads is known by properties. -/
theorem Reg.relC {o : Oper} {d : Nat} (v : Value) (rels : List (Nat × PK)) (hd : o.dst = some d) (hN : Nat.blt d N = true)
    (hrel : RSub L PR rels) (hlk : (rels.all fun r => (o.looksAt ops).contains r.1) = true) (hnd : (rels.map (·.1)).Nodup)
    (h : ∀ w1, Ext w w1 → relOut w1 (fun L' => Reg P N ops .seq [o] ds L' w1 (Post ds d (.c v) w1) NoO (fun _ => NoO) NoZ) rels [] L)
    (k : Reg P N ops (.flow PR) rest ds ((d, v) :: L) w A B X Z) : Reg P N ops (.flow PR) (o :: rest) ds L w A B X Z := by
  intro PE hf
  have hlt : d < N := by simpa [Nat.blt_eq] using hN
  refine ⟨d, .c v, hd, hN, trivial, fun hs a w1 he hk => ?_, k _ (hf.putC hlt v)⟩
  obtain ⟨L', hn, hv, hQ⟩ := relOut_use hk rels [] L hf.n (fun t v ht hS => by
    obtain ⟨y, hy, hh⟩ := hk.val t hS _ (hf.c t v ht)
    have hh : y = v := hh
    rw [hy, hh]) (fun r hr => ⟨by simpa using List.all_eq_true.1 hlk r hr, hf.p r.1 r.2 (hrel.get r hr).1 (hrel.get r hr).2⟩) hnd (fun _ hs => (by cases hs)) (h w1 he)
  exact step1_of_reg hd hs hk.size hk.defers hn hv hQ
end
end Go.Sx
namespace Go.Sx
open Go Go.RowKit
def Ret {α : Type} (o : Option α) (Q : α → Prop) : Prop := ∃ a, o = some a ∧ Q a
section
variable {α β S R : Type}
theorem Ret.val {o : Option α} {a : α} {Q : α → Prop} (h : o = some a) (q : Q a) : Ret o Q := ⟨a, h, q⟩
theorem Ret.ok {a : α} {Q : α → Prop} (q : Q a) : Ret (some a) Q := ⟨a, rfl, q⟩
theorem Ret.bind {o : Option α} {K : α → Option β} {Q : β → Prop} (h : Ret o fun a => Ret (K a) Q) : Ret (Option.bind o K) Q := by
  obtain ⟨a, h1, h2⟩ := h
  subst h1; exact h2
theorem Ret.mono {o : Option α} {Q Q' : α → Prop} (h : Ret o Q) (hq : ∀ a, Q a → Q' a) : Ret o Q' := by
  obtain ⟨a, h1, h2⟩ := h
  exact ⟨a, h1, hq a h2⟩
theorem Ret.cond {b : Bool} {x y : Option α} {Q : α → Prop} (h1 : b = true → Ret x Q) (h2 : b = false → Ret y Q) : Ret (cond b x y) Q := by
  cases b with
  | true => exact h1 rfl
  | false => exact h2 rfl
theorem Ret.condT {b : Bool} {x y : Option α} {Q : α → Prop} (h : b = true) (h1 : Ret x Q) : Ret (_root_.cond b x y) Q := by subst h; exact h1
theorem Ret.condF {b : Bool} {x y : Option α} {Q : α → Prop} (h : b = false) (h1 : Ret y Q) : Ret (_root_.cond b x y) Q := by subst h; exact h1
theorem Ret.chk {x : Int} {Q : Int → Prop} (h : -9223372036854775808 ≤ x ∧ x ≤ 9223372036854775807) (q : Q x) : Ret (chk .i64 x) Q := ⟨x, chk_i64 h, q⟩
theorem Ret.ixo {l : List α} {i : Nat} {y : α} {Q : α → Prop} (h : l[i]? = some y) (q : Q y) : Ret (ixo l (i : Int)) Q := ⟨y, ixo_at h, q⟩
theorem Ret.appo {b : Nat} {xs ys : List α} {Q : List α → Prop} (h : (xs.length + ys.length) * b ≤ 140737488355328) (h2 : xs.length + ys.length ≤ 140737488355328) (q : Q (xs ++ ys)) : Ret (appo b xs ys) Q := ⟨_, appo_ok h h2, q⟩
theorem Ret.seto {l : List α} {i : Nat} {x : α} {Q : List α → Prop} (h : i < l.length) (q : Q (l.set i x)) : Ret (seto l (i : Int) x) Q :=
  ⟨_, by unfold Sx.seto; rw [if_pos ⟨by omega, by omega⟩, Int.toNat_natCast], q⟩
theorem Ret.mko {b : Nat} {z : α} {n : Nat} {Q : List α → Prop} (h : b * n ≤ 140737488355328) (h2 : n ≤ 140737488355328) (q : Q (List.replicate n z)) : Ret (mko b z (n : Int)) Q := ⟨_, mko_ok h h2, q⟩
def Nxt (A : S → Prop) (Q : R → Prop) : S ⊕ R → Prop
  | .inl s => A s
  | .inr r => Q r
theorem Ret.next {s : S} {A : S → Prop} {Q : R → Prop} (h : A s) : Ret (some (.inl s)) (Nxt A Q) := ⟨_, rfl, h⟩
theorem Ret.done {r : R} {A : S → Prop} {Q : R → Prop} (h : Q r) : Ret (some (.inr r)) (Nxt A Q) := ⟨_, rfl, h⟩
theorem Ret.elimL {γ : Type} {f : α → Option γ} {g : β → Option γ} {a : α} {Q : γ → Prop} (h : Ret (f a) Q) : Ret (Sum.elim f g (.inl a)) Q := h
theorem Ret.elimR {γ : Type} {f : α → Option γ} {g : β → Option γ} {b : β} {Q : γ → Prop} (h : Ret (g b) Q) : Ret (Sum.elim f g (.inr b)) Q := h
theorem Ret.loop {body : S → Option (S ⊕ R)} {s0 : S} {Q : R → Prop} (I : S → Prop) (μ : S → Nat) (h0 : I s0) (step : ∀ s, I s → Ret (body s) (Nxt (fun s' => I s' ∧ μ s' < μ s) Q)) : Ret (loopM body s0) Q := by
  have key : ∀ (n : Nat) (s : S), μ s ≤ n → I s → Ret (loopM body s) Q := by
    intro n
    induction n with
    | zero =>
      intro s hn hs
      obtain ⟨r, h1, h2⟩ := step s hs
      cases r with
      | inl s' => have := h2.2; omega
      | inr r => exact ⟨r, loopM_end h1, h2⟩
    | succ n ih =>
      intro s hn hs
      obtain ⟨r, h1, h2⟩ := step s hs
      cases r with
      | inl s' => rw [loopM_go h1]; exact ih s' (by have := h2.2; omega) h2.1
      | inr r => exact ⟨r, loopM_end h1, h2⟩
  exact key _ s0 (Nat.le_refl _) h0
theorem Ret.yes {o : Option Bool} (h : Ret o fun b => b = true) : o = some true := by
  obtain ⟨a, h1, h2⟩ := h
  rw [h1, h2]
end
end Go.Sx
namespace Go.Sx
open Go Go.RowKit Go.WideShapes
def Bridge (P : Program) (t : TypeId) {α : Type} (E : Enc α) : Prop :=
  ∀ (H : Type) (enc : TypeId × Value → H) (w : World) (n : Nat) (cs : List Value) (x : DataW H × List MemPlace), DataW.trod enc P w 0 (fun _ => true) true n t cs = some x → ∃ a, E.R [] w cs a
theorem wf_InK {k : IntKind} {n : Int} (h : (Lit.int k n).wf = true) : InK k n := by
  simpa [Lit.wf, InK] using h
theorem bridge_int {P : Program} {t : TypeId} {k : IntKind} (ht : P.underlying t = some (.int k)) : Bridge P t (intE k) := fun H enc w n cs x h => by
  obtain ⟨r, e1, _, hw⟩ := DataW.trod_int ht h
  exact ⟨r, e1, wf_InK hw⟩
theorem bridge_map {P : Program} {t : TypeId} {α β : Type} {f : β → α} {E : Enc α} (g : α → β) (hg : ∀ a, f (g a) = a) (B : Bridge P t E) : Bridge P t (mapE f E) := fun H enc w n cs x h => by
  obtain ⟨a, ha⟩ := B H enc w n cs x h
  exact ⟨g a, by show E.R [] w cs (f (g a)); rw [hg]; exact ha⟩
theorem bridge_slice {P : Program} {t e : TypeId} {α : Type} {E : Enc α} (ht : P.underlying t = some (.slice e)) (hc : P.cellsOf e = E.n) (B : Bridge P e E) : Bridge P t (sliceE E) := fun H enc w n cs x h => by
  rcases Go.Deep.open_slice ht h with ⟨rfl, _⟩ | ⟨a, len, cap, m, k, D, Pl, rfl, hb, hl, hm, hmm, _, hel⟩
  · exact ⟨[], .slice none 0 0, rfl, RdS.nil _ _ _⟩
  · simp only [if_true] at hmm
    rw [hmm] at hel
    have hx : ∀ i, ∃ y : Option α, i < len → ∃ cs' a', y = some a' ∧ E.R [] w cs' a' ∧ w.cells? 0 (a.add (i * P.cellsOf e)) (P.cellsOf e) = some cs' := fun i => by
      by_cases hi : i < len
      · obtain ⟨cs', h1, h2⟩ := hel i (by omega)
        obtain ⟨a', ha⟩ := B H enc w k cs' _ h2
        exact ⟨some a', fun _ => ⟨cs', a', rfl, ha, h1⟩⟩
      · exact ⟨none, fun h => absurd h hi⟩
    by_cases h0 : len = 0
    · subst h0
      exact ⟨[], .slice (some a) 0 cap, rfl, some a, cap, rfl, Nat.zero_le _, hm, .inl rfl⟩
    have hlist : ∃ xs : List α, xs.length = len ∧ ∀ i (hi : i < xs.length), ∃ cs', E.R [] w cs' xs[i] ∧ w.cells? 0 (a.add (i * P.cellsOf e)) (P.cellsOf e) = some cs' := by
      have h1 : ∀ i (hi : i < len), ∃ a', ∃ cs', E.R [] w cs' a' ∧ w.cells? 0 (a.add (i * P.cellsOf e)) (P.cellsOf e) = some cs' := fun i hi => by
        obtain ⟨y, hy⟩ := hx i
        obtain ⟨cs', a', _, h2, h3⟩ := hy hi
        exact ⟨a', cs', h2, h3⟩
      refine ⟨List.ofFn fun i : Fin len => (h1 i.1 i.2).choose, by simp, fun i hi => ?_⟩
      have hi' : i < len := by simpa using hi
      simpa using (h1 i hi').choose_spec
    obtain ⟨xs, hxl, hxs⟩ := hlist
    have hpos := E.pos
    have hspot : ∃ b o, a = ⟨b, o, none⟩ := by
      obtain ⟨cs', hR, hcc⟩ := hxs 0 (by omega)
      obtain ⟨_, hlen, hcell⟩ := World.cells?_some hcc
      have hn := E.len hR
      have h00 := hcell 0 (by omega)
      rw [Nat.zero_mul] at h00
      have ha : (a.add 0).add 0 = a := by simp [Addr.add]
      rw [ha, List.getElem?_eq_getElem (by omega)] at h00
      obtain ⟨b, o, s⟩ := a
      have hs : s = none := World.cell?_spot h00
      exact ⟨b, o, by rw [hs]⟩
    obtain ⟨b, o, rfl⟩ := hspot
    have hlt : b < w.heap.size := by
      obtain ⟨cs', hR, hcc⟩ := hxs 0 (by omega)
      obtain ⟨_, hlen, hcell⟩ := World.cells?_some hcc
      have hn := E.len hR
      have h00 := hcell 0 (by omega)
      rw [List.getElem?_eq_getElem (by omega)] at h00
      have := cell_lt h00
      simpa [add_none] using this
    refine ⟨xs, .slice (some ⟨b, o, none⟩) len cap, rfl, some ⟨b, o, none⟩, cap, by rw [hxl], by omega, hm, .inr ⟨b, o, rfl, by simp, hlt, fun i hi => ?_⟩⟩
    obtain ⟨cs', hR, hcc⟩ := hxs i hi
    obtain ⟨_, hlen, hcell⟩ := World.cells?_some hcc
    refine ⟨cs', hR, fun j u hj => ?_⟩
    have hjl : j < P.cellsOf e := by
      rcases Nat.lt_or_ge j cs'.length with h | h
      · omega
      · simp [List.getElem?_eq_none h] at hj
    have := hcell j hjl
    rw [add_none, add_none, hj, hc] at this
    exact this
/-- The fields from here on. -/
def FieldsB (P : Program) (N : Nat) (fs : List Field) {α : Type} (E : Enc α) : Prop :=
  ∀ (H : Type) (enc : TypeId × Value → H) (w : World) (cs : List Value), cs.length = N →
    (∀ f ∈ fs, ∃ (n : Nat) (x : DataW H × List MemPlace), DataW.trod enc P w 0 (fun _ => true) true n f.type ((cs.drop f.offset).take (P.cellsOf f.type)) = some x) →
    ∃ a, E.R [] w (cs.drop ((fs.head?.map (·.offset)).getD 0)) a
theorem fb_last {P : Program} {N : Nat} {f : Field} {α : Type} {E : Enc α} (B : Bridge P f.type E) (hN : f.offset + P.cellsOf f.type = N) : FieldsB P N [f] E := fun H enc w cs hl h => by
  obtain ⟨n, x, hx⟩ := h f (by simp)
  have : (cs.drop f.offset).take (P.cellsOf f.type) = cs.drop f.offset := List.take_of_length_le (by rw [List.length_drop]; omega)
  rw [this] at hx
  exact B H enc w n _ x hx
theorem fb_cons {P : Program} {N : Nat} {f g : Field} {r : List Field} {α β : Type} {E : Enc α} {F : Enc β} (B : Bridge P f.type E) (hN : f.offset + P.cellsOf f.type = g.offset) (R : FieldsB P N (g :: r) F) : FieldsB P N (f :: g :: r) (prodE E F) :=
  fun H enc w cs hl h => by
    obtain ⟨n, x, hx⟩ := h f (by simp)
    obtain ⟨a, ha⟩ := B H enc w n _ x hx
    obtain ⟨b, hb⟩ := R H enc w cs hl fun f' hf' => h f' (List.mem_cons_of_mem _ hf')
    refine ⟨(a, b), (cs.drop f.offset).take (P.cellsOf f.type), cs.drop g.offset, ?_, ha, hb⟩
    show cs.drop f.offset = _
    rw [← hN, ← List.drop_drop, List.take_append_drop]
theorem bridge_struct {P : Program} {t : TypeId} {f : Field} {r : List Field} {α : Type} {E : Enc α} (ht : P.underlying t = some (.struct (f :: r).toArray)) (h0 : f.offset = 0) (F : FieldsB P (P.cellsOf t) (f :: r) E) : Bridge P t E := fun H enc w n cs x h => by
  obtain ⟨xs, m, _, _, hl, hlen, hf⟩ := DataW.trod_struct ht h
  obtain ⟨a, ha⟩ := F H enc w cs hl fun g hg => by
    obtain ⟨i, hi, rfl⟩ := List.getElem_of_mem hg
    have hi' : i < xs.length := by rw [hlen]; simpa using hi
    have := hf i (f :: r)[i] (by simp [List.getElem?_eq_getElem hi])
    rw [List.getElem?_eq_getElem hi'] at this
    exact ⟨m, _, this⟩
  exact ⟨a, by simpa [h0] using ha⟩
end Go.Sx
