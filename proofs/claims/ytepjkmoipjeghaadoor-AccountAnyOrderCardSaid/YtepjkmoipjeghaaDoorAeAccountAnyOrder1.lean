/-
  Part AccountAnyOrder 1 of the texts that the statement's proof stands on: what memory holds, how code is walked, what the functions reckon. In the order in which they build.
-/
import Derived.Test.YtepjkmoipjeghaaDoorProg
import Derived.Test.YtepjkmoipjeghaaDoorAe9
set_option linter.unusedVariables false
set_option linter.unusedSectionVars false
set_option maxRecDepth 20000
set_option maxHeartbeats 4000000
namespace Go.Proofs.YtepjkmoipjeghaaDoor
open Go Go.Sx Go.RowKit
noncomputable def P.law03_AccountAnyOrder (l : (List Report)) (id : Int) (day : Int) (known : Int) (by_ : (List Int)) (which : Int) : Option Bool :=
  Option.bind (P.law03_alive ) fun z1 => Option.bind (Option.bind (P.law03_ready l id ([day, known] : List Int)) fun z10 => cond (!z10) (some true) (some (!z1))) fun x16 => cond x16 (some z1) (Option.bind (appo 64 ([] : List Report) l) fun l22 => Option.bind (loopM (S := Int × (List Report)) (R := ((List Report))) (fun (x27, x28) => cond (decide (x27 < (l22.length : Int))) (Option.bind (P.law03_choose by_ x27) fun z30 => Option.bind (chk .i64 z30) fun n36 => Option.bind (remO n36 (x28.length : Int)) fun n37 => Option.bind (ixo x28 n37) fun y38 => Option.bind (ixo x28 x27) fun y52 => Option.bind (ixo x28 x27) fun y66 => Option.bind (seto x28 x27 (Report.mk y38.id y38.source y38.account y38.made y38.about y38.kind y38.cents y38.of_)) fun l95 => Option.bind (ixo l95 n37) fun y102 => Option.bind (seto l95 n37 (Report.mk y52.id y52.source y52.account y52.made y52.about y52.kind y52.cents y52.of_)) fun l130 => Option.bind (chk .i64 (x27 + 1)) fun n137 => some (.inl (n137, l130))) (some (.inr x28))) (0, l22)) fun x138 => Option.bind (P.law03_choose by_ (l.length : Int)) fun z139 => Option.bind (chk .i64 z139) fun n145 => Option.bind (remO n145 5) fun n146 => Option.bind (loopM (S := (List Report) × Int) (R := ((List Report))) (fun (x147, x148) => cond (decide (x148 < n146)) (Option.bind (Option.bind (cond (decide (0 < (x147.length : Int))) (some (decide ((x147.length : Int) < 60))) (some false)) fun x151 => Option.bind (cond x151 (Option.bind (P.law03_choose by_ x148) fun z153 => Option.bind (chk .i64 z153) fun n159 => Option.bind (remO n159 (x147.length : Int)) fun n160 => Option.bind (ixo x147 n160) fun y161 => Option.bind (appo 64 x147 ([y161] : List Report)) fun l181 => some l181) (some x147)) fun x186 => some x186) fun x187 => Option.bind (chk .i64 (x148 + 1)) fun n188 => some (.inl (x187, n188))) (some (.inr x147))) (x138, 0)) fun x189 => Option.bind (P.account_State l id day known) fun (z190, z191) => Option.bind (P.account_State x189 id day known) fun (z241, z242) => Option.bind (P.account_Clashes l id known) fun (z290, z291) => Option.bind (P.account_Clashes x189 id known) fun (z299, z300) => Option.bind (P.account_Standing l known) fun (z308, z309) => Option.bind (P.account_Standing x189 known) fun (z317, z318) => Option.bind (cond (!decide (z191 = 0)) (some true) (cond (!decide (z242 = 0)) (some true) (cond (!decide (z291 = 0)) (some true) (cond (!decide (z300 = 0)) (some true) (cond (!decide (z309 = 0)) (some true) (cond (!decide (z318 = 0)) (some true) (Option.bind (P.ref03_SameState (State.mk (Told.mk z190.opened.known z190.opened.cents z190.opened.since z190.opened.by_) (Told.mk z190.limit.known z190.limit.cents z190.limit.since z190.limit.by_) (Told.mk z190.owed.known z190.owed.cents z190.owed.since z190.owed.by_) (Told.mk z190.late.known z190.late.cents z190.late.since z190.late.by_) (Told.mk z190.default.known z190.default.cents z190.default.since z190.default.by_) (Told.mk z190.closed.known z190.closed.cents z190.closed.since z190.closed.by_) (Span.mk z190.paid.lo z190.paid.hi) z190.is_) (State.mk (Told.mk z241.opened.known z241.opened.cents z241.opened.since z241.opened.by_) (Told.mk z241.limit.known z241.limit.cents z241.limit.since z241.limit.by_) (Told.mk z241.owed.known z241.owed.cents z241.owed.since z241.owed.by_) (Told.mk z241.late.known z241.late.cents z241.late.since z241.late.by_) (Told.mk z241.default.known z241.default.cents z241.default.since z241.default.by_) (Told.mk z241.closed.known z241.closed.cents z241.closed.since z241.closed.by_) (Span.mk z241.paid.lo z241.paid.hi) z241.is_)) fun z332 => cond (!z332) (some true) (Option.bind (P.ref03_SameClashes z290 z299) fun z338 => cond (!z338) (some true) (Option.bind (P.ref03_SameReports z308 z317) fun z344 => some (!z344)))))))))) fun x349 => cond x349 (some false) (cond (decide ((l.length : Int) = 0)) (some z1) (Option.bind (chk .i64 which) fun n352 => Option.bind (remO n352 (l.length : Int)) fun n353 => Option.bind (ixo l n353) fun y354 => Option.bind (P.account_Fate l y354.id known) fun (z368, z369, z370) => Option.bind (P.account_Fate x189 y354.id known) fun (z378, z379, z380) => Option.bind (cond z1 (cond (decide (z368 = z378)) (cond (decide (z369 = z379)) (some (decide (z370 = z380))) (some false)) (some false)) (some false)) fun x391 => some x391)))
theorem C_law03_AccountAnyOrder {M : List Nat} {w : World} (hM : MLt M w) (hG : RdC M w 0 0 (glob0.map (Value.int .i64))) {l : (List Report)} {v_l_0 : Value} (f_l_0 : RdS ReportE M w v_l_0 l) {id : Int} (f_id_0 : InK .i64 id) {day : Int} (f_day_0 : InK .i64 day) {known : Int} (f_known_0 : InK .i64 known) {by_ : (List Int)} {v_by__0 : Value} (f_by__0 : RdS (intE .u32) M w v_by__0 by_) {which : Int} (f_which_0 : InK .u8 which) {r0 : Bool} (h : P.law03_AccountAnyOrder l id day known by_ which = some r0) :
  Calls Tryd.prog 6 (List.toArray [v_l_0, vi id, vi day, vi known, v_by__0, vu which]) w fun e w' => e = .returned (Value.bool r0) ∧ Ext w w' := by
 have hI := Hp.start (Mu := []) hM
 refine calls_cw Tryd.func6 rfl Tryd.ntmps6 rfl ?_
 refine cw_seq (cw_regF (s_as rfl rfl (Reg.nil (cw_seq (cw_regF ?_)))))
 obtain ⟨z1, hz2, h⟩ := bnd h
 refine s_call rfl Tryd.call26 rfl ((C_law03_alive hI.mlt hG hz2).mono ?_)
 rintro _ w3 ⟨rfl, e4⟩
 refine ⟨_, rfl, ?_⟩
 have hI5 := hI.ext e4
 refine s_as rfl rfl (Reg.nil (cw_seq ?_))
 obtain ⟨j6, h7, h⟩ := bnd h
 refine cw_keep [0, 1, 2, 3, 4, 5, 13] rfl (cw_seqD 0 (ι := Bool) (fun x8 => [(48, Value.bool x8)]) (fun x8 => fun w9 => Hp w [] M [] w9 ∧ Adv (mm [] M) (mm [] M) w3 w9 ∧ x8 = j6) ?_ ?_)
 ·refine cw_regF ?_
  iterate 4 refine s_mv rfl rfl ?_
  refine y_bs (E := (intE .i64)) (xs := [day, known]) sl36 hI5 rfl rfl (Cls.cons rfl (Cls.cons rfl Cls.nil)) (Chs.cons ⟨rfl, f_day_0⟩ (Chs.cons ⟨rfl, f_known_0⟩ Chs.nil)) rfl rfl ?_
  intro v12 w13 hI14 x15
  obtain ⟨z16, hz17, h7⟩ := bnd h7
  refine s_call rfl Tryd.call30 rfl ((C_law03_ready (hI14.sel [] rfl).mlt ((f_l_0.adv hI14.adv).adv (Hp.selA (σ := [ownR [] (intE .i64) 3 v12 ([day, known] : List Int)]) [])) f_id_0 (hI14.lendRd [] 0 rfl rfl) hz17).mono ?_)
  rintro _ w18 ⟨rfl, e19⟩
  refine ⟨_, rfl, ?_⟩
  have hI20 := hI14.ext e19
  refine s_not rfl rfl (s_mv rfl rfl (Reg.gsplit (t := 45) rfl (fun hg21 => ?_) (fun hg21 => ?_)))
  ·replace h7 := cdT hg21 h7
   refine Reg.pass rfl rfl rfl rfl (Reg.pass rfl rfl rfl rfl (s_pkT rfl rfl rfl (Reg.nil ?_)))
   obtain rfl := Option.some.inj h7
   refine ⟨rfl, true, ⟨(hI20.sel [] rfl), ((x15.trans (Adv.of_ext e19)).trans (Hp.selA (σ := [ownR [] (intE .i64) 3 v12 ([day, known] : List Int)]) [])), rfl⟩, sb8 rfl rfl rfl rfl rfl rfl rfl rfl⟩
  replace h7 := cdF hg21 h7
  refine Reg.take rfl rfl (s_mv rfl rfl (Reg.take rfl rfl (s_not rfl rfl (s_pkF rfl rfl rfl (Reg.nil ?_)))))
  obtain rfl := Option.some.inj h7
  refine ⟨rfl, !z1, ⟨(hI20.sel [] rfl), ((x15.trans (Adv.of_ext e19)).trans (Hp.selA (σ := [ownR [] (intE .i64) 3 v12 ([day, known] : List Int)]) [])), rfl⟩, sb8 rfl rfl rfl rfl rfl rfl rfl rfl⟩
 rintro x8 w9 ⟨hI10, hA11, rfl⟩
 refine cw_cond rfl (fun hc22 => ?_) (fun hc22 => ?_)
 ·replace h := cdT hc22 h
  refine cw_seq (cw_regF (s_mv rfl rfl (s_as rfl rfl (Reg.nil (cw_ret ?_)))))
  obtain rfl := Option.some.inj h
  refine fin1 Tryd.results6 rfl ?_
  exact ⟨rfl, hI10.kp⟩
 replace h := cdF hc22 h
 refine cw_skip (cw_seq (cw_regF (y_bs (E := ReportE) (xs := []) sl22 hI10 rfl rfl Cls.nil Chs.nil rfl rfl ?_)))
 intro v23 w24 hI25 x26
 refine s_mv rfl rfl ?_
 obtain ⟨l27, hl27, h⟩ := bnd h
 obtain ⟨hbl27, el27⟩ := appo_out hl27
 refine y_app 0 sl22 hI25 rfl rfl rfl (f_l_0.adv hI25.adv) hbl27 rfl ?_
 rw [← el27]
 intro v28 w29 hI30 x31
 refine s_as rfl rfl (Reg.nil (cw_seq (cw_seq (cw_regF (s_mv rfl rfl (s_lenO rfl (hI30.ownAt 0 rfl) Tryd.underlying22 rfl ?_))))))
 refine s_mv rfl rfl (Reg.nil ?_)
 obtain ⟨j32, h33, h⟩ := bnd h
 refine cw_keep [54, 55, 0, 1, 2, 3, 4, 5, 13, 14] rfl (cw_unitD 2 (ι := (List Report)) (fun x34 => []) (fun x34 => fun w35 => Hp w [] M [ownR [] ReportE 61 v28 x34] w35 ∧ Adv (mm [ownR [] ReportE 61 v28 l27] M) (mm [ownR [] ReportE 61 v28 x34] M) w29 w35 ∧ x34 = j32) ?_ ?_)
 ·refine cw_block (cw_keep [55, 0, 1, 2, 3, 4, 5, 13, 14, 54] rfl ?_)
  refine cw_loopM 1 (ι := Int × (List Report)) _ (fun ⟨x38, x40⟩ => [(55, vi x38)]) (fun ⟨x38, x40⟩ => (x38, x40)) (fun ⟨x38, x40⟩ => fun w41 => Hp w [] M [ownR [] ReportE 61 v28 x40] w41 ∧ Adv (mm [ownR [] ReportE 61 v28 l27] M) (mm [ownR [] ReportE 61 v28 x40] M) w29 w41 ∧ InK .i64 x38) (0, l27) h33 ⟨hI30, (Adv.refl _ _), (by decide)⟩ (sb10 rfl rfl rfl rfl rfl rfl rfl rfl rfl rfl) ?_
  rintro ⟨x38, x40⟩ w41 ⟨hI42, hA43, r39⟩ y44 h45 hR46
  refine cw_seq (cw_regF (s_lss rfl rfl rfl (Reg.nil (cw_seq (cw_cond rfl (fun hc47 => ?_) (fun hc47 => ?_))))))
  ·replace h45 := cdT hc47 h45
   refine cw_skip (cw_seq (cw_block (cw_seq (cw_regF (s_mv rfl rfl (s_as rfl rfl (Reg.nil (cw_seq (cw_regF (s_mv rfl rfl (s_mv rfl rfl ?_)))))))))))
   obtain ⟨z48, hz49, h45⟩ := bnd h45
   refine s_call rfl Tryd.call31 rfl ((C_law03_choose hI42.mlt (f_by__0.adv hI42.adv) r39 hz49).mono ?_)
   rintro _ w50 ⟨rfl, r52, e51⟩
   refine ⟨_, rfl, ?_⟩
   have hI53 := hI42.ext e51
   obtain ⟨n54, hn54, h45⟩ := bnd h45
   replace hn54 := chk_out hn54
   refine p_cvt rfl Tryd.underlying65 Tryd.underlying3 rfl hn54 ?_
   refine s_mv rfl rfl (s_lenO rfl (hI53.ownAt 0 rfl) Tryd.underlying22 rfl ?_)
   obtain ⟨n55, hn55, h45⟩ := bnd h45
   have kn55 := remO_out hn55
   refine p_rem rfl rfl rfl kn55 ?_
   refine s_as rfl rfl (Reg.nil ?_)
   refine cw_regSea [0, 1, 2, 3, 4, 5, 6, 7, 8, 9, 10, 11, 12] [13, 14, 15] [] [13, 15] [[13, 6], [13, 7], [13, 11, 10], [13, 12], [15, 6], [15, 7], [15, 10], [15, 11], [15, 12]] [] fol (by kernel_rfl) rfl (by kernel_rfl) rfl rfl ?_
   iterate 6 refine s_mv rfl rfl ?_
   obtain ⟨y56, hy56, h45⟩ := bnd h45
   refine y_ia 0 hI53 rfl rfl rfl hy56 Tryd.underlying22 Tryd.sizeOf61 rfl ?_
   intro g57 cs58 hg59 hR60 hC61
   have khR60 := hR60
   obtain ⟨rfl, r62, r63, r64, r65, r66, r67, r68, r69⟩ := ReportE_R.1 hR60
   refine s_lda rfl hC61 Tryd.isAgg61 rfl Tryd.sizeOf61 rfl (s_mv rfl rfl (s_mv rfl rfl ?_))
   obtain ⟨y70, hy70, h45⟩ := bnd h45
   refine y_ia 0 hI53 rfl rfl rfl hy70 Tryd.underlying22 Tryd.sizeOf61 rfl ?_
   intro g71 cs72 hg73 hR74 hC75
   have khR74 := hR74
   obtain ⟨rfl, r76, r77, r78, r79, r80, r81, r82, r83⟩ := ReportE_R.1 hR74
   refine s_lda rfl hC75 Tryd.isAgg61 rfl Tryd.sizeOf61 rfl ?_
   obtain ⟨y84, hy84, h45⟩ := bnd h45
   refine y_ia 0 hI53 rfl rfl rfl hy84 Tryd.underlying22 Tryd.sizeOf61 rfl ?_
   intro g85 cs86 hg87 hR88 hC89
   have khR88 := hR88
   obtain ⟨rfl, r90, r91, r92, r93, r94, r95, r96, r97⟩ := ReportE_R.1 hR88
   refine Reg.nilX ⟨rfl, rfl, rfl, ?_⟩
   intro w98 e99
   have hI100 := (Hp.start (Mu := []) hI53.mlt).ext e99
   refine SeaWalk.step [13] (by kernel_rfl) (AllL.cons ?_ (AllL.nil))
   refine ⟨_, [], rfl, RSub.nil, rfl, nodupB_spec rfl, ?_⟩
   simp only [relOut]
   have hI101 := hI53.join hI100
   obtain ⟨cs102, hR103, hC104⟩ := (hI101.ownAt 0 rfl).cellsAt hg87 (ixo_out hy84).2.2
   have khR103 := hR103
   obtain ⟨rfl, r105, r106, r107, r108, r109, r110, r111, r112⟩ := ReportE_R.1 hR103
   obtain ⟨l113, hl113, h45⟩ := bnd h45
   refine y_sto 0 (E := ReportE) (o := 0) hI101 rfl rfl rfl rfl hg87 hl113 ((ReportE_R (x := y84)).2 ⟨rfl, r105, r106, r107, r108, r109, r110, r111, r112⟩) hC104 ((ReportE_R (x := (Report.mk y56.id y56.source y56.account y56.made y56.about y56.kind y56.cents y56.of_))).2 ⟨rfl, r62, r63, r64, r65, r66, r67, r68, r69⟩) rfl Tryd.sizeOf61 rfl (on8 rfl rfl rfl rfl rfl rfl rfl rfl) ?_
   intro w114 hI115 x116
   refine Reg.nil ⟨rfl, .inl rfl, rfl, ?_⟩
   intro w117 e118
   have hI119 := hI115.ext e118
   refine SeaWalk.step [14] (by kernel_rfl) (AllL.cons ?_ (AllL.nil))
   refine ⟨_, [], rfl, RSub.nil, rfl, nodupB_spec rfl, ?_⟩
   simp only [relOut]
   obtain ⟨y120, hy120, h45⟩ := bnd h45
   refine y_ia 0 hI119 rfl rfl rfl hy120 Tryd.underlying22 Tryd.sizeOf61 rfl ?_
   intro g121 cs122 hg123 hR124 hC125
   have khR124 := hR124
   obtain ⟨rfl, r126, r127, r128, r129, r130, r131, r132, r133⟩ := ReportE_R.1 hR124
   refine Reg.nil ⟨rfl, .inl rfl, rfl, ?_⟩
   intro w134 e135
   have hI136 := hI119.ext e135
   refine SeaWalk.step [15] (by kernel_rfl) (AllL.cons ?_ (AllL.nil))
   refine ⟨_, [], rfl, RSub.nil, rfl, nodupB_spec rfl, ?_⟩
   simp only [relOut]
   obtain ⟨cs137, hR138, hC139⟩ := (hI136.ownAt 0 rfl).cellsAt hg123 (ixo_out hy120).2.2
   have khR138 := hR138
   obtain ⟨rfl, r140, r141, r142, r143, r144, r145, r146, r147⟩ := ReportE_R.1 hR138
   obtain ⟨l148, hl148, h45⟩ := bnd h45
   refine y_sto 0 (E := ReportE) (o := 0) hI136 rfl rfl rfl rfl hg123 hl148 ((ReportE_R (x := y120)).2 ⟨rfl, r140, r141, r142, r143, r144, r145, r146, r147⟩) hC139 ((ReportE_R (x := (Report.mk y70.id y70.source y70.account y70.made y70.about y70.kind y70.cents y70.of_))).2 ⟨rfl, r76, r77, r78, r79, r80, r81, r82, r83⟩) rfl Tryd.sizeOf61 rfl (on8 rfl rfl rfl rfl rfl rfl rfl rfl) ?_
   intro w149 hI150 x151
   refine Reg.nil ⟨rfl, .inl rfl, rfl, ?_⟩
   intro w152 e153
   have hI154 := hI150.ext e153
   refine SeaWalk.done ?_
   refine cw_regF ?_
   obtain ⟨n155, hn155, h45⟩ := bnd h45
   replace hn155 := chk_out hn155
   refine p_add rfl rfl rfl hn155 (s_mv rfl rfl (Reg.nil ?_))
   obtain rfl := Option.some.inj h45
   refine ⟨rfl, (n155, l148), ⟨⟨hI154, (hA43.trans ((Adv.of_ext e51).trans ((Adv.of_ext e99).trans (x116.trans ((Adv.of_ext e118).trans ((Adv.of_ext e135).trans (x151.trans (Adv.of_ext e153)))))))), hn155.2⟩, rfl⟩, sb10 rfl rfl rfl rfl rfl rfl rfl rfl rfl rfl⟩
  replace h45 := cdF hc47 h45
  refine cw_exit (exB_same ?_)
  obtain rfl := Option.some.inj h45
  obtain rfl := hR46 _ rfl
  refine ⟨rfl, x40, ⟨hI42, hA43, rfl⟩, sb8 rfl rfl rfl rfl rfl rfl rfl rfl⟩
 rintro x34 w35 ⟨hI36, hA37, rfl⟩
 refine cw_seq (cw_seq (cw_regF (s_mv rfl rfl (s_mv rfl rfl (s_len rfl (f_l_0.adv hI36.adv) Tryd.underlying22 rfl ?_)))))
 obtain ⟨z156, hz157, h⟩ := bnd h
 refine s_call rfl Tryd.call31 rfl ((C_law03_choose hI36.mlt (f_by__0.adv hI36.adv) (RdS.inK f_l_0) hz157).mono ?_)
 rintro _ w158 ⟨rfl, r160, e159⟩
 refine ⟨_, rfl, ?_⟩
 have hI161 := hI36.ext e159
 obtain ⟨n162, hn162, h⟩ := bnd h
 replace hn162 := chk_out hn162
 refine p_cvt rfl Tryd.underlying65 Tryd.underlying3 rfl hn162 ?_
 obtain ⟨n163, hn163, h⟩ := bnd h
 have kn163 := remO_out hn163
 refine p_rem rfl rfl rfl kn163 ?_
 refine s_mv rfl rfl (Reg.nil ?_)
 obtain ⟨j164, h165, h⟩ := bnd h
 refine cw_keep [4, 14, 85, 86, 0, 1, 2, 3, 5, 13] rfl (cw_unitD 4 (ι := (List Report) × Value) (fun ⟨x166, v167⟩ => [(14, v167)]) (fun ⟨x166, v167⟩ => fun w168 => Hp w [] M [ownR [] ReportE 61 v167 x166] w168 ∧ Adv (mm [ownR [] ReportE 61 v28 x34] M) (mm [ownR [] ReportE 61 v167 x166] M) w158 w168 ∧ x166 = j164) ?_ ?_)
 ·refine cw_block (cw_keep [14, 86, 0, 1, 2, 3, 4, 5, 13, 85] rfl ?_)
  refine cw_loopM 2 (ι := (List Report) × Int × Value) _ (fun ⟨x171, x173, v172⟩ => [(14, v172), (86, vi x173)]) (fun ⟨x171, x173, v172⟩ => (x171, x173)) (fun ⟨x171, x173, v172⟩ => fun w175 => Hp w [] M [ownR [] ReportE 61 v172 x171] w175 ∧ Adv (mm [ownR [] ReportE 61 v28 x34] M) (mm [ownR [] ReportE 61 v172 x171] M) w158 w175 ∧ InK .i64 x173) (x34, 0, v28) h165 ⟨hI161, (Adv.refl _ _), (by decide)⟩ (sb10 rfl rfl rfl rfl rfl rfl rfl rfl rfl rfl) ?_
  rintro ⟨x171, x173, v172⟩ w175 ⟨hI176, hA177, r174⟩ y178 h179 hR180
  refine cw_seq (cw_regF (s_lss rfl rfl rfl (Reg.nil (cw_seq (cw_cond rfl (fun hc181 => ?_) (fun hc181 => ?_))))))
  ·replace h179 := cdT hc181 h179
   refine cw_skip ?_
   obtain ⟨j182, h183, h179⟩ := bnd h179
   refine cw_keep [14, 0, 1, 2, 3, 4, 5, 13, 85, 86] rfl (cw_seqD 1 (ι := (List Report) × Value) (fun ⟨x184, v185⟩ => [(14, v185)]) (fun ⟨x184, v185⟩ => fun w186 => Hp w [] M [ownR [] ReportE 61 v185 x184] w186 ∧ Adv (mm [ownR [] ReportE 61 v172 x171] M) (mm [ownR [] ReportE 61 v185 x184] M) w175 w186 ∧ x184 = j182) ?_ ?_)
   ·refine cw_block (cw_seq (cw_regF (s_mv rfl rfl (s_as rfl rfl (Reg.nil ?_)))))
    obtain ⟨j189, h190, h183⟩ := bnd h183
    refine cw_keep [0, 1, 2, 3, 4, 5, 13, 14, 17, 85, 86] rfl (cw_seqD 0 (ι := Bool) (fun x191 => [(96, Value.bool x191)]) (fun x191 => fun w192 => w175 = w192 ∧ x191 = j189) ?_ ?_)
    ·refine cw_regF (s_mv rfl rfl (s_lenO rfl (hI176.ownAt 0 rfl) Tryd.underlying22 rfl ?_))
     refine s_gtr rfl rfl rfl (s_mv rfl rfl (Reg.gsplit (t := 92) rfl (fun hg195 => ?_) (fun hg195 => ?_)))
     ·replace h190 := cdT hg195 h190
      refine Reg.take rfl rfl (s_mv rfl rfl (Reg.take rfl rfl (s_lenO rfl (hI176.ownAt 0 rfl) Tryd.underlying22 rfl ?_)))
      refine Reg.take rfl rfl (s_lss rfl rfl rfl (s_pkT rfl rfl rfl (Reg.nil ?_)))
      obtain rfl := Option.some.inj h190
      refine ⟨rfl, decide ((x171.length : Int) < 60), ⟨rfl, rfl⟩, sb12 rfl rfl rfl rfl rfl rfl rfl rfl rfl rfl rfl rfl⟩
     replace h190 := cdF hg195 h190
     iterate 3 refine Reg.pass rfl rfl rfl rfl ?_
     refine s_pkF rfl rfl rfl (Reg.nil ?_)
     obtain rfl := Option.some.inj h190
     refine ⟨rfl, false, ⟨rfl, rfl⟩, sb12 rfl rfl rfl rfl rfl rfl rfl rfl rfl rfl rfl rfl⟩
    rintro x191 _ ⟨rfl, rfl⟩
    obtain ⟨j196, h197, h183⟩ := bnd h183
    refine cw_keep [14, 17, 96, 0, 1, 2, 3, 4, 5, 13, 85, 86] rfl (cw_unitD 3 (ι := (List Report) × Value) (fun ⟨x198, v199⟩ => [(14, v199)]) (fun ⟨x198, v199⟩ => fun w200 => Hp w [] M [ownR [] ReportE 61 v199 x198] w200 ∧ Adv (mm [ownR [] ReportE 61 v172 x171] M) (mm [ownR [] ReportE 61 v199 x198] M) w175 w200 ∧ x198 = j196) ?_ ?_)
    ·refine cw_cond rfl (fun hc203 => ?_) (fun hc203 => ?_)
     ·replace h197 := cdT hc203 h197
      refine cw_regF ?_
      iterate 4 refine s_mv rfl rfl ?_
      obtain ⟨z204, hz205, h197⟩ := bnd h197
      refine s_call rfl Tryd.call31 rfl ((C_law03_choose hI176.mlt (f_by__0.adv hI176.adv) r174 hz205).mono ?_)
      rintro _ w206 ⟨rfl, r208, e207⟩
      refine ⟨_, rfl, ?_⟩
      have hI209 := hI176.ext e207
      obtain ⟨n210, hn210, h197⟩ := bnd h197
      replace hn210 := chk_out hn210
      refine p_cvt rfl Tryd.underlying65 Tryd.underlying3 rfl hn210 ?_
      refine s_mv rfl rfl (s_lenO rfl (hI209.ownAt 0 rfl) Tryd.underlying22 rfl ?_)
      obtain ⟨n211, hn211, h197⟩ := bnd h197
      have kn211 := remO_out hn211
      refine p_rem rfl rfl rfl kn211 ?_
      obtain ⟨y212, hy212, h197⟩ := bnd h197
      refine y_ia 0 hI209 rfl rfl rfl hy212 Tryd.underlying22 Tryd.sizeOf61 rfl ?_
      intro g213 cs214 hg215 hR216 hC217
      have khR216 := hR216
      obtain ⟨rfl, r218, r219, r220, r221, r222, r223, r224, r225⟩ := ReportE_R.1 hR216
      refine s_lda rfl hC217 Tryd.isAgg61 rfl Tryd.sizeOf61 rfl (y_bs (E := ReportE) (xs := [y212]) sl22 hI209 rfl rfl (Cls.cons rfl Cls.nil) (Chs.cons ((ReportE_R (x := y212)).2 ⟨rfl, r218, r219, r220, r221, r222, r223, r224, r225⟩) Chs.nil) rfl rfl ?_)
      intro v226 w227 hI228 x229
      have hf230 := hI228.freeze 0 rfl
      have hI231 := hI228.erase 0
      obtain ⟨l232, hl232, h197⟩ := bnd h197
      obtain ⟨hbl232, el232⟩ := appo_out hl232
      refine y_app 0 sl22 hI231 rfl rfl rfl hf230 hbl232 rfl ?_
      rw [← el232]
      intro v233 w234 hI235 x236
      refine s_as rfl rfl (Reg.nil ?_)
      obtain rfl := Option.some.inj h197
      refine ⟨rfl, (l232, v233), ⟨hI235, ((Adv.of_ext e207).trans (x229.trans ((hI228.eraseH 0).trans x236))), rfl⟩, sb10 rfl rfl rfl rfl rfl rfl rfl rfl rfl rfl⟩
     replace h197 := cdF hc203 h197
     refine cw_skip ?_
     obtain rfl := Option.some.inj h197
     refine ⟨rfl, (x171, v172), ⟨hI176, (Adv.refl _ _), rfl⟩, sb10 rfl rfl rfl rfl rfl rfl rfl rfl rfl rfl⟩
    rintro ⟨x198, v199⟩ w200 ⟨hI201, hA202, rfl⟩
    obtain rfl := Option.some.inj h183
    refine ⟨rfl, (x198, v199), ⟨hI201, hA202, rfl⟩, sb10 rfl rfl rfl rfl rfl rfl rfl rfl rfl rfl⟩
   rintro ⟨x184, v185⟩ w186 ⟨hI187, hA188, rfl⟩
   refine cw_regF ?_
   obtain ⟨n237, hn237, h179⟩ := bnd h179
   replace hn237 := chk_out hn237
   refine p_add rfl rfl rfl hn237 (s_mv rfl rfl (Reg.nil ?_))
   obtain rfl := Option.some.inj h179
   refine ⟨rfl, (x184, n237, v185), ⟨⟨hI187, (hA177.trans hA188), hn237.2⟩, rfl⟩, sb10 rfl rfl rfl rfl rfl rfl rfl rfl rfl rfl⟩
  replace h179 := cdF hc181 h179
  refine cw_exit (exB_same ?_)
  obtain rfl := Option.some.inj h179
  obtain rfl := hR180 _ rfl
  refine ⟨rfl, (x171, v172), ⟨hI176, hA177, rfl⟩, sb7 rfl rfl rfl rfl rfl rfl rfl⟩
 rintro ⟨x166, v167⟩ w168 ⟨hI169, hA170, rfl⟩
 refine cw_seq (cw_regF ?_)
 iterate 4 refine s_mv rfl rfl ?_
 obtain ⟨⟨z238, z239⟩, hz240, h⟩ := bnd h
 refine s_call rfl Tryd.call20 rfl ((C_account_State hI169.mlt (hG.adv hI169.adv) (f_l_0.adv hI169.adv) f_id_0 f_day_0 f_known_0 hz240).mono ?_)
 rintro _ w241 ⟨v246, v251, v256, v261, v266, v271, rfl, r243, r244, r245, hf247, r248, r249, r250, hf252, r253, r254, r255, hf257, r258, r259, r260, hf262, r263, r264, r265, hf267, r268, r269, r270, hf272, r273, r274, r275, r276, e242⟩
 refine ⟨_, rfl, ?_⟩
 have hI277 := hI169.ext e242
 refine s_mv rfl rfl (s_xt rfl rfl rfl (s_xt rfl rfl rfl (y_al hI277 Tryd.zeroValue42 rfl rfl ?_)))
 intro b278 w279 hI280 x281
 refine y_st 0 hI280 rfl rfl rfl rfl Tryd.sizeOf42 rfl rfl (one1 rfl (one1 rfl (one1 rfl (one1 (RdS.oneC hf247) (one1 rfl (one1 rfl (one1 rfl (one1 (RdS.oneC hf252) (one1 rfl (one1 rfl (one1 rfl (one1 (RdS.oneC hf257) (one1 rfl (one1 rfl (one1 rfl (one1 (RdS.oneC hf262) (one1 rfl (one1 rfl (one1 rfl (one1 (RdS.oneC hf267) (one1 rfl (one1 rfl (one1 rfl (one1 (RdS.oneC hf272) (on3 rfl rfl rfl))))))))))))))))))))))))) ?_
 intro w282 hI283 x284
 have hC286 := hI283.freezeRow 0 rfl
 have hI285 := hI283.erase 0
 refine s_as rfl rfl (Reg.nil (cw_seq (cw_regF ?_)))
 iterate 4 refine s_mv rfl rfl ?_
 have hf287 := hI285.freeze 0 rfl
 have hI288 := hI285.erase 0
 obtain ⟨⟨z289, z290⟩, hz291, h⟩ := bnd h
 refine s_call rfl Tryd.call20 rfl ((C_account_State hI288.mlt (hG.adv hI288.adv) hf287 f_id_0 f_day_0 f_known_0 hz291).mono ?_)
 rintro _ w292 ⟨v297, v302, v307, v312, v317, v322, rfl, r294, r295, r296, hf298, r299, r300, r301, hf303, r304, r305, r306, hf308, r309, r310, r311, hf313, r314, r315, r316, hf318, r319, r320, r321, hf323, r324, r325, r326, r327, e293⟩
 refine ⟨_, rfl, ?_⟩
 have hI328 := hI288.ext e293
 refine s_mv rfl rfl (s_xt rfl rfl rfl (s_xt rfl rfl rfl (y_al hI328 Tryd.zeroValue42 rfl rfl ?_)))
 intro b329 w330 hI331 x332
 refine y_st 0 hI331 rfl rfl rfl rfl Tryd.sizeOf42 rfl rfl (one1 rfl (one1 rfl (one1 rfl (one1 (RdS.oneC hf298) (one1 rfl (one1 rfl (one1 rfl (one1 (RdS.oneC hf303) (one1 rfl (one1 rfl (one1 rfl (one1 (RdS.oneC hf308) (one1 rfl (one1 rfl (one1 rfl (one1 (RdS.oneC hf313) (one1 rfl (one1 rfl (one1 rfl (one1 (RdS.oneC hf318) (one1 rfl (one1 rfl (one1 rfl (one1 (RdS.oneC hf323) (on3 rfl rfl rfl))))))))))))))))))))))))) ?_
 intro w333 hI334 x335
 have hC337 := hI334.freezeRow 0 rfl
 have hI336 := hI334.erase 0
 refine s_as rfl rfl (Reg.nil (cw_seq (cw_regF ?_)))
 iterate 3 refine s_mv rfl rfl ?_
 obtain ⟨⟨z338, z339⟩, hz340, h⟩ := bnd h
 refine s_call rfl Tryd.call22 rfl ((C_account_Clashes hI336.mlt (hG.adv hI336.adv) (f_l_0.adv hI336.adv) f_id_0 f_known_0 hz340).mono ?_)
 rintro _ w341 ⟨v343, rfl, hf344, r345, e342⟩
 refine ⟨_, rfl, ?_⟩
 have hI346 := hI336.addOwn e342 hf344
 refine s_mv rfl rfl (s_xt rfl rfl rfl (s_xt rfl rfl rfl (s_as rfl rfl (s_as rfl rfl (Reg.nil (cw_seq (cw_regF ?_)))))))
 iterate 3 refine s_mv rfl rfl ?_
 obtain ⟨⟨z347, z348⟩, hz349, h⟩ := bnd h
 refine s_call rfl Tryd.call22 rfl ((C_account_Clashes hI346.mlt (hG.adv hI346.adv) (hf287.adv ((Adv.of_ext e293).trans (x332.trans (x335.trans ((hI334.eraseH 0).trans (hI336.addOwnA e342 hf344)))))) f_id_0 f_known_0 hz349).mono ?_)
 rintro _ w350 ⟨v352, rfl, hf353, r354, e351⟩
 refine ⟨_, rfl, ?_⟩
 have hI355 := hI346.addOwn e351 hf353
 refine s_mv rfl rfl (s_xt rfl rfl rfl (s_xt rfl rfl rfl (s_as rfl rfl (s_as rfl rfl (Reg.nil (cw_seq (cw_regF (s_mv rfl rfl (s_mv rfl rfl ?_)))))))))
 obtain ⟨⟨z356, z357⟩, hz358, h⟩ := bnd h
 refine s_call rfl Tryd.call13 rfl ((C_account_Standing hI355.mlt (hG.adv hI355.adv) (f_l_0.adv hI355.adv) f_known_0 hz358).mono ?_)
 rintro _ w359 ⟨v361, rfl, hf362, r363, e360⟩
 refine ⟨_, rfl, ?_⟩
 have hI364 := hI355.addOwn e360 hf362
 refine s_mv rfl rfl (s_xt rfl rfl rfl (s_xt rfl rfl rfl (s_as rfl rfl (s_as rfl rfl (Reg.nil (cw_seq (cw_regF (s_mv rfl rfl (s_mv rfl rfl ?_)))))))))
 obtain ⟨⟨z365, z366⟩, hz367, h⟩ := bnd h
 refine s_call rfl Tryd.call13 rfl ((C_account_Standing hI364.mlt (hG.adv hI364.adv) (hf287.adv ((Adv.of_ext e293).trans (x332.trans (x335.trans ((hI334.eraseH 0).trans ((hI336.addOwnA e342 hf344).trans ((hI346.addOwnA e351 hf353).trans (hI355.addOwnA e360 hf362)))))))) f_known_0 hz367).mono ?_)
 rintro _ w368 ⟨v370, rfl, hf371, r372, e369⟩
 refine ⟨_, rfl, ?_⟩
 have hI373 := hI364.addOwn e369 hf371
 refine s_mv rfl rfl (s_xt rfl rfl rfl (s_xt rfl rfl rfl (s_as rfl rfl (s_as rfl rfl (Reg.nil (cw_seq ?_))))))
 obtain ⟨j374, h375, h⟩ := bnd h
 refine cw_sub (L := [(18, _), (19, _), (20, _), (21, _), (22, _), (23, _), (24, _), (25, _), (26, _), (27, _), (28, _), (29, _), (0, _), (3, _), (5, _), (13, _), (14, _)]) (Sub.cons rfl (Sub.cons rfl (Sub.cons rfl (Sub.cons rfl (Sub.cons rfl (sb12 rfl rfl rfl rfl rfl rfl rfl rfl rfl rfl rfl rfl)))))) (cw_seqD 12 (ι := Bool) (fun x376 => [(192, Value.bool x376)]) (fun x376 => fun w377 => Hp w [] M [ownR [] ReportE 61 v370 z365, ownR [] ReportE 61 v361 z356, ownR [] ClashE 55 v352 z347, ownR [] ClashE 55 v343 z338] w377 ∧ Adv (mm [ownR [] ReportE 61 v370 z365, ownR [] ReportE 61 v361 z356, ownR [] ClashE 55 v352 z347, ownR [] ClashE 55 v343 z338] M) (mm [ownR [] ReportE 61 v370 z365, ownR [] ReportE 61 v361 z356, ownR [] ClashE 55 v352 z347, ownR [] ClashE 55 v343 z338] M) w368 w377 ∧ x376 = j374) ?_ ?_)
 ·refine cw_regF (s_mv rfl rfl (s_neq rfl rfl rfl (s_mv rfl rfl (Reg.gsplit (t := 155) rfl (fun hg380 => ?_) (fun hg380 => ?_)))))
  ·replace h375 := cdT hg380 h375
   refine Reg.pass rfl rfl rfl rfl (Reg.pass rfl rfl rfl rfl (s_pkT rfl rfl rfl (s_mv rfl rfl (Reg.pass rfl rfl rfl rfl (Reg.pass rfl rfl rfl rfl (s_pkT rfl rfl rfl (s_mv rfl rfl (Reg.pass rfl rfl rfl rfl (Reg.pass rfl rfl rfl rfl (s_pkT rfl rfl rfl (s_mv rfl rfl ?_)))))))))))
   refine Reg.pass rfl rfl rfl rfl (Reg.pass rfl rfl rfl rfl (s_pkT rfl rfl rfl (s_mv rfl rfl (Reg.pass rfl rfl rfl rfl (Reg.pass rfl rfl rfl rfl (s_pkT rfl rfl rfl (s_mv rfl rfl ?_)))))))
   iterate 4 refine Reg.pass rfl rfl rfl rfl ?_
   refine s_pkT rfl rfl rfl (s_mv rfl rfl ?_)
   iterate 4 refine Reg.pass rfl rfl rfl rfl ?_
   refine s_pkT rfl rfl rfl (s_mv rfl rfl ?_)
   iterate 4 refine Reg.pass rfl rfl rfl rfl ?_
   refine s_pkT rfl rfl rfl (Reg.nil ?_)
   obtain rfl := Option.some.inj h375
   refine ⟨rfl, true, ⟨hI373, (Adv.refl _ _), rfl⟩, sb6 rfl rfl rfl rfl rfl rfl⟩
  replace h375 := cdF hg380 h375
  refine Reg.take rfl rfl (s_mv rfl rfl (Reg.take rfl rfl (s_neq rfl rfl rfl (s_pkF rfl rfl rfl (s_mv rfl rfl (Reg.gsplit (t := 159) rfl (fun hg381 => ?_) (fun hg381 => ?_)))))))
  ·replace h375 := cdT hg381 h375
   refine Reg.pass rfl rfl rfl rfl (Reg.pass rfl rfl rfl rfl (s_pkT rfl rfl rfl (s_mv rfl rfl (Reg.pass rfl rfl rfl rfl (Reg.pass rfl rfl rfl rfl (s_pkT rfl rfl rfl (s_mv rfl rfl (Reg.pass rfl rfl rfl rfl (Reg.pass rfl rfl rfl rfl (s_pkT rfl rfl rfl (s_mv rfl rfl ?_)))))))))))
   refine Reg.pass rfl rfl rfl rfl (Reg.pass rfl rfl rfl rfl (s_pkT rfl rfl rfl (s_mv rfl rfl ?_)))
   iterate 4 refine Reg.pass rfl rfl rfl rfl ?_
   refine s_pkT rfl rfl rfl (s_mv rfl rfl ?_)
   iterate 4 refine Reg.pass rfl rfl rfl rfl ?_
   refine s_pkT rfl rfl rfl (s_mv rfl rfl ?_)
   iterate 4 refine Reg.pass rfl rfl rfl rfl ?_
   refine s_pkT rfl rfl rfl (Reg.nil ?_)
   obtain rfl := Option.some.inj h375
   refine ⟨rfl, true, ⟨hI373, (Adv.refl _ _), rfl⟩, sb6 rfl rfl rfl rfl rfl rfl⟩
  replace h375 := cdF hg381 h375
  refine Reg.take rfl rfl (s_mv rfl rfl (Reg.take rfl rfl (s_neq rfl rfl rfl (s_pkF rfl rfl rfl (s_mv rfl rfl (Reg.gsplit (t := 163) rfl (fun hg382 => ?_) (fun hg382 => ?_)))))))
  ·replace h375 := cdT hg382 h375
   refine Reg.pass rfl rfl rfl rfl (Reg.pass rfl rfl rfl rfl (s_pkT rfl rfl rfl (s_mv rfl rfl (Reg.pass rfl rfl rfl rfl (Reg.pass rfl rfl rfl rfl (s_pkT rfl rfl rfl (s_mv rfl rfl (Reg.pass rfl rfl rfl rfl (Reg.pass rfl rfl rfl rfl (s_pkT rfl rfl rfl (s_mv rfl rfl ?_)))))))))))
   iterate 4 refine Reg.pass rfl rfl rfl rfl ?_
   refine s_pkT rfl rfl rfl (s_mv rfl rfl ?_)
   iterate 4 refine Reg.pass rfl rfl rfl rfl ?_
   refine s_pkT rfl rfl rfl (s_mv rfl rfl ?_)
   iterate 4 refine Reg.pass rfl rfl rfl rfl ?_
   refine s_pkT rfl rfl rfl (Reg.nil ?_)
   obtain rfl := Option.some.inj h375
   refine ⟨rfl, true, ⟨hI373, (Adv.refl _ _), rfl⟩, sb6 rfl rfl rfl rfl rfl rfl⟩
  replace h375 := cdF hg382 h375
  refine Reg.take rfl rfl (s_mv rfl rfl (Reg.take rfl rfl (s_neq rfl rfl rfl (s_pkF rfl rfl rfl (s_mv rfl rfl (Reg.gsplit (t := 167) rfl (fun hg383 => ?_) (fun hg383 => ?_)))))))
  ·replace h375 := cdT hg383 h375
   refine Reg.pass rfl rfl rfl rfl (Reg.pass rfl rfl rfl rfl (s_pkT rfl rfl rfl (s_mv rfl rfl (Reg.pass rfl rfl rfl rfl (Reg.pass rfl rfl rfl rfl (s_pkT rfl rfl rfl (s_mv rfl rfl ?_)))))))
   iterate 4 refine Reg.pass rfl rfl rfl rfl ?_
   refine s_pkT rfl rfl rfl (s_mv rfl rfl ?_)
   iterate 4 refine Reg.pass rfl rfl rfl rfl ?_
   refine s_pkT rfl rfl rfl (s_mv rfl rfl ?_)
   iterate 4 refine Reg.pass rfl rfl rfl rfl ?_
   refine s_pkT rfl rfl rfl (Reg.nil ?_)
   obtain rfl := Option.some.inj h375
   refine ⟨rfl, true, ⟨hI373, (Adv.refl _ _), rfl⟩, sb6 rfl rfl rfl rfl rfl rfl⟩
  replace h375 := cdF hg383 h375
  refine Reg.take rfl rfl (s_mv rfl rfl (Reg.take rfl rfl (s_neq rfl rfl rfl (s_pkF rfl rfl rfl (s_mv rfl rfl (Reg.gsplit (t := 171) rfl (fun hg384 => ?_) (fun hg384 => ?_)))))))
  ·replace h375 := cdT hg384 h375
   refine Reg.pass rfl rfl rfl rfl (Reg.pass rfl rfl rfl rfl (s_pkT rfl rfl rfl (s_mv rfl rfl ?_)))
   iterate 4 refine Reg.pass rfl rfl rfl rfl ?_
   refine s_pkT rfl rfl rfl (s_mv rfl rfl ?_)
   iterate 4 refine Reg.pass rfl rfl rfl rfl ?_
   refine s_pkT rfl rfl rfl (s_mv rfl rfl ?_)
   iterate 4 refine Reg.pass rfl rfl rfl rfl ?_
   refine s_pkT rfl rfl rfl (Reg.nil ?_)
   obtain rfl := Option.some.inj h375
   refine ⟨rfl, true, ⟨hI373, (Adv.refl _ _), rfl⟩, sb6 rfl rfl rfl rfl rfl rfl⟩
  replace h375 := cdF hg384 h375
  refine Reg.take rfl rfl (s_mv rfl rfl (Reg.take rfl rfl (s_neq rfl rfl rfl (s_pkF rfl rfl rfl (s_mv rfl rfl (Reg.gsplit (t := 175) rfl (fun hg385 => ?_) (fun hg385 => ?_)))))))
  ·replace h375 := cdT hg385 h375
   iterate 4 refine Reg.pass rfl rfl rfl rfl ?_
   refine s_pkT rfl rfl rfl (s_mv rfl rfl ?_)
   iterate 4 refine Reg.pass rfl rfl rfl rfl ?_
   refine s_pkT rfl rfl rfl (s_mv rfl rfl ?_)
   iterate 4 refine Reg.pass rfl rfl rfl rfl ?_
   refine s_pkT rfl rfl rfl (Reg.nil ?_)
   obtain rfl := Option.some.inj h375
   refine ⟨rfl, true, ⟨hI373, (Adv.refl _ _), rfl⟩, sb6 rfl rfl rfl rfl rfl rfl⟩
  replace h375 := cdF hg385 h375
  refine Reg.take rfl rfl (s_lda rfl (hC286.adv ((hI285.eraseH 0).trans ((Adv.of_ext e293).trans (x332.trans (x335.trans ((hI334.eraseH 0).trans ((hI336.addOwnA e342 hf344).trans ((hI346.addOwnA e351 hf353).trans ((hI355.addOwnA e360 hf362).trans (hI364.addOwnA e369 hf371)))))))))).cells Tryd.isAgg42 rfl Tryd.sizeOf42 rfl (Reg.take rfl rfl (s_lda rfl (hC337.adv ((hI336.addOwnA e342 hf344).trans ((hI346.addOwnA e351 hf353).trans ((hI355.addOwnA e360 hf362).trans (hI364.addOwnA e369 hf371))))).cells Tryd.isAgg42 rfl Tryd.sizeOf42 rfl (Reg.take rfl rfl ?_))))
  obtain ⟨z386, hz387, h375⟩ := bnd h375
  refine s_call rfl Tryd.call24 rfl ((C_ref03_SameState (a := (State.mk (Told.mk z238.opened.known z238.opened.cents z238.opened.since z238.opened.by_) (Told.mk z238.limit.known z238.limit.cents z238.limit.since z238.limit.by_) (Told.mk z238.owed.known z238.owed.cents z238.owed.since z238.owed.by_) (Told.mk z238.late.known z238.late.cents z238.late.since z238.late.by_) (Told.mk z238.default.known z238.default.cents z238.default.since z238.default.by_) (Told.mk z238.closed.known z238.closed.cents z238.closed.since z238.closed.by_) (Span.mk z238.paid.lo z238.paid.hi) z238.is_)) (b := (State.mk (Told.mk z289.opened.known z289.opened.cents z289.opened.since z289.opened.by_) (Told.mk z289.limit.known z289.limit.cents z289.limit.since z289.limit.by_) (Told.mk z289.owed.known z289.owed.cents z289.owed.since z289.owed.by_) (Told.mk z289.late.known z289.late.cents z289.late.since z289.late.by_) (Told.mk z289.default.known z289.default.cents z289.default.since z289.default.by_) (Told.mk z289.closed.known z289.closed.cents z289.closed.since z289.closed.by_) (Span.mk z289.paid.lo z289.paid.hi) z289.is_)) hI373.mlt r243 r244 r245 (hf247.adv (x281.trans (x284.trans ((hI283.eraseH 0).trans ((hI285.eraseH 0).trans ((Adv.of_ext e293).trans (x332.trans (x335.trans ((hI334.eraseH 0).trans ((hI336.addOwnA e342 hf344).trans ((hI346.addOwnA e351 hf353).trans ((hI355.addOwnA e360 hf362).trans (hI364.addOwnA e369 hf371))))))))))))) r248 r249 r250 (hf252.adv (x281.trans (x284.trans ((hI283.eraseH 0).trans ((hI285.eraseH 0).trans ((Adv.of_ext e293).trans (x332.trans (x335.trans ((hI334.eraseH 0).trans ((hI336.addOwnA e342 hf344).trans ((hI346.addOwnA e351 hf353).trans ((hI355.addOwnA e360 hf362).trans (hI364.addOwnA e369 hf371))))))))))))) r253 r254 r255 (hf257.adv (x281.trans (x284.trans ((hI283.eraseH 0).trans ((hI285.eraseH 0).trans ((Adv.of_ext e293).trans (x332.trans (x335.trans ((hI334.eraseH 0).trans ((hI336.addOwnA e342 hf344).trans ((hI346.addOwnA e351 hf353).trans ((hI355.addOwnA e360 hf362).trans (hI364.addOwnA e369 hf371))))))))))))) r258 r259 r260 (hf262.adv (x281.trans (x284.trans ((hI283.eraseH 0).trans ((hI285.eraseH 0).trans ((Adv.of_ext e293).trans (x332.trans (x335.trans ((hI334.eraseH 0).trans ((hI336.addOwnA e342 hf344).trans ((hI346.addOwnA e351 hf353).trans ((hI355.addOwnA e360 hf362).trans (hI364.addOwnA e369 hf371))))))))))))) r263 r264 r265 (hf267.adv (x281.trans (x284.trans ((hI283.eraseH 0).trans ((hI285.eraseH 0).trans ((Adv.of_ext e293).trans (x332.trans (x335.trans ((hI334.eraseH 0).trans ((hI336.addOwnA e342 hf344).trans ((hI346.addOwnA e351 hf353).trans ((hI355.addOwnA e360 hf362).trans (hI364.addOwnA e369 hf371))))))))))))) r268 r269 r270 (hf272.adv (x281.trans (x284.trans ((hI283.eraseH 0).trans ((hI285.eraseH 0).trans ((Adv.of_ext e293).trans (x332.trans (x335.trans ((hI334.eraseH 0).trans ((hI336.addOwnA e342 hf344).trans ((hI346.addOwnA e351 hf353).trans ((hI355.addOwnA e360 hf362).trans (hI364.addOwnA e369 hf371))))))))))))) r273 r274 r275 r294 r295 r296 (hf298.adv (x332.trans (x335.trans ((hI334.eraseH 0).trans ((hI336.addOwnA e342 hf344).trans ((hI346.addOwnA e351 hf353).trans ((hI355.addOwnA e360 hf362).trans (hI364.addOwnA e369 hf371)))))))) r299 r300 r301 (hf303.adv (x332.trans (x335.trans ((hI334.eraseH 0).trans ((hI336.addOwnA e342 hf344).trans ((hI346.addOwnA e351 hf353).trans ((hI355.addOwnA e360 hf362).trans (hI364.addOwnA e369 hf371)))))))) r304 r305 r306 (hf308.adv (x332.trans (x335.trans ((hI334.eraseH 0).trans ((hI336.addOwnA e342 hf344).trans ((hI346.addOwnA e351 hf353).trans ((hI355.addOwnA e360 hf362).trans (hI364.addOwnA e369 hf371)))))))) r309 r310 r311 (hf313.adv (x332.trans (x335.trans ((hI334.eraseH 0).trans ((hI336.addOwnA e342 hf344).trans ((hI346.addOwnA e351 hf353).trans ((hI355.addOwnA e360 hf362).trans (hI364.addOwnA e369 hf371)))))))) r314 r315 r316 (hf318.adv (x332.trans (x335.trans ((hI334.eraseH 0).trans ((hI336.addOwnA e342 hf344).trans ((hI346.addOwnA e351 hf353).trans ((hI355.addOwnA e360 hf362).trans (hI364.addOwnA e369 hf371)))))))) r319 r320 r321 (hf323.adv (x332.trans (x335.trans ((hI334.eraseH 0).trans ((hI336.addOwnA e342 hf344).trans ((hI346.addOwnA e351 hf353).trans ((hI355.addOwnA e360 hf362).trans (hI364.addOwnA e369 hf371)))))))) r324 r325 r326 hz387).mono ?_)
  rintro _ w388 ⟨rfl, e389⟩
  refine ⟨_, rfl, ?_⟩
  have hI390 := hI373.ext e389
  refine Reg.take rfl rfl (s_not rfl rfl (s_pkF rfl rfl rfl (s_mv rfl rfl (Reg.gsplit (t := 181) rfl (fun hg391 => ?_) (fun hg391 => ?_)))))
  ·replace h375 := cdT hg391 h375
   iterate 4 refine Reg.pass rfl rfl rfl rfl ?_
   refine s_pkT rfl rfl rfl (s_mv rfl rfl ?_)
   iterate 4 refine Reg.pass rfl rfl rfl rfl ?_
   refine s_pkT rfl rfl rfl (Reg.nil ?_)
   obtain rfl := Option.some.inj h375
   refine ⟨rfl, true, ⟨hI390, (Adv.of_ext e389), rfl⟩, sb6 rfl rfl rfl rfl rfl rfl⟩
  replace h375 := cdF hg391 h375
  refine Reg.take rfl rfl (s_mv rfl rfl (Reg.take rfl rfl (s_mv rfl rfl (Reg.take rfl rfl ?_))))
  obtain ⟨z392, hz393, h375⟩ := bnd h375
  refine s_call rfl Tryd.call25 rfl ((C_ref03_SameClashes (hI390.sel [0, 1] rfl).mlt (hI390.lendRd [0, 1] 3 rfl rfl) (hI390.lendRd [0, 1] 2 rfl rfl) hz393).mono ?_)
  rintro _ w394 ⟨rfl, e395⟩
  refine ⟨_, rfl, ?_⟩
  have hI396 := hI390.ext e395
  refine Reg.take rfl rfl (s_not rfl rfl (s_pkF rfl rfl rfl (s_mv rfl rfl (Reg.gsplit (t := 187) rfl (fun hg397 => ?_) (fun hg397 => ?_)))))
  ·replace h375 := cdT hg397 h375
   iterate 4 refine Reg.pass rfl rfl rfl rfl ?_
   refine s_pkT rfl rfl rfl (Reg.nil ?_)
   obtain rfl := Option.some.inj h375
   refine ⟨rfl, true, ⟨hI396, ((Adv.of_ext e389).trans (Adv.of_ext e395)), rfl⟩, sb6 rfl rfl rfl rfl rfl rfl⟩
  replace h375 := cdF hg397 h375
  refine Reg.take rfl rfl (s_mv rfl rfl (Reg.take rfl rfl (s_mv rfl rfl (Reg.take rfl rfl ?_))))
  obtain ⟨z398, hz399, h375⟩ := bnd h375
  refine s_call rfl Tryd.call19 rfl ((C_ref03_SameReports (hI396.sel [2, 3] rfl).mlt (hI396.lendRd [2, 3] 1 rfl rfl) (hI396.lendRd [2, 3] 0 rfl rfl) hz399).mono ?_)
  rintro _ w400 ⟨rfl, e401⟩
  refine ⟨_, rfl, ?_⟩
  have hI402 := hI396.ext e401
  refine Reg.take rfl rfl (s_not rfl rfl (s_pkF rfl rfl rfl (Reg.nil ?_)))
  obtain rfl := Option.some.inj h375
  refine ⟨rfl, !z398, ⟨hI402, ((Adv.of_ext e389).trans ((Adv.of_ext e395).trans (Adv.of_ext e401))), rfl⟩, sb6 rfl rfl rfl rfl rfl rfl⟩
 rintro x376 w377 ⟨hI378, hA379, rfl⟩
 refine cw_cond rfl (fun hc403 => ?_) (fun hc403 => ?_)
 ·replace h := cdT hc403 h
  refine cw_seq (cw_regF (s_as rfl rfl (Reg.nil (cw_ret ?_))))
  obtain rfl := Option.some.inj h
  refine fin1 Tryd.results6 rfl ?_
  exact ⟨rfl, hI378.kp⟩
 replace h := cdF hc403 h
 refine cw_skip (cw_seq (cw_seq (cw_regF (s_mv rfl rfl (s_len rfl (f_l_0.adv hI378.adv) Tryd.underlying22 rfl (s_eql rfl rfl rfl (Reg.nil (cw_cond rfl (fun hc404 => ?_) (fun hc404 => ?_)))))))))
 ·replace h := cdT hc404 h
  refine cw_seq (cw_regF (s_mv rfl rfl (s_as rfl rfl (Reg.nil (cw_ret ?_)))))
  obtain rfl := Option.some.inj h
  refine fin1 Tryd.results6 rfl ?_
  exact ⟨rfl, hI378.kp⟩
 replace h := cdF hc404 h
 refine cw_skip (cw_seq (cw_regF (s_mv rfl rfl (s_mv rfl rfl ?_))))
 obtain ⟨n405, hn405, h⟩ := bnd h
 replace hn405 := chk_out hn405
 refine p_cvt rfl Tryd.underlying5 Tryd.underlying3 rfl hn405 ?_
 refine s_mv rfl rfl (s_len rfl (f_l_0.adv hI378.adv) Tryd.underlying22 rfl ?_)
 obtain ⟨n406, hn406, h⟩ := bnd h
 have kn406 := remO_out hn406
 refine p_rem rfl rfl rfl kn406 ?_
 obtain ⟨y407, hy407, h⟩ := bnd h
 refine p_ia rfl rfl (f_l_0.adv hI378.adv) hy407 Tryd.underlying22 Tryd.sizeOf61 rfl ?_
 intro b408 o409 cs410 hR411 hC412
 obtain ⟨rfl, r413, r414, r415, r416, r417, r418, r419, r420⟩ := ReportE_R.1 hR411
 refine s_fa rfl Tryd.underlying61 rfl Tryd.sizeOf3 rfl (s_ld rfl (hC412.cells.at 0 rfl) Tryd.isAgg3 rfl (s_as rfl rfl (Reg.nil (cw_seq (cw_regF ?_)))))
 iterate 3 refine s_mv rfl rfl ?_
 obtain ⟨⟨z421, z422, z423⟩, hz424, h⟩ := bnd h
 refine s_call rfl Tryd.call15 rfl ((C_account_Fate hI378.mlt (hG.adv hI378.adv) (f_l_0.adv hI378.adv) r413 f_known_0 hz424).mono ?_)
 rintro _ w425 ⟨rfl, r427, r428, r429, e426⟩
 refine ⟨_, rfl, ?_⟩
 have hI430 := hI378.ext e426
 refine s_mv rfl rfl ?_
 iterate 3 refine s_xt rfl rfl rfl ?_
 iterate 3 refine s_as rfl rfl ?_
 refine Reg.nil (cw_seq (cw_regF ?_))
 iterate 3 refine s_mv rfl rfl ?_
 obtain ⟨⟨z431, z432, z433⟩, hz434, h⟩ := bnd h
 refine s_call rfl Tryd.call15 rfl ((C_account_Fate hI430.mlt (hG.adv hI430.adv) (hf287.adv ((Adv.of_ext e293).trans (x332.trans (x335.trans ((hI334.eraseH 0).trans ((hI336.addOwnA e342 hf344).trans ((hI346.addOwnA e351 hf353).trans ((hI355.addOwnA e360 hf362).trans ((hI364.addOwnA e369 hf371).trans (hA379.trans (Adv.of_ext e426))))))))))) r413 f_known_0 hz434).mono ?_)
 rintro _ w435 ⟨rfl, r437, r438, r439, e436⟩
 refine ⟨_, rfl, ?_⟩
 have hI440 := hI430.ext e436
 refine s_mv rfl rfl ?_
 iterate 3 refine s_xt rfl rfl rfl ?_
 iterate 3 refine s_as rfl rfl ?_
 refine Reg.nil ?_
 obtain ⟨j441, h442, h⟩ := bnd h
 refine cw_keep [13, 31, 32, 33, 34, 35, 36] rfl (cw_seqD 7 (ι := Bool) (fun x443 => [(12, Value.bool x443)]) (fun x443 => fun w444 => w435 = w444 ∧ x443 = j441) ?_ ?_)
 ·refine cw_regF (s_mv rfl rfl (s_mv rfl rfl (Reg.gsplit (t := 223) rfl (fun hg447 => ?_) (fun hg447 => ?_))))
  ·replace h442 := cdT hg447 h442
   refine Reg.take rfl rfl (s_mv rfl rfl (Reg.take rfl rfl (s_mv rfl rfl (Reg.take rfl rfl (s_eql rfl rfl rfl (s_pkT rfl rfl rfl (s_mv rfl rfl (Reg.gsplit (t := 228) rfl (fun hg448 => ?_) (fun hg448 => ?_)))))))))
   ·replace h442 := cdT hg448 h442
    refine Reg.take rfl rfl (s_mv rfl rfl (Reg.take rfl rfl (s_mv rfl rfl (Reg.take rfl rfl (s_eql rfl rfl rfl (s_pkT rfl rfl rfl (s_mv rfl rfl (Reg.gsplit (t := 233) rfl (fun hg449 => ?_) (fun hg449 => ?_)))))))))
    ·replace h442 := cdT hg449 h442
     refine Reg.take rfl rfl (s_mv rfl rfl (Reg.take rfl rfl (s_mv rfl rfl (Reg.take rfl rfl (s_eql rfl rfl rfl (s_pkT rfl rfl rfl (s_as rfl rfl (Reg.nil ?_))))))))
     obtain rfl := Option.some.inj h442
     refine ⟨rfl, decide (z423 = z433), ⟨rfl, rfl⟩, sb1 rfl⟩
    replace h442 := cdF hg449 h442
    iterate 3 refine Reg.pass rfl rfl rfl rfl ?_
    refine s_pkF rfl rfl rfl (s_as rfl rfl (Reg.nil ?_))
    obtain rfl := Option.some.inj h442
    refine ⟨rfl, false, ⟨rfl, rfl⟩, sb1 rfl⟩
   replace h442 := cdF hg448 h442
   iterate 3 refine Reg.pass rfl rfl rfl rfl ?_
   refine s_pkF rfl rfl rfl (s_mv rfl rfl ?_)
   iterate 3 refine Reg.pass rfl rfl rfl rfl ?_
   refine s_pkF rfl rfl rfl (s_as rfl rfl (Reg.nil ?_))
   obtain rfl := Option.some.inj h442
   refine ⟨rfl, false, ⟨rfl, rfl⟩, sb1 rfl⟩
  replace h442 := cdF hg447 h442
  iterate 3 refine Reg.pass rfl rfl rfl rfl ?_
  refine s_pkF rfl rfl rfl (s_mv rfl rfl ?_)
  iterate 3 refine Reg.pass rfl rfl rfl rfl ?_
  refine s_pkF rfl rfl rfl (s_mv rfl rfl ?_)
  iterate 3 refine Reg.pass rfl rfl rfl rfl ?_
  refine s_pkF rfl rfl rfl (s_as rfl rfl (Reg.nil ?_))
  obtain rfl := Option.some.inj h442
  refine ⟨rfl, false, ⟨rfl, rfl⟩, sb1 rfl⟩
 rintro x443 _ ⟨rfl, rfl⟩
 refine cw_ret ?_
 obtain rfl := Option.some.inj h
 refine fin1 Tryd.results6 rfl ?_
 exact ⟨rfl, hI440.kp⟩
end Go.Proofs.YtepjkmoipjeghaaDoor
namespace Go.Proofs.YtepjkmoipjeghaaDoor
open Go Go.Sx
namespace S
theorem p_AccountAnyOrder {l : List Report} (hin : ∀ r ∈ l, InR r) {id day known : Int} (_ : InK .i64 id) (_ : InK .i64 day) (_ : InK .i64 known) {b : List Int} (hb : ∀ x ∈ b, 0 ≤ x ∧ x ≤ 4294967295) {which : Int} (hw : InK .u8 which) : P.law03_AccountAnyOrder l id day known b which = some true := by
  rw [InK.u8] at hw
  apply Ret.yes
  unfold P.law03_AccountAnyOrder
  refine Ret.bind (Ret.val alive_is (Ret.bind (Ret.bind (r_ready hin (by simp) (Ret.condT rfl (Ret.ok (Ret.condT rfl (Ret.ok rfl)))) fun c hid hd => Ret.condF rfl (Ret.ok (Ret.condF rfl ?_))))))
  have hl := (chk0 c).1
  refine Ret.bind (Ret.appo (by simp; omega) (by simp; omega) ?_)
  rw [List.nil_append]
  refine Ret.bind (Ret.loop (fun t : Int × List Report => ∃ n : Nat, t.1 = n ∧ n ≤ l.length ∧ t.2.Perm l) (fun t => l.length - t.1.toNat) ⟨0, rfl, Nat.zero_le _, .refl _⟩ ?_)
  rintro ⟨_, m⟩ ⟨n, rfl, hn, hp⟩
  dsimp only at hp ⊢
  have hlen := hp.length_eq
  refine Ret.cond (fun h => ?_) fun h => ?_
  · have hlt : n < l.length := by have := of_decide_eq_true h; omega
    have hm : n < m.length := by omega
    refine Ret.bind (r_choose hb (by omega) fun z z0 z1 => Ret.bind (Ret.chk (by omega) (Ret.bind (Ret.remO z0 (by omega) ?_))))
    have q0 : 0 ≤ z % (m.length : Int) := Int.emod_nonneg _ (by omega)
    have q1 : z % (m.length : Int) < m.length := Int.emod_lt_of_pos _ (by omega)
    obtain ⟨k, hk⟩ : ∃ k : Nat, z % (m.length : Int) = k := ⟨_, (Int.toNat_of_nonneg q0).symm⟩
    rw [hk] at q1 ⊢
    have hkm : k < m.length := by omega
    refine Ret.bind (Ret.ixo (List.getElem?_eq_getElem hkm) (Ret.bind (Ret.ixo (List.getElem?_eq_getElem hm) (Ret.bind (Ret.ixo (List.getElem?_eq_getElem hm) (Ret.bind (Ret.seto hm ?_)))))))
    rw [eta]
    have hks : k < (m.set n m[k]).length := by rw [List.length_set]; exact hkm
    refine Ret.bind (Ret.ixo (List.getElem?_eq_getElem hks) (Ret.bind (Ret.seto hks (Ret.bind (Ret.chk (by omega) (Ret.next ⟨⟨n + 1, by dsimp only; omega, by omega, ?_⟩, by dsimp only; omega⟩))))))
    rw [eta]
    exact (List.set_set_perm hm hkm).trans hp
  · refine Ret.done ?_
    refine Ret.bind (r_choose hb (by omega) fun z z0 z1 => Ret.bind (Ret.chk (by omega) (Ret.bind (Ret.remO z0 (by omega) ?_))))
    have q0 : 0 ≤ z % 5 := Int.emod_nonneg _ (by omega)
    have q1 : z % 5 < 5 := Int.emod_lt_of_pos _ (by omega)
    obtain ⟨k, hk⟩ : ∃ k : Nat, z % 5 = k := ⟨_, (Int.toNat_of_nonneg q0).symm⟩
    rw [hk] at q1 ⊢
    refine Ret.bind (Ret.loop (fun t : List Report × Int => ∃ n : Nat, t.2 = n ∧ n ≤ k ∧ t.1.length ≤ 60 ∧ ∀ r, r ∈ t.1 ↔ r ∈ l) (fun t => k - t.2.toNat) ⟨0, rfl, Nat.zero_le _, by dsimp only; omega, fun r => hp.mem_iff⟩ ?_)
    rintro ⟨o, _⟩ ⟨j, rfl, hj, ho, hmem⟩
    dsimp only at ho hmem ⊢
    refine Ret.cond (fun h => ?_) fun h => ?_
    · have hlt : j < k := by have := of_decide_eq_true h; omega
      have next : ∀ (o' : List Report), o'.length ≤ 60 → (∀ r, r ∈ o' ↔ r ∈ l) → ∀ Q : List Report → Prop, Ret (Option.bind (chk .i64 ((j : Int) + 1)) fun n188 => some (Sum.inl (o', n188) : (List Report × Int) ⊕ List Report)) (Nxt (fun s' : List Report × Int => (∃ n : Nat, s'.2 = n ∧ n ≤ k ∧ s'.1.length ≤ 60 ∧ ∀ r, r ∈ s'.1 ↔ r ∈ l) ∧ k - s'.2.toNat < k - (j : Int).toNat) Q) := fun o' ho' hm' Q => Ret.bind (Ret.chk (by omega) (Ret.next ⟨⟨j + 1, by dsimp only; omega, by omega, ho', hm'⟩, by dsimp only; omega⟩))
      refine Ret.bind (Ret.bind ?_)
      refine Ret.cond (fun h1 => Ret.ok (Ret.bind ?_)) fun h1 => Ret.ok (Ret.bind (Ret.condF rfl (Ret.ok (Ret.ok (next o ho hmem _)))))
      have h1 := of_decide_eq_true h1
      refine Ret.cond (fun h2 => ?_) fun h2 => Ret.ok (Ret.ok (next o ho hmem _))
      have h2 := of_decide_eq_true h2
      refine Ret.bind (r_choose hb (by omega) fun y y0 y1 => Ret.bind (Ret.chk (by omega) (Ret.bind (Ret.remO y0 h1 ?_))))
      refine Ret.bind (Ret.ixoI (Int.emod_nonneg _ (by omega)) (Int.emod_lt_of_pos _ h1) fun r hr => Ret.bind (Ret.appo (by simp; omega) (by simp; omega) ?_))
      refine Ret.ok (Ret.ok (next _ (by simp; omega) (fun x => ?_) _))
      rw [List.mem_append]
      constructor
      · rintro (hx | hx)
        · exact (hmem x).1 hx
        · obtain rfl : x = r := by simpa using hx
          exact (hmem x).1 (List.mem_of_getElem? hr)
      · intro hx; exact .inl ((hmem x).2 hx)
    · refine Ret.done ?_
      have c' : chkE o = 0 := chk_mem c ho fun r => (hmem r).1
      have hin' : ∀ r ∈ o, InR r := fun r hr => hin r ((hmem r).1 hr)
      have e : ∀ r, r ∈ o ∧ r.made ≤ known ↔ r ∈ l ∧ r.made ≤ known := fun r => and_congr_left fun _ => hmem r
      refine Ret.bind (r_State1 hin c (in3 hid hd) fun F hF => Ret.bind (r_State1 hin' c' (in3 hid hd) fun F' hF' => ?_))
      obtain rfl := hF'.uniq hF e
      refine Ret.bind (r_Clashes1 hin c (in2 hid hd) fun G hG => Ret.bind (r_Clashes1 hin' c' (in2 hid hd) fun G' hG' => ?_))
      obtain rfl := hG.uniq hF' fun r => (e r).symm
      obtain rfl := hG'.uniq hF' fun r => Iff.rfl
      refine Ret.bind (r_Standing1 hin c (hd known (by simp)) fun G hG2 => Ret.bind (r_Standing1 hin' c' (hd known (by simp)) fun G' hG2' => ?_))
      obtain rfl := hG2.uniq hF' fun r => (e r).symm
      obtain rfl := hG2'.uniq hF' fun r => Iff.rfl
      have fo := hF'.fo
      have f2 := few_cl' (fo.filter (ofA id 100000))
      dsimp only
      refine Ret.bind (Ret.condF rfl (Ret.condF rfl (Ret.condF rfl (Ret.condF rfl (Ret.condF rfl (Ret.condF rfl ?_))))))
      refine Ret.bind (Ret.val (r_sameS (few_st (fo.filter _))) (Ret.condF rfl ?_))
      refine Ret.bind (Ret.val (r_sameC f2.1 f2.2) (Ret.condF rfl ?_))
      have f3 := fo.len
      refine Ret.bind (r_same (by omega) (Ret.ok ?_))
      refine Ret.condF rfl (Ret.cond (fun _ => Ret.ok rfl) fun h3 => ?_)
      have h3 := of_decide_eq_false h3
      have hpos : (0 : Int) < l.length := by omega
      refine Ret.bind (Ret.chk (by omega) (Ret.bind (Ret.remO (by omega) hpos (Ret.bind (Ret.ixoI (Int.emod_nonneg _ (by omega)) (Int.emod_lt_of_pos _ hpos) fun y hy => ?_)))))
      refine Ret.bind (r_Fate1 hin c (hd known (by simp)) fun K hK => Ret.bind (r_Fate1 hin' c' (hd known (by simp)) fun K' hK' => ?_))
      have hKK : Kw l known K' := ⟨fun r => (hK'.mem r).trans (e r), hK'.ok⟩
      rw [ftOf_pm hK.ok hK'.ok (hK.perm hKK)]
      obtain ⟨x1, x2, x3⟩ := ftOf K' y.id
      exact Ret.bind (Ret.condT rfl (Ret.condT (decide_eq_true rfl) (Ret.condT (decide_eq_true rfl) (Ret.ok (Ret.ok (decide_eq_true rfl))))))
end S
end Go.Proofs.YtepjkmoipjeghaaDoor
