/-
  Part 4 of the texts that the statement's proof stands on: what memory holds, how code is walked, what the functions reckon. In the order in which they build.
-/
import Derived.Test.YtecmlmngcnionaaGreatProg
import Derived.Test.YtecmlmngcnionaaGreatSr3
set_option linter.unusedVariables false
set_option maxRecDepth 20000
namespace Go.Proofs.YtecmlmngcnionaaGreat
open Go Go.Sx Go.RowKit
noncomputable def P.ref06_put (l : (List Int)) (n : Int) : Option (List Int) :=
 Option.bind (loopM (S := Int) (R := (Int)) (fun x1 => Option.bind (cond (decide (x1 < (l.length : Int))) (Option.bind (ixo l x1) fun y3 => some (decide (y3 < n))) (some false)) fun x10 => cond x10 (Option.bind (chk .i64 (x1 + 1)) fun n12 => some (.inl n12)) (some (.inr x1))) 0) fun x13 => Option.bind (cond (decide (x13 < (l.length : Int))) (Option.bind (ixo l x13) fun y15 => some (decide (y15 = n))) (some false)) fun x22 => cond x22 (some l) (Option.bind (Option.bind (cutHi l x13) fun l27 => Option.bind (cutLo l x13) fun l30 => Option.bind (appo 8 ([] : List Int) l27) fun l38 => Option.bind (appo 8 l38 ([n] : List Int)) fun l55 => Option.bind (appo 8 l55 l30) fun l63 => some l63) fun x75 => some x75)
theorem C_ref06_put {M : List Nat} {w : World} (hM : MLt M w) {l : (List Int)} {v_l_0 : Value} (f_l_0 : RdS (intE .i64) M w v_l_0 l) {n : Int} (f_n_0 : InK .i64 n) {r0 : (List Int)} (h : P.ref06_put l n = some r0) :
  Calls Tryz.prog 50 (List.toArray [v_l_0, Value.int .i64 n]) w fun e w' => ∃ v0_0 : Value, e = .returned (v0_0) ∧ RdS (intE .i64) M w' v0_0 r0 ∧ Ext w w' := by
 have hI := Hp.start (Mu := []) hM
 refine calls_cw Tryz.func50 rfl Tryz.ntmps50 rfl ?_
 refine cw_seq (cw_regF ?_)
 refine s_as rfl rfl ?_
 refine Reg.nil ?_
 refine cw_seq (cw_regF ?_)
 refine s_as rfl rfl ?_
 refine Reg.nil ?_
 obtain ⟨j1, h2, h⟩ := bnd h
 refine cw_sub (L := [(5, _), (0, _), (1, _)]) (Sub.cons rfl (Sub.cons rfl (Sub.cons rfl (Sub.nil _)))) ?_
 refine cw_seqD 1 (ι := Int) (fun x3 => [(5, Value.int .i64 x3)]) (fun x3 => fun w5 => w = w5 ∧ InK .i64 x3 ∧ x3 = j1) ?_ ?_
 ·skip
  refine cw_block ?_
  refine cw_sub (L := [(5, _), (0, _), (1, _)]) (Sub.cons rfl (Sub.cons rfl (Sub.cons rfl (Sub.nil _)))) ?_
  refine cw_loopM 1 (ι := Int) _ (fun x8 => [(5, Value.int .i64 x8)]) (fun x8 => x8) (fun x8 => fun w10 => w = w10 ∧ InK .i64 x8) 0 h2 ⟨rfl, (by decide)⟩ (Sub.cons rfl (Sub.cons rfl (Sub.cons rfl (Sub.nil _)))) ?_
  rintro x8 _ ⟨rfl, r9⟩ y13 h14 hR15
  refine cw_seq ?_
  obtain ⟨j16, h17, h14⟩ := bnd h14
  refine cw_sub (L := [(0, _), (1, _), (5, _)]) (Sub.cons rfl (Sub.cons rfl (Sub.cons rfl (Sub.nil _)))) ?_
  refine cw_seqD 0 (ι := Bool) (fun x18 => [(17, Value.bool x18)]) (fun x18 => fun w19 => w = w19 ∧ x18 = j16) ?_ ?_
  ·skip
   refine cw_regF ?_
   refine s_mv rfl rfl ?_
   refine s_mv rfl rfl ?_
   refine s_len rfl f_l_0 Tryz.underlying26 rfl ?_
   refine s_lss rfl rfl rfl ?_
   refine s_mv rfl rfl ?_
   refine Reg.gsplit (t := 10) rfl (fun hg22 => ?_) (fun hg22 => ?_)
   ·replace h17 := cdT hg22 h17
    refine Reg.take rfl rfl ?_
    refine s_mv rfl rfl ?_
    refine Reg.take rfl rfl ?_
    refine s_mv rfl rfl ?_
    refine Reg.take rfl rfl ?_
    obtain ⟨y23, hy23, h17⟩ := bnd h17
    refine p_ia rfl rfl f_l_0 hy23 Tryz.underlying26 Tryz.sizeOf3 rfl ?_
    intro b24 o25 cs26 hR27 hC28
    obtain ⟨rfl, r29⟩ := hR27
    refine Reg.take rfl rfl ?_
    refine s_ld rfl (hC28.cells.at 0 rfl) Tryz.isAgg3 rfl ?_
    refine Reg.take rfl rfl ?_
    refine s_mv rfl rfl ?_
    refine Reg.take rfl rfl ?_
    refine s_lss rfl rfl rfl ?_
    refine s_pkT rfl rfl rfl ?_
    refine Reg.nil ?_
    obtain rfl := Option.some.inj h17
    refine ⟨rfl, decide (y23 < n), ⟨rfl, rfl⟩, Sub.cons rfl (Sub.cons rfl (Sub.cons rfl (Sub.cons rfl (Sub.nil _))))⟩
   ·replace h17 := cdF hg22 h17
    refine Reg.pass rfl rfl rfl rfl ?_
    refine Reg.pass rfl rfl rfl rfl ?_
    refine Reg.pass rfl rfl rfl rfl ?_
    refine Reg.pass rfl rfl rfl rfl ?_
    refine Reg.pass rfl rfl rfl rfl ?_
    refine Reg.pass rfl rfl rfl rfl ?_
    refine s_pkF rfl rfl rfl ?_
    refine Reg.nil ?_
    obtain rfl := Option.some.inj h17
    refine ⟨rfl, false, ⟨rfl, rfl⟩, Sub.cons rfl (Sub.cons rfl (Sub.cons rfl (Sub.cons rfl (Sub.nil _))))⟩
  ·skip
   rintro x18 _ ⟨rfl, rfl⟩
   refine cw_cond rfl (fun hc30 => ?_) (fun hc30 => ?_)
   ·replace h14 := cdT hc30 h14
    refine cw_skip ?_
    refine cw_block ?_
    refine cw_regF ?_
    refine s_mv rfl rfl ?_
    obtain ⟨n31, hn31, h14⟩ := bnd h14
    replace hn31 := chk_out hn31
    refine p_add rfl rfl rfl hn31 ?_
    refine s_as rfl rfl ?_
    refine Reg.nil ?_
    obtain rfl := Option.some.inj h14
    refine ⟨rfl, n31, ⟨⟨rfl, hn31.2⟩, rfl⟩, Sub.cons rfl (Sub.cons rfl (Sub.cons rfl (Sub.nil _)))⟩
   ·replace h14 := cdF hc30 h14
    refine cw_exit ?_
    refine exB_same ?_
    obtain rfl := Option.some.inj h14
    obtain rfl := hR15 _ rfl
    refine ⟨rfl, x8, ⟨rfl, r9, rfl⟩, Sub.cons rfl (Sub.cons rfl (Sub.cons rfl (Sub.nil _)))⟩
 ·skip
  rintro x3 _ ⟨rfl, r4, rfl⟩
  refine cw_seq ?_
  obtain ⟨j32, h33, h⟩ := bnd h
  refine cw_sub (L := [(0, _), (1, _), (5, _)]) (Sub.cons rfl (Sub.cons rfl (Sub.cons rfl (Sub.nil _)))) ?_
  refine cw_seqD 0 (ι := Bool) (fun x34 => [(31, Value.bool x34)]) (fun x34 => fun w35 => w = w35 ∧ x34 = j32) ?_ ?_
  ·skip
   refine cw_regF ?_
   refine s_mv rfl rfl ?_
   refine s_mv rfl rfl ?_
   refine s_len rfl f_l_0 Tryz.underlying26 rfl ?_
   refine s_lss rfl rfl rfl ?_
   refine s_mv rfl rfl ?_
   refine Reg.gsplit (t := 24) rfl (fun hg38 => ?_) (fun hg38 => ?_)
   ·replace h33 := cdT hg38 h33
    refine Reg.take rfl rfl ?_
    refine s_mv rfl rfl ?_
    refine Reg.take rfl rfl ?_
    refine s_mv rfl rfl ?_
    refine Reg.take rfl rfl ?_
    obtain ⟨y39, hy39, h33⟩ := bnd h33
    refine p_ia rfl rfl f_l_0 hy39 Tryz.underlying26 Tryz.sizeOf3 rfl ?_
    intro b40 o41 cs42 hR43 hC44
    obtain ⟨rfl, r45⟩ := hR43
    refine Reg.take rfl rfl ?_
    refine s_ld rfl (hC44.cells.at 0 rfl) Tryz.isAgg3 rfl ?_
    refine Reg.take rfl rfl ?_
    refine s_mv rfl rfl ?_
    refine Reg.take rfl rfl ?_
    refine s_eql rfl rfl rfl ?_
    refine s_pkT rfl rfl rfl ?_
    refine Reg.nil ?_
    obtain rfl := Option.some.inj h33
    refine ⟨rfl, decide (y39 = n), ⟨rfl, rfl⟩, Sub.cons rfl (Sub.cons rfl (Sub.cons rfl (Sub.cons rfl (Sub.nil _))))⟩
   ·replace h33 := cdF hg38 h33
    refine Reg.pass rfl rfl rfl rfl ?_
    refine Reg.pass rfl rfl rfl rfl ?_
    refine Reg.pass rfl rfl rfl rfl ?_
    refine Reg.pass rfl rfl rfl rfl ?_
    refine Reg.pass rfl rfl rfl rfl ?_
    refine Reg.pass rfl rfl rfl rfl ?_
    refine s_pkF rfl rfl rfl ?_
    refine Reg.nil ?_
    obtain rfl := Option.some.inj h33
    refine ⟨rfl, false, ⟨rfl, rfl⟩, Sub.cons rfl (Sub.cons rfl (Sub.cons rfl (Sub.cons rfl (Sub.nil _))))⟩
  ·skip
   rintro x34 _ ⟨rfl, rfl⟩
   refine cw_cond rfl (fun hc46 => ?_) (fun hc46 => ?_)
   ·replace h := cdT hc46 h
    refine cw_seq (cw_regF ?_)
    refine s_mv rfl rfl ?_
    refine s_as rfl rfl ?_
    refine Reg.nil ?_
    refine cw_ret ?_
    obtain rfl := Option.some.inj h
    refine fin1 Tryz.results50 rfl ?_
    exact ⟨_, rfl, (f_l_0.adv (Hp.baseA (σ := []))), hI.kp⟩
   ·replace h := cdF hc46 h
    refine cw_skip ?_
    obtain ⟨j47, h48, h⟩ := bnd h
    refine cw_sub (L := [(0, _), (1, _), (5, _)]) (Sub.cons rfl (Sub.cons rfl (Sub.cons rfl (Sub.nil _)))) ?_
    refine cw_seqD 3 (ι := (List Int) × Value) (fun ⟨x49, v50⟩ => [(4, v50)]) (fun ⟨x49, v50⟩ => fun w51 => Hp w [] M [ownR [] (intE .i64) 3 v50 x49] w51 ∧ Adv (mm [] M) (mm [ownR [] (intE .i64) 3 v50 x49] M) w w51 ∧ x49 = j47) ?_ ?_
    ·skip
     refine cw_regSea [0, 1, 2, 3, 5, 8, 9, 10] [4, 6, 7, 11, 12] [33] [] [] [(33, .p fun v _ => KLit v)] fol (by kernel_rfl) rfl (by kernel_rfl) rfl rfl ?_
     refine Reg.relX KLit rfl rfl rfl ?_ ?_
     ·intro w54 e54; refine s_bs0 sl26 rfl ?_; intro a54 w54_ x54; exact Reg.nil ⟨rfl, x54, _, rfl, ⟨_, rfl⟩, trivial⟩
     refine s_mv rfl rfl ?_
     refine s_mv rfl rfl ?_
     obtain ⟨l57, hl57, h48⟩ := bnd h48
     obtain ⟨hbl57, el57⟩ := cutHi_out hl57
     refine s_slH rfl rfl f_l_0 hbl57 Tryz.underlying26 Tryz.sizeOf3 rfl ?_
     rw [← el57]; intro v55 hf56 _
     refine s_mv rfl rfl ?_
     refine s_mv rfl rfl ?_
     refine s_mv rfl rfl ?_
     obtain ⟨l60, hl60, h48⟩ := bnd h48
     obtain ⟨hbl60, el60⟩ := cutLo_out hl60
     refine s_slL rfl rfl f_l_0 hbl60 Tryz.underlying26 Tryz.sizeOf3 rfl ?_
     rw [← el60]; intro v58 hf59
     refine Reg.nilX ⟨rfl, rfl, rfl, ?_⟩
     intro w61 e62
     have hI63 := (Hp.start (Mu := []) hI.mlt).ext e62
     refine SeaWalk.step [4, 6] (by kernel_rfl) (AllL.cons ?_ (AllL.cons ?_ (AllL.nil)))
     ·skip
      refine ⟨_, [(33, _)], rfl, RSub.cons rfl rfl (RSub.nil), rfl, nodupB_spec rfl, ?_⟩
      simp only [relOut]
      intro u64 k65 s66
      have hI67 := hI63.addLit (intE .i64) 3 k65
      obtain ⟨l68, hl68, h48⟩ := bnd h48
      obtain ⟨hbl68, el68⟩ := appo_out hl68
      refine y_app 0 sl26 hI67 rfl rfl rfl (hf56.adv ((Adv.of_ext e62).trans (Hp.addLitA (σ := []) (intE .i64) 3 k65))) hbl68 rfl ?_
      rw [← el68]
      intro v69 w70 hI71 x72
      refine Reg.nilS (L0 := [(37, _), (38, _), (43, _)]) (Sub.cons rfl (Sub.cons rfl (Sub.cons rfl (Sub.nil _)))) ⟨rfl, .inr hI71.kp, rfl, ?_⟩
      intro w73 e74
      have hI75 := hI71.ext e74
      refine SeaWalk.step [6] (by kernel_rfl) (AllL.cons ?_ (AllL.nil))
      refine ⟨_, [], rfl, RSub.nil, rfl, nodupB_spec rfl, ?_⟩
      simp only [relOut]
      refine y_bs (E := (intE .i64)) (xs := [n]) sl26 hI75 rfl rfl (Cls.cons rfl Cls.nil) (Chs.cons ⟨rfl, f_n_0⟩ Chs.nil) rfl rfl ?_
      intro v76 w77 hI78 x79
      refine Reg.nil ⟨rfl, .inr hI78.kp, rfl, ?_⟩
      intro w80 e81
      have hI82 := hI78.ext e81
      refine SeaWalk.step [7] (by kernel_rfl) (AllL.cons ?_ (AllL.nil))
      refine ⟨_, [], rfl, RSub.nil, rfl, nodupB_spec rfl, ?_⟩
      simp only [relOut]
      have hf83 := hI82.freeze 0 rfl
      have hI84 := hI82.erase 0
      obtain ⟨l85, hl85, h48⟩ := bnd h48
      obtain ⟨hbl85, el85⟩ := appo_out hl85
      refine y_app 0 sl26 hI84 rfl rfl rfl hf83 hbl85 rfl ?_
      rw [← el85]
      intro v86 w87 hI88 x89
      refine Reg.nil ⟨rfl, .inr hI88.kp, rfl, ?_⟩
      intro w90 e91
      have hI92 := hI88.ext e91
      refine SeaWalk.step [11] (by kernel_rfl) (AllL.cons ?_ (AllL.nil))
      refine ⟨_, [], rfl, RSub.nil, rfl, nodupB_spec rfl, ?_⟩
      simp only [relOut]
      obtain ⟨l93, hl93, h48⟩ := bnd h48
      obtain ⟨hbl93, el93⟩ := appo_out hl93
      refine y_app 0 sl26 hI92 rfl rfl rfl (hf59.adv ((Adv.of_ext e62).trans ((Hp.addLitA (σ := []) (intE .i64) 3 k65).trans (x72.trans ((Adv.of_ext e74).trans (x79.trans ((Adv.of_ext e81).trans ((Hp.eraseA (σ := [ownR [] (intE .i64) 3 v76 ([n] : List Int), ownR [] (intE .i64) 3 v69 l68]) 0).trans (x89.trans (Adv.of_ext e91)))))))))) hbl93 rfl ?_
      rw [← el93]
      intro v94 w95 hI96 x97
      refine Reg.nil ⟨rfl, .inr hI96.kp, rfl, ?_⟩
      intro w98 e99
      have hI100 := hI96.ext e99
      refine SeaWalk.step [12] (by kernel_rfl) (AllL.cons ?_ (AllL.nil))
      refine ⟨_, [], rfl, RSub.nil, rfl, nodupB_spec rfl, ?_⟩
      simp only [relOut]
      refine s_as rfl rfl ?_
      refine Reg.nil ⟨rfl, .inr hI100.kp, rfl, ?_⟩
      intro w101 e102
      have hI103 := hI100.ext e102
      refine SeaWalk.done ?_
      have hI104 := hI.join hI103
      obtain rfl := Option.some.inj h48
      refine ⟨rfl, (l93, v94), ⟨hI104, hI104.adv, rfl⟩, Sub.cons rfl (Sub.nil _)⟩
     ·skip
      refine ⟨_, [], rfl, RSub.nil, rfl, nodupB_spec rfl, ?_⟩
      simp only [relOut]
      refine y_bs (E := (intE .i64)) (xs := [n]) sl26 hI63 rfl rfl (Cls.cons rfl Cls.nil) (Chs.cons ⟨rfl, f_n_0⟩ Chs.nil) rfl rfl ?_
      intro v105 w106 hI107 x108
      refine Reg.nil ⟨rfl, .inr hI107.kp, rfl, ?_⟩
      intro w109 e110
      have hI111 := hI107.ext e110
      refine SeaWalk.step [4] (by kernel_rfl) (AllL.cons ?_ (AllL.nil))
      refine ⟨_, [(33, _)], rfl, RSub.cons rfl rfl (RSub.nil), rfl, nodupB_spec rfl, ?_⟩
      simp only [relOut]
      intro u112 k113 s114
      have hI115 := hI111.addLit (intE .i64) 3 k113
      obtain ⟨l116, hl116, h48⟩ := bnd h48
      obtain ⟨hbl116, el116⟩ := appo_out hl116
      refine y_app 0 sl26 hI115 rfl rfl rfl (hf56.adv ((Adv.of_ext e62).trans (x108.trans ((Adv.of_ext e110).trans (Hp.addLitA (σ := [ownR [] (intE .i64) 3 v105 ([n] : List Int)]) (intE .i64) 3 k113))))) hbl116 rfl ?_
      rw [← el116]
      intro v117 w118 hI119 x120
      refine Reg.nilS (L0 := [(37, _), (39, _), (43, _)]) (Sub.cons rfl (Sub.cons rfl (Sub.cons rfl (Sub.nil _)))) ⟨rfl, .inr hI119.kp, rfl, ?_⟩
      intro w121 e122
      have hI123 := hI119.ext e122
      refine SeaWalk.step [7] (by kernel_rfl) (AllL.cons ?_ (AllL.nil))
      refine ⟨_, [], rfl, RSub.nil, rfl, nodupB_spec rfl, ?_⟩
      simp only [relOut]
      have hf124 := hI123.freeze 1 rfl
      have hI125 := hI123.erase 1
      obtain ⟨l126, hl126, h48⟩ := bnd h48
      obtain ⟨hbl126, el126⟩ := appo_out hl126
      refine y_app 0 sl26 hI125 rfl rfl rfl hf124 hbl126 rfl ?_
      rw [← el126]
      intro v127 w128 hI129 x130
      refine Reg.nil ⟨rfl, .inr hI129.kp, rfl, ?_⟩
      intro w131 e132
      have hI133 := hI129.ext e132
      refine SeaWalk.step [11] (by kernel_rfl) (AllL.cons ?_ (AllL.nil))
      refine ⟨_, [], rfl, RSub.nil, rfl, nodupB_spec rfl, ?_⟩
      simp only [relOut]
      obtain ⟨l134, hl134, h48⟩ := bnd h48
      obtain ⟨hbl134, el134⟩ := appo_out hl134
      refine y_app 0 sl26 hI133 rfl rfl rfl (hf59.adv ((Adv.of_ext e62).trans (x108.trans ((Adv.of_ext e110).trans ((Hp.addLitA (σ := [ownR [] (intE .i64) 3 v105 ([n] : List Int)]) (intE .i64) 3 k113).trans (x120.trans ((Adv.of_ext e122).trans ((Hp.eraseA (σ := [ownR [] (intE .i64) 3 v117 l116, ownR [] (intE .i64) 3 v105 ([n] : List Int)]) 1).trans (x130.trans (Adv.of_ext e132)))))))))) hbl134 rfl ?_
      rw [← el134]
      intro v135 w136 hI137 x138
      refine Reg.nil ⟨rfl, .inr hI137.kp, rfl, ?_⟩
      intro w139 e140
      have hI141 := hI137.ext e140
      refine SeaWalk.step [12] (by kernel_rfl) (AllL.cons ?_ (AllL.nil))
      refine ⟨_, [], rfl, RSub.nil, rfl, nodupB_spec rfl, ?_⟩
      simp only [relOut]
      refine s_as rfl rfl ?_
      refine Reg.nil ⟨rfl, .inr hI141.kp, rfl, ?_⟩
      intro w142 e143
      have hI144 := hI141.ext e143
      refine SeaWalk.done ?_
      have hI145 := hI.join hI144
      obtain rfl := Option.some.inj h48
      refine ⟨rfl, (l134, v135), ⟨hI145, hI145.adv, rfl⟩, Sub.cons rfl (Sub.nil _)⟩
    ·skip
     rintro ⟨x49, v50⟩ w51 ⟨hI52, hA53, rfl⟩
     refine cw_ret ?_
     obtain rfl := Option.some.inj h
     have hf146 := hI52.freeze 0 rfl
     have hI147 := hI52.erase 0
     refine fin1 Tryz.results50 rfl ?_
     exact ⟨_, rfl, (hf146.adv (Hp.baseA (σ := []))), hI147.kp⟩
noncomputable def P.ref06_steps (m : Model) (trait : Int) (s : Span) : Option (List Int) :=
 Option.bind (loopM (S := (List Int) × Int) (R := ((List Int))) (fun (x17, x18) => cond (decide (x18 < (m.cards.length : Int))) (Option.bind (loopM (S := (List Int) × Int) (R := ((List Int))) (fun (x20, x21) => Option.bind (ixo m.cards x18) fun y22 => Option.bind (ixo y22.scales trait) fun y32 => cond (decide (x21 < (y32.cuts.length : Int))) (Option.bind (Option.bind (ixo m.cards x18) fun y44 => Option.bind (ixo y44.scales trait) fun y54 => Option.bind (ixo y54.cuts x21) fun y65 => Option.bind (cond (decide (s.lo < y65)) (some (decide (y65 ≤ s.hi))) (some false)) fun x73 => Option.bind (cond x73 (Option.bind (P.ref06_put x20 y65) fun z75 => some z75) (some x20)) fun x82 => some x82) fun x83 => Option.bind (chk .i64 (x21 + 1)) fun n84 => some (.inl (x83, n84))) (some (.inr x20))) (x17, 0)) fun x85 => Option.bind (chk .i64 (x18 + 1)) fun n86 => some (.inl (x85, n86))) (some (.inr x17))) (([s.lo] : List Int), 0)) fun x87 => Option.bind (loopM (S := (List Int) × Int) (R := ((List Int))) (fun (x88, x89) => cond (decide (x89 < (m.trees.length : Int))) (Option.bind (loopM (S := (List Int) × Int) (R := ((List Int))) (fun (x91, x92) => Option.bind (ixo m.trees x89) fun y93 => cond (decide (x92 < (y93.nodes.length : Int))) (Option.bind (Option.bind (ixo m.trees x89) fun y103 => Option.bind (ixo y103.nodes x92) fun y112 => Option.bind (cond (decide (y112.trait = trait)) (cond (decide (s.lo < y112.cut)) (some (decide (y112.cut ≤ s.hi))) (some false)) (some false)) fun x134 => Option.bind (cond x134 (Option.bind (P.ref06_put x91 y112.cut) fun z136 => some z136) (some x91)) fun x143 => some x143) fun x144 => Option.bind (chk .i64 (x92 + 1)) fun n145 => some (.inl (x144, n145))) (some (.inr x91))) (x88, 0)) fun x146 => Option.bind (chk .i64 (x89 + 1)) fun n147 => some (.inl (x146, n147))) (some (.inr x88))) (x87, 0)) fun x148 => some x148
theorem C_ref06_steps {M : List Nat} {w : World} (hM : MLt M w) {m : Model} {v_m_1 : Value} {v_m_2 : Value} (f_m_0 : InK .i64 m.traits) (f_m_1 : RdS CardE M w v_m_1 m.cards) (f_m_2 : RdS TreeE M w v_m_2 m.trees) (f_m_3 : InK .i64 m.need) {trait : Int} (f_trait_0 : InK .i64 trait) {s : Span} (f_s_0 : InK .i64 s.lo) (f_s_1 : InK .i64 s.hi) {r0 : (List Int)} (h : P.ref06_steps m trait s = some r0) :
  Calls Tryz.prog 32 (List.toArray [Value.agg (List.toArray [Value.int .i64 m.traits, v_m_1, v_m_2, Value.int .i64 m.need]), Value.int .i64 trait, Value.agg (List.toArray [Value.int .i64 s.lo, Value.int .i64 s.hi])]) w fun e w' => ∃ v0_0 : Value, e = .returned (v0_0) ∧ RdS (intE .i64) M w' v0_0 r0 ∧ Ext w w' := by
 have hI := Hp.start (Mu := []) hM
 refine calls_cw Tryz.func32 rfl Tryz.ntmps32 rfl ?_
 refine cw_seq (cw_regF ?_)
 refine y_box hI rfl rfl rfl ?_
 intro b1 w2 hI3 x4
 have hC6 := hI3.freezeRow 0 rfl
 have hI5 := hI3.erase 0
 refine y_box hI5 rfl rfl rfl ?_
 intro b7 w8 hI9 x10
 have hC12 := hI9.freezeRow 0 rfl
 have hI11 := hI9.erase 0
 refine s_as rfl rfl ?_
 refine Reg.nil ?_
 refine cw_seq (cw_regF ?_)
 refine s_fa rfl Tryz.underlying57 rfl Tryz.sizeOf3 rfl ?_
 refine s_ld rfl (hC12.cells.at 0 rfl) Tryz.isAgg3 rfl ?_
 refine y_bs (E := (intE .i64)) (xs := [s.lo]) sl26 hI11 rfl rfl (Cls.cons rfl Cls.nil) (Chs.cons ⟨rfl, f_s_0⟩ Chs.nil) rfl rfl ?_
 intro v13 w14 hI15 x16
 refine s_as rfl rfl ?_
 refine Reg.nil ?_
 refine cw_seq (cw_seq (cw_regF ?_))
 refine s_as rfl rfl ?_
 refine Reg.nil ?_
 obtain ⟨j17, h18, h⟩ := bnd h
 refine cw_sub (L := [(7, _), (8, _), (1, _), (3, _), (5, _)]) (Sub.cons rfl (Sub.cons rfl (Sub.cons rfl (Sub.cons rfl (Sub.cons rfl (Sub.nil _)))))) ?_
 refine cw_unitD 2 (ι := (List Int) × Value) (fun ⟨x19, v20⟩ => [(7, v20)]) (fun ⟨x19, v20⟩ => fun w22 => Hp w [] M [] w22 ∧ Adv (mm [ownR [] (intE .i64) 3 v13 ([s.lo] : List Int)] M) (mm [] M) w14 w22 ∧ RdS (intE .i64) (mm [] M) w22 v20 x19 ∧ x19 = j17) ?_ ?_
 ·skip
  refine cw_block ?_
  refine cw_sub (L := [(7, _), (8, _), (1, _), (3, _), (5, _)]) (Sub.cons rfl (Sub.cons rfl (Sub.cons rfl (Sub.cons rfl (Sub.cons rfl (Sub.nil _)))))) ?_
  have hf33 := hI15.freeze 0 rfl
  have hI34 := hI15.erase 0
  refine cw_loopM 2 (ι := (List Int) × Int × Value) _ (fun ⟨x25, x28, v26⟩ => [(7, v26), (8, Value.int .i64 x28)]) (fun ⟨x25, x28, v26⟩ => (x25, x28)) (fun ⟨x25, x28, v26⟩ => fun w30 => Hp w [] M [] w30 ∧ Adv (mm [ownR [] (intE .i64) 3 v13 ([s.lo] : List Int)] M) (mm [] M) w14 w30 ∧ RdS (intE .i64) (mm [] M) w30 v26 x25 ∧ InK .i64 x28) (([s.lo] : List Int), 0, v13) h18 ⟨hI34, (Hp.eraseA (σ := [ownR [] (intE .i64) 3 v13 ([s.lo] : List Int)]) 0), hf33, (by decide)⟩ (Sub.cons rfl (Sub.cons rfl (Sub.cons rfl (Sub.cons rfl (Sub.cons rfl (Sub.nil _)))))) ?_
  rintro ⟨x25, x28, v26⟩ w30 ⟨hI31, hA32, hf27, r29⟩ y35 h36 hR37
  refine cw_seq (cw_seq (cw_regF ?_))
  refine s_mv rfl rfl ?_
  refine s_fa rfl Tryz.underlying25 rfl Tryz.sizeOf22 rfl ?_
  refine s_ld rfl ((hC6.adv (x10.trans ((Hp.eraseA (σ := [rowR 57 b7 [Value.int .i64 s.lo, Value.int .i64 s.hi]]) 0).trans (x16.trans hA32)))).cells.at 1 rfl) Tryz.isAgg22 rfl ?_
  refine s_len rfl (f_m_1.adv hI31.adv) Tryz.underlying22 rfl ?_
  refine s_lss rfl rfl rfl ?_
  refine Reg.nil ?_
  refine cw_cond rfl (fun hc38 => ?_) (fun hc38 => ?_)
  ·replace h36 := cdT hc38 h36
   refine cw_skip ?_
   refine cw_seq ?_
   refine cw_block ?_
   refine cw_seq (cw_regF ?_)
   refine s_as rfl rfl ?_
   refine Reg.nil ?_
   obtain ⟨j39, h40, h36⟩ := bnd h36
   refine cw_sub (L := [(7, _), (9, _), (1, _), (3, _), (5, _), (8, _)]) (Sub.cons rfl (Sub.cons rfl (Sub.cons rfl (Sub.cons rfl (Sub.cons rfl (Sub.cons rfl (Sub.nil _))))))) ?_
   refine cw_unitD 2 (ι := (List Int) × Value) (fun ⟨x41, v42⟩ => [(7, v42)]) (fun ⟨x41, v42⟩ => fun w44 => Hp w [] M [] w44 ∧ Adv (mm [] M) (mm [] M) w30 w44 ∧ RdS (intE .i64) (mm [] M) w44 v42 x41 ∧ x41 = j39) ?_ ?_
   ·skip
    refine cw_block ?_
    refine cw_sub (L := [(7, _), (9, _), (1, _), (3, _), (5, _), (8, _)]) (Sub.cons rfl (Sub.cons rfl (Sub.cons rfl (Sub.cons rfl (Sub.cons rfl (Sub.cons rfl (Sub.nil _))))))) ?_
    refine cw_loopM 2 (ι := (List Int) × Int × Value) _ (fun ⟨x47, x50, v48⟩ => [(7, v48), (9, Value.int .i64 x50)]) (fun ⟨x47, x50, v48⟩ => (x47, x50)) (fun ⟨x47, x50, v48⟩ => fun w52 => Hp w [] M [] w52 ∧ Adv (mm [] M) (mm [] M) w30 w52 ∧ RdS (intE .i64) (mm [] M) w52 v48 x47 ∧ InK .i64 x50) (x25, 0, v26) h40 ⟨hI31, (Adv.refl _ _), hf27, (by decide)⟩ (Sub.cons rfl (Sub.cons rfl (Sub.cons rfl (Sub.cons rfl (Sub.cons rfl (Sub.cons rfl (Sub.nil _))))))) ?_
    rintro ⟨x47, x50, v48⟩ w52 ⟨hI53, hA54, hf49, r51⟩ y55 h56 hR57
    refine cw_seq (cw_seq (cw_regF ?_))
    refine s_mv rfl rfl ?_
    refine s_fa rfl Tryz.underlying25 rfl Tryz.sizeOf22 rfl ?_
    refine s_ld rfl ((hC6.adv (x10.trans ((Hp.eraseA (σ := [rowR 57 b7 [Value.int .i64 s.lo, Value.int .i64 s.hi]]) 0).trans (x16.trans (hA32.trans hA54))))).cells.at 1 rfl) Tryz.isAgg22 rfl ?_
    refine s_mv rfl rfl ?_
    obtain ⟨y58, hy58, h56⟩ := bnd h56
    refine p_ia rfl rfl (f_m_1.adv hI53.adv) hy58 Tryz.underlying22 Tryz.sizeOf39 rfl ?_
    intro b59 o60 cs61 hR62 hC63
    obtain ⟨v66, rfl, r64, r65, hf67⟩ := CardE_R.1 hR62
    refine s_fa rfl Tryz.underlying39 rfl Tryz.sizeOf37 rfl ?_
    refine s_ld rfl (hC63.cells.at 2 rfl) Tryz.isAgg37 rfl ?_
    refine s_mv rfl rfl ?_
    obtain ⟨y68, hy68, h56⟩ := bnd h56
    refine p_ia rfl rfl hf67 hy68 Tryz.underlying37 Tryz.sizeOf41 rfl ?_
    intro b69 o70 cs71 hR72 hC73
    obtain ⟨v74, v76, rfl, hf75, hf77, r78⟩ := ScaleE_R.1 hR72
    refine s_fa rfl Tryz.underlying41 rfl Tryz.sizeOf26 rfl ?_
    refine s_ld rfl (hC73.cells.at 0 rfl) Tryz.isAgg26 rfl ?_
    refine s_len rfl hf75 Tryz.underlying26 rfl ?_
    refine s_lss rfl rfl rfl ?_
    refine Reg.nil ?_
    refine cw_cond rfl (fun hc79 => ?_) (fun hc79 => ?_)
    ·replace h56 := cdT hc79 h56
     refine cw_skip ?_
     obtain ⟨j80, h81, h56⟩ := bnd h56
     refine cw_sub (L := [(7, _), (1, _), (3, _), (5, _), (8, _), (9, _)]) (Sub.cons rfl (Sub.cons rfl (Sub.cons rfl (Sub.cons rfl (Sub.cons rfl (Sub.cons rfl (Sub.nil _))))))) ?_
     refine cw_seqD 1 (ι := (List Int) × Value) (fun ⟨x82, v83⟩ => [(7, v83)]) (fun ⟨x82, v83⟩ => fun w85 => Hp w [] M [] w85 ∧ Adv (mm [] M) (mm [] M) w52 w85 ∧ RdS (intE .i64) (mm [] M) w85 v83 x82 ∧ x82 = j80) ?_ ?_
     ·skip
      refine cw_block ?_
      refine cw_seq (cw_regF ?_)
      refine s_fa rfl Tryz.underlying25 rfl Tryz.sizeOf22 rfl ?_
      refine s_ld rfl ((hC6.adv (x10.trans ((Hp.eraseA (σ := [rowR 57 b7 [Value.int .i64 s.lo, Value.int .i64 s.hi]]) 0).trans (x16.trans (hA32.trans hA54))))).cells.at 1 rfl) Tryz.isAgg22 rfl ?_
      refine s_mv rfl rfl ?_
      obtain ⟨y88, hy88, h81⟩ := bnd h81
      refine p_ia rfl rfl (f_m_1.adv hI53.adv) hy88 Tryz.underlying22 Tryz.sizeOf39 rfl ?_
      intro b89 o90 cs91 hR92 hC93
      obtain ⟨v96, rfl, r94, r95, hf97⟩ := CardE_R.1 hR92
      refine s_fa rfl Tryz.underlying39 rfl Tryz.sizeOf37 rfl ?_
      refine s_ld rfl (hC93.cells.at 2 rfl) Tryz.isAgg37 rfl ?_
      refine s_mv rfl rfl ?_
      obtain ⟨y98, hy98, h81⟩ := bnd h81
      refine p_ia rfl rfl hf97 hy98 Tryz.underlying37 Tryz.sizeOf41 rfl ?_
      intro b99 o100 cs101 hR102 hC103
      obtain ⟨v104, v106, rfl, hf105, hf107, r108⟩ := ScaleE_R.1 hR102
      refine s_fa rfl Tryz.underlying41 rfl Tryz.sizeOf26 rfl ?_
      refine s_ld rfl (hC103.cells.at 0 rfl) Tryz.isAgg26 rfl ?_
      refine s_mv rfl rfl ?_
      obtain ⟨y109, hy109, h81⟩ := bnd h81
      refine p_ia rfl rfl hf105 hy109 Tryz.underlying26 Tryz.sizeOf3 rfl ?_
      intro b110 o111 cs112 hR113 hC114
      obtain ⟨rfl, r115⟩ := hR113
      refine s_ld rfl (hC114.cells.at 0 rfl) Tryz.isAgg3 rfl ?_
      refine s_as rfl rfl ?_
      refine Reg.nil ?_
      obtain ⟨j116, h117, h81⟩ := bnd h81
      refine cw_sub (L := [(1, _), (3, _), (5, _), (7, _), (8, _), (9, _), (10, _)]) (Sub.cons rfl (Sub.cons rfl (Sub.cons rfl (Sub.cons rfl (Sub.cons rfl (Sub.cons rfl (Sub.cons rfl (Sub.nil _)))))))) ?_
      refine cw_seqD 0 (ι := Bool) (fun x118 => [(61, Value.bool x118)]) (fun x118 => fun w119 => w52 = w119 ∧ x118 = j116) ?_ ?_
      ·skip
       refine cw_regF ?_
       refine s_mv rfl rfl ?_
       refine s_fa rfl Tryz.underlying57 rfl Tryz.sizeOf3 rfl ?_
       refine s_ld rfl ((hC12.adv (x16.trans (hA32.trans hA54))).cells.at 0 rfl) Tryz.isAgg3 rfl ?_
       refine s_gtr rfl rfl rfl ?_
       refine s_mv rfl rfl ?_
       refine Reg.gsplit (t := 56) rfl (fun hg122 => ?_) (fun hg122 => ?_)
       ·replace h117 := cdT hg122 h117
        refine Reg.take rfl rfl ?_
        refine s_mv rfl rfl ?_
        refine Reg.take rfl rfl ?_
        refine s_fa rfl Tryz.underlying57 rfl Tryz.sizeOf3 rfl ?_
        refine Reg.take rfl rfl ?_
        refine s_ld rfl ((hC12.adv (x16.trans (hA32.trans hA54))).cells.at 1 rfl) Tryz.isAgg3 rfl ?_
        refine Reg.take rfl rfl ?_
        refine s_leq rfl rfl rfl ?_
        refine s_pkT rfl rfl rfl ?_
        refine Reg.nil ?_
        obtain rfl := Option.some.inj h117
        refine ⟨rfl, decide (y109 ≤ s.hi), ⟨rfl, rfl⟩, Sub.cons rfl (Sub.cons rfl (Sub.cons rfl (Sub.cons rfl (Sub.cons rfl (Sub.cons rfl (Sub.cons rfl (Sub.cons rfl (Sub.nil _))))))))⟩
       ·replace h117 := cdF hg122 h117
        refine Reg.pass rfl rfl rfl rfl ?_
        refine Reg.pass rfl rfl rfl rfl ?_
        refine Reg.pass rfl rfl rfl rfl ?_
        refine Reg.pass rfl rfl rfl rfl ?_
        refine s_pkF rfl rfl rfl ?_
        refine Reg.nil ?_
        obtain rfl := Option.some.inj h117
        refine ⟨rfl, false, ⟨rfl, rfl⟩, Sub.cons rfl (Sub.cons rfl (Sub.cons rfl (Sub.cons rfl (Sub.cons rfl (Sub.cons rfl (Sub.cons rfl (Sub.cons rfl (Sub.nil _))))))))⟩
      ·skip
       rintro x118 _ ⟨rfl, rfl⟩
       obtain ⟨j123, h124, h81⟩ := bnd h81
       refine cw_sub (L := [(7, _), (10, _), (61, _), (1, _), (3, _), (5, _), (8, _), (9, _)]) (Sub.cons rfl (Sub.cons rfl (Sub.cons rfl (Sub.cons rfl (Sub.cons rfl (Sub.cons rfl (Sub.cons rfl (Sub.cons rfl (Sub.nil _))))))))) ?_
       refine cw_unitD 3 (ι := (List Int) × Value) (fun ⟨x125, v126⟩ => [(7, v126)]) (fun ⟨x125, v126⟩ => fun w128 => Hp w [] M [] w128 ∧ Adv (mm [] M) (mm [] M) w52 w128 ∧ RdS (intE .i64) (mm [] M) w128 v126 x125 ∧ x125 = j123) ?_ ?_
       ·skip
        refine cw_cond rfl (fun hc131 => ?_) (fun hc131 => ?_)
        ·replace h124 := cdT hc131 h124
         refine cw_regF ?_
         refine s_mv rfl rfl ?_
         refine s_mv rfl rfl ?_
         obtain ⟨z132, hz133, h124⟩ := bnd h124
         refine s_call rfl Tryz.call50 rfl ?_
         refine (C_ref06_put hI53.mlt hf49 r115 hz133).mono ?_
         rintro _ w134 ⟨v136, rfl, hf137, e135⟩
         refine ⟨_, rfl, ?_⟩
         have hI138 := hI53.ext e135
         refine s_as rfl rfl ?_
         refine Reg.nil ?_
         obtain rfl := Option.some.inj h124
         refine ⟨rfl, (z132, v136), ⟨hI138, (Adv.of_ext e135), hf137, rfl⟩, Sub.cons rfl (Sub.cons rfl (Sub.cons rfl (Sub.cons rfl (Sub.cons rfl (Sub.cons rfl (Sub.nil _))))))⟩
        ·replace h124 := cdF hc131 h124
         refine cw_skip ?_
         obtain rfl := Option.some.inj h124
         refine ⟨rfl, (x47, v48), ⟨hI53, (Adv.refl _ _), hf49, rfl⟩, Sub.cons rfl (Sub.cons rfl (Sub.cons rfl (Sub.cons rfl (Sub.cons rfl (Sub.cons rfl (Sub.nil _))))))⟩
       ·skip
        rintro ⟨x125, v126⟩ w128 ⟨hI129, hA130, hf127, rfl⟩
        obtain rfl := Option.some.inj h81
        refine ⟨rfl, (x125, v126), ⟨hI129, hA130, hf127, rfl⟩, Sub.cons rfl (Sub.cons rfl (Sub.cons rfl (Sub.cons rfl (Sub.cons rfl (Sub.cons rfl (Sub.nil _))))))⟩
     ·skip
      rintro ⟨x82, v83⟩ w85 ⟨hI86, hA87, hf84, rfl⟩
      refine cw_regF ?_
      refine s_mv rfl rfl ?_
      obtain ⟨n139, hn139, h56⟩ := bnd h56
      replace hn139 := chk_out hn139
      refine p_add rfl rfl rfl hn139 ?_
      refine s_as rfl rfl ?_
      refine Reg.nil ?_
      obtain rfl := Option.some.inj h56
      refine ⟨rfl, (x82, n139, v83), ⟨⟨hI86, (hA54.trans hA87), hf84, hn139.2⟩, rfl⟩, Sub.cons rfl (Sub.cons rfl (Sub.cons rfl (Sub.cons rfl (Sub.cons rfl (Sub.cons rfl (Sub.nil _))))))⟩
    ·replace h56 := cdF hc79 h56
     refine cw_exit ?_
     refine exB_same ?_
     obtain rfl := Option.some.inj h56
     obtain rfl := hR57 _ rfl
     refine ⟨rfl, (x47, v48), ⟨hI53, hA54, hf49, rfl⟩, Sub.cons rfl (Sub.cons rfl (Sub.cons rfl (Sub.cons rfl (Sub.cons rfl (Sub.nil _)))))⟩
   ·skip
    rintro ⟨x41, v42⟩ w44 ⟨hI45, hA46, hf43, rfl⟩
    refine cw_regF ?_
    refine s_mv rfl rfl ?_
    obtain ⟨n140, hn140, h36⟩ := bnd h36
    replace hn140 := chk_out hn140
    refine p_add rfl rfl rfl hn140 ?_
    refine s_as rfl rfl ?_
    refine Reg.nil ?_
    obtain rfl := Option.some.inj h36
    refine ⟨rfl, (x41, n140, v42), ⟨⟨hI45, (hA32.trans hA46), hf43, hn140.2⟩, rfl⟩, Sub.cons rfl (Sub.cons rfl (Sub.cons rfl (Sub.cons rfl (Sub.cons rfl (Sub.nil _)))))⟩
  ·replace h36 := cdF hc38 h36
   refine cw_exit ?_
   refine exB_same ?_
   obtain rfl := Option.some.inj h36
   obtain rfl := hR37 _ rfl
   refine ⟨rfl, (x25, v26), ⟨hI31, hA32, hf27, rfl⟩, Sub.cons rfl (Sub.cons rfl (Sub.cons rfl (Sub.cons rfl (Sub.nil _))))⟩
 ·skip
  rintro ⟨x19, v20⟩ w22 ⟨hI23, hA24, hf21, rfl⟩
  refine cw_seq (cw_seq (cw_regF ?_))
  refine s_as rfl rfl ?_
  refine Reg.nil ?_
  obtain ⟨j141, h142, h⟩ := bnd h
  refine cw_sub (L := [(1, _), (3, _), (5, _), (7, _), (11, _)]) (Sub.cons rfl (Sub.cons rfl (Sub.cons rfl (Sub.cons rfl (Sub.cons rfl (Sub.nil _)))))) ?_
  refine cw_unitD 5 (ι := (List Int) × Value) (fun ⟨x143, v144⟩ => [(7, v144)]) (fun ⟨x143, v144⟩ => fun w146 => Hp w [] M [] w146 ∧ Adv (mm [] M) (mm [] M) w22 w146 ∧ RdS (intE .i64) (mm [] M) w146 v144 x143 ∧ x143 = j141) ?_ ?_
  ·skip
   refine cw_block ?_
   refine cw_sub (L := [(7, _), (11, _), (1, _), (3, _), (5, _)]) (Sub.cons rfl (Sub.cons rfl (Sub.cons rfl (Sub.cons rfl (Sub.cons rfl (Sub.nil _)))))) ?_
   refine cw_loopM 2 (ι := (List Int) × Int × Value) _ (fun ⟨x149, x152, v150⟩ => [(7, v150), (11, Value.int .i64 x152)]) (fun ⟨x149, x152, v150⟩ => (x149, x152)) (fun ⟨x149, x152, v150⟩ => fun w154 => Hp w [] M [] w154 ∧ Adv (mm [] M) (mm [] M) w22 w154 ∧ RdS (intE .i64) (mm [] M) w154 v150 x149 ∧ InK .i64 x152) (x19, 0, v20) h142 ⟨hI23, (Adv.refl _ _), hf21, (by decide)⟩ (Sub.cons rfl (Sub.cons rfl (Sub.cons rfl (Sub.cons rfl (Sub.cons rfl (Sub.nil _)))))) ?_
   rintro ⟨x149, x152, v150⟩ w154 ⟨hI155, hA156, hf151, r153⟩ y157 h158 hR159
   refine cw_seq (cw_seq (cw_regF ?_))
   refine s_mv rfl rfl ?_
   refine s_fa rfl Tryz.underlying25 rfl Tryz.sizeOf23 rfl ?_
   refine s_ld rfl ((hC6.adv (x10.trans ((Hp.eraseA (σ := [rowR 57 b7 [Value.int .i64 s.lo, Value.int .i64 s.hi]]) 0).trans (x16.trans (hA24.trans hA156))))).cells.at 2 rfl) Tryz.isAgg23 rfl ?_
   refine s_len rfl (f_m_2.adv hI155.adv) Tryz.underlying23 rfl ?_
   refine s_lss rfl rfl rfl ?_
   refine Reg.nil ?_
   refine cw_cond rfl (fun hc160 => ?_) (fun hc160 => ?_)
   ·replace h158 := cdT hc160 h158
    refine cw_skip ?_
    refine cw_seq ?_
    refine cw_block ?_
    refine cw_seq (cw_regF ?_)
    refine s_as rfl rfl ?_
    refine Reg.nil ?_
    obtain ⟨j161, h162, h158⟩ := bnd h158
    refine cw_sub (L := [(7, _), (12, _), (1, _), (3, _), (5, _), (11, _)]) (Sub.cons rfl (Sub.cons rfl (Sub.cons rfl (Sub.cons rfl (Sub.cons rfl (Sub.cons rfl (Sub.nil _))))))) ?_
    refine cw_unitD 2 (ι := (List Int) × Value) (fun ⟨x163, v164⟩ => [(7, v164)]) (fun ⟨x163, v164⟩ => fun w166 => Hp w [] M [] w166 ∧ Adv (mm [] M) (mm [] M) w154 w166 ∧ RdS (intE .i64) (mm [] M) w166 v164 x163 ∧ x163 = j161) ?_ ?_
    ·skip
     refine cw_block ?_
     refine cw_sub (L := [(7, _), (12, _), (1, _), (3, _), (5, _), (11, _)]) (Sub.cons rfl (Sub.cons rfl (Sub.cons rfl (Sub.cons rfl (Sub.cons rfl (Sub.cons rfl (Sub.nil _))))))) ?_
     refine cw_loopM 2 (ι := (List Int) × Int × Value) _ (fun ⟨x169, x172, v170⟩ => [(7, v170), (12, Value.int .i64 x172)]) (fun ⟨x169, x172, v170⟩ => (x169, x172)) (fun ⟨x169, x172, v170⟩ => fun w174 => Hp w [] M [] w174 ∧ Adv (mm [] M) (mm [] M) w154 w174 ∧ RdS (intE .i64) (mm [] M) w174 v170 x169 ∧ InK .i64 x172) (x149, 0, v150) h162 ⟨hI155, (Adv.refl _ _), hf151, (by decide)⟩ (Sub.cons rfl (Sub.cons rfl (Sub.cons rfl (Sub.cons rfl (Sub.cons rfl (Sub.cons rfl (Sub.nil _))))))) ?_
     rintro ⟨x169, x172, v170⟩ w174 ⟨hI175, hA176, hf171, r173⟩ y177 h178 hR179
     refine cw_seq (cw_seq (cw_regF ?_))
     refine s_mv rfl rfl ?_
     refine s_fa rfl Tryz.underlying25 rfl Tryz.sizeOf23 rfl ?_
     refine s_ld rfl ((hC6.adv (x10.trans ((Hp.eraseA (σ := [rowR 57 b7 [Value.int .i64 s.lo, Value.int .i64 s.hi]]) 0).trans (x16.trans (hA24.trans (hA156.trans hA176)))))).cells.at 2 rfl) Tryz.isAgg23 rfl ?_
     refine s_mv rfl rfl ?_
     obtain ⟨y180, hy180, h178⟩ := bnd h178
     refine p_ia rfl rfl (f_m_2.adv hI175.adv) hy180 Tryz.underlying23 Tryz.sizeOf44 rfl ?_
     intro b181 o182 cs183 hR184 hC185
     obtain ⟨v187, rfl, r186, hf188⟩ := TreeE_R.1 hR184
     refine s_fa rfl Tryz.underlying44 rfl Tryz.sizeOf42 rfl ?_
     refine s_ld rfl (hC185.cells.at 1 rfl) Tryz.isAgg42 rfl ?_
     refine s_len rfl hf188 Tryz.underlying42 rfl ?_
     refine s_lss rfl rfl rfl ?_
     refine Reg.nil ?_
     refine cw_cond rfl (fun hc189 => ?_) (fun hc189 => ?_)
     ·replace h178 := cdT hc189 h178
      refine cw_skip ?_
      obtain ⟨j190, h191, h178⟩ := bnd h178
      refine cw_sub (L := [(7, _), (1, _), (3, _), (5, _), (11, _), (12, _)]) (Sub.cons rfl (Sub.cons rfl (Sub.cons rfl (Sub.cons rfl (Sub.cons rfl (Sub.cons rfl (Sub.nil _))))))) ?_
      refine cw_seqD 1 (ι := (List Int) × Value) (fun ⟨x192, v193⟩ => [(7, v193)]) (fun ⟨x192, v193⟩ => fun w195 => Hp w [] M [] w195 ∧ Adv (mm [] M) (mm [] M) w174 w195 ∧ RdS (intE .i64) (mm [] M) w195 v193 x192 ∧ x192 = j190) ?_ ?_
      ·skip
       refine cw_block ?_
       refine cw_seq (cw_regF ?_)
       refine s_fa rfl Tryz.underlying25 rfl Tryz.sizeOf23 rfl ?_
       refine s_ld rfl ((hC6.adv (x10.trans ((Hp.eraseA (σ := [rowR 57 b7 [Value.int .i64 s.lo, Value.int .i64 s.hi]]) 0).trans (x16.trans (hA24.trans (hA156.trans hA176)))))).cells.at 2 rfl) Tryz.isAgg23 rfl ?_
       refine s_mv rfl rfl ?_
       obtain ⟨y198, hy198, h191⟩ := bnd h191
       refine p_ia rfl rfl (f_m_2.adv hI175.adv) hy198 Tryz.underlying23 Tryz.sizeOf44 rfl ?_
       intro b199 o200 cs201 hR202 hC203
       obtain ⟨v205, rfl, r204, hf206⟩ := TreeE_R.1 hR202
       refine s_fa rfl Tryz.underlying44 rfl Tryz.sizeOf42 rfl ?_
       refine s_ld rfl (hC203.cells.at 1 rfl) Tryz.isAgg42 rfl ?_
       refine s_mv rfl rfl ?_
       obtain ⟨y207, hy207, h191⟩ := bnd h191
       refine p_ia rfl rfl hf206 hy207 Tryz.underlying42 Tryz.sizeOf66 rfl ?_
       intro b208 o209 cs210 hR211 hC212
       obtain ⟨rfl, r213, r214, r215, r216, r217⟩ := NodeE_R.1 hR211
       refine s_lda rfl hC212.cells Tryz.isAgg66 rfl Tryz.sizeOf66 rfl ?_
       refine y_al hI175 Tryz.zeroValue66 rfl rfl ?_
       intro b218 w219 hI220 x221
       refine y_st 0 hI220 rfl rfl rfl rfl Tryz.sizeOf66 rfl rfl (one1 rfl (one1 rfl (one1 rfl (one1 rfl (one1 rfl one0))))) ?_
       intro w222 hI223 x224
       have hC226 := hI223.freezeRow 0 rfl
       have hI225 := hI223.erase 0
       refine Reg.nil ?_
       obtain ⟨j227, h228, h191⟩ := bnd h191
       refine cw_sub (L := [(1, _), (3, _), (5, _), (7, _), (11, _), (12, _), (13, _)]) (Sub.cons rfl (Sub.cons rfl (Sub.cons rfl (Sub.cons rfl (Sub.cons rfl (Sub.cons rfl (Sub.cons rfl (Sub.nil _)))))))) ?_
       refine cw_seqD 0 (ι := Bool) (fun x229 => [(109, Value.bool x229)]) (fun x229 => fun w230 => w222 = w230 ∧ x229 = j227) ?_ ?_
       ·skip
        refine cw_regF ?_
        refine s_fa rfl Tryz.underlying66 rfl Tryz.sizeOf3 rfl ?_
        refine s_ld rfl (hC226.cells.at 0 rfl) Tryz.isAgg3 rfl ?_
        refine s_mv rfl rfl ?_
        refine s_eql rfl rfl rfl ?_
        refine s_mv rfl rfl ?_
        refine Reg.gsplit (t := 96) rfl (fun hg233 => ?_) (fun hg233 => ?_)
        ·replace h228 := cdT hg233 h228
         refine Reg.take rfl rfl ?_
         refine s_fa rfl Tryz.underlying66 rfl Tryz.sizeOf3 rfl ?_
         refine Reg.take rfl rfl ?_
         refine s_ld rfl (hC226.cells.at 1 rfl) Tryz.isAgg3 rfl ?_
         refine Reg.take rfl rfl ?_
         refine s_fa rfl Tryz.underlying57 rfl Tryz.sizeOf3 rfl ?_
         refine Reg.take rfl rfl ?_
         refine s_ld rfl ((hC12.adv (x16.trans (hA24.trans (hA156.trans (hA176.trans (x221.trans (x224.trans (Hp.eraseA (σ := [rowR 66 b218 [Value.int .i64 y207.trait, Value.int .i64 y207.cut, Value.int .i64 y207.low, Value.int .i64 y207.high, Value.int .i64 y207.points]]) 0)))))))).cells.at 0 rfl) Tryz.isAgg3 rfl ?_
         refine Reg.take rfl rfl ?_
         refine s_gtr rfl rfl rfl ?_
         refine s_pkT rfl rfl rfl ?_
         refine s_mv rfl rfl ?_
         refine Reg.gsplit (t := 103) rfl (fun hg234 => ?_) (fun hg234 => ?_)
         ·replace h228 := cdT hg234 h228
          refine Reg.take rfl rfl ?_
          refine s_fa rfl Tryz.underlying66 rfl Tryz.sizeOf3 rfl ?_
          refine Reg.take rfl rfl ?_
          refine s_ld rfl (hC226.cells.at 1 rfl) Tryz.isAgg3 rfl ?_
          refine Reg.take rfl rfl ?_
          refine s_fa rfl Tryz.underlying57 rfl Tryz.sizeOf3 rfl ?_
          refine Reg.take rfl rfl ?_
          refine s_ld rfl ((hC12.adv (x16.trans (hA24.trans (hA156.trans (hA176.trans (x221.trans (x224.trans (Hp.eraseA (σ := [rowR 66 b218 [Value.int .i64 y207.trait, Value.int .i64 y207.cut, Value.int .i64 y207.low, Value.int .i64 y207.high, Value.int .i64 y207.points]]) 0)))))))).cells.at 1 rfl) Tryz.isAgg3 rfl ?_
          refine Reg.take rfl rfl ?_
          refine s_leq rfl rfl rfl ?_
          refine s_pkT rfl rfl rfl ?_
          refine Reg.nil ?_
          obtain rfl := Option.some.inj h228
          refine ⟨rfl, decide (y207.cut ≤ s.hi), ⟨rfl, rfl⟩, Sub.cons rfl (Sub.cons rfl (Sub.cons rfl (Sub.cons rfl (Sub.cons rfl (Sub.cons rfl (Sub.cons rfl (Sub.cons rfl (Sub.nil _))))))))⟩
         ·replace h228 := cdF hg234 h228
          refine Reg.pass rfl rfl rfl rfl ?_
          refine Reg.pass rfl rfl rfl rfl ?_
          refine Reg.pass rfl rfl rfl rfl ?_
          refine Reg.pass rfl rfl rfl rfl ?_
          refine Reg.pass rfl rfl rfl rfl ?_
          refine s_pkF rfl rfl rfl ?_
          refine Reg.nil ?_
          obtain rfl := Option.some.inj h228
          refine ⟨rfl, false, ⟨rfl, rfl⟩, Sub.cons rfl (Sub.cons rfl (Sub.cons rfl (Sub.cons rfl (Sub.cons rfl (Sub.cons rfl (Sub.cons rfl (Sub.cons rfl (Sub.nil _))))))))⟩
        ·replace h228 := cdF hg233 h228
         refine Reg.pass rfl rfl rfl rfl ?_
         refine Reg.pass rfl rfl rfl rfl ?_
         refine Reg.pass rfl rfl rfl rfl ?_
         refine Reg.pass rfl rfl rfl rfl ?_
         refine Reg.pass rfl rfl rfl rfl ?_
         refine s_pkF rfl rfl rfl ?_
         refine s_mv rfl rfl ?_
         refine Reg.pass rfl rfl rfl rfl ?_
         refine Reg.pass rfl rfl rfl rfl ?_
         refine Reg.pass rfl rfl rfl rfl ?_
         refine Reg.pass rfl rfl rfl rfl ?_
         refine Reg.pass rfl rfl rfl rfl ?_
         refine s_pkF rfl rfl rfl ?_
         refine Reg.nil ?_
         obtain rfl := Option.some.inj h228
         refine ⟨rfl, false, ⟨rfl, rfl⟩, Sub.cons rfl (Sub.cons rfl (Sub.cons rfl (Sub.cons rfl (Sub.cons rfl (Sub.cons rfl (Sub.cons rfl (Sub.cons rfl (Sub.nil _))))))))⟩
       ·skip
        rintro x229 _ ⟨rfl, rfl⟩
        obtain ⟨j235, h236, h191⟩ := bnd h191
        refine cw_sub (L := [(7, _), (13, _), (109, _), (1, _), (3, _), (5, _), (11, _), (12, _)]) (Sub.cons rfl (Sub.cons rfl (Sub.cons rfl (Sub.cons rfl (Sub.cons rfl (Sub.cons rfl (Sub.cons rfl (Sub.cons rfl (Sub.nil _))))))))) ?_
        refine cw_unitD 3 (ι := (List Int) × Value) (fun ⟨x237, v238⟩ => [(7, v238)]) (fun ⟨x237, v238⟩ => fun w240 => Hp w [] M [] w240 ∧ Adv (mm [] M) (mm [] M) w222 w240 ∧ RdS (intE .i64) (mm [] M) w240 v238 x237 ∧ x237 = j235) ?_ ?_
        ·skip
         refine cw_cond rfl (fun hc243 => ?_) (fun hc243 => ?_)
         ·replace h236 := cdT hc243 h236
          refine cw_regF ?_
          refine s_mv rfl rfl ?_
          refine s_fa rfl Tryz.underlying66 rfl Tryz.sizeOf3 rfl ?_
          refine s_ld rfl (hC226.cells.at 1 rfl) Tryz.isAgg3 rfl ?_
          obtain ⟨z244, hz245, h236⟩ := bnd h236
          refine s_call rfl Tryz.call50 rfl ?_
          refine (C_ref06_put hI225.mlt (hf171.adv (x221.trans (x224.trans (Hp.eraseA (σ := [rowR 66 b218 [Value.int .i64 y207.trait, Value.int .i64 y207.cut, Value.int .i64 y207.low, Value.int .i64 y207.high, Value.int .i64 y207.points]]) 0)))) r214 hz245).mono ?_
          rintro _ w246 ⟨v248, rfl, hf249, e247⟩
          refine ⟨_, rfl, ?_⟩
          have hI250 := hI225.ext e247
          refine s_as rfl rfl ?_
          refine Reg.nil ?_
          obtain rfl := Option.some.inj h236
          refine ⟨rfl, (z244, v248), ⟨hI250, (Adv.of_ext e247), hf249, rfl⟩, Sub.cons rfl (Sub.cons rfl (Sub.cons rfl (Sub.cons rfl (Sub.cons rfl (Sub.cons rfl (Sub.nil _))))))⟩
         ·replace h236 := cdF hc243 h236
          refine cw_skip ?_
          obtain rfl := Option.some.inj h236
          refine ⟨rfl, (x169, v170), ⟨hI225, (Adv.refl _ _), (hf171.adv (x221.trans (x224.trans (Hp.eraseA (σ := [rowR 66 b218 [Value.int .i64 y207.trait, Value.int .i64 y207.cut, Value.int .i64 y207.low, Value.int .i64 y207.high, Value.int .i64 y207.points]]) 0)))), rfl⟩, Sub.cons rfl (Sub.cons rfl (Sub.cons rfl (Sub.cons rfl (Sub.cons rfl (Sub.cons rfl (Sub.nil _))))))⟩
        ·skip
         rintro ⟨x237, v238⟩ w240 ⟨hI241, hA242, hf239, rfl⟩
         obtain rfl := Option.some.inj h191
         refine ⟨rfl, (x237, v238), ⟨hI241, (x221.trans (x224.trans ((Hp.eraseA (σ := [rowR 66 b218 [Value.int .i64 y207.trait, Value.int .i64 y207.cut, Value.int .i64 y207.low, Value.int .i64 y207.high, Value.int .i64 y207.points]]) 0).trans hA242))), hf239, rfl⟩, Sub.cons rfl (Sub.cons rfl (Sub.cons rfl (Sub.cons rfl (Sub.cons rfl (Sub.cons rfl (Sub.nil _))))))⟩
      ·skip
       rintro ⟨x192, v193⟩ w195 ⟨hI196, hA197, hf194, rfl⟩
       refine cw_regF ?_
       refine s_mv rfl rfl ?_
       obtain ⟨n251, hn251, h178⟩ := bnd h178
       replace hn251 := chk_out hn251
       refine p_add rfl rfl rfl hn251 ?_
       refine s_as rfl rfl ?_
       refine Reg.nil ?_
       obtain rfl := Option.some.inj h178
       refine ⟨rfl, (x192, n251, v193), ⟨⟨hI196, (hA176.trans hA197), hf194, hn251.2⟩, rfl⟩, Sub.cons rfl (Sub.cons rfl (Sub.cons rfl (Sub.cons rfl (Sub.cons rfl (Sub.cons rfl (Sub.nil _))))))⟩
     ·replace h178 := cdF hc189 h178
      refine cw_exit ?_
      refine exB_same ?_
      obtain rfl := Option.some.inj h178
      obtain rfl := hR179 _ rfl
      refine ⟨rfl, (x169, v170), ⟨hI175, hA176, hf171, rfl⟩, Sub.cons rfl (Sub.cons rfl (Sub.cons rfl (Sub.cons rfl (Sub.cons rfl (Sub.nil _)))))⟩
    ·skip
     rintro ⟨x163, v164⟩ w166 ⟨hI167, hA168, hf165, rfl⟩
     refine cw_regF ?_
     refine s_mv rfl rfl ?_
     obtain ⟨n252, hn252, h158⟩ := bnd h158
     replace hn252 := chk_out hn252
     refine p_add rfl rfl rfl hn252 ?_
     refine s_as rfl rfl ?_
     refine Reg.nil ?_
     obtain rfl := Option.some.inj h158
     refine ⟨rfl, (x163, n252, v164), ⟨⟨hI167, (hA156.trans hA168), hf165, hn252.2⟩, rfl⟩, Sub.cons rfl (Sub.cons rfl (Sub.cons rfl (Sub.cons rfl (Sub.cons rfl (Sub.nil _)))))⟩
   ·replace h158 := cdF hc160 h158
    refine cw_exit ?_
    refine exB_same ?_
    obtain rfl := Option.some.inj h158
    obtain rfl := hR159 _ rfl
    refine ⟨rfl, (x149, v150), ⟨hI155, hA156, hf151, rfl⟩, Sub.cons rfl (Sub.nil _)⟩
  ·skip
   rintro ⟨x143, v144⟩ w146 ⟨hI147, hA148, hf145, rfl⟩
   refine cw_seq (cw_regF ?_)
   refine s_mv rfl rfl ?_
   refine s_as rfl rfl ?_
   refine Reg.nil ?_
   refine cw_ret ?_
   obtain rfl := Option.some.inj h
   refine fin1 Tryz.results32 rfl ?_
   exact ⟨_, rfl, (hf145.adv (Hp.baseA (σ := []))), hI147.kp⟩
noncomputable def P.ref06_ints (a : (List Int)) (b : (List Int)) : Option Bool :=
 cond (!decide ((a.length : Int) = (b.length : Int))) (some false) (Option.bind (loopM (S := Int) (R := (Unit) ⊕ (Bool)) (fun x2 => cond (decide (x2 < (a.length : Int))) (Option.bind (ixo a x2) fun y4 => Option.bind (ixo b x2) fun y11 => cond (!decide (y4 = y11)) (some (.inr (.inr false))) (Option.bind (chk .i64 (x2 + 1)) fun n22 => some (.inl n22))) (some (.inr (.inl ())))) 0) fun j23 => Sum.elim (fun _ => some true) (fun r24 => some r24)  j23)
theorem C_ref06_ints {M : List Nat} {w : World} (hM : MLt M w) {a : (List Int)} {v_a_0 : Value} (f_a_0 : RdS (intE .i64) M w v_a_0 a) {b : (List Int)} {v_b_0 : Value} (f_b_0 : RdS (intE .i64) M w v_b_0 b) {r0 : Bool} (h : P.ref06_ints a b = some r0) :
  Calls Tryz.prog 20 (List.toArray [v_a_0, v_b_0]) w fun e w' => e = .returned (Value.bool r0) ∧ Ext w w' := by
 have hI := Hp.start (Mu := []) hM
 refine calls_cw Tryz.func20 rfl Tryz.ntmps20 rfl ?_
 refine cw_seq (cw_regF ?_)
 refine s_as rfl rfl ?_
 refine Reg.nil ?_
 refine cw_seq (cw_seq (cw_regF ?_))
 refine s_mv rfl rfl ?_
 refine s_len rfl f_a_0 Tryz.underlying26 rfl ?_
 refine s_mv rfl rfl ?_
 refine s_len rfl f_b_0 Tryz.underlying26 rfl ?_
 refine s_neq rfl rfl rfl ?_
 refine Reg.nil ?_
 refine cw_cond rfl (fun hc1 => ?_) (fun hc1 => ?_)
 ·replace h := cdT hc1 h
  refine cw_seq (cw_regF ?_)
  refine s_as rfl rfl ?_
  refine Reg.nil ?_
  refine cw_ret ?_
  obtain rfl := Option.some.inj h
  refine fin1 Tryz.results20 rfl ?_
  exact ⟨rfl, hI.kp⟩
 ·replace h := cdF hc1 h
  refine cw_skip (cw_seq (cw_seq (cw_regF ?_)))
  refine s_as rfl rfl ?_
  refine Reg.nil ?_
  obtain ⟨j2, h3, h⟩ := bnd h
  refine cw_sub (L := [(0, _), (1, _), (5, _)]) (Sub.cons rfl (Sub.cons rfl (Sub.cons rfl (Sub.nil _)))) ?_
  refine cw_unitD 3 (ι := Unit) (fun _ => []) (fun _ => fun w4 => Hp w [] M [] w4 ∧ Adv (mm [] M) (mm [] M) w w4 ∧ (.inl ()) = j2) ?_ ?_
  ·skip
   refine cw_block ?_
   refine cw_sub (L := [(5, _), (0, _), (1, _)]) (Sub.cons rfl (Sub.cons rfl (Sub.cons rfl (Sub.nil _)))) ?_
   refine cw_loopM 1 (ι := Int) _ (fun x7 => [(5, Value.int .i64 x7)]) (fun x7 => x7) (fun x7 => fun w9 => Hp w [] M [] w9 ∧ Adv (mm [] M) (mm [] M) w w9 ∧ InK .i64 x7) 0 h3 ⟨hI, (Adv.refl _ _), (by decide)⟩ (Sub.cons rfl (Sub.cons rfl (Sub.cons rfl (Sub.nil _)))) ?_
   rintro x7 w9 ⟨hI10, hA11, r8⟩ y12 h13 hR14
   refine cw_seq (cw_seq (cw_regF ?_))
   refine s_mv rfl rfl ?_
   refine s_mv rfl rfl ?_
   refine s_len rfl (f_a_0.adv hI10.adv) Tryz.underlying26 rfl ?_
   refine s_lss rfl rfl rfl ?_
   refine Reg.nil ?_
   refine cw_cond rfl (fun hc15 => ?_) (fun hc15 => ?_)
   ·replace h13 := cdT hc15 h13
    refine cw_skip ?_
    refine cw_seq ?_
    refine cw_block ?_
    refine cw_seq ?_
    refine cw_regT fol (by kernel_rfl) ?_
    refine s_mv rfl rfl ?_
    refine s_mv rfl rfl ?_
    obtain ⟨y16, hy16, h13⟩ := bnd h13
    refine p_ia rfl rfl (f_a_0.adv hI10.adv) hy16 Tryz.underlying26 Tryz.sizeOf3 rfl ?_
    intro b17 o18 cs19 hR20 hC21
    obtain ⟨rfl, r22⟩ := hR20
    refine s_ld rfl (hC21.cells.at 0 rfl) Tryz.isAgg3 rfl ?_
    refine s_mv rfl rfl ?_
    refine s_mv rfl rfl ?_
    obtain ⟨y23, hy23, h13⟩ := bnd h13
    refine p_ia rfl rfl (f_b_0.adv hI10.adv) hy23 Tryz.underlying26 Tryz.sizeOf3 rfl ?_
    intro b24 o25 cs26 hR27 hC28
    obtain ⟨rfl, r29⟩ := hR27
    refine s_ld rfl (hC28.cells.at 0 rfl) Tryz.isAgg3 rfl ?_
    refine s_neq rfl rfl rfl ?_
    refine Reg.nilq (fun w30 e31 => ?_)
    have hI32 := hI10.ext e31
    refine cw_cond rfl (fun hc33 => ?_) (fun hc33 => ?_)
    ·replace h13 := cdT hc33 h13
     refine cw_seq (cw_regF ?_)
     refine s_as rfl rfl ?_
     refine Reg.nil ?_
     refine cw_ret ?_
     obtain rfl := Option.some.inj h13
     obtain rfl := hR14 _ rfl
     replace h := elimR h
     obtain rfl := Option.some.inj h
     refine fin1 Tryz.results20 rfl ?_
     exact ⟨rfl, hI32.kp⟩
    ·replace h13 := cdF hc33 h13
     refine cw_skip ?_
     refine cw_regF ?_
     refine s_mv rfl rfl ?_
     obtain ⟨n34, hn34, h13⟩ := bnd h13
     replace hn34 := chk_out hn34
     refine p_add rfl rfl rfl hn34 ?_
     refine s_as rfl rfl ?_
     refine Reg.nil ?_
     obtain rfl := Option.some.inj h13
     refine ⟨rfl, n34, ⟨⟨hI32, hI32.adv, hn34.2⟩, rfl⟩, Sub.cons rfl (Sub.cons rfl (Sub.cons rfl (Sub.nil _)))⟩
   ·replace h13 := cdF hc15 h13
    refine cw_exit ?_
    refine exB_same ?_
    obtain rfl := Option.some.inj h13
    obtain rfl := hR14 _ rfl
    refine ⟨rfl, (), ⟨hI10, hI10.adv, rfl⟩, Sub.nil _⟩
  ·skip
   rintro _ w4 ⟨hI5, hA6, rfl⟩
   replace h := elimL h
   refine cw_seq (cw_regF ?_)
   refine s_as rfl rfl ?_
   refine Reg.nil ?_
   refine cw_ret ?_
   obtain rfl := Option.some.inj h
   refine fin1 Tryz.results20 rfl ?_
   exact ⟨rfl, hI5.kp⟩
noncomputable def P.ref06_Same (a : Model) (b : Model) : Option Bool :=
 Option.bind (cond (!decide (a.traits = b.traits)) (some true) (cond (!decide (a.need = b.need)) (some true) (cond (!decide ((a.cards.length : Int) = (b.cards.length : Int))) (some true) (some (!decide ((a.trees.length : Int) = (b.trees.length : Int))))))) fun x16 => cond x16 (some false) (Option.bind (loopM (S := Int) (R := (Unit) ⊕ (Bool)) (fun x18 => cond (decide (x18 < (a.cards.length : Int))) (Option.bind (ixo a.cards x18) fun y20 => Option.bind (ixo b.cards x18) fun y30 => Option.bind (cond (!decide (y20.weight = y30.weight)) (some true) (cond (!decide (y20.base = y30.base)) (some true) (some (!decide ((y20.scales.length : Int) = (y30.scales.length : Int)))))) fun x53 => cond x53 (some (.inr (.inr false))) (Option.bind (loopM (S := Int) (R := (Unit) ⊕ (Bool)) (fun x55 => cond (decide (x55 < (y20.scales.length : Int))) (Option.bind (Option.bind (ixo y20.scales x55) fun y57 => Option.bind (ixo y30.scales x55) fun y68 => cond (!decide (y57.none_ = y68.none_)) (some true) (Option.bind (ixo y20.scales x55) fun y83 => Option.bind (ixo y30.scales x55) fun y94 => Option.bind (P.ref06_ints y83.cuts y94.cuts) fun z105 => cond (!z105) (some true) (Option.bind (ixo y20.scales x55) fun y113 => Option.bind (ixo y30.scales x55) fun y124 => Option.bind (P.ref06_ints y113.points y124.points) fun z135 => some (!z135)))) fun x142 => cond x142 (some (.inr (.inr false))) (Option.bind (chk .i64 (x55 + 1)) fun n144 => some (.inl n144))) (some (.inr (.inl ())))) 0) fun j145 => Sum.elim (fun _ => Option.bind (chk .i64 (x18 + 1)) fun n146 => some (.inl n146)) (fun r147 => some (.inr (.inr r147)))  j145)) (some (.inr (.inl ())))) 0) fun j148 => Sum.elim (fun _ => Option.bind (loopM (S := Int) (R := (Unit) ⊕ (Bool)) (fun x149 => cond (decide (x149 < (a.trees.length : Int))) (Option.bind (Option.bind (ixo a.trees x149) fun y151 => Option.bind (ixo b.trees x149) fun y160 => cond (!decide (y151.weight = y160.weight)) (some true) (Option.bind (ixo a.trees x149) fun y173 => Option.bind (ixo b.trees x149) fun y182 => some (!decide ((y173.nodes.length : Int) = (y182.nodes.length : Int))))) fun x194 => cond x194 (some (.inr (.inr false))) (Option.bind (loopM (S := Int) (R := (Unit) ⊕ (Bool)) (fun x196 => Option.bind (ixo a.trees x149) fun y197 => cond (decide (x196 < (y197.nodes.length : Int))) (Option.bind (ixo a.trees x149) fun y207 => Option.bind (ixo y207.nodes x196) fun y216 => Option.bind (ixo b.trees x149) fun y227 => Option.bind (ixo y227.nodes x196) fun y236 => cond (!decide (y216 = y236)) (some (.inr (.inr false))) (Option.bind (chk .i64 (x196 + 1)) fun n251 => some (.inl n251))) (some (.inr (.inl ())))) 0) fun j252 => Sum.elim (fun _ => Option.bind (chk .i64 (x149 + 1)) fun n253 => some (.inl n253)) (fun r254 => some (.inr (.inr r254)))  j252)) (some (.inr (.inl ())))) 0) fun j255 => Sum.elim (fun _ => some true) (fun r256 => some r256)  j255) (fun r257 => some r257)  j148)
theorem C_ref06_Same {M : List Nat} {w : World} (hM : MLt M w) {a : Model} {v_a_1 : Value} {v_a_2 : Value} (f_a_0 : InK .i64 a.traits) (f_a_1 : RdS CardE M w v_a_1 a.cards) (f_a_2 : RdS TreeE M w v_a_2 a.trees) (f_a_3 : InK .i64 a.need) {b : Model} {v_b_1 : Value} {v_b_2 : Value} (f_b_0 : InK .i64 b.traits) (f_b_1 : RdS CardE M w v_b_1 b.cards) (f_b_2 : RdS TreeE M w v_b_2 b.trees) (f_b_3 : InK .i64 b.need) {r0 : Bool} (h : P.ref06_Same a b = some r0) :
  Calls Tryz.prog 9 (List.toArray [Value.agg (List.toArray [Value.int .i64 a.traits, v_a_1, v_a_2, Value.int .i64 a.need]), Value.agg (List.toArray [Value.int .i64 b.traits, v_b_1, v_b_2, Value.int .i64 b.need])]) w fun e w' => e = .returned (Value.bool r0) ∧ Ext w w' := by
 have hI := Hp.start (Mu := []) hM
 refine calls_cw Tryz.func9 rfl Tryz.ntmps9 rfl ?_
 refine cw_seq (cw_regF ?_)
 refine y_box hI rfl rfl rfl ?_
 intro b1 w2 hI3 x4
 have hC6 := hI3.freezeRow 0 rfl
 have hI5 := hI3.erase 0
 refine y_box hI5 rfl rfl rfl ?_
 intro b7 w8 hI9 x10
 have hC12 := hI9.freezeRow 0 rfl
 have hI11 := hI9.erase 0
 refine s_as rfl rfl ?_
 refine Reg.nil ?_
 refine cw_seq ?_
 obtain ⟨j13, h14, h⟩ := bnd h
 refine cw_sub (L := [(2, _), (3, _)]) (Sub.cons rfl (Sub.cons rfl (Sub.nil _))) ?_
 refine cw_seqD 0 (ι := Bool) (fun x15 => [(40, Value.bool x15)]) (fun x15 => fun w16 => w8 = w16 ∧ x15 = j13) ?_ ?_
 ·skip
  refine cw_regF ?_
  refine s_fa rfl Tryz.underlying25 rfl Tryz.sizeOf3 rfl ?_
  refine s_ld rfl ((hC6.adv (x10.trans (Hp.eraseA (σ := [rowR 25 b7 [Value.int .i64 b.traits, v_b_1, v_b_2, Value.int .i64 b.need]]) 0))).cells.at 0 rfl) Tryz.isAgg3 rfl ?_
  refine s_fa rfl Tryz.underlying25 rfl Tryz.sizeOf3 rfl ?_
  refine s_ld rfl (hC12.cells.at 0 rfl) Tryz.isAgg3 rfl ?_
  refine s_neq rfl rfl rfl ?_
  refine s_mv rfl rfl ?_
  refine Reg.gsplit (t := 16) rfl (fun hg19 => ?_) (fun hg19 => ?_)
  ·replace h14 := cdT hg19 h14
   refine Reg.pass rfl rfl rfl rfl ?_
   refine Reg.pass rfl rfl rfl rfl ?_
   refine Reg.pass rfl rfl rfl rfl ?_
   refine Reg.pass rfl rfl rfl rfl ?_
   refine Reg.pass rfl rfl rfl rfl ?_
   refine s_pkT rfl rfl rfl ?_
   refine s_mv rfl rfl ?_
   refine Reg.pass rfl rfl rfl rfl ?_
   refine Reg.pass rfl rfl rfl rfl ?_
   refine Reg.pass rfl rfl rfl rfl ?_
   refine Reg.pass rfl rfl rfl rfl ?_
   refine Reg.pass rfl rfl rfl rfl ?_
   refine Reg.pass rfl rfl rfl rfl ?_
   refine Reg.pass rfl rfl rfl rfl ?_
   refine s_pkT rfl rfl rfl ?_
   refine s_mv rfl rfl ?_
   refine Reg.pass rfl rfl rfl rfl ?_
   refine Reg.pass rfl rfl rfl rfl ?_
   refine Reg.pass rfl rfl rfl rfl ?_
   refine Reg.pass rfl rfl rfl rfl ?_
   refine Reg.pass rfl rfl rfl rfl ?_
   refine Reg.pass rfl rfl rfl rfl ?_
   refine Reg.pass rfl rfl rfl rfl ?_
   refine s_pkT rfl rfl rfl ?_
   refine Reg.nil ?_
   obtain rfl := Option.some.inj h14
   refine ⟨rfl, true, ⟨rfl, rfl⟩, Sub.cons rfl (Sub.cons rfl (Sub.cons rfl (Sub.nil _)))⟩
  ·replace h14 := cdF hg19 h14
   refine Reg.take rfl rfl ?_
   refine s_fa rfl Tryz.underlying25 rfl Tryz.sizeOf3 rfl ?_
   refine Reg.take rfl rfl ?_
   refine s_ld rfl ((hC6.adv (x10.trans (Hp.eraseA (σ := [rowR 25 b7 [Value.int .i64 b.traits, v_b_1, v_b_2, Value.int .i64 b.need]]) 0))).cells.at 3 rfl) Tryz.isAgg3 rfl ?_
   refine Reg.take rfl rfl ?_
   refine s_fa rfl Tryz.underlying25 rfl Tryz.sizeOf3 rfl ?_
   refine Reg.take rfl rfl ?_
   refine s_ld rfl (hC12.cells.at 3 rfl) Tryz.isAgg3 rfl ?_
   refine Reg.take rfl rfl ?_
   refine s_neq rfl rfl rfl ?_
   refine s_pkF rfl rfl rfl ?_
   refine s_mv rfl rfl ?_
   refine Reg.gsplit (t := 23) rfl (fun hg20 => ?_) (fun hg20 => ?_)
   ·replace h14 := cdT hg20 h14
    refine Reg.pass rfl rfl rfl rfl ?_
    refine Reg.pass rfl rfl rfl rfl ?_
    refine Reg.pass rfl rfl rfl rfl ?_
    refine Reg.pass rfl rfl rfl rfl ?_
    refine Reg.pass rfl rfl rfl rfl ?_
    refine Reg.pass rfl rfl rfl rfl ?_
    refine Reg.pass rfl rfl rfl rfl ?_
    refine s_pkT rfl rfl rfl ?_
    refine s_mv rfl rfl ?_
    refine Reg.pass rfl rfl rfl rfl ?_
    refine Reg.pass rfl rfl rfl rfl ?_
    refine Reg.pass rfl rfl rfl rfl ?_
    refine Reg.pass rfl rfl rfl rfl ?_
    refine Reg.pass rfl rfl rfl rfl ?_
    refine Reg.pass rfl rfl rfl rfl ?_
    refine Reg.pass rfl rfl rfl rfl ?_
    refine s_pkT rfl rfl rfl ?_
    refine Reg.nil ?_
    obtain rfl := Option.some.inj h14
    refine ⟨rfl, true, ⟨rfl, rfl⟩, Sub.cons rfl (Sub.cons rfl (Sub.cons rfl (Sub.nil _)))⟩
   ·replace h14 := cdF hg20 h14
    refine Reg.take rfl rfl ?_
    refine s_fa rfl Tryz.underlying25 rfl Tryz.sizeOf22 rfl ?_
    refine Reg.take rfl rfl ?_
    refine s_ld rfl ((hC6.adv (x10.trans (Hp.eraseA (σ := [rowR 25 b7 [Value.int .i64 b.traits, v_b_1, v_b_2, Value.int .i64 b.need]]) 0))).cells.at 1 rfl) Tryz.isAgg22 rfl ?_
    refine Reg.take rfl rfl ?_
    refine s_len rfl (f_a_1.adv hI11.adv) Tryz.underlying22 rfl ?_
    refine Reg.take rfl rfl ?_
    refine s_fa rfl Tryz.underlying25 rfl Tryz.sizeOf22 rfl ?_
    refine Reg.take rfl rfl ?_
    refine s_ld rfl (hC12.cells.at 1 rfl) Tryz.isAgg22 rfl ?_
    refine Reg.take rfl rfl ?_
    refine s_len rfl (f_b_1.adv hI11.adv) Tryz.underlying22 rfl ?_
    refine Reg.take rfl rfl ?_
    refine s_neq rfl rfl rfl ?_
    refine s_pkF rfl rfl rfl ?_
    refine s_mv rfl rfl ?_
    refine Reg.gsplit (t := 32) rfl (fun hg21 => ?_) (fun hg21 => ?_)
    ·replace h14 := cdT hg21 h14
     refine Reg.pass rfl rfl rfl rfl ?_
     refine Reg.pass rfl rfl rfl rfl ?_
     refine Reg.pass rfl rfl rfl rfl ?_
     refine Reg.pass rfl rfl rfl rfl ?_
     refine Reg.pass rfl rfl rfl rfl ?_
     refine Reg.pass rfl rfl rfl rfl ?_
     refine Reg.pass rfl rfl rfl rfl ?_
     refine s_pkT rfl rfl rfl ?_
     refine Reg.nil ?_
     obtain rfl := Option.some.inj h14
     refine ⟨rfl, true, ⟨rfl, rfl⟩, Sub.cons rfl (Sub.cons rfl (Sub.cons rfl (Sub.nil _)))⟩
    ·replace h14 := cdF hg21 h14
     refine Reg.take rfl rfl ?_
     refine s_fa rfl Tryz.underlying25 rfl Tryz.sizeOf23 rfl ?_
     refine Reg.take rfl rfl ?_
     refine s_ld rfl ((hC6.adv (x10.trans (Hp.eraseA (σ := [rowR 25 b7 [Value.int .i64 b.traits, v_b_1, v_b_2, Value.int .i64 b.need]]) 0))).cells.at 2 rfl) Tryz.isAgg23 rfl ?_
     refine Reg.take rfl rfl ?_
     refine s_len rfl (f_a_2.adv hI11.adv) Tryz.underlying23 rfl ?_
     refine Reg.take rfl rfl ?_
     refine s_fa rfl Tryz.underlying25 rfl Tryz.sizeOf23 rfl ?_
     refine Reg.take rfl rfl ?_
     refine s_ld rfl (hC12.cells.at 2 rfl) Tryz.isAgg23 rfl ?_
     refine Reg.take rfl rfl ?_
     refine s_len rfl (f_b_2.adv hI11.adv) Tryz.underlying23 rfl ?_
     refine Reg.take rfl rfl ?_
     refine s_neq rfl rfl rfl ?_
     refine s_pkF rfl rfl rfl ?_
     refine Reg.nil ?_
     obtain rfl := Option.some.inj h14
     refine ⟨rfl, !decide ((a.trees.length : Int) = (b.trees.length : Int)), ⟨rfl, rfl⟩, Sub.cons rfl (Sub.cons rfl (Sub.cons rfl (Sub.nil _)))⟩
 ·skip
  rintro x15 _ ⟨rfl, rfl⟩
  refine cw_cond rfl (fun hc22 => ?_) (fun hc22 => ?_)
  ·replace h := cdT hc22 h
   refine cw_seq (cw_regF ?_)
   refine s_as rfl rfl ?_
   refine Reg.nil ?_
   refine cw_ret ?_
   obtain rfl := Option.some.inj h
   refine fin1 Tryz.results9 rfl ?_
   exact ⟨rfl, hI11.kp⟩
  ·replace h := cdF hc22 h
   refine cw_skip (cw_seq (cw_seq (cw_regF ?_)))
   refine s_as rfl rfl ?_
   refine Reg.nil ?_
   obtain ⟨j23, h24, h⟩ := bnd h
   refine cw_sub (L := [(5, _), (2, _), (3, _)]) (Sub.cons rfl (Sub.cons rfl (Sub.cons rfl (Sub.nil _)))) ?_
   refine cw_unitD 1 (ι := Unit) (fun _ => []) (fun _ => fun w25 => Hp w [] M [] w25 ∧ Adv (mm [] M) (mm [] M) w8 w25 ∧ (.inl ()) = j23) ?_ ?_
   ·skip
    refine cw_block ?_
    refine cw_sub (L := [(5, _), (2, _), (3, _)]) (Sub.cons rfl (Sub.cons rfl (Sub.cons rfl (Sub.nil _)))) ?_
    refine cw_loopM 1 (ι := Int) _ (fun x28 => [(5, Value.int .i64 x28)]) (fun x28 => x28) (fun x28 => fun w30 => Hp w [] M [] w30 ∧ Adv (mm [] M) (mm [] M) w8 w30 ∧ InK .i64 x28) 0 h24 ⟨hI11, (Adv.refl _ _), (by decide)⟩ (Sub.cons rfl (Sub.cons rfl (Sub.cons rfl (Sub.nil _)))) ?_
    rintro x28 w30 ⟨hI31, hA32, r29⟩ y33 h34 hR35
    refine cw_seq (cw_seq (cw_regF ?_))
    refine s_mv rfl rfl ?_
    refine s_fa rfl Tryz.underlying25 rfl Tryz.sizeOf22 rfl ?_
    refine s_ld rfl ((hC6.adv (x10.trans ((Hp.eraseA (σ := [rowR 25 b7 [Value.int .i64 b.traits, v_b_1, v_b_2, Value.int .i64 b.need]]) 0).trans hA32))).cells.at 1 rfl) Tryz.isAgg22 rfl ?_
    refine s_len rfl (f_a_1.adv hI31.adv) Tryz.underlying22 rfl ?_
    refine s_lss rfl rfl rfl ?_
    refine Reg.nil ?_
    refine cw_cond rfl (fun hc36 => ?_) (fun hc36 => ?_)
    ·replace h34 := cdT hc36 h34
     refine cw_skip ?_
     refine cw_seq ?_
     refine cw_block ?_
     refine cw_seq ?_
     refine cw_regRows [0, 1, 2, 3, 4, 5, 6, 7, 8, 9] [⟨10, 6, 39, [Value.int .i64 0, Value.int .i64 0, Value.slice none 0 0], 12, []⟩, ⟨11, 7, 39, [Value.int .i64 0, Value.int .i64 0, Value.slice none 0 0], 13, []⟩] fol (by kernel_rfl) rfl rfl ⟨⟨_, _, _, _, rfl, Tryz.zeroValue39, rfl⟩, ⟨_, _, _, _, rfl, Tryz.zeroValue39, rfl⟩, trivial⟩ ?_
     refine s_fa rfl Tryz.underlying25 rfl Tryz.sizeOf22 rfl ?_
     refine s_ld rfl ((hC6.adv (x10.trans ((Hp.eraseA (σ := [rowR 25 b7 [Value.int .i64 b.traits, v_b_1, v_b_2, Value.int .i64 b.need]]) 0).trans hA32))).cells.at 1 rfl) Tryz.isAgg22 rfl ?_
     refine s_mv rfl rfl ?_
     obtain ⟨y37, hy37, h34⟩ := bnd h34
     refine p_ia rfl rfl (f_a_1.adv hI31.adv) hy37 Tryz.underlying22 Tryz.sizeOf39 rfl ?_
     intro b38 o39 cs40 hR41 hC42
     obtain ⟨v45, rfl, r43, r44, hf46⟩ := CardE_R.1 hR41
     refine s_lda rfl hC42.cells Tryz.isAgg39 rfl Tryz.sizeOf39 rfl ?_
     refine s_fa rfl Tryz.underlying25 rfl Tryz.sizeOf22 rfl ?_
     refine s_ld rfl ((hC12.adv hA32).cells.at 1 rfl) Tryz.isAgg22 rfl ?_
     refine s_mv rfl rfl ?_
     obtain ⟨y47, hy47, h34⟩ := bnd h34
     refine p_ia rfl rfl (f_b_1.adv hI31.adv) hy47 Tryz.underlying22 Tryz.sizeOf39 rfl ?_
     intro b48 o49 cs50 hR51 hC52
     obtain ⟨v55, rfl, r53, r54, hf56⟩ := CardE_R.1 hR51
     refine s_lda rfl hC52.cells Tryz.isAgg39 rfl Tryz.sizeOf39 rfl ?_
     refine Reg.nilX ⟨rfl, [_, _], ⟨storeOk rfl (fun _ => rfl) rfl Tryz.sizeOf39 rfl rfl (one1 rfl (one1 rfl (one1 (RdS.oneC hf46) one0))), storeOk rfl (fun _ => rfl) rfl Tryz.sizeOf39 rfl rfl (one1 rfl (one1 rfl (one1 (RdS.oneC hf56) one0))), trivial⟩, ?_⟩
     intro w57 e58
     simp only [zipC, rowsOut]
     intro b59 hb60 hW61 s62
     simp only [setAt] at hW61
     replace hW61 := RdC.of_row (M := mm [] M) (hI31.mlt.nin hb60) hW61
     intro b63 hb64 hW65 s66
     simp only [setAt] at hW65
     replace hW65 := RdC.of_row (M := mm [] M) (hI31.mlt.nin hb64) hW65
     have hI67 := hI31.ext e58
     refine cw_seq ?_
     obtain ⟨j68, h69, h34⟩ := bnd h34
     refine cw_sub (L := [(2, _), (3, _), (5, _), (6, _), (7, _)]) (Sub.cons rfl (Sub.cons rfl (Sub.cons rfl (Sub.cons rfl (Sub.cons rfl (Sub.nil _)))))) ?_
     refine cw_seqD 0 (ι := Bool) (fun x70 => [(78, Value.bool x70)]) (fun x70 => fun w71 => w57 = w71 ∧ x70 = j68) ?_ ?_
     ·skip
      refine cw_regF ?_
      refine s_fa rfl Tryz.underlying39 rfl Tryz.sizeOf3 rfl ?_
      refine s_ld rfl (hW61.cells.at 0 rfl) Tryz.isAgg3 rfl ?_
      refine s_fa rfl Tryz.underlying39 rfl Tryz.sizeOf3 rfl ?_
      refine s_ld rfl (hW65.cells.at 0 rfl) Tryz.isAgg3 rfl ?_
      refine s_neq rfl rfl rfl ?_
      refine s_mv rfl rfl ?_
      refine Reg.gsplit (t := 63) rfl (fun hg74 => ?_) (fun hg74 => ?_)
      ·replace h69 := cdT hg74 h69
       refine Reg.pass rfl rfl rfl rfl ?_
       refine Reg.pass rfl rfl rfl rfl ?_
       refine Reg.pass rfl rfl rfl rfl ?_
       refine Reg.pass rfl rfl rfl rfl ?_
       refine Reg.pass rfl rfl rfl rfl ?_
       refine s_pkT rfl rfl rfl ?_
       refine s_mv rfl rfl ?_
       refine Reg.pass rfl rfl rfl rfl ?_
       refine Reg.pass rfl rfl rfl rfl ?_
       refine Reg.pass rfl rfl rfl rfl ?_
       refine Reg.pass rfl rfl rfl rfl ?_
       refine Reg.pass rfl rfl rfl rfl ?_
       refine Reg.pass rfl rfl rfl rfl ?_
       refine Reg.pass rfl rfl rfl rfl ?_
       refine s_pkT rfl rfl rfl ?_
       refine Reg.nil ?_
       obtain rfl := Option.some.inj h69
       refine ⟨rfl, true, ⟨rfl, rfl⟩, Sub.cons rfl (Sub.cons rfl (Sub.cons rfl (Sub.cons rfl (Sub.cons rfl (Sub.cons rfl (Sub.nil _))))))⟩
      ·replace h69 := cdF hg74 h69
       refine Reg.take rfl rfl ?_
       refine s_fa rfl Tryz.underlying39 rfl Tryz.sizeOf3 rfl ?_
       refine Reg.take rfl rfl ?_
       refine s_ld rfl (hW61.cells.at 1 rfl) Tryz.isAgg3 rfl ?_
       refine Reg.take rfl rfl ?_
       refine s_fa rfl Tryz.underlying39 rfl Tryz.sizeOf3 rfl ?_
       refine Reg.take rfl rfl ?_
       refine s_ld rfl (hW65.cells.at 1 rfl) Tryz.isAgg3 rfl ?_
       refine Reg.take rfl rfl ?_
       refine s_neq rfl rfl rfl ?_
       refine s_pkF rfl rfl rfl ?_
       refine s_mv rfl rfl ?_
       refine Reg.gsplit (t := 70) rfl (fun hg75 => ?_) (fun hg75 => ?_)
       ·replace h69 := cdT hg75 h69
        refine Reg.pass rfl rfl rfl rfl ?_
        refine Reg.pass rfl rfl rfl rfl ?_
        refine Reg.pass rfl rfl rfl rfl ?_
        refine Reg.pass rfl rfl rfl rfl ?_
        refine Reg.pass rfl rfl rfl rfl ?_
        refine Reg.pass rfl rfl rfl rfl ?_
        refine Reg.pass rfl rfl rfl rfl ?_
        refine s_pkT rfl rfl rfl ?_
        refine Reg.nil ?_
        obtain rfl := Option.some.inj h69
        refine ⟨rfl, true, ⟨rfl, rfl⟩, Sub.cons rfl (Sub.cons rfl (Sub.cons rfl (Sub.cons rfl (Sub.cons rfl (Sub.cons rfl (Sub.nil _))))))⟩
       ·replace h69 := cdF hg75 h69
        refine Reg.take rfl rfl ?_
        refine s_fa rfl Tryz.underlying39 rfl Tryz.sizeOf37 rfl ?_
        refine Reg.take rfl rfl ?_
        refine s_ld rfl (hW61.cells.at 2 rfl) Tryz.isAgg37 rfl ?_
        refine Reg.take rfl rfl ?_
        refine s_len rfl (hf46.adv (Adv.of_ext e58)) Tryz.underlying37 rfl ?_
        refine Reg.take rfl rfl ?_
        refine s_fa rfl Tryz.underlying39 rfl Tryz.sizeOf37 rfl ?_
        refine Reg.take rfl rfl ?_
        refine s_ld rfl (hW65.cells.at 2 rfl) Tryz.isAgg37 rfl ?_
        refine Reg.take rfl rfl ?_
        refine s_len rfl (hf56.adv (Adv.of_ext e58)) Tryz.underlying37 rfl ?_
        refine Reg.take rfl rfl ?_
        refine s_neq rfl rfl rfl ?_
        refine s_pkF rfl rfl rfl ?_
        refine Reg.nil ?_
        obtain rfl := Option.some.inj h69
        refine ⟨rfl, !decide ((y37.scales.length : Int) = (y47.scales.length : Int)), ⟨rfl, rfl⟩, Sub.cons rfl (Sub.cons rfl (Sub.cons rfl (Sub.cons rfl (Sub.cons rfl (Sub.cons rfl (Sub.nil _))))))⟩
     ·skip
      rintro x70 _ ⟨rfl, rfl⟩
      refine cw_cond rfl (fun hc76 => ?_) (fun hc76 => ?_)
      ·replace h34 := cdT hc76 h34
       refine cw_seq (cw_regF ?_)
       refine s_as rfl rfl ?_
       refine Reg.nil ?_
       refine cw_ret ?_
       obtain rfl := Option.some.inj h34
       obtain rfl := hR35 _ rfl
       replace h := elimR h
       obtain rfl := Option.some.inj h
       refine fin1 Tryz.results9 rfl ?_
       exact ⟨rfl, hI67.kp⟩
      ·replace h34 := cdF hc76 h34
       refine cw_skip (cw_seq (cw_regF ?_))
       refine s_as rfl rfl ?_
       refine Reg.nil ?_
       obtain ⟨j77, h78, h34⟩ := bnd h34
       refine cw_sub (L := [(6, _), (7, _), (8, _), (2, _), (3, _), (5, _)]) (Sub.cons rfl (Sub.cons rfl (Sub.cons rfl (Sub.cons rfl (Sub.cons rfl (Sub.cons rfl (Sub.nil _))))))) ?_
       refine cw_unitD 3 (ι := Unit) (fun _ => []) (fun _ => fun w79 => Hp w [] M [] w79 ∧ Adv (mm [] M) (mm [] M) w57 w79 ∧ (.inl ()) = j77) ?_ ?_
       ·skip
        refine cw_block ?_
        refine cw_sub (L := [(8, _), (2, _), (3, _), (5, _), (6, _), (7, _)]) (Sub.cons rfl (Sub.cons rfl (Sub.cons rfl (Sub.cons rfl (Sub.cons rfl (Sub.cons rfl (Sub.nil _))))))) ?_
        refine cw_loopM 1 (ι := Int) _ (fun x82 => [(8, Value.int .i64 x82)]) (fun x82 => x82) (fun x82 => fun w84 => Hp w [] M [] w84 ∧ Adv (mm [] M) (mm [] M) w57 w84 ∧ InK .i64 x82) 0 h78 ⟨hI67, (Adv.refl _ _), (by decide)⟩ (Sub.cons rfl (Sub.cons rfl (Sub.cons rfl (Sub.cons rfl (Sub.cons rfl (Sub.cons rfl (Sub.nil _))))))) ?_
        rintro x82 w84 ⟨hI85, hA86, r83⟩ y87 h88 hR89
        refine cw_seq (cw_seq (cw_regF ?_))
        refine s_mv rfl rfl ?_
        refine s_fa rfl Tryz.underlying39 rfl Tryz.sizeOf37 rfl ?_
        refine s_ld rfl ((hW61.adv hA86).cells.at 2 rfl) Tryz.isAgg37 rfl ?_
        refine s_len rfl (hf46.adv ((Adv.of_ext e58).trans hA86)) Tryz.underlying37 rfl ?_
        refine s_lss rfl rfl rfl ?_
        refine Reg.nil ?_
        refine cw_cond rfl (fun hc90 => ?_) (fun hc90 => ?_)
        ·replace h88 := cdT hc90 h88
         refine cw_skip ?_
         refine cw_seq ?_
         refine cw_block ?_
         obtain ⟨j91, h92, h88⟩ := bnd h88
         refine cw_sub (L := [(2, _), (3, _), (5, _), (6, _), (7, _), (8, _)]) (Sub.cons rfl (Sub.cons rfl (Sub.cons rfl (Sub.cons rfl (Sub.cons rfl (Sub.cons rfl (Sub.nil _))))))) ?_
         refine cw_seqD 0 (ι := Bool) (fun x93 => [(130, Value.bool x93)]) (fun x93 => fun w94 => Hp w [] M [] w94 ∧ Adv (mm [] M) (mm [] M) w84 w94 ∧ x93 = j91) ?_ ?_
         ·skip
          refine cw_regT fol (by kernel_rfl) ?_
          refine s_fa rfl Tryz.underlying39 rfl Tryz.sizeOf37 rfl ?_
          refine s_ld rfl ((hW61.adv hA86).cells.at 2 rfl) Tryz.isAgg37 rfl ?_
          refine s_mv rfl rfl ?_
          obtain ⟨y97, hy97, h92⟩ := bnd h92
          refine p_ia rfl rfl (hf46.adv ((Adv.of_ext e58).trans hA86)) hy97 Tryz.underlying37 Tryz.sizeOf41 rfl ?_
          intro b98 o99 cs100 hR101 hC102
          obtain ⟨v103, v105, rfl, hf104, hf106, r107⟩ := ScaleE_R.1 hR101
          refine s_fa rfl Tryz.underlying41 rfl Tryz.sizeOf3 rfl ?_
          refine s_ld rfl (hC102.cells.at 2 rfl) Tryz.isAgg3 rfl ?_
          refine s_fa rfl Tryz.underlying39 rfl Tryz.sizeOf37 rfl ?_
          refine s_ld rfl ((hW65.adv hA86).cells.at 2 rfl) Tryz.isAgg37 rfl ?_
          refine s_mv rfl rfl ?_
          obtain ⟨y108, hy108, h92⟩ := bnd h92
          refine p_ia rfl rfl (hf56.adv ((Adv.of_ext e58).trans hA86)) hy108 Tryz.underlying37 Tryz.sizeOf41 rfl ?_
          intro b109 o110 cs111 hR112 hC113
          obtain ⟨v114, v116, rfl, hf115, hf117, r118⟩ := ScaleE_R.1 hR112
          refine s_fa rfl Tryz.underlying41 rfl Tryz.sizeOf3 rfl ?_
          refine s_ld rfl (hC113.cells.at 2 rfl) Tryz.isAgg3 rfl ?_
          refine s_neq rfl rfl rfl ?_
          refine s_mv rfl rfl ?_
          refine Reg.gsplit (t := 99) rfl (fun hg119 => ?_) (fun hg119 => ?_)
          ·replace h92 := cdT hg119 h92
           refine Reg.pass rfl rfl rfl rfl ?_
           refine Reg.pass rfl rfl rfl rfl ?_
           refine Reg.pass rfl rfl rfl rfl ?_
           refine Reg.pass rfl rfl rfl rfl ?_
           refine Reg.pass rfl rfl rfl rfl ?_
           refine Reg.pass rfl rfl rfl rfl ?_
           refine Reg.pass rfl rfl rfl rfl ?_
           refine Reg.pass rfl rfl rfl rfl ?_
           refine Reg.pass rfl rfl rfl rfl ?_
           refine Reg.pass rfl rfl rfl rfl ?_
           refine Reg.pass rfl rfl rfl rfl ?_
           refine Reg.pass rfl rfl rfl rfl ?_
           refine Reg.pass rfl rfl rfl rfl ?_
           refine Reg.pass rfl rfl rfl rfl ?_
           refine s_pkT rfl rfl rfl ?_
           refine s_mv rfl rfl ?_
           refine Reg.pass rfl rfl rfl rfl ?_
           refine Reg.pass rfl rfl rfl rfl ?_
           refine Reg.pass rfl rfl rfl rfl ?_
           refine Reg.pass rfl rfl rfl rfl ?_
           refine Reg.pass rfl rfl rfl rfl ?_
           refine Reg.pass rfl rfl rfl rfl ?_
           refine Reg.pass rfl rfl rfl rfl ?_
           refine Reg.pass rfl rfl rfl rfl ?_
           refine Reg.pass rfl rfl rfl rfl ?_
           refine Reg.pass rfl rfl rfl rfl ?_
           refine Reg.pass rfl rfl rfl rfl ?_
           refine Reg.pass rfl rfl rfl rfl ?_
           refine Reg.pass rfl rfl rfl rfl ?_
           refine Reg.pass rfl rfl rfl rfl ?_
           refine s_pkT rfl rfl rfl ?_
           refine Reg.nilq (fun w120 e121 => ?_)
           have hI122 := hI85.ext e121
           obtain rfl := Option.some.inj h92
           refine ⟨rfl, true, ⟨hI122, (Adv.of_ext e121), rfl⟩, Sub.cons rfl (Sub.cons rfl (Sub.cons rfl (Sub.cons rfl (Sub.cons rfl (Sub.cons rfl (Sub.cons rfl (Sub.nil _)))))))⟩
          ·replace h92 := cdF hg119 h92
           refine Reg.take rfl rfl ?_
           refine s_fa rfl Tryz.underlying39 rfl Tryz.sizeOf37 rfl ?_
           refine Reg.take rfl rfl ?_
           refine s_ld rfl ((hW61.adv hA86).cells.at 2 rfl) Tryz.isAgg37 rfl ?_
           refine Reg.take rfl rfl ?_
           refine s_mv rfl rfl ?_
           refine Reg.take rfl rfl ?_
           obtain ⟨y123, hy123, h92⟩ := bnd h92
           refine p_ia rfl rfl (hf46.adv ((Adv.of_ext e58).trans hA86)) hy123 Tryz.underlying37 Tryz.sizeOf41 rfl ?_
           intro b124 o125 cs126 hR127 hC128
           obtain ⟨v129, v131, rfl, hf130, hf132, r133⟩ := ScaleE_R.1 hR127
           refine Reg.take rfl rfl ?_
           refine s_fa rfl Tryz.underlying41 rfl Tryz.sizeOf26 rfl ?_
           refine Reg.take rfl rfl ?_
           refine s_ld rfl (hC128.cells.at 0 rfl) Tryz.isAgg26 rfl ?_
           refine Reg.take rfl rfl ?_
           refine s_fa rfl Tryz.underlying39 rfl Tryz.sizeOf37 rfl ?_
           refine Reg.take rfl rfl ?_
           refine s_ld rfl ((hW65.adv hA86).cells.at 2 rfl) Tryz.isAgg37 rfl ?_
           refine Reg.take rfl rfl ?_
           refine s_mv rfl rfl ?_
           refine Reg.take rfl rfl ?_
           obtain ⟨y134, hy134, h92⟩ := bnd h92
           refine p_ia rfl rfl (hf56.adv ((Adv.of_ext e58).trans hA86)) hy134 Tryz.underlying37 Tryz.sizeOf41 rfl ?_
           intro b135 o136 cs137 hR138 hC139
           obtain ⟨v140, v142, rfl, hf141, hf143, r144⟩ := ScaleE_R.1 hR138
           refine Reg.take rfl rfl ?_
           refine s_fa rfl Tryz.underlying41 rfl Tryz.sizeOf26 rfl ?_
           refine Reg.take rfl rfl ?_
           refine s_ld rfl (hC139.cells.at 0 rfl) Tryz.isAgg26 rfl ?_
           refine Reg.take rfl rfl ?_
           obtain ⟨z145, hz146, h92⟩ := bnd h92
           refine s_callq rfl rfl Tryz.call20 rfl (fun w147 e148 => (C_ref06_ints (hI85.mlt.ext e148) (hf130.adv (Adv.of_ext e148)) (hf141.adv (Adv.of_ext e148)) hz146).mono (fun _ _ hq => ⟨hq.1, hq.2⟩)) ?_
           refine Reg.take rfl rfl ?_
           refine s_not rfl rfl ?_
           refine s_pkF rfl rfl rfl ?_
           refine s_mv rfl rfl ?_
           refine Reg.gsplit (t := 115) rfl (fun hg149 => ?_) (fun hg149 => ?_)
           ·replace h92 := cdT hg149 h92
            refine Reg.pass rfl rfl rfl rfl ?_
            refine Reg.pass rfl rfl rfl rfl ?_
            refine Reg.pass rfl rfl rfl rfl ?_
            refine Reg.pass rfl rfl rfl rfl ?_
            refine Reg.pass rfl rfl rfl rfl ?_
            refine Reg.pass rfl rfl rfl rfl ?_
            refine Reg.pass rfl rfl rfl rfl ?_
            refine Reg.pass rfl rfl rfl rfl ?_
            refine Reg.pass rfl rfl rfl rfl ?_
            refine Reg.pass rfl rfl rfl rfl ?_
            refine Reg.pass rfl rfl rfl rfl ?_
            refine Reg.pass rfl rfl rfl rfl ?_
            refine Reg.pass rfl rfl rfl rfl ?_
            refine Reg.pass rfl rfl rfl rfl ?_
            refine s_pkT rfl rfl rfl ?_
            refine Reg.nilq (fun w150 e151 => ?_)
            have hI152 := hI85.ext e151
            obtain rfl := Option.some.inj h92
            refine ⟨rfl, true, ⟨hI152, (Adv.of_ext e151), rfl⟩, Sub.cons rfl (Sub.cons rfl (Sub.cons rfl (Sub.cons rfl (Sub.cons rfl (Sub.cons rfl (Sub.cons rfl (Sub.nil _)))))))⟩
           ·replace h92 := cdF hg149 h92
            refine Reg.take rfl rfl ?_
            refine s_fa rfl Tryz.underlying39 rfl Tryz.sizeOf37 rfl ?_
            refine Reg.take rfl rfl ?_
            refine s_ld rfl ((hW61.adv hA86).cells.at 2 rfl) Tryz.isAgg37 rfl ?_
            refine Reg.take rfl rfl ?_
            refine s_mv rfl rfl ?_
            refine Reg.take rfl rfl ?_
            obtain ⟨y153, hy153, h92⟩ := bnd h92
            refine p_ia rfl rfl (hf46.adv ((Adv.of_ext e58).trans hA86)) hy153 Tryz.underlying37 Tryz.sizeOf41 rfl ?_
            intro b154 o155 cs156 hR157 hC158
            obtain ⟨v159, v161, rfl, hf160, hf162, r163⟩ := ScaleE_R.1 hR157
            refine Reg.take rfl rfl ?_
            refine s_fa rfl Tryz.underlying41 rfl Tryz.sizeOf26 rfl ?_
            refine Reg.take rfl rfl ?_
            refine s_ld rfl (hC158.cells.at 1 rfl) Tryz.isAgg26 rfl ?_
            refine Reg.take rfl rfl ?_
            refine s_fa rfl Tryz.underlying39 rfl Tryz.sizeOf37 rfl ?_
            refine Reg.take rfl rfl ?_
            refine s_ld rfl ((hW65.adv hA86).cells.at 2 rfl) Tryz.isAgg37 rfl ?_
            refine Reg.take rfl rfl ?_
            refine s_mv rfl rfl ?_
            refine Reg.take rfl rfl ?_
            obtain ⟨y164, hy164, h92⟩ := bnd h92
            refine p_ia rfl rfl (hf56.adv ((Adv.of_ext e58).trans hA86)) hy164 Tryz.underlying37 Tryz.sizeOf41 rfl ?_
            intro b165 o166 cs167 hR168 hC169
            obtain ⟨v170, v172, rfl, hf171, hf173, r174⟩ := ScaleE_R.1 hR168
            refine Reg.take rfl rfl ?_
            refine s_fa rfl Tryz.underlying41 rfl Tryz.sizeOf26 rfl ?_
            refine Reg.take rfl rfl ?_
            refine s_ld rfl (hC169.cells.at 1 rfl) Tryz.isAgg26 rfl ?_
            refine Reg.take rfl rfl ?_
            obtain ⟨z175, hz176, h92⟩ := bnd h92
            refine s_callq rfl rfl Tryz.call20 rfl (fun w177 e178 => (C_ref06_ints (hI85.mlt.ext e178) (hf162.adv (Adv.of_ext e178)) (hf173.adv (Adv.of_ext e178)) hz176).mono (fun _ _ hq => ⟨hq.1, hq.2⟩)) ?_
            refine Reg.take rfl rfl ?_
            refine s_not rfl rfl ?_
            refine s_pkF rfl rfl rfl ?_
            refine Reg.nilq (fun w179 e180 => ?_)
            have hI181 := hI85.ext e180
            obtain rfl := Option.some.inj h92
            refine ⟨rfl, !z175, ⟨hI181, (Adv.of_ext e180), rfl⟩, Sub.cons rfl (Sub.cons rfl (Sub.cons rfl (Sub.cons rfl (Sub.cons rfl (Sub.cons rfl (Sub.cons rfl (Sub.nil _)))))))⟩
         ·skip
          rintro x93 w94 ⟨hI95, hA96, rfl⟩
          refine cw_cond rfl (fun hc182 => ?_) (fun hc182 => ?_)
          ·replace h88 := cdT hc182 h88
           refine cw_seq (cw_regF ?_)
           refine s_as rfl rfl ?_
           refine Reg.nil ?_
           refine cw_ret ?_
           obtain rfl := Option.some.inj h88
           obtain rfl := hR89 _ rfl
           replace h34 := elimR h34
           obtain rfl := Option.some.inj h34
           obtain rfl := hR35 _ rfl
           replace h := elimR h
           obtain rfl := Option.some.inj h
           refine fin1 Tryz.results9 rfl ?_
           exact ⟨rfl, hI95.kp⟩
          ·replace h88 := cdF hc182 h88
           refine cw_skip ?_
           refine cw_regF ?_
           refine s_mv rfl rfl ?_
           obtain ⟨n183, hn183, h88⟩ := bnd h88
           replace hn183 := chk_out hn183
           refine p_add rfl rfl rfl hn183 ?_
           refine s_as rfl rfl ?_
           refine Reg.nil ?_
           obtain rfl := Option.some.inj h88
           refine ⟨rfl, n183, ⟨⟨hI95, (hA86.trans hA96), hn183.2⟩, rfl⟩, Sub.cons rfl (Sub.cons rfl (Sub.cons rfl (Sub.cons rfl (Sub.cons rfl (Sub.cons rfl (Sub.nil _))))))⟩
        ·replace h88 := cdF hc90 h88
         refine cw_exit ?_
         refine exB_same ?_
         obtain rfl := Option.some.inj h88
         obtain rfl := hR89 _ rfl
         refine ⟨rfl, (), ⟨hI85, hA86, rfl⟩, Sub.cons rfl (Sub.cons rfl (Sub.cons rfl (Sub.nil _)))⟩
       ·skip
        rintro _ w79 ⟨hI80, hA81, rfl⟩
        replace h34 := elimL h34
        refine cw_regF ?_
        refine s_mv rfl rfl ?_
        obtain ⟨n184, hn184, h34⟩ := bnd h34
        replace hn184 := chk_out hn184
        refine p_add rfl rfl rfl hn184 ?_
        refine s_as rfl rfl ?_
        refine Reg.nil ?_
        obtain rfl := Option.some.inj h34
        refine ⟨rfl, n184, ⟨⟨hI80, (hA32.trans ((Adv.of_ext e58).trans hA81)), hn184.2⟩, rfl⟩, Sub.cons rfl (Sub.cons rfl (Sub.cons rfl (Sub.nil _)))⟩
    ·replace h34 := cdF hc36 h34
     refine cw_exit ?_
     refine exB_same ?_
     obtain rfl := Option.some.inj h34
     obtain rfl := hR35 _ rfl
     refine ⟨rfl, (), ⟨hI31, hA32, rfl⟩, Sub.cons rfl (Sub.cons rfl (Sub.nil _))⟩
   ·skip
    rintro _ w25 ⟨hI26, hA27, rfl⟩
    replace h := elimL h
    refine cw_seq (cw_seq (cw_regF ?_))
    refine s_as rfl rfl ?_
    refine Reg.nil ?_
    obtain ⟨j185, h186, h⟩ := bnd h
    refine cw_sub (L := [(2, _), (3, _), (9, _)]) (Sub.cons rfl (Sub.cons rfl (Sub.cons rfl (Sub.nil _)))) ?_
    refine cw_unitD 3 (ι := Unit) (fun _ => []) (fun _ => fun w187 => Hp w [] M [] w187 ∧ Adv (mm [] M) (mm [] M) w25 w187 ∧ (.inl ()) = j185) ?_ ?_
    ·skip
     refine cw_block ?_
     refine cw_sub (L := [(9, _), (2, _), (3, _)]) (Sub.cons rfl (Sub.cons rfl (Sub.cons rfl (Sub.nil _)))) ?_
     refine cw_loopM 1 (ι := Int) _ (fun x190 => [(9, Value.int .i64 x190)]) (fun x190 => x190) (fun x190 => fun w192 => Hp w [] M [] w192 ∧ Adv (mm [] M) (mm [] M) w25 w192 ∧ InK .i64 x190) 0 h186 ⟨hI26, (Adv.refl _ _), (by decide)⟩ (Sub.cons rfl (Sub.cons rfl (Sub.cons rfl (Sub.nil _)))) ?_
     rintro x190 w192 ⟨hI193, hA194, r191⟩ y195 h196 hR197
     refine cw_seq (cw_seq (cw_regF ?_))
     refine s_mv rfl rfl ?_
     refine s_fa rfl Tryz.underlying25 rfl Tryz.sizeOf23 rfl ?_
     refine s_ld rfl ((hC6.adv (x10.trans ((Hp.eraseA (σ := [rowR 25 b7 [Value.int .i64 b.traits, v_b_1, v_b_2, Value.int .i64 b.need]]) 0).trans (hA27.trans hA194)))).cells.at 2 rfl) Tryz.isAgg23 rfl ?_
     refine s_len rfl (f_a_2.adv hI193.adv) Tryz.underlying23 rfl ?_
     refine s_lss rfl rfl rfl ?_
     refine Reg.nil ?_
     refine cw_cond rfl (fun hc198 => ?_) (fun hc198 => ?_)
     ·replace h196 := cdT hc198 h196
      refine cw_skip ?_
      refine cw_seq ?_
      refine cw_block ?_
      refine cw_seq ?_
      obtain ⟨j199, h200, h196⟩ := bnd h196
      refine cw_sub (L := [(2, _), (3, _), (9, _)]) (Sub.cons rfl (Sub.cons rfl (Sub.cons rfl (Sub.nil _)))) ?_
      refine cw_seqD 0 (ι := Bool) (fun x201 => [(167, Value.bool x201)]) (fun x201 => fun w202 => Hp w [] M [] w202 ∧ Adv (mm [] M) (mm [] M) w192 w202 ∧ x201 = j199) ?_ ?_
      ·skip
       refine cw_regT fol (by kernel_rfl) ?_
       refine s_fa rfl Tryz.underlying25 rfl Tryz.sizeOf23 rfl ?_
       refine s_ld rfl ((hC6.adv (x10.trans ((Hp.eraseA (σ := [rowR 25 b7 [Value.int .i64 b.traits, v_b_1, v_b_2, Value.int .i64 b.need]]) 0).trans (hA27.trans hA194)))).cells.at 2 rfl) Tryz.isAgg23 rfl ?_
       refine s_mv rfl rfl ?_
       obtain ⟨y205, hy205, h200⟩ := bnd h200
       refine p_ia rfl rfl (f_a_2.adv hI193.adv) hy205 Tryz.underlying23 Tryz.sizeOf44 rfl ?_
       intro b206 o207 cs208 hR209 hC210
       obtain ⟨v212, rfl, r211, hf213⟩ := TreeE_R.1 hR209
       refine s_fa rfl Tryz.underlying44 rfl Tryz.sizeOf3 rfl ?_
       refine s_ld rfl (hC210.cells.at 0 rfl) Tryz.isAgg3 rfl ?_
       refine s_fa rfl Tryz.underlying25 rfl Tryz.sizeOf23 rfl ?_
       refine s_ld rfl ((hC12.adv (hA27.trans hA194)).cells.at 2 rfl) Tryz.isAgg23 rfl ?_
       refine s_mv rfl rfl ?_
       obtain ⟨y214, hy214, h200⟩ := bnd h200
       refine p_ia rfl rfl (f_b_2.adv hI193.adv) hy214 Tryz.underlying23 Tryz.sizeOf44 rfl ?_
       intro b215 o216 cs217 hR218 hC219
       obtain ⟨v221, rfl, r220, hf222⟩ := TreeE_R.1 hR218
       refine s_fa rfl Tryz.underlying44 rfl Tryz.sizeOf3 rfl ?_
       refine s_ld rfl (hC219.cells.at 0 rfl) Tryz.isAgg3 rfl ?_
       refine s_neq rfl rfl rfl ?_
       refine s_mv rfl rfl ?_
       refine Reg.gsplit (t := 151) rfl (fun hg223 => ?_) (fun hg223 => ?_)
       ·replace h200 := cdT hg223 h200
        refine Reg.pass rfl rfl rfl rfl ?_
        refine Reg.pass rfl rfl rfl rfl ?_
        refine Reg.pass rfl rfl rfl rfl ?_
        refine Reg.pass rfl rfl rfl rfl ?_
        refine Reg.pass rfl rfl rfl rfl ?_
        refine Reg.pass rfl rfl rfl rfl ?_
        refine Reg.pass rfl rfl rfl rfl ?_
        refine Reg.pass rfl rfl rfl rfl ?_
        refine Reg.pass rfl rfl rfl rfl ?_
        refine Reg.pass rfl rfl rfl rfl ?_
        refine Reg.pass rfl rfl rfl rfl ?_
        refine Reg.pass rfl rfl rfl rfl ?_
        refine Reg.pass rfl rfl rfl rfl ?_
        refine Reg.pass rfl rfl rfl rfl ?_
        refine Reg.pass rfl rfl rfl rfl ?_
        refine s_pkT rfl rfl rfl ?_
        refine Reg.nilq (fun w224 e225 => ?_)
        have hI226 := hI193.ext e225
        obtain rfl := Option.some.inj h200
        refine ⟨rfl, true, ⟨hI226, (Adv.of_ext e225), rfl⟩, Sub.cons rfl (Sub.cons rfl (Sub.cons rfl (Sub.cons rfl (Sub.nil _))))⟩
       ·replace h200 := cdF hg223 h200
        refine Reg.take rfl rfl ?_
        refine s_fa rfl Tryz.underlying25 rfl Tryz.sizeOf23 rfl ?_
        refine Reg.take rfl rfl ?_
        refine s_ld rfl ((hC6.adv (x10.trans ((Hp.eraseA (σ := [rowR 25 b7 [Value.int .i64 b.traits, v_b_1, v_b_2, Value.int .i64 b.need]]) 0).trans (hA27.trans hA194)))).cells.at 2 rfl) Tryz.isAgg23 rfl ?_
        refine Reg.take rfl rfl ?_
        refine s_mv rfl rfl ?_
        refine Reg.take rfl rfl ?_
        obtain ⟨y227, hy227, h200⟩ := bnd h200
        refine p_ia rfl rfl (f_a_2.adv hI193.adv) hy227 Tryz.underlying23 Tryz.sizeOf44 rfl ?_
        intro b228 o229 cs230 hR231 hC232
        obtain ⟨v234, rfl, r233, hf235⟩ := TreeE_R.1 hR231
        refine Reg.take rfl rfl ?_
        refine s_fa rfl Tryz.underlying44 rfl Tryz.sizeOf42 rfl ?_
        refine Reg.take rfl rfl ?_
        refine s_ld rfl (hC232.cells.at 1 rfl) Tryz.isAgg42 rfl ?_
        refine Reg.take rfl rfl ?_
        refine s_len rfl hf235 Tryz.underlying42 rfl ?_
        refine Reg.take rfl rfl ?_
        refine s_fa rfl Tryz.underlying25 rfl Tryz.sizeOf23 rfl ?_
        refine Reg.take rfl rfl ?_
        refine s_ld rfl ((hC12.adv (hA27.trans hA194)).cells.at 2 rfl) Tryz.isAgg23 rfl ?_
        refine Reg.take rfl rfl ?_
        refine s_mv rfl rfl ?_
        refine Reg.take rfl rfl ?_
        obtain ⟨y236, hy236, h200⟩ := bnd h200
        refine p_ia rfl rfl (f_b_2.adv hI193.adv) hy236 Tryz.underlying23 Tryz.sizeOf44 rfl ?_
        intro b237 o238 cs239 hR240 hC241
        obtain ⟨v243, rfl, r242, hf244⟩ := TreeE_R.1 hR240
        refine Reg.take rfl rfl ?_
        refine s_fa rfl Tryz.underlying44 rfl Tryz.sizeOf42 rfl ?_
        refine Reg.take rfl rfl ?_
        refine s_ld rfl (hC241.cells.at 1 rfl) Tryz.isAgg42 rfl ?_
        refine Reg.take rfl rfl ?_
        refine s_len rfl hf244 Tryz.underlying42 rfl ?_
        refine Reg.take rfl rfl ?_
        refine s_neq rfl rfl rfl ?_
        refine s_pkF rfl rfl rfl ?_
        refine Reg.nilq (fun w245 e246 => ?_)
        have hI247 := hI193.ext e246
        obtain rfl := Option.some.inj h200
        refine ⟨rfl, !decide ((y227.nodes.length : Int) = (y236.nodes.length : Int)), ⟨hI247, (Adv.of_ext e246), rfl⟩, Sub.cons rfl (Sub.cons rfl (Sub.cons rfl (Sub.cons rfl (Sub.nil _))))⟩
      ·skip
       rintro x201 w202 ⟨hI203, hA204, rfl⟩
       refine cw_cond rfl (fun hc248 => ?_) (fun hc248 => ?_)
       ·replace h196 := cdT hc248 h196
        refine cw_seq (cw_regF ?_)
        refine s_as rfl rfl ?_
        refine Reg.nil ?_
        refine cw_ret ?_
        obtain rfl := Option.some.inj h196
        obtain rfl := hR197 _ rfl
        replace h := elimR h
        obtain rfl := Option.some.inj h
        refine fin1 Tryz.results9 rfl ?_
        exact ⟨rfl, hI203.kp⟩
       ·replace h196 := cdF hc248 h196
        refine cw_skip (cw_seq (cw_regF ?_))
        refine s_as rfl rfl ?_
        refine Reg.nil ?_
        obtain ⟨j249, h250, h196⟩ := bnd h196
        refine cw_sub (L := [(10, _), (2, _), (3, _), (9, _)]) (Sub.cons rfl (Sub.cons rfl (Sub.cons rfl (Sub.cons rfl (Sub.nil _))))) ?_
        refine cw_unitD 1 (ι := Unit) (fun _ => []) (fun _ => fun w251 => Hp w [] M [] w251 ∧ Adv (mm [] M) (mm [] M) w202 w251 ∧ (.inl ()) = j249) ?_ ?_
        ·skip
         refine cw_block ?_
         refine cw_sub (L := [(10, _), (2, _), (3, _), (9, _)]) (Sub.cons rfl (Sub.cons rfl (Sub.cons rfl (Sub.cons rfl (Sub.nil _))))) ?_
         refine cw_loopM 1 (ι := Int) _ (fun x254 => [(10, Value.int .i64 x254)]) (fun x254 => x254) (fun x254 => fun w256 => Hp w [] M [] w256 ∧ Adv (mm [] M) (mm [] M) w202 w256 ∧ InK .i64 x254) 0 h250 ⟨hI203, (Adv.refl _ _), (by decide)⟩ (Sub.cons rfl (Sub.cons rfl (Sub.cons rfl (Sub.cons rfl (Sub.nil _))))) ?_
         rintro x254 w256 ⟨hI257, hA258, r255⟩ y259 h260 hR261
         refine cw_seq (cw_seq (cw_regF ?_))
         refine s_mv rfl rfl ?_
         refine s_fa rfl Tryz.underlying25 rfl Tryz.sizeOf23 rfl ?_
         refine s_ld rfl ((hC6.adv (x10.trans ((Hp.eraseA (σ := [rowR 25 b7 [Value.int .i64 b.traits, v_b_1, v_b_2, Value.int .i64 b.need]]) 0).trans (hA27.trans (hA194.trans (hA204.trans hA258)))))).cells.at 2 rfl) Tryz.isAgg23 rfl ?_
         refine s_mv rfl rfl ?_
         obtain ⟨y262, hy262, h260⟩ := bnd h260
         refine p_ia rfl rfl (f_a_2.adv hI257.adv) hy262 Tryz.underlying23 Tryz.sizeOf44 rfl ?_
         intro b263 o264 cs265 hR266 hC267
         obtain ⟨v269, rfl, r268, hf270⟩ := TreeE_R.1 hR266
         refine s_fa rfl Tryz.underlying44 rfl Tryz.sizeOf42 rfl ?_
         refine s_ld rfl (hC267.cells.at 1 rfl) Tryz.isAgg42 rfl ?_
         refine s_len rfl hf270 Tryz.underlying42 rfl ?_
         refine s_lss rfl rfl rfl ?_
         refine Reg.nil ?_
         refine cw_cond rfl (fun hc271 => ?_) (fun hc271 => ?_)
         ·replace h260 := cdT hc271 h260
          refine cw_skip ?_
          refine cw_seq ?_
          refine cw_block ?_
          refine cw_seq ?_
          refine cw_regT fol (by kernel_rfl) ?_
          refine s_fa rfl Tryz.underlying25 rfl Tryz.sizeOf23 rfl ?_
          refine s_ld rfl ((hC6.adv (x10.trans ((Hp.eraseA (σ := [rowR 25 b7 [Value.int .i64 b.traits, v_b_1, v_b_2, Value.int .i64 b.need]]) 0).trans (hA27.trans (hA194.trans (hA204.trans hA258)))))).cells.at 2 rfl) Tryz.isAgg23 rfl ?_
          refine s_mv rfl rfl ?_
          obtain ⟨y272, hy272, h260⟩ := bnd h260
          refine p_ia rfl rfl (f_a_2.adv hI257.adv) hy272 Tryz.underlying23 Tryz.sizeOf44 rfl ?_
          intro b273 o274 cs275 hR276 hC277
          obtain ⟨v279, rfl, r278, hf280⟩ := TreeE_R.1 hR276
          refine s_fa rfl Tryz.underlying44 rfl Tryz.sizeOf42 rfl ?_
          refine s_ld rfl (hC277.cells.at 1 rfl) Tryz.isAgg42 rfl ?_
          refine s_mv rfl rfl ?_
          obtain ⟨y281, hy281, h260⟩ := bnd h260
          refine p_ia rfl rfl hf280 hy281 Tryz.underlying42 Tryz.sizeOf66 rfl ?_
          intro b282 o283 cs284 hR285 hC286
          obtain ⟨rfl, r287, r288, r289, r290, r291⟩ := NodeE_R.1 hR285
          refine s_lda rfl hC286.cells Tryz.isAgg66 rfl Tryz.sizeOf66 rfl ?_
          refine s_fa rfl Tryz.underlying25 rfl Tryz.sizeOf23 rfl ?_
          refine s_ld rfl ((hC12.adv (hA27.trans (hA194.trans (hA204.trans hA258)))).cells.at 2 rfl) Tryz.isAgg23 rfl ?_
          refine s_mv rfl rfl ?_
          obtain ⟨y292, hy292, h260⟩ := bnd h260
          refine p_ia rfl rfl (f_b_2.adv hI257.adv) hy292 Tryz.underlying23 Tryz.sizeOf44 rfl ?_
          intro b293 o294 cs295 hR296 hC297
          obtain ⟨v299, rfl, r298, hf300⟩ := TreeE_R.1 hR296
          refine s_fa rfl Tryz.underlying44 rfl Tryz.sizeOf42 rfl ?_
          refine s_ld rfl (hC297.cells.at 1 rfl) Tryz.isAgg42 rfl ?_
          refine s_mv rfl rfl ?_
          obtain ⟨y301, hy301, h260⟩ := bnd h260
          refine p_ia rfl rfl hf300 hy301 Tryz.underlying42 Tryz.sizeOf66 rfl ?_
          intro b302 o303 cs304 hR305 hC306
          obtain ⟨rfl, r307, r308, r309, r310, r311⟩ := NodeE_R.1 hR305
          refine s_lda rfl hC306.cells Tryz.isAgg66 rfl Tryz.sizeOf66 rfl ?_
          refine s_neS (Node_eq y281 y301) Tryz.eqGuardType66 rfl rfl rfl ?_
          refine Reg.nilq (fun w312 e313 => ?_)
          have hI314 := hI257.ext e313
          refine cw_cond rfl (fun hc315 => ?_) (fun hc315 => ?_)
          ·replace h260 := cdT hc315 h260
           refine cw_seq (cw_regF ?_)
           refine s_as rfl rfl ?_
           refine Reg.nil ?_
           refine cw_ret ?_
           obtain rfl := Option.some.inj h260
           obtain rfl := hR261 _ rfl
           replace h196 := elimR h196
           obtain rfl := Option.some.inj h196
           obtain rfl := hR197 _ rfl
           replace h := elimR h
           obtain rfl := Option.some.inj h
           refine fin1 Tryz.results9 rfl ?_
           exact ⟨rfl, hI314.kp⟩
          ·replace h260 := cdF hc315 h260
           refine cw_skip ?_
           refine cw_regF ?_
           refine s_mv rfl rfl ?_
           obtain ⟨n316, hn316, h260⟩ := bnd h260
           replace hn316 := chk_out hn316
           refine p_add rfl rfl rfl hn316 ?_
           refine s_as rfl rfl ?_
           refine Reg.nil ?_
           obtain rfl := Option.some.inj h260
           refine ⟨rfl, n316, ⟨⟨hI314, (hA258.trans (Adv.of_ext e313)), hn316.2⟩, rfl⟩, Sub.cons rfl (Sub.cons rfl (Sub.cons rfl (Sub.cons rfl (Sub.nil _))))⟩
         ·replace h260 := cdF hc271 h260
          refine cw_exit ?_
          refine exB_same ?_
          obtain rfl := Option.some.inj h260
          obtain rfl := hR261 _ rfl
          refine ⟨rfl, (), ⟨hI257, hA258, rfl⟩, Sub.cons rfl (Sub.cons rfl (Sub.cons rfl (Sub.nil _)))⟩
        ·skip
         rintro _ w251 ⟨hI252, hA253, rfl⟩
         replace h196 := elimL h196
         refine cw_regF ?_
         refine s_mv rfl rfl ?_
         obtain ⟨n317, hn317, h196⟩ := bnd h196
         replace hn317 := chk_out hn317
         refine p_add rfl rfl rfl hn317 ?_
         refine s_as rfl rfl ?_
         refine Reg.nil ?_
         obtain rfl := Option.some.inj h196
         refine ⟨rfl, n317, ⟨⟨hI252, (hA194.trans (hA204.trans hA253)), hn317.2⟩, rfl⟩, Sub.cons rfl (Sub.cons rfl (Sub.cons rfl (Sub.nil _)))⟩
     ·replace h196 := cdF hc198 h196
      refine cw_exit ?_
      refine exB_same ?_
      obtain rfl := Option.some.inj h196
      obtain rfl := hR197 _ rfl
      refine ⟨rfl, (), ⟨hI193, hA194, rfl⟩, Sub.nil _⟩
    ·skip
     rintro _ w187 ⟨hI188, hA189, rfl⟩
     replace h := elimL h
     refine cw_seq (cw_regF ?_)
     refine s_as rfl rfl ?_
     refine Reg.nil ?_
     refine cw_ret ?_
     obtain rfl := Option.some.inj h
     refine fin1 Tryz.results9 rfl ?_
     exact ⟨rfl, hI188.kp⟩
noncomputable def P.ref06_within (n : Int) (lo : Int) (hi : Int) : Option Bool :=
 Option.bind (cond (decide (lo ≤ n)) (some (decide (n ≤ hi))) (some false)) fun x2 => some x2
theorem C_ref06_within {M : List Nat} {w : World} (hM : MLt M w) {n : Int} (f_n_0 : InK .i64 n) {lo : Int} (f_lo_0 : InK .i64 lo) {hi : Int} (f_hi_0 : InK .i64 hi) {r0 : Bool} (h : P.ref06_within n lo hi = some r0) :
  Calls Tryz.prog 45 (List.toArray [Value.int .i64 n, Value.int .i64 lo, Value.int .i64 hi]) w fun e w' => e = .returned (Value.bool r0) ∧ Ext w w' := by
 have hI := Hp.start (Mu := []) hM
 refine calls_cw Tryz.func45 rfl Tryz.ntmps45 rfl ?_
 refine cw_seq (cw_regF ?_)
 refine s_as rfl rfl ?_
 refine Reg.nil ?_
 obtain ⟨j1, h2, h⟩ := bnd h
 refine cw_sub (L := [(0, _), (1, _), (2, _)]) (Sub.cons rfl (Sub.cons rfl (Sub.cons rfl (Sub.nil _)))) ?_
 refine cw_seqD 3 (ι := Bool) (fun x3 => [(6, Value.bool x3)]) (fun x3 => fun w4 => w = w4 ∧ x3 = j1) ?_ ?_
 ·skip
  refine cw_regF ?_
  refine s_mv rfl rfl ?_
  refine s_mv rfl rfl ?_
  refine s_geq rfl rfl rfl ?_
  refine s_mv rfl rfl ?_
  refine Reg.gsplit (t := 10) rfl (fun hg7 => ?_) (fun hg7 => ?_)
  ·replace h2 := cdT hg7 h2
   refine Reg.take rfl rfl ?_
   refine s_mv rfl rfl ?_
   refine Reg.take rfl rfl ?_
   refine s_mv rfl rfl ?_
   refine Reg.take rfl rfl ?_
   refine s_leq rfl rfl rfl ?_
   refine s_pkT rfl rfl rfl ?_
   refine s_as rfl rfl ?_
   refine Reg.nil ?_
   obtain rfl := Option.some.inj h2
   refine ⟨rfl, decide (n ≤ hi), ⟨rfl, rfl⟩, Sub.cons rfl (Sub.nil _)⟩
  ·replace h2 := cdF hg7 h2
   refine Reg.pass rfl rfl rfl rfl ?_
   refine Reg.pass rfl rfl rfl rfl ?_
   refine Reg.pass rfl rfl rfl rfl ?_
   refine s_pkF rfl rfl rfl ?_
   refine s_as rfl rfl ?_
   refine Reg.nil ?_
   obtain rfl := Option.some.inj h2
   refine ⟨rfl, false, ⟨rfl, rfl⟩, Sub.cons rfl (Sub.nil _)⟩
 ·skip
  rintro x3 _ ⟨rfl, rfl⟩
  refine cw_ret ?_
  obtain rfl := Option.some.inj h
  refine fin1 Tryz.results45 rfl ?_
  exact ⟨rfl, hI.kp⟩
noncomputable def P.ref06_points (n : Int) : Option Bool :=
 Option.bind (P.ref06_within n (-1000000) 1000000) fun z1 => some z1
theorem C_ref06_points {M : List Nat} {w : World} (hM : MLt M w) {n : Int} (f_n_0 : InK .i64 n) {r0 : Bool} (h : P.ref06_points n = some r0) :
  Calls Tryz.prog 46 (List.toArray [Value.int .i64 n]) w fun e w' => e = .returned (Value.bool r0) ∧ Ext w w' := by
 have hI := Hp.start (Mu := []) hM
 refine calls_cw Tryz.func46 rfl Tryz.ntmps46 rfl ?_
 refine cw_seq (cw_regF ?_)
 refine s_as rfl rfl ?_
 refine Reg.nil ?_
 refine cw_seq (cw_regF ?_)
 refine s_mv rfl rfl ?_
 obtain ⟨z1, hz2, h⟩ := bnd h
 refine s_call rfl Tryz.call45 rfl ?_
 refine (C_ref06_within hI.mlt f_n_0 (by decide) (by decide) hz2).mono ?_
 rintro _ w3 ⟨rfl, e4⟩
 refine ⟨_, rfl, ?_⟩
 have hI5 := hI.ext e4
 refine s_as rfl rfl ?_
 refine Reg.nil ?_
 refine cw_ret ?_
 obtain rfl := Option.some.inj h
 refine fin1 Tryz.results46 rfl ?_
 exact ⟨rfl, hI5.kp⟩
noncomputable def P.ref06_scale (s : Scale) : Option Bool :=
 Option.bind (cond (decide (3 < (s.cuts.length : Int))) (some true) (Option.bind (chk .i64 ((s.cuts.length : Int) + 1)) fun n8 => cond (!decide ((s.points.length : Int) = n8)) (some true) (Option.bind (P.ref06_points s.none_) fun z10 => some (!z10)))) fun x15 => cond x15 (some false) (Option.bind (loopM (S := Int) (R := (Unit) ⊕ (Bool)) (fun x17 => cond (decide (x17 < (s.cuts.length : Int))) (Option.bind (Option.bind (ixo s.cuts x17) fun y19 => Option.bind (P.ref06_within y19 1 1000000) fun z26 => cond (!z26) (some true) (cond (decide (0 < x17)) (Option.bind (ixo s.cuts x17) fun y35 => Option.bind (chk .i64 (x17 - 1)) fun n42 => Option.bind (ixo s.cuts n42) fun y43 => some (decide (y35 ≤ y43))) (some false))) fun x56 => cond x56 (some (.inr (.inr false))) (Option.bind (chk .i64 (x17 + 1)) fun n58 => some (.inl n58))) (some (.inr (.inl ())))) 0) fun j59 => Sum.elim (fun _ => Option.bind (loopM (S := Int) (R := (Unit) ⊕ (Bool)) (fun x60 => cond (decide (x60 < (s.points.length : Int))) (Option.bind (ixo s.points x60) fun y62 => Option.bind (P.ref06_points y62) fun z69 => cond (!z69) (some (.inr (.inr false))) (Option.bind (chk .i64 (x60 + 1)) fun n75 => some (.inl n75))) (some (.inr (.inl ())))) 0) fun j76 => Sum.elim (fun _ => some true) (fun r77 => some r77)  j76) (fun r78 => some r78)  j59)
theorem C_ref06_scale {M : List Nat} {w : World} (hM : MLt M w) {s : Scale} {v_s_0 : Value} {v_s_1 : Value} (f_s_0 : RdS (intE .i64) M w v_s_0 s.cuts) (f_s_1 : RdS (intE .i64) M w v_s_1 s.points) (f_s_2 : InK .i64 s.none_) {r0 : Bool} (h : P.ref06_scale s = some r0) :
  Calls Tryz.prog 69 (List.toArray [Value.agg (List.toArray [v_s_0, v_s_1, Value.int .i64 s.none_])]) w fun e w' => e = .returned (Value.bool r0) ∧ Ext w w' := by
 have hI := Hp.start (Mu := []) hM
 refine calls_cw Tryz.func69 rfl Tryz.ntmps69 rfl ?_
 refine cw_seq (cw_regF ?_)
 refine y_box hI rfl rfl rfl ?_
 intro b1 w2 hI3 x4
 have hC6 := hI3.freezeRow 0 rfl
 have hI5 := hI3.erase 0
 refine s_as rfl rfl ?_
 refine Reg.nil ?_
 refine cw_seq ?_
 obtain ⟨j7, h8, h⟩ := bnd h
 refine cw_sub (L := [(1, _)]) (Sub.cons rfl (Sub.nil _)) ?_
 refine cw_seqD 0 (ι := Bool) (fun x9 => [(24, Value.bool x9)]) (fun x9 => fun w10 => Hp w [] M [] w10 ∧ Adv (mm [] M) (mm [] M) w2 w10 ∧ x9 = j7) ?_ ?_
 ·skip
  refine cw_regF ?_
  refine s_fa rfl Tryz.underlying41 rfl Tryz.sizeOf26 rfl ?_
  refine s_ld rfl (hC6.cells.at 0 rfl) Tryz.isAgg26 rfl ?_
  refine s_len rfl (f_s_0.adv hI5.adv) Tryz.underlying26 rfl ?_
  refine s_gtr rfl rfl rfl ?_
  refine s_mv rfl rfl ?_
  refine Reg.gsplit (t := 9) rfl (fun hg13 => ?_) (fun hg13 => ?_)
  ·replace h8 := cdT hg13 h8
   refine Reg.pass rfl rfl rfl rfl ?_
   refine Reg.pass rfl rfl rfl rfl ?_
   refine Reg.pass rfl rfl rfl rfl ?_
   refine Reg.pass rfl rfl rfl rfl ?_
   refine Reg.pass rfl rfl rfl rfl ?_
   refine Reg.pass rfl rfl rfl rfl ?_
   refine Reg.pass rfl rfl rfl rfl ?_
   refine Reg.pass rfl rfl rfl rfl ?_
   refine s_pkT rfl rfl rfl ?_
   refine s_mv rfl rfl ?_
   refine Reg.pass rfl rfl rfl rfl ?_
   refine Reg.pass rfl rfl rfl rfl ?_
   refine Reg.pass rfl rfl rfl rfl ?_
   refine Reg.pass rfl rfl rfl rfl ?_
   refine s_pkT rfl rfl rfl ?_
   refine Reg.nil ?_
   obtain rfl := Option.some.inj h8
   refine ⟨rfl, true, ⟨hI5, (Adv.refl _ _), rfl⟩, Sub.cons rfl (Sub.cons rfl (Sub.nil _))⟩
  ·replace h8 := cdF hg13 h8
   refine Reg.take rfl rfl ?_
   refine s_fa rfl Tryz.underlying41 rfl Tryz.sizeOf26 rfl ?_
   refine Reg.take rfl rfl ?_
   refine s_ld rfl (hC6.cells.at 1 rfl) Tryz.isAgg26 rfl ?_
   refine Reg.take rfl rfl ?_
   refine s_len rfl (f_s_1.adv hI5.adv) Tryz.underlying26 rfl ?_
   refine Reg.take rfl rfl ?_
   refine s_fa rfl Tryz.underlying41 rfl Tryz.sizeOf26 rfl ?_
   refine Reg.take rfl rfl ?_
   refine s_ld rfl (hC6.cells.at 0 rfl) Tryz.isAgg26 rfl ?_
   refine Reg.take rfl rfl ?_
   refine s_len rfl (f_s_0.adv hI5.adv) Tryz.underlying26 rfl ?_
   refine Reg.take rfl rfl ?_
   obtain ⟨n14, hn14, h8⟩ := bnd h8
   replace hn14 := chk_out hn14
   refine p_add rfl rfl rfl hn14 ?_
   refine Reg.take rfl rfl ?_
   refine s_neq rfl rfl rfl ?_
   refine s_pkF rfl rfl rfl ?_
   refine s_mv rfl rfl ?_
   refine Reg.gsplit (t := 19) rfl (fun hg15 => ?_) (fun hg15 => ?_)
   ·replace h8 := cdT hg15 h8
    refine Reg.pass rfl rfl rfl rfl ?_
    refine Reg.pass rfl rfl rfl rfl ?_
    refine Reg.pass rfl rfl rfl rfl ?_
    refine Reg.pass rfl rfl rfl rfl ?_
    refine s_pkT rfl rfl rfl ?_
    refine Reg.nil ?_
    obtain rfl := Option.some.inj h8
    refine ⟨rfl, true, ⟨hI5, (Adv.refl _ _), rfl⟩, Sub.cons rfl (Sub.cons rfl (Sub.nil _))⟩
   ·replace h8 := cdF hg15 h8
    refine Reg.take rfl rfl ?_
    refine s_fa rfl Tryz.underlying41 rfl Tryz.sizeOf3 rfl ?_
    refine Reg.take rfl rfl ?_
    refine s_ld rfl (hC6.cells.at 2 rfl) Tryz.isAgg3 rfl ?_
    refine Reg.take rfl rfl ?_
    obtain ⟨z16, hz17, h8⟩ := bnd h8
    refine s_call rfl Tryz.call46 rfl ?_
    refine (C_ref06_points hI5.mlt f_s_2 hz17).mono ?_
    rintro _ w18 ⟨rfl, e19⟩
    refine ⟨_, rfl, ?_⟩
    have hI20 := hI5.ext e19
    refine Reg.take rfl rfl ?_
    refine s_not rfl rfl ?_
    refine s_pkF rfl rfl rfl ?_
    refine Reg.nil ?_
    obtain rfl := Option.some.inj h8
    refine ⟨rfl, !z16, ⟨hI20, (Adv.of_ext e19), rfl⟩, Sub.cons rfl (Sub.cons rfl (Sub.nil _))⟩
 ·skip
  rintro x9 w10 ⟨hI11, hA12, rfl⟩
  refine cw_cond rfl (fun hc21 => ?_) (fun hc21 => ?_)
  ·replace h := cdT hc21 h
   refine cw_seq (cw_regF ?_)
   refine s_as rfl rfl ?_
   refine Reg.nil ?_
   refine cw_ret ?_
   obtain rfl := Option.some.inj h
   refine fin1 Tryz.results69 rfl ?_
   exact ⟨rfl, hI11.kp⟩
  ·replace h := cdF hc21 h
   refine cw_skip (cw_seq (cw_seq (cw_regF ?_)))
   refine s_as rfl rfl ?_
   refine Reg.nil ?_
   obtain ⟨j22, h23, h⟩ := bnd h
   refine cw_sub (L := [(3, _), (1, _)]) (Sub.cons rfl (Sub.cons rfl (Sub.nil _))) ?_
   refine cw_unitD 1 (ι := Unit) (fun _ => []) (fun _ => fun w24 => Hp w [] M [] w24 ∧ Adv (mm [] M) (mm [] M) w10 w24 ∧ (.inl ()) = j22) ?_ ?_
   ·skip
    refine cw_block ?_
    refine cw_sub (L := [(3, _), (1, _)]) (Sub.cons rfl (Sub.cons rfl (Sub.nil _))) ?_
    refine cw_loopM 1 (ι := Int) _ (fun x27 => [(3, Value.int .i64 x27)]) (fun x27 => x27) (fun x27 => fun w29 => Hp w [] M [] w29 ∧ Adv (mm [] M) (mm [] M) w10 w29 ∧ InK .i64 x27) 0 h23 ⟨hI11, (Adv.refl _ _), (by decide)⟩ (Sub.cons rfl (Sub.cons rfl (Sub.nil _))) ?_
    rintro x27 w29 ⟨hI30, hA31, r28⟩ y32 h33 hR34
    refine cw_seq (cw_seq (cw_regF ?_))
    refine s_mv rfl rfl ?_
    refine s_fa rfl Tryz.underlying41 rfl Tryz.sizeOf26 rfl ?_
    refine s_ld rfl ((hC6.adv (hA12.trans hA31)).cells.at 0 rfl) Tryz.isAgg26 rfl ?_
    refine s_len rfl (f_s_0.adv hI30.adv) Tryz.underlying26 rfl ?_
    refine s_lss rfl rfl rfl ?_
    refine Reg.nil ?_
    refine cw_cond rfl (fun hc35 => ?_) (fun hc35 => ?_)
    ·replace h33 := cdT hc35 h33
     refine cw_skip ?_
     refine cw_seq ?_
     refine cw_block ?_
     obtain ⟨j36, h37, h33⟩ := bnd h33
     refine cw_sub (L := [(1, _), (3, _)]) (Sub.cons rfl (Sub.cons rfl (Sub.nil _))) ?_
     refine cw_seqD 0 (ι := Bool) (fun x38 => [(56, Value.bool x38)]) (fun x38 => fun w39 => Hp w [] M [] w39 ∧ Adv (mm [] M) (mm [] M) w29 w39 ∧ x38 = j36) ?_ ?_
     ·skip
      refine cw_regT fol (by kernel_rfl) ?_
      refine s_fa rfl Tryz.underlying41 rfl Tryz.sizeOf26 rfl ?_
      refine s_ld rfl ((hC6.adv (hA12.trans hA31)).cells.at 0 rfl) Tryz.isAgg26 rfl ?_
      refine s_mv rfl rfl ?_
      obtain ⟨y42, hy42, h37⟩ := bnd h37
      refine p_ia rfl rfl (f_s_0.adv hI30.adv) hy42 Tryz.underlying26 Tryz.sizeOf3 rfl ?_
      intro b43 o44 cs45 hR46 hC47
      obtain ⟨rfl, r48⟩ := hR46
      refine s_ld rfl (hC47.cells.at 0 rfl) Tryz.isAgg3 rfl ?_
      obtain ⟨z49, hz50, h37⟩ := bnd h37
      refine s_callq rfl rfl Tryz.call45 rfl (fun w51 e52 => (C_ref06_within (hI30.mlt.ext e52) r48 (by decide) (by decide) hz50).mono (fun _ _ hq => ⟨hq.1, hq.2⟩)) ?_
      refine s_not rfl rfl ?_
      refine s_mv rfl rfl ?_
      refine Reg.gsplit (t := 39) rfl (fun hg53 => ?_) (fun hg53 => ?_)
      ·replace h37 := cdT hg53 h37
       refine Reg.pass rfl rfl rfl rfl ?_
       refine Reg.pass rfl rfl rfl rfl ?_
       refine Reg.pass rfl rfl rfl rfl ?_
       refine Reg.passU rfl rfl rfl ?_
       refine Reg.passU rfl rfl rfl ?_
       refine Reg.passU rfl rfl rfl ?_
       refine Reg.passU rfl rfl rfl ?_
       refine Reg.passU rfl rfl rfl ?_
       refine Reg.passU rfl rfl rfl ?_
       refine Reg.passU rfl rfl rfl ?_
       refine Reg.passU rfl rfl rfl ?_
       refine Reg.passU rfl rfl rfl ?_
       refine Reg.passU rfl rfl rfl ?_
       refine Reg.passU rfl rfl rfl ?_
       refine Reg.passU rfl rfl rfl ?_
       refine Reg.pass rfl rfl rfl rfl ?_
       refine s_pkT rfl rfl rfl ?_
       refine Reg.nilq (fun w54 e55 => ?_)
       have hI56 := hI30.ext e55
       obtain rfl := Option.some.inj h37
       refine ⟨rfl, true, ⟨hI56, (Adv.of_ext e55), rfl⟩, Sub.cons rfl (Sub.cons rfl (Sub.cons rfl (Sub.nil _)))⟩
      ·replace h37 := cdF hg53 h37
       refine Reg.take rfl rfl ?_
       refine s_mv rfl rfl ?_
       refine Reg.take rfl rfl ?_
       refine s_gtr rfl rfl rfl ?_
       refine Reg.take rfl rfl ?_
       refine s_mv rfl rfl ?_
       refine Reg.gsplit (t := 42) rfl (fun hg57 => ?_) (fun hg57 => ?_)
       ·replace h37 := cdT hg57 h37
        refine Reg.take rfl rfl ?_
        refine s_fa rfl Tryz.underlying41 rfl Tryz.sizeOf26 rfl ?_
        refine Reg.take rfl rfl ?_
        refine s_ld rfl ((hC6.adv (hA12.trans hA31)).cells.at 0 rfl) Tryz.isAgg26 rfl ?_
        refine Reg.take rfl rfl ?_
        refine s_mv rfl rfl ?_
        refine Reg.take rfl rfl ?_
        obtain ⟨y58, hy58, h37⟩ := bnd h37
        refine p_ia rfl rfl (f_s_0.adv hI30.adv) hy58 Tryz.underlying26 Tryz.sizeOf3 rfl ?_
        intro b59 o60 cs61 hR62 hC63
        obtain ⟨rfl, r64⟩ := hR62
        refine Reg.take rfl rfl ?_
        refine s_ld rfl (hC63.cells.at 0 rfl) Tryz.isAgg3 rfl ?_
        refine Reg.take rfl rfl ?_
        refine s_fa rfl Tryz.underlying41 rfl Tryz.sizeOf26 rfl ?_
        refine Reg.take rfl rfl ?_
        refine s_ld rfl ((hC6.adv (hA12.trans hA31)).cells.at 0 rfl) Tryz.isAgg26 rfl ?_
        refine Reg.take rfl rfl ?_
        refine s_mv rfl rfl ?_
        refine Reg.take rfl rfl ?_
        obtain ⟨n65, hn65, h37⟩ := bnd h37
        replace hn65 := chk_out hn65
        refine p_sub rfl rfl rfl hn65 ?_
        refine Reg.take rfl rfl ?_
        obtain ⟨y66, hy66, h37⟩ := bnd h37
        refine p_ia rfl rfl (f_s_0.adv hI30.adv) hy66 Tryz.underlying26 Tryz.sizeOf3 rfl ?_
        intro b67 o68 cs69 hR70 hC71
        obtain ⟨rfl, r72⟩ := hR70
        refine Reg.take rfl rfl ?_
        refine s_ld rfl (hC71.cells.at 0 rfl) Tryz.isAgg3 rfl ?_
        refine Reg.take rfl rfl ?_
        refine s_leq rfl rfl rfl ?_
        refine Reg.take rfl rfl ?_
        refine s_pkT rfl rfl rfl ?_
        refine s_pkF rfl rfl rfl ?_
        refine Reg.nilq (fun w73 e74 => ?_)
        have hI75 := hI30.ext e74
        obtain rfl := Option.some.inj h37
        refine ⟨rfl, decide (y58 ≤ y66), ⟨hI75, (Adv.of_ext e74), rfl⟩, Sub.cons rfl (Sub.cons rfl (Sub.cons rfl (Sub.nil _)))⟩
       ·replace h37 := cdF hg57 h37
        refine Reg.pass rfl rfl rfl rfl ?_
        refine Reg.pass rfl rfl rfl rfl ?_
        refine Reg.pass rfl rfl rfl rfl ?_
        refine Reg.pass rfl rfl rfl rfl ?_
        refine Reg.pass rfl rfl rfl rfl ?_
        refine Reg.pass rfl rfl rfl rfl ?_
        refine Reg.pass rfl rfl rfl rfl ?_
        refine Reg.pass rfl rfl rfl rfl ?_
        refine Reg.pass rfl rfl rfl rfl ?_
        refine Reg.pass rfl rfl rfl rfl ?_
        refine Reg.pass rfl rfl rfl rfl ?_
        refine Reg.pass rfl rfl rfl rfl ?_
        refine Reg.take rfl rfl ?_
        refine s_pkF rfl rfl rfl ?_
        refine s_pkF rfl rfl rfl ?_
        refine Reg.nilq (fun w76 e77 => ?_)
        have hI78 := hI30.ext e77
        obtain rfl := Option.some.inj h37
        refine ⟨rfl, false, ⟨hI78, (Adv.of_ext e77), rfl⟩, Sub.cons rfl (Sub.cons rfl (Sub.cons rfl (Sub.nil _)))⟩
     ·skip
      rintro x38 w39 ⟨hI40, hA41, rfl⟩
      refine cw_cond rfl (fun hc79 => ?_) (fun hc79 => ?_)
      ·replace h33 := cdT hc79 h33
       refine cw_seq (cw_regF ?_)
       refine s_as rfl rfl ?_
       refine Reg.nil ?_
       refine cw_ret ?_
       obtain rfl := Option.some.inj h33
       obtain rfl := hR34 _ rfl
       replace h := elimR h
       obtain rfl := Option.some.inj h
       refine fin1 Tryz.results69 rfl ?_
       exact ⟨rfl, hI40.kp⟩
      ·replace h33 := cdF hc79 h33
       refine cw_skip ?_
       refine cw_regF ?_
       refine s_mv rfl rfl ?_
       obtain ⟨n80, hn80, h33⟩ := bnd h33
       replace hn80 := chk_out hn80
       refine p_add rfl rfl rfl hn80 ?_
       refine s_as rfl rfl ?_
       refine Reg.nil ?_
       obtain rfl := Option.some.inj h33
       refine ⟨rfl, n80, ⟨⟨hI40, (hA31.trans hA41), hn80.2⟩, rfl⟩, Sub.cons rfl (Sub.cons rfl (Sub.nil _))⟩
    ·replace h33 := cdF hc35 h33
     refine cw_exit ?_
     refine exB_same ?_
     obtain rfl := Option.some.inj h33
     obtain rfl := hR34 _ rfl
     refine ⟨rfl, (), ⟨hI30, hA31, rfl⟩, Sub.cons rfl (Sub.nil _)⟩
   ·skip
    rintro _ w24 ⟨hI25, hA26, rfl⟩
    replace h := elimL h
    refine cw_seq (cw_seq (cw_regF ?_))
    refine s_as rfl rfl ?_
    refine Reg.nil ?_
    obtain ⟨j81, h82, h⟩ := bnd h
    refine cw_sub (L := [(1, _), (4, _)]) (Sub.cons rfl (Sub.cons rfl (Sub.nil _))) ?_
    refine cw_unitD 2 (ι := Unit) (fun _ => []) (fun _ => fun w83 => Hp w [] M [] w83 ∧ Adv (mm [] M) (mm [] M) w24 w83 ∧ (.inl ()) = j81) ?_ ?_
    ·skip
     refine cw_block ?_
     refine cw_sub (L := [(4, _), (1, _)]) (Sub.cons rfl (Sub.cons rfl (Sub.nil _))) ?_
     refine cw_loopM 1 (ι := Int) _ (fun x86 => [(4, Value.int .i64 x86)]) (fun x86 => x86) (fun x86 => fun w88 => Hp w [] M [] w88 ∧ Adv (mm [] M) (mm [] M) w24 w88 ∧ InK .i64 x86) 0 h82 ⟨hI25, (Adv.refl _ _), (by decide)⟩ (Sub.cons rfl (Sub.cons rfl (Sub.nil _))) ?_
     rintro x86 w88 ⟨hI89, hA90, r87⟩ y91 h92 hR93
     refine cw_seq (cw_seq (cw_regF ?_))
     refine s_mv rfl rfl ?_
     refine s_fa rfl Tryz.underlying41 rfl Tryz.sizeOf26 rfl ?_
     refine s_ld rfl ((hC6.adv (hA12.trans (hA26.trans hA90))).cells.at 1 rfl) Tryz.isAgg26 rfl ?_
     refine s_len rfl (f_s_1.adv hI89.adv) Tryz.underlying26 rfl ?_
     refine s_lss rfl rfl rfl ?_
     refine Reg.nil ?_
     refine cw_cond rfl (fun hc94 => ?_) (fun hc94 => ?_)
     ·replace h92 := cdT hc94 h92
      refine cw_skip ?_
      refine cw_seq ?_
      refine cw_block ?_
      refine cw_seq (cw_regF ?_)
      refine s_fa rfl Tryz.underlying41 rfl Tryz.sizeOf26 rfl ?_
      refine s_ld rfl ((hC6.adv (hA12.trans (hA26.trans hA90))).cells.at 1 rfl) Tryz.isAgg26 rfl ?_
      refine s_mv rfl rfl ?_
      obtain ⟨y95, hy95, h92⟩ := bnd h92
      refine p_ia rfl rfl (f_s_1.adv hI89.adv) hy95 Tryz.underlying26 Tryz.sizeOf3 rfl ?_
      intro b96 o97 cs98 hR99 hC100
      obtain ⟨rfl, r101⟩ := hR99
      refine s_ld rfl (hC100.cells.at 0 rfl) Tryz.isAgg3 rfl ?_
      obtain ⟨z102, hz103, h92⟩ := bnd h92
      refine s_call rfl Tryz.call46 rfl ?_
      refine (C_ref06_points hI89.mlt r101 hz103).mono ?_
      rintro _ w104 ⟨rfl, e105⟩
      refine ⟨_, rfl, ?_⟩
      have hI106 := hI89.ext e105
      refine s_not rfl rfl ?_
      refine Reg.nil ?_
      refine cw_cond rfl (fun hc107 => ?_) (fun hc107 => ?_)
      ·replace h92 := cdT hc107 h92
       refine cw_seq (cw_regF ?_)
       refine s_as rfl rfl ?_
       refine Reg.nil ?_
       refine cw_ret ?_
       obtain rfl := Option.some.inj h92
       obtain rfl := hR93 _ rfl
       replace h := elimR h
       obtain rfl := Option.some.inj h
       refine fin1 Tryz.results69 rfl ?_
       exact ⟨rfl, hI106.kp⟩
      ·replace h92 := cdF hc107 h92
       refine cw_skip ?_
       refine cw_regF ?_
       refine s_mv rfl rfl ?_
       obtain ⟨n108, hn108, h92⟩ := bnd h92
       replace hn108 := chk_out hn108
       refine p_add rfl rfl rfl hn108 ?_
       refine s_as rfl rfl ?_
       refine Reg.nil ?_
       obtain rfl := Option.some.inj h92
       refine ⟨rfl, n108, ⟨⟨hI106, (hA90.trans (Adv.of_ext e105)), hn108.2⟩, rfl⟩, Sub.cons rfl (Sub.cons rfl (Sub.nil _))⟩
     ·replace h92 := cdF hc94 h92
      refine cw_exit ?_
      refine exB_same ?_
      obtain rfl := Option.some.inj h92
      obtain rfl := hR93 _ rfl
      refine ⟨rfl, (), ⟨hI89, hA90, rfl⟩, Sub.nil _⟩
    ·skip
     rintro _ w83 ⟨hI84, hA85, rfl⟩
     replace h := elimL h
     refine cw_seq (cw_regF ?_)
     refine s_as rfl rfl ?_
     refine Reg.nil ?_
     refine cw_ret ?_
     obtain rfl := Option.some.inj h
     refine fin1 Tryz.results69 rfl ?_
     exact ⟨rfl, hI84.kp⟩
noncomputable def P.ref06_card (c : Card) (traits : Int) : Option Bool :=
 Option.bind (Option.bind (P.ref06_within c.weight 0 1000) fun z7 => cond (!z7) (some true) (Option.bind (P.ref06_points c.base) fun z13 => cond (!z13) (some true) (some (!decide ((c.scales.length : Int) = traits))))) fun x19 => cond x19 (some false) (Option.bind (loopM (S := Int) (R := (Unit) ⊕ (Bool)) (fun x21 => cond (decide (x21 < traits)) (Option.bind (ixo c.scales x21) fun y23 => Option.bind (P.ref06_scale y23) fun z34 => cond (!z34) (some (.inr (.inr false))) (Option.bind (chk .i64 (x21 + 1)) fun n40 => some (.inl n40))) (some (.inr (.inl ())))) 0) fun j41 => Sum.elim (fun _ => some true) (fun r42 => some r42)  j41)
theorem C_ref06_card {M : List Nat} {w : World} (hM : MLt M w) {c : Card} {v_c_2 : Value} (f_c_0 : InK .i64 c.weight) (f_c_1 : InK .i64 c.base) (f_c_2 : RdS ScaleE M w v_c_2 c.scales) {traits : Int} (f_traits_0 : InK .i64 traits) {r0 : Bool} (h : P.ref06_card c traits = some r0) :
  Calls Tryz.prog 47 (List.toArray [Value.agg (List.toArray [Value.int .i64 c.weight, Value.int .i64 c.base, v_c_2]), Value.int .i64 traits]) w fun e w' => e = .returned (Value.bool r0) ∧ Ext w w' := by
 have hI := Hp.start (Mu := []) hM
 refine calls_cw Tryz.func47 rfl Tryz.ntmps47 rfl ?_
 refine cw_seq (cw_regF ?_)
 refine y_box hI rfl rfl rfl ?_
 intro b1 w2 hI3 x4
 have hC6 := hI3.freezeRow 0 rfl
 have hI5 := hI3.erase 0
 refine s_as rfl rfl ?_
 refine Reg.nil ?_
 refine cw_seq ?_
 obtain ⟨j7, h8, h⟩ := bnd h
 refine cw_sub (L := [(1, _), (2, _)]) (Sub.cons rfl (Sub.cons rfl (Sub.nil _))) ?_
 refine cw_seqD 0 (ι := Bool) (fun x9 => [(22, Value.bool x9)]) (fun x9 => fun w10 => Hp w [] M [] w10 ∧ Adv (mm [] M) (mm [] M) w2 w10 ∧ x9 = j7) ?_ ?_
 ·skip
  refine cw_regF ?_
  refine s_fa rfl Tryz.underlying39 rfl Tryz.sizeOf3 rfl ?_
  refine s_ld rfl (hC6.cells.at 0 rfl) Tryz.isAgg3 rfl ?_
  obtain ⟨z13, hz14, h8⟩ := bnd h8
  refine s_call rfl Tryz.call45 rfl ?_
  refine (C_ref06_within hI5.mlt f_c_0 (by decide) (by decide) hz14).mono ?_
  rintro _ w15 ⟨rfl, e16⟩
  refine ⟨_, rfl, ?_⟩
  have hI17 := hI5.ext e16
  refine s_not rfl rfl ?_
  refine s_mv rfl rfl ?_
  refine Reg.gsplit (t := 10) rfl (fun hg18 => ?_) (fun hg18 => ?_)
  ·replace h8 := cdT hg18 h8
   refine Reg.pass rfl rfl rfl rfl ?_
   refine Reg.pass rfl rfl rfl rfl ?_
   refine Reg.pass rfl rfl rfl rfl ?_
   refine Reg.pass rfl rfl rfl rfl ?_
   refine s_pkT rfl rfl rfl ?_
   refine s_mv rfl rfl ?_
   refine Reg.pass rfl rfl rfl rfl ?_
   refine Reg.pass rfl rfl rfl rfl ?_
   refine Reg.pass rfl rfl rfl rfl ?_
   refine Reg.pass rfl rfl rfl rfl ?_
   refine Reg.pass rfl rfl rfl rfl ?_
   refine s_pkT rfl rfl rfl ?_
   refine Reg.nil ?_
   obtain rfl := Option.some.inj h8
   refine ⟨rfl, true, ⟨hI17, (Adv.of_ext e16), rfl⟩, Sub.cons rfl (Sub.cons rfl (Sub.cons rfl (Sub.nil _)))⟩
  ·replace h8 := cdF hg18 h8
   refine Reg.take rfl rfl ?_
   refine s_fa rfl Tryz.underlying39 rfl Tryz.sizeOf3 rfl ?_
   refine Reg.take rfl rfl ?_
   refine s_ld rfl ((hC6.adv (Adv.of_ext e16)).cells.at 1 rfl) Tryz.isAgg3 rfl ?_
   refine Reg.take rfl rfl ?_
   obtain ⟨z19, hz20, h8⟩ := bnd h8
   refine s_call rfl Tryz.call46 rfl ?_
   refine (C_ref06_points hI17.mlt f_c_1 hz20).mono ?_
   rintro _ w21 ⟨rfl, e22⟩
   refine ⟨_, rfl, ?_⟩
   have hI23 := hI17.ext e22
   refine Reg.take rfl rfl ?_
   refine s_not rfl rfl ?_
   refine s_pkF rfl rfl rfl ?_
   refine s_mv rfl rfl ?_
   refine Reg.gsplit (t := 16) rfl (fun hg24 => ?_) (fun hg24 => ?_)
   ·replace h8 := cdT hg24 h8
    refine Reg.pass rfl rfl rfl rfl ?_
    refine Reg.pass rfl rfl rfl rfl ?_
    refine Reg.pass rfl rfl rfl rfl ?_
    refine Reg.pass rfl rfl rfl rfl ?_
    refine Reg.pass rfl rfl rfl rfl ?_
    refine s_pkT rfl rfl rfl ?_
    refine Reg.nil ?_
    obtain rfl := Option.some.inj h8
    refine ⟨rfl, true, ⟨hI23, ((Adv.of_ext e16).trans (Adv.of_ext e22)), rfl⟩, Sub.cons rfl (Sub.cons rfl (Sub.cons rfl (Sub.nil _)))⟩
   ·replace h8 := cdF hg24 h8
    refine Reg.take rfl rfl ?_
    refine s_fa rfl Tryz.underlying39 rfl Tryz.sizeOf37 rfl ?_
    refine Reg.take rfl rfl ?_
    refine s_ld rfl ((hC6.adv ((Adv.of_ext e16).trans (Adv.of_ext e22))).cells.at 2 rfl) Tryz.isAgg37 rfl ?_
    refine Reg.take rfl rfl ?_
    refine s_len rfl (f_c_2.adv hI23.adv) Tryz.underlying37 rfl ?_
    refine Reg.take rfl rfl ?_
    refine s_mv rfl rfl ?_
    refine Reg.take rfl rfl ?_
    refine s_neq rfl rfl rfl ?_
    refine s_pkF rfl rfl rfl ?_
    refine Reg.nil ?_
    obtain rfl := Option.some.inj h8
    refine ⟨rfl, !decide ((c.scales.length : Int) = traits), ⟨hI23, ((Adv.of_ext e16).trans (Adv.of_ext e22)), rfl⟩, Sub.cons rfl (Sub.cons rfl (Sub.cons rfl (Sub.nil _)))⟩
 ·skip
  rintro x9 w10 ⟨hI11, hA12, rfl⟩
  refine cw_cond rfl (fun hc25 => ?_) (fun hc25 => ?_)
  ·replace h := cdT hc25 h
   refine cw_seq (cw_regF ?_)
   refine s_as rfl rfl ?_
   refine Reg.nil ?_
   refine cw_ret ?_
   obtain rfl := Option.some.inj h
   refine fin1 Tryz.results47 rfl ?_
   exact ⟨rfl, hI11.kp⟩
  ·replace h := cdF hc25 h
   refine cw_skip (cw_seq (cw_seq (cw_regF ?_)))
   refine s_as rfl rfl ?_
   refine Reg.nil ?_
   obtain ⟨j26, h27, h⟩ := bnd h
   refine cw_sub (L := [(1, _), (2, _), (5, _)]) (Sub.cons rfl (Sub.cons rfl (Sub.cons rfl (Sub.nil _)))) ?_
   refine cw_unitD 3 (ι := Unit) (fun _ => []) (fun _ => fun w28 => Hp w [] M [] w28 ∧ Adv (mm [] M) (mm [] M) w10 w28 ∧ (.inl ()) = j26) ?_ ?_
   ·skip
    refine cw_block ?_
    refine cw_sub (L := [(5, _), (1, _), (2, _)]) (Sub.cons rfl (Sub.cons rfl (Sub.cons rfl (Sub.nil _)))) ?_
    refine cw_loopM 1 (ι := Int) _ (fun x31 => [(5, Value.int .i64 x31)]) (fun x31 => x31) (fun x31 => fun w33 => Hp w [] M [] w33 ∧ Adv (mm [] M) (mm [] M) w10 w33 ∧ InK .i64 x31) 0 h27 ⟨hI11, (Adv.refl _ _), (by decide)⟩ (Sub.cons rfl (Sub.cons rfl (Sub.cons rfl (Sub.nil _)))) ?_
    rintro x31 w33 ⟨hI34, hA35, r32⟩ y36 h37 hR38
    refine cw_seq (cw_seq (cw_regF ?_))
    refine s_mv rfl rfl ?_
    refine s_mv rfl rfl ?_
    refine s_lss rfl rfl rfl ?_
    refine Reg.nil ?_
    refine cw_cond rfl (fun hc39 => ?_) (fun hc39 => ?_)
    ·replace h37 := cdT hc39 h37
     refine cw_skip ?_
     refine cw_seq ?_
     refine cw_block ?_
     refine cw_seq (cw_regF ?_)
     refine s_fa rfl Tryz.underlying39 rfl Tryz.sizeOf37 rfl ?_
     refine s_ld rfl ((hC6.adv (hA12.trans hA35)).cells.at 2 rfl) Tryz.isAgg37 rfl ?_
     refine s_mv rfl rfl ?_
     obtain ⟨y40, hy40, h37⟩ := bnd h37
     refine p_ia rfl rfl (f_c_2.adv hI34.adv) hy40 Tryz.underlying37 Tryz.sizeOf41 rfl ?_
     intro b41 o42 cs43 hR44 hC45
     obtain ⟨v46, v48, rfl, hf47, hf49, r50⟩ := ScaleE_R.1 hR44
     refine s_lda rfl hC45.cells Tryz.isAgg41 rfl Tryz.sizeOf41 rfl ?_
     obtain ⟨z51, hz52, h37⟩ := bnd h37
     refine s_call rfl Tryz.call69 rfl ?_
     refine (C_ref06_scale hI34.mlt hf47 hf49 r50 hz52).mono ?_
     rintro _ w53 ⟨rfl, e54⟩
     refine ⟨_, rfl, ?_⟩
     have hI55 := hI34.ext e54
     refine s_not rfl rfl ?_
     refine Reg.nil ?_
     refine cw_cond rfl (fun hc56 => ?_) (fun hc56 => ?_)
     ·replace h37 := cdT hc56 h37
      refine cw_seq (cw_regF ?_)
      refine s_as rfl rfl ?_
      refine Reg.nil ?_
      refine cw_ret ?_
      obtain rfl := Option.some.inj h37
      obtain rfl := hR38 _ rfl
      replace h := elimR h
      obtain rfl := Option.some.inj h
      refine fin1 Tryz.results47 rfl ?_
      exact ⟨rfl, hI55.kp⟩
     ·replace h37 := cdF hc56 h37
      refine cw_skip ?_
      refine cw_regF ?_
      refine s_mv rfl rfl ?_
      obtain ⟨n57, hn57, h37⟩ := bnd h37
      replace hn57 := chk_out hn57
      refine p_add rfl rfl rfl hn57 ?_
      refine s_as rfl rfl ?_
      refine Reg.nil ?_
      obtain rfl := Option.some.inj h37
      refine ⟨rfl, n57, ⟨⟨hI55, (hA35.trans (Adv.of_ext e54)), hn57.2⟩, rfl⟩, Sub.cons rfl (Sub.cons rfl (Sub.cons rfl (Sub.nil _)))⟩
    ·replace h37 := cdF hc39 h37
     refine cw_exit ?_
     refine exB_same ?_
     obtain rfl := Option.some.inj h37
     obtain rfl := hR38 _ rfl
     refine ⟨rfl, (), ⟨hI34, hA35, rfl⟩, Sub.nil _⟩
   ·skip
    rintro _ w28 ⟨hI29, hA30, rfl⟩
    replace h := elimL h
    refine cw_seq (cw_regF ?_)
    refine s_as rfl rfl ?_
    refine Reg.nil ?_
    refine cw_ret ?_
    obtain rfl := Option.some.inj h
    refine fin1 Tryz.results47 rfl ?_
    exact ⟨rfl, hI29.kp⟩
noncomputable def P.ref06_tree (t : Tree) (traits : Int) : Option Bool :=
 Option.bind (Option.bind (P.ref06_within t.weight 0 1000) fun z7 => cond (!z7) (some true) (Option.bind (P.ref06_within (t.nodes.length : Int) 1 7) fun z13 => some (!z13))) fun x18 => cond x18 (some false) (Option.bind (loopM (S := Int) (R := (Unit) ⊕ (Bool)) (fun x20 => cond (decide (x20 < (t.nodes.length : Int))) (Option.bind (Option.bind (ixo t.nodes x20) fun y22 => Option.bind (P.ref06_points y22.points) fun z42 => cond (!z42) (some (.inr false)) (cond (decide (y22.trait = (-1))) (Option.bind (cond (!decide (y22.cut = 0)) (some true) (cond (!decide (y22.low = 0)) (some true) (some (!decide (y22.high = 0))))) fun x51 => cond x51 (some (.inr false)) (some (.inl ()))) (Option.bind (Option.bind (chk .i64 (traits - 1)) fun n53 => Option.bind (P.ref06_within y22.trait 0 n53) fun z54 => cond (!z54) (some true) (Option.bind (P.ref06_within y22.cut 1 1000000) fun z60 => cond (!z60) (some true) (cond (decide (y22.low ≤ x20)) (some true) (cond (decide (y22.high ≤ x20)) (some true) (cond (decide ((t.nodes.length : Int) ≤ y22.low)) (some true) (cond (decide ((t.nodes.length : Int) ≤ y22.high)) (some true) (cond (decide (y22.low = y22.high)) (some true) (some (!decide (y22.points = 0)))))))))) fun x71 => cond x71 (some (.inr false)) (some (.inl ()))))) fun j73 => Sum.elim (fun _ => Option.bind (chk .i64 (x20 + 1)) fun n74 => some (.inl n74)) (fun r75 => some (.inr (.inr r75)))  j73) (some (.inr (.inl ())))) 0) fun j76 => Sum.elim (fun _ => some true) (fun r77 => some r77)  j76)
theorem C_ref06_tree {M : List Nat} {w : World} (hM : MLt M w) {t : Tree} {v_t_1 : Value} (f_t_0 : InK .i64 t.weight) (f_t_1 : RdS NodeE M w v_t_1 t.nodes) {traits : Int} (f_traits_0 : InK .i64 traits) {r0 : Bool} (h : P.ref06_tree t traits = some r0) :
  Calls Tryz.prog 48 (List.toArray [Value.agg (List.toArray [Value.int .i64 t.weight, v_t_1]), Value.int .i64 traits]) w fun e w' => e = .returned (Value.bool r0) ∧ Ext w w' := by
 have hI := Hp.start (Mu := []) hM
 refine calls_cw Tryz.func48 rfl Tryz.ntmps48 rfl ?_
 refine cw_seq (cw_regF ?_)
 refine y_box hI rfl rfl rfl ?_
 intro b1 w2 hI3 x4
 have hC6 := hI3.freezeRow 0 rfl
 have hI5 := hI3.erase 0
 refine s_as rfl rfl ?_
 refine Reg.nil ?_
 refine cw_seq ?_
 obtain ⟨j7, h8, h⟩ := bnd h
 refine cw_sub (L := [(1, _), (2, _)]) (Sub.cons rfl (Sub.cons rfl (Sub.nil _))) ?_
 refine cw_seqD 0 (ι := Bool) (fun x9 => [(17, Value.bool x9)]) (fun x9 => fun w10 => Hp w [] M [] w10 ∧ Adv (mm [] M) (mm [] M) w2 w10 ∧ x9 = j7) ?_ ?_
 ·skip
  refine cw_regF ?_
  refine s_fa rfl Tryz.underlying44 rfl Tryz.sizeOf3 rfl ?_
  refine s_ld rfl (hC6.cells.at 0 rfl) Tryz.isAgg3 rfl ?_
  obtain ⟨z13, hz14, h8⟩ := bnd h8
  refine s_call rfl Tryz.call45 rfl ?_
  refine (C_ref06_within hI5.mlt f_t_0 (by decide) (by decide) hz14).mono ?_
  rintro _ w15 ⟨rfl, e16⟩
  refine ⟨_, rfl, ?_⟩
  have hI17 := hI5.ext e16
  refine s_not rfl rfl ?_
  refine s_mv rfl rfl ?_
  refine Reg.gsplit (t := 11) rfl (fun hg18 => ?_) (fun hg18 => ?_)
  ·replace h8 := cdT hg18 h8
   refine Reg.pass rfl rfl rfl rfl ?_
   refine Reg.pass rfl rfl rfl rfl ?_
   refine Reg.pass rfl rfl rfl rfl ?_
   refine Reg.pass rfl rfl rfl rfl ?_
   refine Reg.pass rfl rfl rfl rfl ?_
   refine s_pkT rfl rfl rfl ?_
   refine Reg.nil ?_
   obtain rfl := Option.some.inj h8
   refine ⟨rfl, true, ⟨hI17, (Adv.of_ext e16), rfl⟩, Sub.cons rfl (Sub.cons rfl (Sub.cons rfl (Sub.nil _)))⟩
  ·replace h8 := cdF hg18 h8
   refine Reg.take rfl rfl ?_
   refine s_fa rfl Tryz.underlying44 rfl Tryz.sizeOf42 rfl ?_
   refine Reg.take rfl rfl ?_
   refine s_ld rfl ((hC6.adv (Adv.of_ext e16)).cells.at 1 rfl) Tryz.isAgg42 rfl ?_
   refine Reg.take rfl rfl ?_
   refine s_len rfl (f_t_1.adv hI17.adv) Tryz.underlying42 rfl ?_
   refine Reg.take rfl rfl ?_
   obtain ⟨z19, hz20, h8⟩ := bnd h8
   refine s_call rfl Tryz.call45 rfl ?_
   refine (C_ref06_within hI17.mlt (RdS.inK f_t_1) (by decide) (by decide) hz20).mono ?_
   rintro _ w21 ⟨rfl, e22⟩
   refine ⟨_, rfl, ?_⟩
   have hI23 := hI17.ext e22
   refine Reg.take rfl rfl ?_
   refine s_not rfl rfl ?_
   refine s_pkF rfl rfl rfl ?_
   refine Reg.nil ?_
   obtain rfl := Option.some.inj h8
   refine ⟨rfl, !z19, ⟨hI23, ((Adv.of_ext e16).trans (Adv.of_ext e22)), rfl⟩, Sub.cons rfl (Sub.cons rfl (Sub.cons rfl (Sub.nil _)))⟩
 ·skip
  rintro x9 w10 ⟨hI11, hA12, rfl⟩
  refine cw_cond rfl (fun hc24 => ?_) (fun hc24 => ?_)
  ·replace h := cdT hc24 h
   refine cw_seq (cw_regF ?_)
   refine s_as rfl rfl ?_
   refine Reg.nil ?_
   refine cw_ret ?_
   obtain rfl := Option.some.inj h
   refine fin1 Tryz.results48 rfl ?_
   exact ⟨rfl, hI11.kp⟩
  ·replace h := cdF hc24 h
   refine cw_skip (cw_seq (cw_seq (cw_regF ?_)))
   refine s_as rfl rfl ?_
   refine Reg.nil ?_
   obtain ⟨j25, h26, h⟩ := bnd h
   refine cw_sub (L := [(1, _), (2, _), (5, _)]) (Sub.cons rfl (Sub.cons rfl (Sub.cons rfl (Sub.nil _)))) ?_
   refine cw_unitD 3 (ι := Unit) (fun _ => []) (fun _ => fun w27 => Hp w [] M [] w27 ∧ Adv (mm [] M) (mm [] M) w10 w27 ∧ (.inl ()) = j25) ?_ ?_
   ·skip
    refine cw_block ?_
    refine cw_sub (L := [(5, _), (1, _), (2, _)]) (Sub.cons rfl (Sub.cons rfl (Sub.cons rfl (Sub.nil _)))) ?_
    refine cw_loopM 1 (ι := Int) _ (fun x30 => [(5, Value.int .i64 x30)]) (fun x30 => x30) (fun x30 => fun w32 => Hp w [] M [] w32 ∧ Adv (mm [] M) (mm [] M) w10 w32 ∧ InK .i64 x30) 0 h26 ⟨hI11, (Adv.refl _ _), (by decide)⟩ (Sub.cons rfl (Sub.cons rfl (Sub.cons rfl (Sub.nil _)))) ?_
    rintro x30 w32 ⟨hI33, hA34, r31⟩ y35 h36 hR37
    refine cw_seq (cw_seq (cw_regF ?_))
    refine s_mv rfl rfl ?_
    refine s_fa rfl Tryz.underlying44 rfl Tryz.sizeOf42 rfl ?_
    refine s_ld rfl ((hC6.adv (hA12.trans hA34)).cells.at 1 rfl) Tryz.isAgg42 rfl ?_
    refine s_len rfl (f_t_1.adv hI33.adv) Tryz.underlying42 rfl ?_
    refine s_lss rfl rfl rfl ?_
    refine Reg.nil ?_
    refine cw_cond rfl (fun hc38 => ?_) (fun hc38 => ?_)
    ·replace h36 := cdT hc38 h36
     refine cw_skip ?_
     obtain ⟨j39, h40, h36⟩ := bnd h36
     refine cw_sub (L := [(1, _), (2, _), (5, _)]) (Sub.cons rfl (Sub.cons rfl (Sub.cons rfl (Sub.nil _)))) ?_
     refine cw_seqD 0 (ι := Unit) (fun _ => []) (fun _ => fun w41 => Hp w [] M [] w41 ∧ Adv (mm [] M) (mm [] M) w32 w41 ∧ (.inl ()) = j39) ?_ ?_
     ·skip
      refine cw_block ?_
      refine cw_seq (cw_regF ?_)
      refine s_fa rfl Tryz.underlying44 rfl Tryz.sizeOf42 rfl ?_
      refine s_ld rfl ((hC6.adv (hA12.trans hA34)).cells.at 1 rfl) Tryz.isAgg42 rfl ?_
      refine s_mv rfl rfl ?_
      obtain ⟨y44, hy44, h40⟩ := bnd h40
      refine p_ia rfl rfl (f_t_1.adv hI33.adv) hy44 Tryz.underlying42 Tryz.sizeOf66 rfl ?_
      intro b45 o46 cs47 hR48 hC49
      obtain ⟨rfl, r50, r51, r52, r53, r54⟩ := NodeE_R.1 hR48
      refine s_lda rfl hC49.cells Tryz.isAgg66 rfl Tryz.sizeOf66 rfl ?_
      refine y_al hI33 Tryz.zeroValue66 rfl rfl ?_
      intro b55 w56 hI57 x58
      refine y_st 0 hI57 rfl rfl rfl rfl Tryz.sizeOf66 rfl rfl (one1 rfl (one1 rfl (one1 rfl (one1 rfl (one1 rfl one0))))) ?_
      intro w59 hI60 x61
      have hC63 := hI60.freezeRow 0 rfl
      have hI62 := hI60.erase 0
      refine Reg.nil ?_
      refine cw_seq (cw_seq (cw_regF ?_))
      refine s_fa rfl Tryz.underlying66 rfl Tryz.sizeOf3 rfl ?_
      refine s_ld rfl (hC63.cells.at 4 rfl) Tryz.isAgg3 rfl ?_
      obtain ⟨z64, hz65, h40⟩ := bnd h40
      refine s_call rfl Tryz.call46 rfl ?_
      refine (C_ref06_points hI62.mlt r54 hz65).mono ?_
      rintro _ w66 ⟨rfl, e67⟩
      refine ⟨_, rfl, ?_⟩
      have hI68 := hI62.ext e67
      refine s_not rfl rfl ?_
      refine Reg.nil ?_
      refine cw_cond rfl (fun hc69 => ?_) (fun hc69 => ?_)
      ·replace h40 := cdT hc69 h40
       refine cw_seq (cw_regF ?_)
       refine s_as rfl rfl ?_
       refine Reg.nil ?_
       refine cw_ret ?_
       obtain rfl := Option.some.inj h40
       replace h36 := elimR h36
       obtain rfl := Option.some.inj h36
       obtain rfl := hR37 _ rfl
       replace h := elimR h
       obtain rfl := Option.some.inj h
       refine fin1 Tryz.results48 rfl ?_
       exact ⟨rfl, hI68.kp⟩
      ·replace h40 := cdF hc69 h40
       refine cw_skip (cw_seq (cw_seq (cw_regF ?_)))
       refine s_fa rfl Tryz.underlying66 rfl Tryz.sizeOf3 rfl ?_
       refine s_ld rfl ((hC63.adv (Adv.of_ext e67)).cells.at 0 rfl) Tryz.isAgg3 rfl ?_
       refine s_eql rfl rfl rfl ?_
       refine Reg.nil ?_
       refine cw_cond rfl (fun hc70 => ?_) (fun hc70 => ?_)
       ·replace h40 := cdT hc70 h40
        refine cw_seq ?_
        obtain ⟨j71, h72, h40⟩ := bnd h40
        refine cw_sub (L := [(6, _), (1, _), (2, _), (5, _)]) (Sub.cons rfl (Sub.cons rfl (Sub.cons rfl (Sub.cons rfl (Sub.nil _))))) ?_
        refine cw_seqD 1 (ι := Bool) (fun x73 => [(49, Value.bool x73)]) (fun x73 => fun w74 => w66 = w74 ∧ x73 = j71) ?_ ?_
        ·skip
         refine cw_regF ?_
         refine s_fa rfl Tryz.underlying66 rfl Tryz.sizeOf3 rfl ?_
         refine s_ld rfl ((hC63.adv (Adv.of_ext e67)).cells.at 1 rfl) Tryz.isAgg3 rfl ?_
         refine s_neq rfl rfl rfl ?_
         refine s_mv rfl rfl ?_
         refine Reg.gsplit (t := 40) rfl (fun hg77 => ?_) (fun hg77 => ?_)
         ·replace h72 := cdT hg77 h72
          refine Reg.pass rfl rfl rfl rfl ?_
          refine Reg.pass rfl rfl rfl rfl ?_
          refine Reg.pass rfl rfl rfl rfl ?_
          refine s_pkT rfl rfl rfl ?_
          refine s_mv rfl rfl ?_
          refine Reg.pass rfl rfl rfl rfl ?_
          refine Reg.pass rfl rfl rfl rfl ?_
          refine Reg.pass rfl rfl rfl rfl ?_
          refine s_pkT rfl rfl rfl ?_
          refine Reg.nil ?_
          obtain rfl := Option.some.inj h72
          refine ⟨rfl, true, ⟨rfl, rfl⟩, Sub.cons rfl (Sub.cons rfl (Sub.cons rfl (Sub.cons rfl (Sub.nil _))))⟩
         ·replace h72 := cdF hg77 h72
          refine Reg.take rfl rfl ?_
          refine s_fa rfl Tryz.underlying66 rfl Tryz.sizeOf3 rfl ?_
          refine Reg.take rfl rfl ?_
          refine s_ld rfl ((hC63.adv (Adv.of_ext e67)).cells.at 2 rfl) Tryz.isAgg3 rfl ?_
          refine Reg.take rfl rfl ?_
          refine s_neq rfl rfl rfl ?_
          refine s_pkF rfl rfl rfl ?_
          refine s_mv rfl rfl ?_
          refine Reg.gsplit (t := 45) rfl (fun hg78 => ?_) (fun hg78 => ?_)
          ·replace h72 := cdT hg78 h72
           refine Reg.pass rfl rfl rfl rfl ?_
           refine Reg.pass rfl rfl rfl rfl ?_
           refine Reg.pass rfl rfl rfl rfl ?_
           refine s_pkT rfl rfl rfl ?_
           refine Reg.nil ?_
           obtain rfl := Option.some.inj h72
           refine ⟨rfl, true, ⟨rfl, rfl⟩, Sub.cons rfl (Sub.cons rfl (Sub.cons rfl (Sub.cons rfl (Sub.nil _))))⟩
          ·replace h72 := cdF hg78 h72
           refine Reg.take rfl rfl ?_
           refine s_fa rfl Tryz.underlying66 rfl Tryz.sizeOf3 rfl ?_
           refine Reg.take rfl rfl ?_
           refine s_ld rfl ((hC63.adv (Adv.of_ext e67)).cells.at 3 rfl) Tryz.isAgg3 rfl ?_
           refine Reg.take rfl rfl ?_
           refine s_neq rfl rfl rfl ?_
           refine s_pkF rfl rfl rfl ?_
           refine Reg.nil ?_
           obtain rfl := Option.some.inj h72
           refine ⟨rfl, !decide (y44.high = 0), ⟨rfl, rfl⟩, Sub.cons rfl (Sub.cons rfl (Sub.cons rfl (Sub.cons rfl (Sub.nil _))))⟩
        ·skip
         rintro x73 _ ⟨rfl, rfl⟩
         refine cw_cond rfl (fun hc79 => ?_) (fun hc79 => ?_)
         ·replace h40 := cdT hc79 h40
          refine cw_seq (cw_regF ?_)
          refine s_as rfl rfl ?_
          refine Reg.nil ?_
          refine cw_ret ?_
          obtain rfl := Option.some.inj h40
          replace h36 := elimR h36
          obtain rfl := Option.some.inj h36
          obtain rfl := hR37 _ rfl
          replace h := elimR h
          obtain rfl := Option.some.inj h
          refine fin1 Tryz.results48 rfl ?_
          exact ⟨rfl, hI68.kp⟩
         ·replace h40 := cdF hc79 h40
          refine cw_skip ?_
          refine cw_exit ?_
          refine exB_same ?_
          obtain rfl := Option.some.inj h40
          refine ⟨rfl, (), ⟨hI68, (x58.trans (x61.trans ((Hp.eraseA (σ := [rowR 66 b55 [Value.int .i64 y44.trait, Value.int .i64 y44.cut, Value.int .i64 y44.low, Value.int .i64 y44.high, Value.int .i64 y44.points]]) 0).trans (Adv.of_ext e67)))), rfl⟩, Sub.cons rfl (Sub.cons rfl (Sub.cons rfl (Sub.nil _)))⟩
       ·replace h40 := cdF hc70 h40
        refine cw_skip ?_
        obtain ⟨j80, h81, h40⟩ := bnd h40
        refine cw_sub (L := [(6, _), (1, _), (2, _), (5, _)]) (Sub.cons rfl (Sub.cons rfl (Sub.cons rfl (Sub.cons rfl (Sub.nil _))))) ?_
        refine cw_seqD 1 (ι := Bool) (fun x82 => [(101, Value.bool x82)]) (fun x82 => fun w83 => Hp w [] M [] w83 ∧ Adv (mm [] M) (mm [] M) w66 w83 ∧ x82 = j80) ?_ ?_
        ·skip
         refine cw_regF ?_
         refine s_fa rfl Tryz.underlying66 rfl Tryz.sizeOf3 rfl ?_
         refine s_ld rfl ((hC63.adv (Adv.of_ext e67)).cells.at 0 rfl) Tryz.isAgg3 rfl ?_
         refine s_mv rfl rfl ?_
         obtain ⟨n86, hn86, h81⟩ := bnd h81
         replace hn86 := chk_out hn86
         refine p_sub rfl rfl rfl hn86 ?_
         obtain ⟨z87, hz88, h81⟩ := bnd h81
         refine s_call rfl Tryz.call45 rfl ?_
         refine (C_ref06_within hI68.mlt r50 (by decide) hn86.2 hz88).mono ?_
         rintro _ w89 ⟨rfl, e90⟩
         refine ⟨_, rfl, ?_⟩
         have hI91 := hI68.ext e90
         refine s_not rfl rfl ?_
         refine s_mv rfl rfl ?_
         refine Reg.gsplit (t := 56) rfl (fun hg92 => ?_) (fun hg92 => ?_)
         ·replace h81 := cdT hg92 h81
          refine Reg.pass rfl rfl rfl rfl ?_
          refine Reg.pass rfl rfl rfl rfl ?_
          refine Reg.pass rfl rfl rfl rfl ?_
          refine Reg.pass rfl rfl rfl rfl ?_
          refine s_pkT rfl rfl rfl ?_
          refine s_mv rfl rfl ?_
          refine Reg.pass rfl rfl rfl rfl ?_
          refine Reg.pass rfl rfl rfl rfl ?_
          refine Reg.pass rfl rfl rfl rfl ?_
          refine Reg.pass rfl rfl rfl rfl ?_
          refine s_pkT rfl rfl rfl ?_
          refine s_mv rfl rfl ?_
          refine Reg.pass rfl rfl rfl rfl ?_
          refine Reg.pass rfl rfl rfl rfl ?_
          refine Reg.pass rfl rfl rfl rfl ?_
          refine Reg.pass rfl rfl rfl rfl ?_
          refine s_pkT rfl rfl rfl ?_
          refine s_mv rfl rfl ?_
          refine Reg.pass rfl rfl rfl rfl ?_
          refine Reg.pass rfl rfl rfl rfl ?_
          refine Reg.pass rfl rfl rfl rfl ?_
          refine Reg.pass rfl rfl rfl rfl ?_
          refine Reg.pass rfl rfl rfl rfl ?_
          refine Reg.pass rfl rfl rfl rfl ?_
          refine s_pkT rfl rfl rfl ?_
          refine s_mv rfl rfl ?_
          refine Reg.pass rfl rfl rfl rfl ?_
          refine Reg.pass rfl rfl rfl rfl ?_
          refine Reg.pass rfl rfl rfl rfl ?_
          refine Reg.pass rfl rfl rfl rfl ?_
          refine Reg.pass rfl rfl rfl rfl ?_
          refine Reg.pass rfl rfl rfl rfl ?_
          refine s_pkT rfl rfl rfl ?_
          refine s_mv rfl rfl ?_
          refine Reg.pass rfl rfl rfl rfl ?_
          refine Reg.pass rfl rfl rfl rfl ?_
          refine Reg.pass rfl rfl rfl rfl ?_
          refine Reg.pass rfl rfl rfl rfl ?_
          refine Reg.pass rfl rfl rfl rfl ?_
          refine s_pkT rfl rfl rfl ?_
          refine s_mv rfl rfl ?_
          refine Reg.pass rfl rfl rfl rfl ?_
          refine Reg.pass rfl rfl rfl rfl ?_
          refine Reg.pass rfl rfl rfl rfl ?_
          refine s_pkT rfl rfl rfl ?_
          refine Reg.nil ?_
          obtain rfl := Option.some.inj h81
          refine ⟨rfl, true, ⟨hI91, (Adv.of_ext e90), rfl⟩, Sub.cons rfl (Sub.cons rfl (Sub.cons rfl (Sub.cons rfl (Sub.nil _))))⟩
         ·replace h81 := cdF hg92 h81
          refine Reg.take rfl rfl ?_
          refine s_fa rfl Tryz.underlying66 rfl Tryz.sizeOf3 rfl ?_
          refine Reg.take rfl rfl ?_
          refine s_ld rfl ((hC63.adv ((Adv.of_ext e67).trans (Adv.of_ext e90))).cells.at 1 rfl) Tryz.isAgg3 rfl ?_
          refine Reg.take rfl rfl ?_
          obtain ⟨z93, hz94, h81⟩ := bnd h81
          refine s_call rfl Tryz.call45 rfl ?_
          refine (C_ref06_within hI91.mlt r51 (by decide) (by decide) hz94).mono ?_
          rintro _ w95 ⟨rfl, e96⟩
          refine ⟨_, rfl, ?_⟩
          have hI97 := hI91.ext e96
          refine Reg.take rfl rfl ?_
          refine s_not rfl rfl ?_
          refine s_pkF rfl rfl rfl ?_
          refine s_mv rfl rfl ?_
          refine Reg.gsplit (t := 62) rfl (fun hg98 => ?_) (fun hg98 => ?_)
          ·replace h81 := cdT hg98 h81
           refine Reg.pass rfl rfl rfl rfl ?_
           refine Reg.pass rfl rfl rfl rfl ?_
           refine Reg.pass rfl rfl rfl rfl ?_
           refine Reg.pass rfl rfl rfl rfl ?_
           refine s_pkT rfl rfl rfl ?_
           refine s_mv rfl rfl ?_
           refine Reg.pass rfl rfl rfl rfl ?_
           refine Reg.pass rfl rfl rfl rfl ?_
           refine Reg.pass rfl rfl rfl rfl ?_
           refine Reg.pass rfl rfl rfl rfl ?_
           refine s_pkT rfl rfl rfl ?_
           refine s_mv rfl rfl ?_
           refine Reg.pass rfl rfl rfl rfl ?_
           refine Reg.pass rfl rfl rfl rfl ?_
           refine Reg.pass rfl rfl rfl rfl ?_
           refine Reg.pass rfl rfl rfl rfl ?_
           refine Reg.pass rfl rfl rfl rfl ?_
           refine Reg.pass rfl rfl rfl rfl ?_
           refine s_pkT rfl rfl rfl ?_
           refine s_mv rfl rfl ?_
           refine Reg.pass rfl rfl rfl rfl ?_
           refine Reg.pass rfl rfl rfl rfl ?_
           refine Reg.pass rfl rfl rfl rfl ?_
           refine Reg.pass rfl rfl rfl rfl ?_
           refine Reg.pass rfl rfl rfl rfl ?_
           refine Reg.pass rfl rfl rfl rfl ?_
           refine s_pkT rfl rfl rfl ?_
           refine s_mv rfl rfl ?_
           refine Reg.pass rfl rfl rfl rfl ?_
           refine Reg.pass rfl rfl rfl rfl ?_
           refine Reg.pass rfl rfl rfl rfl ?_
           refine Reg.pass rfl rfl rfl rfl ?_
           refine Reg.pass rfl rfl rfl rfl ?_
           refine s_pkT rfl rfl rfl ?_
           refine s_mv rfl rfl ?_
           refine Reg.pass rfl rfl rfl rfl ?_
           refine Reg.pass rfl rfl rfl rfl ?_
           refine Reg.pass rfl rfl rfl rfl ?_
           refine s_pkT rfl rfl rfl ?_
           refine Reg.nil ?_
           obtain rfl := Option.some.inj h81
           refine ⟨rfl, true, ⟨hI97, ((Adv.of_ext e90).trans (Adv.of_ext e96)), rfl⟩, Sub.cons rfl (Sub.cons rfl (Sub.cons rfl (Sub.cons rfl (Sub.nil _))))⟩
          ·replace h81 := cdF hg98 h81
           refine Reg.take rfl rfl ?_
           refine s_fa rfl Tryz.underlying66 rfl Tryz.sizeOf3 rfl ?_
           refine Reg.take rfl rfl ?_
           refine s_ld rfl ((hC63.adv ((Adv.of_ext e67).trans ((Adv.of_ext e90).trans (Adv.of_ext e96)))).cells.at 2 rfl) Tryz.isAgg3 rfl ?_
           refine Reg.take rfl rfl ?_
           refine s_mv rfl rfl ?_
           refine Reg.take rfl rfl ?_
           refine s_leq rfl rfl rfl ?_
           refine s_pkF rfl rfl rfl ?_
           refine s_mv rfl rfl ?_
           refine Reg.gsplit (t := 68) rfl (fun hg99 => ?_) (fun hg99 => ?_)
           ·replace h81 := cdT hg99 h81
            refine Reg.pass rfl rfl rfl rfl ?_
            refine Reg.pass rfl rfl rfl rfl ?_
            refine Reg.pass rfl rfl rfl rfl ?_
            refine Reg.pass rfl rfl rfl rfl ?_
            refine s_pkT rfl rfl rfl ?_
            refine s_mv rfl rfl ?_
            refine Reg.pass rfl rfl rfl rfl ?_
            refine Reg.pass rfl rfl rfl rfl ?_
            refine Reg.pass rfl rfl rfl rfl ?_
            refine Reg.pass rfl rfl rfl rfl ?_
            refine Reg.pass rfl rfl rfl rfl ?_
            refine Reg.pass rfl rfl rfl rfl ?_
            refine s_pkT rfl rfl rfl ?_
            refine s_mv rfl rfl ?_
            refine Reg.pass rfl rfl rfl rfl ?_
            refine Reg.pass rfl rfl rfl rfl ?_
            refine Reg.pass rfl rfl rfl rfl ?_
            refine Reg.pass rfl rfl rfl rfl ?_
            refine Reg.pass rfl rfl rfl rfl ?_
            refine Reg.pass rfl rfl rfl rfl ?_
            refine s_pkT rfl rfl rfl ?_
            refine s_mv rfl rfl ?_
            refine Reg.pass rfl rfl rfl rfl ?_
            refine Reg.pass rfl rfl rfl rfl ?_
            refine Reg.pass rfl rfl rfl rfl ?_
            refine Reg.pass rfl rfl rfl rfl ?_
            refine Reg.pass rfl rfl rfl rfl ?_
            refine s_pkT rfl rfl rfl ?_
            refine s_mv rfl rfl ?_
            refine Reg.pass rfl rfl rfl rfl ?_
            refine Reg.pass rfl rfl rfl rfl ?_
            refine Reg.pass rfl rfl rfl rfl ?_
            refine s_pkT rfl rfl rfl ?_
            refine Reg.nil ?_
            obtain rfl := Option.some.inj h81
            refine ⟨rfl, true, ⟨hI97, ((Adv.of_ext e90).trans (Adv.of_ext e96)), rfl⟩, Sub.cons rfl (Sub.cons rfl (Sub.cons rfl (Sub.cons rfl (Sub.nil _))))⟩
           ·replace h81 := cdF hg99 h81
            refine Reg.take rfl rfl ?_
            refine s_fa rfl Tryz.underlying66 rfl Tryz.sizeOf3 rfl ?_
            refine Reg.take rfl rfl ?_
            refine s_ld rfl ((hC63.adv ((Adv.of_ext e67).trans ((Adv.of_ext e90).trans (Adv.of_ext e96)))).cells.at 3 rfl) Tryz.isAgg3 rfl ?_
            refine Reg.take rfl rfl ?_
            refine s_mv rfl rfl ?_
            refine Reg.take rfl rfl ?_
            refine s_leq rfl rfl rfl ?_
            refine s_pkF rfl rfl rfl ?_
            refine s_mv rfl rfl ?_
            refine Reg.gsplit (t := 74) rfl (fun hg100 => ?_) (fun hg100 => ?_)
            ·replace h81 := cdT hg100 h81
             refine Reg.pass rfl rfl rfl rfl ?_
             refine Reg.pass rfl rfl rfl rfl ?_
             refine Reg.pass rfl rfl rfl rfl ?_
             refine Reg.pass rfl rfl rfl rfl ?_
             refine Reg.pass rfl rfl rfl rfl ?_
             refine Reg.pass rfl rfl rfl rfl ?_
             refine s_pkT rfl rfl rfl ?_
             refine s_mv rfl rfl ?_
             refine Reg.pass rfl rfl rfl rfl ?_
             refine Reg.pass rfl rfl rfl rfl ?_
             refine Reg.pass rfl rfl rfl rfl ?_
             refine Reg.pass rfl rfl rfl rfl ?_
             refine Reg.pass rfl rfl rfl rfl ?_
             refine Reg.pass rfl rfl rfl rfl ?_
             refine s_pkT rfl rfl rfl ?_
             refine s_mv rfl rfl ?_
             refine Reg.pass rfl rfl rfl rfl ?_
             refine Reg.pass rfl rfl rfl rfl ?_
             refine Reg.pass rfl rfl rfl rfl ?_
             refine Reg.pass rfl rfl rfl rfl ?_
             refine Reg.pass rfl rfl rfl rfl ?_
             refine s_pkT rfl rfl rfl ?_
             refine s_mv rfl rfl ?_
             refine Reg.pass rfl rfl rfl rfl ?_
             refine Reg.pass rfl rfl rfl rfl ?_
             refine Reg.pass rfl rfl rfl rfl ?_
             refine s_pkT rfl rfl rfl ?_
             refine Reg.nil ?_
             obtain rfl := Option.some.inj h81
             refine ⟨rfl, true, ⟨hI97, ((Adv.of_ext e90).trans (Adv.of_ext e96)), rfl⟩, Sub.cons rfl (Sub.cons rfl (Sub.cons rfl (Sub.cons rfl (Sub.nil _))))⟩
            ·replace h81 := cdF hg100 h81
             refine Reg.take rfl rfl ?_
             refine s_fa rfl Tryz.underlying66 rfl Tryz.sizeOf3 rfl ?_
             refine Reg.take rfl rfl ?_
             refine s_ld rfl ((hC63.adv ((Adv.of_ext e67).trans ((Adv.of_ext e90).trans (Adv.of_ext e96)))).cells.at 2 rfl) Tryz.isAgg3 rfl ?_
             refine Reg.take rfl rfl ?_
             refine s_fa rfl Tryz.underlying44 rfl Tryz.sizeOf42 rfl ?_
             refine Reg.take rfl rfl ?_
             refine s_ld rfl ((hC6.adv (hA12.trans (hA34.trans (x58.trans (x61.trans ((Hp.eraseA (σ := [rowR 66 b55 [Value.int .i64 y44.trait, Value.int .i64 y44.cut, Value.int .i64 y44.low, Value.int .i64 y44.high, Value.int .i64 y44.points]]) 0).trans ((Adv.of_ext e67).trans ((Adv.of_ext e90).trans (Adv.of_ext e96))))))))).cells.at 1 rfl) Tryz.isAgg42 rfl ?_
             refine Reg.take rfl rfl ?_
             refine s_len rfl (f_t_1.adv hI97.adv) Tryz.underlying42 rfl ?_
             refine Reg.take rfl rfl ?_
             refine s_geq rfl rfl rfl ?_
             refine s_pkF rfl rfl rfl ?_
             refine s_mv rfl rfl ?_
             refine Reg.gsplit (t := 82) rfl (fun hg101 => ?_) (fun hg101 => ?_)
             ·replace h81 := cdT hg101 h81
              refine Reg.pass rfl rfl rfl rfl ?_
              refine Reg.pass rfl rfl rfl rfl ?_
              refine Reg.pass rfl rfl rfl rfl ?_
              refine Reg.pass rfl rfl rfl rfl ?_
              refine Reg.pass rfl rfl rfl rfl ?_
              refine Reg.pass rfl rfl rfl rfl ?_
              refine s_pkT rfl rfl rfl ?_
              refine s_mv rfl rfl ?_
              refine Reg.pass rfl rfl rfl rfl ?_
              refine Reg.pass rfl rfl rfl rfl ?_
              refine Reg.pass rfl rfl rfl rfl ?_
              refine Reg.pass rfl rfl rfl rfl ?_
              refine Reg.pass rfl rfl rfl rfl ?_
              refine s_pkT rfl rfl rfl ?_
              refine s_mv rfl rfl ?_
              refine Reg.pass rfl rfl rfl rfl ?_
              refine Reg.pass rfl rfl rfl rfl ?_
              refine Reg.pass rfl rfl rfl rfl ?_
              refine s_pkT rfl rfl rfl ?_
              refine Reg.nil ?_
              obtain rfl := Option.some.inj h81
              refine ⟨rfl, true, ⟨hI97, ((Adv.of_ext e90).trans (Adv.of_ext e96)), rfl⟩, Sub.cons rfl (Sub.cons rfl (Sub.cons rfl (Sub.cons rfl (Sub.nil _))))⟩
             ·replace h81 := cdF hg101 h81
              refine Reg.take rfl rfl ?_
              refine s_fa rfl Tryz.underlying66 rfl Tryz.sizeOf3 rfl ?_
              refine Reg.take rfl rfl ?_
              refine s_ld rfl ((hC63.adv ((Adv.of_ext e67).trans ((Adv.of_ext e90).trans (Adv.of_ext e96)))).cells.at 3 rfl) Tryz.isAgg3 rfl ?_
              refine Reg.take rfl rfl ?_
              refine s_fa rfl Tryz.underlying44 rfl Tryz.sizeOf42 rfl ?_
              refine Reg.take rfl rfl ?_
              refine s_ld rfl ((hC6.adv (hA12.trans (hA34.trans (x58.trans (x61.trans ((Hp.eraseA (σ := [rowR 66 b55 [Value.int .i64 y44.trait, Value.int .i64 y44.cut, Value.int .i64 y44.low, Value.int .i64 y44.high, Value.int .i64 y44.points]]) 0).trans ((Adv.of_ext e67).trans ((Adv.of_ext e90).trans (Adv.of_ext e96))))))))).cells.at 1 rfl) Tryz.isAgg42 rfl ?_
              refine Reg.take rfl rfl ?_
              refine s_len rfl (f_t_1.adv hI97.adv) Tryz.underlying42 rfl ?_
              refine Reg.take rfl rfl ?_
              refine s_geq rfl rfl rfl ?_
              refine s_pkF rfl rfl rfl ?_
              refine s_mv rfl rfl ?_
              refine Reg.gsplit (t := 90) rfl (fun hg102 => ?_) (fun hg102 => ?_)
              ·replace h81 := cdT hg102 h81
               refine Reg.pass rfl rfl rfl rfl ?_
               refine Reg.pass rfl rfl rfl rfl ?_
               refine Reg.pass rfl rfl rfl rfl ?_
               refine Reg.pass rfl rfl rfl rfl ?_
               refine Reg.pass rfl rfl rfl rfl ?_
               refine s_pkT rfl rfl rfl ?_
               refine s_mv rfl rfl ?_
               refine Reg.pass rfl rfl rfl rfl ?_
               refine Reg.pass rfl rfl rfl rfl ?_
               refine Reg.pass rfl rfl rfl rfl ?_
               refine s_pkT rfl rfl rfl ?_
               refine Reg.nil ?_
               obtain rfl := Option.some.inj h81
               refine ⟨rfl, true, ⟨hI97, ((Adv.of_ext e90).trans (Adv.of_ext e96)), rfl⟩, Sub.cons rfl (Sub.cons rfl (Sub.cons rfl (Sub.cons rfl (Sub.nil _))))⟩
              ·replace h81 := cdF hg102 h81
               refine Reg.take rfl rfl ?_
               refine s_fa rfl Tryz.underlying66 rfl Tryz.sizeOf3 rfl ?_
               refine Reg.take rfl rfl ?_
               refine s_ld rfl ((hC63.adv ((Adv.of_ext e67).trans ((Adv.of_ext e90).trans (Adv.of_ext e96)))).cells.at 2 rfl) Tryz.isAgg3 rfl ?_
               refine Reg.take rfl rfl ?_
               refine s_fa rfl Tryz.underlying66 rfl Tryz.sizeOf3 rfl ?_
               refine Reg.take rfl rfl ?_
               refine s_ld rfl ((hC63.adv ((Adv.of_ext e67).trans ((Adv.of_ext e90).trans (Adv.of_ext e96)))).cells.at 3 rfl) Tryz.isAgg3 rfl ?_
               refine Reg.take rfl rfl ?_
               refine s_eql rfl rfl rfl ?_
               refine s_pkF rfl rfl rfl ?_
               refine s_mv rfl rfl ?_
               refine Reg.gsplit (t := 97) rfl (fun hg103 => ?_) (fun hg103 => ?_)
               ·replace h81 := cdT hg103 h81
                refine Reg.pass rfl rfl rfl rfl ?_
                refine Reg.pass rfl rfl rfl rfl ?_
                refine Reg.pass rfl rfl rfl rfl ?_
                refine s_pkT rfl rfl rfl ?_
                refine Reg.nil ?_
                obtain rfl := Option.some.inj h81
                refine ⟨rfl, true, ⟨hI97, ((Adv.of_ext e90).trans (Adv.of_ext e96)), rfl⟩, Sub.cons rfl (Sub.cons rfl (Sub.cons rfl (Sub.cons rfl (Sub.nil _))))⟩
               ·replace h81 := cdF hg103 h81
                refine Reg.take rfl rfl ?_
                refine s_fa rfl Tryz.underlying66 rfl Tryz.sizeOf3 rfl ?_
                refine Reg.take rfl rfl ?_
                refine s_ld rfl ((hC63.adv ((Adv.of_ext e67).trans ((Adv.of_ext e90).trans (Adv.of_ext e96)))).cells.at 4 rfl) Tryz.isAgg3 rfl ?_
                refine Reg.take rfl rfl ?_
                refine s_neq rfl rfl rfl ?_
                refine s_pkF rfl rfl rfl ?_
                refine Reg.nil ?_
                obtain rfl := Option.some.inj h81
                refine ⟨rfl, !decide (y44.points = 0), ⟨hI97, ((Adv.of_ext e90).trans (Adv.of_ext e96)), rfl⟩, Sub.cons rfl (Sub.cons rfl (Sub.cons rfl (Sub.cons rfl (Sub.nil _))))⟩
        ·skip
         rintro x82 w83 ⟨hI84, hA85, rfl⟩
         refine cw_cond rfl (fun hc104 => ?_) (fun hc104 => ?_)
         ·replace h40 := cdT hc104 h40
          refine cw_seq (cw_regF ?_)
          refine s_as rfl rfl ?_
          refine Reg.nil ?_
          refine cw_ret ?_
          obtain rfl := Option.some.inj h40
          replace h36 := elimR h36
          obtain rfl := Option.some.inj h36
          obtain rfl := hR37 _ rfl
          replace h := elimR h
          obtain rfl := Option.some.inj h
          refine fin1 Tryz.results48 rfl ?_
          exact ⟨rfl, hI84.kp⟩
         ·replace h40 := cdF hc104 h40
          refine cw_skip ?_
          obtain rfl := Option.some.inj h40
          refine ⟨rfl, (), ⟨hI84, (x58.trans (x61.trans ((Hp.eraseA (σ := [rowR 66 b55 [Value.int .i64 y44.trait, Value.int .i64 y44.cut, Value.int .i64 y44.low, Value.int .i64 y44.high, Value.int .i64 y44.points]]) 0).trans ((Adv.of_ext e67).trans hA85)))), rfl⟩, Sub.cons rfl (Sub.cons rfl (Sub.cons rfl (Sub.nil _)))⟩
     ·skip
      rintro _ w41 ⟨hI42, hA43, rfl⟩
      replace h36 := elimL h36
      refine cw_regF ?_
      refine s_mv rfl rfl ?_
      obtain ⟨n105, hn105, h36⟩ := bnd h36
      replace hn105 := chk_out hn105
      refine p_add rfl rfl rfl hn105 ?_
      refine s_as rfl rfl ?_
      refine Reg.nil ?_
      obtain rfl := Option.some.inj h36
      refine ⟨rfl, n105, ⟨⟨hI42, (hA34.trans hA43), hn105.2⟩, rfl⟩, Sub.cons rfl (Sub.cons rfl (Sub.cons rfl (Sub.nil _)))⟩
    ·replace h36 := cdF hc38 h36
     refine cw_exit ?_
     refine exB_same ?_
     obtain rfl := Option.some.inj h36
     obtain rfl := hR37 _ rfl
     refine ⟨rfl, (), ⟨hI33, hA34, rfl⟩, Sub.nil _⟩
   ·skip
    rintro _ w27 ⟨hI28, hA29, rfl⟩
    replace h := elimL h
    refine cw_seq (cw_regF ?_)
    refine s_as rfl rfl ?_
    refine Reg.nil ?_
    refine cw_ret ?_
    obtain rfl := Option.some.inj h
    refine fin1 Tryz.results48 rfl ?_
    exact ⟨rfl, hI28.kp⟩
noncomputable def P.ref06_Check (m : Model) : Option Int :=
 Option.bind (Option.bind (P.ref06_within m.traits 1 5) fun z7 => cond (!z7) (some true) (Option.bind (P.ref06_points m.need) fun z13 => cond (!z13) (some true) (cond (decide (2 < (m.cards.length : Int))) (some true) (some (decide (2 < (m.trees.length : Int))))))) fun x20 => cond x20 (some 60) (Option.bind (loopM (S := Int) (R := (Unit) ⊕ (Int)) (fun x22 => cond (decide (x22 < (m.cards.length : Int))) (Option.bind (ixo m.cards x22) fun y24 => Option.bind (P.ref06_card y24 m.traits) fun z34 => cond (!z34) (some (.inr (.inr 60))) (Option.bind (chk .i64 (x22 + 1)) fun n42 => some (.inl n42))) (some (.inr (.inl ())))) 0) fun j43 => Sum.elim (fun _ => Option.bind (loopM (S := Int) (R := (Unit) ⊕ (Int)) (fun x44 => cond (decide (x44 < (m.trees.length : Int))) (Option.bind (ixo m.trees x44) fun y46 => Option.bind (P.ref06_tree y46 m.traits) fun z55 => cond (!z55) (some (.inr (.inr 60))) (Option.bind (chk .i64 (x44 + 1)) fun n63 => some (.inl n63))) (some (.inr (.inl ())))) 0) fun j64 => Sum.elim (fun _ => some 0) (fun r65 => some r65)  j64) (fun r66 => some r66)  j43)
theorem C_ref06_Check {M : List Nat} {w : World} (hM : MLt M w) {m : Model} {v_m_1 : Value} {v_m_2 : Value} (f_m_0 : InK .i64 m.traits) (f_m_1 : RdS CardE M w v_m_1 m.cards) (f_m_2 : RdS TreeE M w v_m_2 m.trees) (f_m_3 : InK .i64 m.need) {r0 : Int} (h : P.ref06_Check m = some r0) :
  Calls Tryz.prog 29 (List.toArray [Value.agg (List.toArray [Value.int .i64 m.traits, v_m_1, v_m_2, Value.int .i64 m.need])]) w fun e w' => e = .returned (Value.int .i64 r0) ∧ InK .i64 r0 ∧ Ext w w' := by
 have hI := Hp.start (Mu := []) hM
 refine calls_cw Tryz.func29 rfl Tryz.ntmps29 rfl ?_
 refine cw_seq (cw_regF ?_)
 refine y_box hI rfl rfl rfl ?_
 intro b1 w2 hI3 x4
 have hC6 := hI3.freezeRow 0 rfl
 have hI5 := hI3.erase 0
 refine s_as rfl rfl ?_
 refine Reg.nil ?_
 refine cw_seq ?_
 obtain ⟨j7, h8, h⟩ := bnd h
 refine cw_sub (L := [(1, _)]) (Sub.cons rfl (Sub.nil _)) ?_
 refine cw_seqD 0 (ι := Bool) (fun x9 => [(26, Value.bool x9)]) (fun x9 => fun w10 => Hp w [] M [] w10 ∧ Adv (mm [] M) (mm [] M) w2 w10 ∧ x9 = j7) ?_ ?_
 ·skip
  refine cw_regF ?_
  refine s_fa rfl Tryz.underlying25 rfl Tryz.sizeOf3 rfl ?_
  refine s_ld rfl (hC6.cells.at 0 rfl) Tryz.isAgg3 rfl ?_
  obtain ⟨z13, hz14, h8⟩ := bnd h8
  refine s_call rfl Tryz.call45 rfl ?_
  refine (C_ref06_within hI5.mlt f_m_0 (by decide) (by decide) hz14).mono ?_
  rintro _ w15 ⟨rfl, e16⟩
  refine ⟨_, rfl, ?_⟩
  have hI17 := hI5.ext e16
  refine s_not rfl rfl ?_
  refine s_mv rfl rfl ?_
  refine Reg.gsplit (t := 9) rfl (fun hg18 => ?_) (fun hg18 => ?_)
  ·replace h8 := cdT hg18 h8
   refine Reg.pass rfl rfl rfl rfl ?_
   refine Reg.pass rfl rfl rfl rfl ?_
   refine Reg.pass rfl rfl rfl rfl ?_
   refine Reg.pass rfl rfl rfl rfl ?_
   refine s_pkT rfl rfl rfl ?_
   refine s_mv rfl rfl ?_
   refine Reg.pass rfl rfl rfl rfl ?_
   refine Reg.pass rfl rfl rfl rfl ?_
   refine Reg.pass rfl rfl rfl rfl ?_
   refine Reg.pass rfl rfl rfl rfl ?_
   refine s_pkT rfl rfl rfl ?_
   refine s_mv rfl rfl ?_
   refine Reg.pass rfl rfl rfl rfl ?_
   refine Reg.pass rfl rfl rfl rfl ?_
   refine Reg.pass rfl rfl rfl rfl ?_
   refine Reg.pass rfl rfl rfl rfl ?_
   refine s_pkT rfl rfl rfl ?_
   refine Reg.nil ?_
   obtain rfl := Option.some.inj h8
   refine ⟨rfl, true, ⟨hI17, (Adv.of_ext e16), rfl⟩, Sub.cons rfl (Sub.cons rfl (Sub.nil _))⟩
  ·replace h8 := cdF hg18 h8
   refine Reg.take rfl rfl ?_
   refine s_fa rfl Tryz.underlying25 rfl Tryz.sizeOf3 rfl ?_
   refine Reg.take rfl rfl ?_
   refine s_ld rfl ((hC6.adv (Adv.of_ext e16)).cells.at 3 rfl) Tryz.isAgg3 rfl ?_
   refine Reg.take rfl rfl ?_
   obtain ⟨z19, hz20, h8⟩ := bnd h8
   refine s_call rfl Tryz.call46 rfl ?_
   refine (C_ref06_points hI17.mlt f_m_3 hz20).mono ?_
   rintro _ w21 ⟨rfl, e22⟩
   refine ⟨_, rfl, ?_⟩
   have hI23 := hI17.ext e22
   refine Reg.take rfl rfl ?_
   refine s_not rfl rfl ?_
   refine s_pkF rfl rfl rfl ?_
   refine s_mv rfl rfl ?_
   refine Reg.gsplit (t := 15) rfl (fun hg24 => ?_) (fun hg24 => ?_)
   ·replace h8 := cdT hg24 h8
    refine Reg.pass rfl rfl rfl rfl ?_
    refine Reg.pass rfl rfl rfl rfl ?_
    refine Reg.pass rfl rfl rfl rfl ?_
    refine Reg.pass rfl rfl rfl rfl ?_
    refine s_pkT rfl rfl rfl ?_
    refine s_mv rfl rfl ?_
    refine Reg.pass rfl rfl rfl rfl ?_
    refine Reg.pass rfl rfl rfl rfl ?_
    refine Reg.pass rfl rfl rfl rfl ?_
    refine Reg.pass rfl rfl rfl rfl ?_
    refine s_pkT rfl rfl rfl ?_
    refine Reg.nil ?_
    obtain rfl := Option.some.inj h8
    refine ⟨rfl, true, ⟨hI23, ((Adv.of_ext e16).trans (Adv.of_ext e22)), rfl⟩, Sub.cons rfl (Sub.cons rfl (Sub.nil _))⟩
   ·replace h8 := cdF hg24 h8
    refine Reg.take rfl rfl ?_
    refine s_fa rfl Tryz.underlying25 rfl Tryz.sizeOf22 rfl ?_
    refine Reg.take rfl rfl ?_
    refine s_ld rfl ((hC6.adv ((Adv.of_ext e16).trans (Adv.of_ext e22))).cells.at 1 rfl) Tryz.isAgg22 rfl ?_
    refine Reg.take rfl rfl ?_
    refine s_len rfl (f_m_1.adv hI23.adv) Tryz.underlying22 rfl ?_
    refine Reg.take rfl rfl ?_
    refine s_gtr rfl rfl rfl ?_
    refine s_pkF rfl rfl rfl ?_
    refine s_mv rfl rfl ?_
    refine Reg.gsplit (t := 21) rfl (fun hg25 => ?_) (fun hg25 => ?_)
    ·replace h8 := cdT hg25 h8
     refine Reg.pass rfl rfl rfl rfl ?_
     refine Reg.pass rfl rfl rfl rfl ?_
     refine Reg.pass rfl rfl rfl rfl ?_
     refine Reg.pass rfl rfl rfl rfl ?_
     refine s_pkT rfl rfl rfl ?_
     refine Reg.nil ?_
     obtain rfl := Option.some.inj h8
     refine ⟨rfl, true, ⟨hI23, ((Adv.of_ext e16).trans (Adv.of_ext e22)), rfl⟩, Sub.cons rfl (Sub.cons rfl (Sub.nil _))⟩
    ·replace h8 := cdF hg25 h8
     refine Reg.take rfl rfl ?_
     refine s_fa rfl Tryz.underlying25 rfl Tryz.sizeOf23 rfl ?_
     refine Reg.take rfl rfl ?_
     refine s_ld rfl ((hC6.adv ((Adv.of_ext e16).trans (Adv.of_ext e22))).cells.at 2 rfl) Tryz.isAgg23 rfl ?_
     refine Reg.take rfl rfl ?_
     refine s_len rfl (f_m_2.adv hI23.adv) Tryz.underlying23 rfl ?_
     refine Reg.take rfl rfl ?_
     refine s_gtr rfl rfl rfl ?_
     refine s_pkF rfl rfl rfl ?_
     refine Reg.nil ?_
     obtain rfl := Option.some.inj h8
     refine ⟨rfl, decide (2 < (m.trees.length : Int)), ⟨hI23, ((Adv.of_ext e16).trans (Adv.of_ext e22)), rfl⟩, Sub.cons rfl (Sub.cons rfl (Sub.nil _))⟩
 ·skip
  rintro x9 w10 ⟨hI11, hA12, rfl⟩
  refine cw_cond rfl (fun hc26 => ?_) (fun hc26 => ?_)
  ·replace h := cdT hc26 h
   refine cw_seq (cw_regF ?_)
   refine s_as rfl rfl ?_
   refine Reg.nil ?_
   refine cw_ret ?_
   obtain rfl := Option.some.inj h
   refine fin1 Tryz.results29 rfl ?_
   exact ⟨rfl, (by decide), hI11.kp⟩
  ·replace h := cdF hc26 h
   refine cw_skip (cw_seq (cw_seq (cw_regF ?_)))
   refine s_as rfl rfl ?_
   refine Reg.nil ?_
   obtain ⟨j27, h28, h⟩ := bnd h
   refine cw_sub (L := [(3, _), (1, _)]) (Sub.cons rfl (Sub.cons rfl (Sub.nil _))) ?_
   refine cw_unitD 1 (ι := Unit) (fun _ => []) (fun _ => fun w29 => Hp w [] M [] w29 ∧ Adv (mm [] M) (mm [] M) w10 w29 ∧ (.inl ()) = j27) ?_ ?_
   ·skip
    refine cw_block ?_
    refine cw_sub (L := [(3, _), (1, _)]) (Sub.cons rfl (Sub.cons rfl (Sub.nil _))) ?_
    refine cw_loopM 1 (ι := Int) _ (fun x32 => [(3, Value.int .i64 x32)]) (fun x32 => x32) (fun x32 => fun w34 => Hp w [] M [] w34 ∧ Adv (mm [] M) (mm [] M) w10 w34 ∧ InK .i64 x32) 0 h28 ⟨hI11, (Adv.refl _ _), (by decide)⟩ (Sub.cons rfl (Sub.cons rfl (Sub.nil _))) ?_
    rintro x32 w34 ⟨hI35, hA36, r33⟩ y37 h38 hR39
    refine cw_seq (cw_seq (cw_regF ?_))
    refine s_mv rfl rfl ?_
    refine s_fa rfl Tryz.underlying25 rfl Tryz.sizeOf22 rfl ?_
    refine s_ld rfl ((hC6.adv (hA12.trans hA36)).cells.at 1 rfl) Tryz.isAgg22 rfl ?_
    refine s_len rfl (f_m_1.adv hI35.adv) Tryz.underlying22 rfl ?_
    refine s_lss rfl rfl rfl ?_
    refine Reg.nil ?_
    refine cw_cond rfl (fun hc40 => ?_) (fun hc40 => ?_)
    ·replace h38 := cdT hc40 h38
     refine cw_skip ?_
     refine cw_seq ?_
     refine cw_block ?_
     refine cw_seq ?_
     refine cw_regT fol (by kernel_rfl) ?_
     refine s_fa rfl Tryz.underlying25 rfl Tryz.sizeOf22 rfl ?_
     refine s_ld rfl ((hC6.adv (hA12.trans hA36)).cells.at 1 rfl) Tryz.isAgg22 rfl ?_
     refine s_mv rfl rfl ?_
     obtain ⟨y41, hy41, h38⟩ := bnd h38
     refine p_ia rfl rfl (f_m_1.adv hI35.adv) hy41 Tryz.underlying22 Tryz.sizeOf39 rfl ?_
     intro b42 o43 cs44 hR45 hC46
     obtain ⟨v49, rfl, r47, r48, hf50⟩ := CardE_R.1 hR45
     refine s_lda rfl hC46.cells Tryz.isAgg39 rfl Tryz.sizeOf39 rfl ?_
     refine s_fa rfl Tryz.underlying25 rfl Tryz.sizeOf3 rfl ?_
     refine s_ld rfl ((hC6.adv (hA12.trans hA36)).cells.at 0 rfl) Tryz.isAgg3 rfl ?_
     obtain ⟨z51, hz52, h38⟩ := bnd h38
     refine s_callq rfl rfl Tryz.call47 rfl (fun w53 e54 => (C_ref06_card (hI35.mlt.ext e54) r47 r48 (hf50.adv (Adv.of_ext e54)) f_m_0 hz52).mono (fun _ _ hq => ⟨hq.1, hq.2⟩)) ?_
     refine s_not rfl rfl ?_
     refine Reg.nilq (fun w55 e56 => ?_)
     have hI57 := hI35.ext e56
     refine cw_cond rfl (fun hc58 => ?_) (fun hc58 => ?_)
     ·replace h38 := cdT hc58 h38
      refine cw_seq (cw_regF ?_)
      refine s_as rfl rfl ?_
      refine Reg.nil ?_
      refine cw_ret ?_
      obtain rfl := Option.some.inj h38
      obtain rfl := hR39 _ rfl
      replace h := elimR h
      obtain rfl := Option.some.inj h
      refine fin1 Tryz.results29 rfl ?_
      exact ⟨rfl, (by decide), hI57.kp⟩
     ·replace h38 := cdF hc58 h38
      refine cw_skip ?_
      refine cw_regF ?_
      refine s_mv rfl rfl ?_
      obtain ⟨n59, hn59, h38⟩ := bnd h38
      replace hn59 := chk_out hn59
      refine p_add rfl rfl rfl hn59 ?_
      refine s_as rfl rfl ?_
      refine Reg.nil ?_
      obtain rfl := Option.some.inj h38
      refine ⟨rfl, n59, ⟨⟨hI57, (hA36.trans (Adv.of_ext e56)), hn59.2⟩, rfl⟩, Sub.cons rfl (Sub.cons rfl (Sub.nil _))⟩
    ·replace h38 := cdF hc40 h38
     refine cw_exit ?_
     refine exB_same ?_
     obtain rfl := Option.some.inj h38
     obtain rfl := hR39 _ rfl
     refine ⟨rfl, (), ⟨hI35, hA36, rfl⟩, Sub.cons rfl (Sub.nil _)⟩
   ·skip
    rintro _ w29 ⟨hI30, hA31, rfl⟩
    replace h := elimL h
    refine cw_seq (cw_seq (cw_regF ?_))
    refine s_as rfl rfl ?_
    refine Reg.nil ?_
    obtain ⟨j60, h61, h⟩ := bnd h
    refine cw_sub (L := [(1, _), (4, _)]) (Sub.cons rfl (Sub.cons rfl (Sub.nil _))) ?_
    refine cw_unitD 2 (ι := Unit) (fun _ => []) (fun _ => fun w62 => Hp w [] M [] w62 ∧ Adv (mm [] M) (mm [] M) w29 w62 ∧ (.inl ()) = j60) ?_ ?_
    ·skip
     refine cw_block ?_
     refine cw_sub (L := [(4, _), (1, _)]) (Sub.cons rfl (Sub.cons rfl (Sub.nil _))) ?_
     refine cw_loopM 1 (ι := Int) _ (fun x65 => [(4, Value.int .i64 x65)]) (fun x65 => x65) (fun x65 => fun w67 => Hp w [] M [] w67 ∧ Adv (mm [] M) (mm [] M) w29 w67 ∧ InK .i64 x65) 0 h61 ⟨hI30, (Adv.refl _ _), (by decide)⟩ (Sub.cons rfl (Sub.cons rfl (Sub.nil _))) ?_
     rintro x65 w67 ⟨hI68, hA69, r66⟩ y70 h71 hR72
     refine cw_seq (cw_seq (cw_regF ?_))
     refine s_mv rfl rfl ?_
     refine s_fa rfl Tryz.underlying25 rfl Tryz.sizeOf23 rfl ?_
     refine s_ld rfl ((hC6.adv (hA12.trans (hA31.trans hA69))).cells.at 2 rfl) Tryz.isAgg23 rfl ?_
     refine s_len rfl (f_m_2.adv hI68.adv) Tryz.underlying23 rfl ?_
     refine s_lss rfl rfl rfl ?_
     refine Reg.nil ?_
     refine cw_cond rfl (fun hc73 => ?_) (fun hc73 => ?_)
     ·replace h71 := cdT hc73 h71
      refine cw_skip ?_
      refine cw_seq ?_
      refine cw_block ?_
      refine cw_seq ?_
      refine cw_regT fol (by kernel_rfl) ?_
      refine s_fa rfl Tryz.underlying25 rfl Tryz.sizeOf23 rfl ?_
      refine s_ld rfl ((hC6.adv (hA12.trans (hA31.trans hA69))).cells.at 2 rfl) Tryz.isAgg23 rfl ?_
      refine s_mv rfl rfl ?_
      obtain ⟨y74, hy74, h71⟩ := bnd h71
      refine p_ia rfl rfl (f_m_2.adv hI68.adv) hy74 Tryz.underlying23 Tryz.sizeOf44 rfl ?_
      intro b75 o76 cs77 hR78 hC79
      obtain ⟨v81, rfl, r80, hf82⟩ := TreeE_R.1 hR78
      refine s_lda rfl hC79.cells Tryz.isAgg44 rfl Tryz.sizeOf44 rfl ?_
      refine s_fa rfl Tryz.underlying25 rfl Tryz.sizeOf3 rfl ?_
      refine s_ld rfl ((hC6.adv (hA12.trans (hA31.trans hA69))).cells.at 0 rfl) Tryz.isAgg3 rfl ?_
      obtain ⟨z83, hz84, h71⟩ := bnd h71
      refine s_callq rfl rfl Tryz.call48 rfl (fun w85 e86 => (C_ref06_tree (hI68.mlt.ext e86) r80 (hf82.adv (Adv.of_ext e86)) f_m_0 hz84).mono (fun _ _ hq => ⟨hq.1, hq.2⟩)) ?_
      refine s_not rfl rfl ?_
      refine Reg.nilq (fun w87 e88 => ?_)
      have hI89 := hI68.ext e88
      refine cw_cond rfl (fun hc90 => ?_) (fun hc90 => ?_)
      ·replace h71 := cdT hc90 h71
       refine cw_seq (cw_regF ?_)
       refine s_as rfl rfl ?_
       refine Reg.nil ?_
       refine cw_ret ?_
       obtain rfl := Option.some.inj h71
       obtain rfl := hR72 _ rfl
       replace h := elimR h
       obtain rfl := Option.some.inj h
       refine fin1 Tryz.results29 rfl ?_
       exact ⟨rfl, (by decide), hI89.kp⟩
      ·replace h71 := cdF hc90 h71
       refine cw_skip ?_
       refine cw_regF ?_
       refine s_mv rfl rfl ?_
       obtain ⟨n91, hn91, h71⟩ := bnd h71
       replace hn91 := chk_out hn91
       refine p_add rfl rfl rfl hn91 ?_
       refine s_as rfl rfl ?_
       refine Reg.nil ?_
       obtain rfl := Option.some.inj h71
       refine ⟨rfl, n91, ⟨⟨hI89, (hA69.trans (Adv.of_ext e88)), hn91.2⟩, rfl⟩, Sub.cons rfl (Sub.cons rfl (Sub.nil _))⟩
     ·replace h71 := cdF hc73 h71
      refine cw_exit ?_
      refine exB_same ?_
      obtain rfl := Option.some.inj h71
      obtain rfl := hR72 _ rfl
      refine ⟨rfl, (), ⟨hI68, hA69, rfl⟩, Sub.nil _⟩
    ·skip
     rintro _ w62 ⟨hI63, hA64, rfl⟩
     replace h := elimL h
     refine cw_seq (cw_regF ?_)
     refine s_as rfl rfl ?_
     refine Reg.nil ?_
     refine cw_ret ?_
     obtain rfl := Option.some.inj h
     refine fin1 Tryz.results29 rfl ?_
     exact ⟨rfl, (by decide), hI63.kp⟩
noncomputable def P.ref06_Values (m : Model) (x : (List Int)) : Option Bool :=
 cond (!decide ((x.length : Int) = m.traits)) (some false) (Option.bind (loopM (S := Int) (R := (Unit) ⊕ (Bool)) (fun x8 => cond (decide (x8 < (x.length : Int))) (Option.bind (ixo x x8) fun y10 => Option.bind (P.ref06_within y10 (-1) 1000000) fun z17 => cond (!z17) (some (.inr (.inr false))) (Option.bind (chk .i64 (x8 + 1)) fun n23 => some (.inl n23))) (some (.inr (.inl ())))) 0) fun j24 => Sum.elim (fun _ => some true) (fun r25 => some r25)  j24)
theorem C_ref06_Values {M : List Nat} {w : World} (hM : MLt M w) {m : Model} {v_m_1 : Value} {v_m_2 : Value} (f_m_0 : InK .i64 m.traits) (f_m_1 : RdS CardE M w v_m_1 m.cards) (f_m_2 : RdS TreeE M w v_m_2 m.trees) (f_m_3 : InK .i64 m.need) {x : (List Int)} {v_x_0 : Value} (f_x_0 : RdS (intE .i64) M w v_x_0 x) {r0 : Bool} (h : P.ref06_Values m x = some r0) :
  Calls Tryz.prog 30 (List.toArray [Value.agg (List.toArray [Value.int .i64 m.traits, v_m_1, v_m_2, Value.int .i64 m.need]), v_x_0]) w fun e w' => e = .returned (Value.bool r0) ∧ Ext w w' := by
 have hI := Hp.start (Mu := []) hM
 refine calls_cw Tryz.func30 rfl Tryz.ntmps30 rfl ?_
 refine cw_seq (cw_regF ?_)
 refine y_box hI rfl rfl rfl ?_
 intro b1 w2 hI3 x4
 have hC6 := hI3.freezeRow 0 rfl
 have hI5 := hI3.erase 0
 refine s_as rfl rfl ?_
 refine Reg.nil ?_
 refine cw_seq (cw_seq (cw_regF ?_))
 refine s_mv rfl rfl ?_
 refine s_len rfl (f_x_0.adv hI5.adv) Tryz.underlying26 rfl ?_
 refine s_fa rfl Tryz.underlying25 rfl Tryz.sizeOf3 rfl ?_
 refine s_ld rfl (hC6.cells.at 0 rfl) Tryz.isAgg3 rfl ?_
 refine s_neq rfl rfl rfl ?_
 refine Reg.nil ?_
 refine cw_cond rfl (fun hc7 => ?_) (fun hc7 => ?_)
 ·replace h := cdT hc7 h
  refine cw_seq (cw_regF ?_)
  refine s_as rfl rfl ?_
  refine Reg.nil ?_
  refine cw_ret ?_
  obtain rfl := Option.some.inj h
  refine fin1 Tryz.results30 rfl ?_
  exact ⟨rfl, hI5.kp⟩
 ·replace h := cdF hc7 h
  refine cw_skip (cw_seq (cw_seq (cw_regF ?_)))
  refine s_as rfl rfl ?_
  refine Reg.nil ?_
  obtain ⟨j8, h9, h⟩ := bnd h
  refine cw_sub (L := [(1, _), (5, _)]) (Sub.cons rfl (Sub.cons rfl (Sub.nil _))) ?_
  refine cw_unitD 2 (ι := Unit) (fun _ => []) (fun _ => fun w10 => Hp w [] M [] w10 ∧ Adv (mm [] M) (mm [] M) w2 w10 ∧ (.inl ()) = j8) ?_ ?_
  ·skip
   refine cw_block ?_
   refine cw_sub (L := [(5, _), (1, _)]) (Sub.cons rfl (Sub.cons rfl (Sub.nil _))) ?_
   refine cw_loopM 1 (ι := Int) _ (fun x13 => [(5, Value.int .i64 x13)]) (fun x13 => x13) (fun x13 => fun w15 => Hp w [] M [] w15 ∧ Adv (mm [] M) (mm [] M) w2 w15 ∧ InK .i64 x13) 0 h9 ⟨hI5, (Adv.refl _ _), (by decide)⟩ (Sub.cons rfl (Sub.cons rfl (Sub.nil _))) ?_
   rintro x13 w15 ⟨hI16, hA17, r14⟩ y18 h19 hR20
   refine cw_seq (cw_seq (cw_regF ?_))
   refine s_mv rfl rfl ?_
   refine s_mv rfl rfl ?_
   refine s_len rfl (f_x_0.adv hI16.adv) Tryz.underlying26 rfl ?_
   refine s_lss rfl rfl rfl ?_
   refine Reg.nil ?_
   refine cw_cond rfl (fun hc21 => ?_) (fun hc21 => ?_)
   ·replace h19 := cdT hc21 h19
    refine cw_skip ?_
    refine cw_seq ?_
    refine cw_block ?_
    refine cw_seq (cw_regF ?_)
    refine s_mv rfl rfl ?_
    refine s_mv rfl rfl ?_
    obtain ⟨y22, hy22, h19⟩ := bnd h19
    refine p_ia rfl rfl (f_x_0.adv hI16.adv) hy22 Tryz.underlying26 Tryz.sizeOf3 rfl ?_
    intro b23 o24 cs25 hR26 hC27
    obtain ⟨rfl, r28⟩ := hR26
    refine s_ld rfl (hC27.cells.at 0 rfl) Tryz.isAgg3 rfl ?_
    obtain ⟨z29, hz30, h19⟩ := bnd h19
    refine s_call rfl Tryz.call45 rfl ?_
    refine (C_ref06_within hI16.mlt r28 (by decide) (by decide) hz30).mono ?_
    rintro _ w31 ⟨rfl, e32⟩
    refine ⟨_, rfl, ?_⟩
    have hI33 := hI16.ext e32
    refine s_not rfl rfl ?_
    refine Reg.nil ?_
    refine cw_cond rfl (fun hc34 => ?_) (fun hc34 => ?_)
    ·replace h19 := cdT hc34 h19
     refine cw_seq (cw_regF ?_)
     refine s_as rfl rfl ?_
     refine Reg.nil ?_
     refine cw_ret ?_
     obtain rfl := Option.some.inj h19
     obtain rfl := hR20 _ rfl
     replace h := elimR h
     obtain rfl := Option.some.inj h
     refine fin1 Tryz.results30 rfl ?_
     exact ⟨rfl, hI33.kp⟩
    ·replace h19 := cdF hc34 h19
     refine cw_skip ?_
     refine cw_regF ?_
     refine s_mv rfl rfl ?_
     obtain ⟨n35, hn35, h19⟩ := bnd h19
     replace hn35 := chk_out hn35
     refine p_add rfl rfl rfl hn35 ?_
     refine s_as rfl rfl ?_
     refine Reg.nil ?_
     obtain rfl := Option.some.inj h19
     refine ⟨rfl, n35, ⟨⟨hI33, (hA17.trans (Adv.of_ext e32)), hn35.2⟩, rfl⟩, Sub.cons rfl (Sub.cons rfl (Sub.nil _))⟩
   ·replace h19 := cdF hc21 h19
    refine cw_exit ?_
    refine exB_same ?_
    obtain rfl := Option.some.inj h19
    obtain rfl := hR20 _ rfl
    refine ⟨rfl, (), ⟨hI16, hA17, rfl⟩, Sub.nil _⟩
  ·skip
   rintro _ w10 ⟨hI11, hA12, rfl⟩
   replace h := elimL h
   refine cw_seq (cw_regF ?_)
   refine s_as rfl rfl ?_
   refine Reg.nil ?_
   refine cw_ret ?_
   obtain rfl := Option.some.inj h
   refine fin1 Tryz.results30 rfl ?_
   exact ⟨rfl, hI11.kp⟩
noncomputable def P.ref06_onScale (s : Scale) (x : Int) : Option Int :=
 cond (decide (x = (-1))) (some s.none_) (Option.bind (loopM (S := Int × Int) (R := (Int)) (fun (x8, x9) => cond (decide (x9 < (s.cuts.length : Int))) (Option.bind (Option.bind (ixo s.cuts x9) fun y11 => Option.bind (cond (decide (y11 ≤ x)) (Option.bind (chk .i64 (x8 + 1)) fun n19 => some n19) (some x8)) fun x20 => some x20) fun x21 => Option.bind (chk .i64 (x9 + 1)) fun n22 => some (.inl (x21, n22))) (some (.inr x8))) (0, 0)) fun x23 => Option.bind (ixo s.points x23) fun y24 => some y24)
theorem C_ref06_onScale {M : List Nat} {w : World} (hM : MLt M w) {s : Scale} {v_s_0 : Value} {v_s_1 : Value} (f_s_0 : RdS (intE .i64) M w v_s_0 s.cuts) (f_s_1 : RdS (intE .i64) M w v_s_1 s.points) (f_s_2 : InK .i64 s.none_) {x : Int} (f_x_0 : InK .i64 x) {r0 : Int} (h : P.ref06_onScale s x = some r0) :
  Calls Tryz.prog 78 (List.toArray [Value.agg (List.toArray [v_s_0, v_s_1, Value.int .i64 s.none_]), Value.int .i64 x]) w fun e w' => e = .returned (Value.int .i64 r0) ∧ InK .i64 r0 ∧ Ext w w' := by
 have hI := Hp.start (Mu := []) hM
 refine calls_cw Tryz.func78 rfl Tryz.ntmps78 rfl ?_
 refine cw_seq (cw_regF ?_)
 refine y_box hI rfl rfl rfl ?_
 intro b1 w2 hI3 x4
 have hC6 := hI3.freezeRow 0 rfl
 have hI5 := hI3.erase 0
 refine s_as rfl rfl ?_
 refine Reg.nil ?_
 refine cw_seq (cw_seq (cw_regF ?_))
 refine s_mv rfl rfl ?_
 refine s_eql rfl rfl rfl ?_
 refine Reg.nil ?_
 refine cw_cond rfl (fun hc7 => ?_) (fun hc7 => ?_)
 ·replace h := cdT hc7 h
  refine cw_seq (cw_regF ?_)
  refine s_fa rfl Tryz.underlying41 rfl Tryz.sizeOf3 rfl ?_
  refine s_ld rfl (hC6.cells.at 2 rfl) Tryz.isAgg3 rfl ?_
  refine s_as rfl rfl ?_
  refine Reg.nil ?_
  refine cw_ret ?_
  obtain rfl := Option.some.inj h
  refine fin1 Tryz.results78 rfl ?_
  exact ⟨rfl, f_s_2, hI5.kp⟩
 ·replace h := cdF hc7 h
  refine cw_skip (cw_seq (cw_regF ?_))
  refine s_as rfl rfl ?_
  refine Reg.nil ?_
  refine cw_seq (cw_seq (cw_regF ?_))
  refine s_as rfl rfl ?_
  refine Reg.nil ?_
  obtain ⟨j8, h9, h⟩ := bnd h
  refine cw_sub (L := [(1, _), (5, _), (6, _), (2, _)]) (Sub.cons rfl (Sub.cons rfl (Sub.cons rfl (Sub.cons rfl (Sub.nil _))))) ?_
  refine cw_unitD 3 (ι := Int) (fun x10 => [(5, Value.int .i64 x10)]) (fun x10 => fun w12 => w2 = w12 ∧ InK .i64 x10 ∧ x10 = j8) ?_ ?_
  ·skip
   refine cw_block ?_
   refine cw_sub (L := [(5, _), (6, _), (1, _), (2, _)]) (Sub.cons rfl (Sub.cons rfl (Sub.cons rfl (Sub.cons rfl (Sub.nil _))))) ?_
   refine cw_loopM 2 (ι := Int × Int) _ (fun ⟨x15, x17⟩ => [(5, Value.int .i64 x15), (6, Value.int .i64 x17)]) (fun ⟨x15, x17⟩ => (x15, x17)) (fun ⟨x15, x17⟩ => fun w19 => w2 = w19 ∧ InK .i64 x15 ∧ InK .i64 x17) (0, 0) h9 ⟨rfl, (by decide), (by decide)⟩ (Sub.cons rfl (Sub.cons rfl (Sub.cons rfl (Sub.cons rfl (Sub.nil _))))) ?_
   rintro ⟨x15, x17⟩ _ ⟨rfl, r16, r18⟩ y22 h23 hR24
   refine cw_seq (cw_seq (cw_regF ?_))
   refine s_mv rfl rfl ?_
   refine s_fa rfl Tryz.underlying41 rfl Tryz.sizeOf26 rfl ?_
   refine s_ld rfl (hC6.cells.at 0 rfl) Tryz.isAgg26 rfl ?_
   refine s_len rfl (f_s_0.adv hI5.adv) Tryz.underlying26 rfl ?_
   refine s_lss rfl rfl rfl ?_
   refine Reg.nil ?_
   refine cw_cond rfl (fun hc25 => ?_) (fun hc25 => ?_)
   ·replace h23 := cdT hc25 h23
    refine cw_skip ?_
    obtain ⟨j26, h27, h23⟩ := bnd h23
    refine cw_sub (L := [(5, _), (1, _), (2, _), (6, _)]) (Sub.cons rfl (Sub.cons rfl (Sub.cons rfl (Sub.cons rfl (Sub.nil _))))) ?_
    refine cw_seqD 1 (ι := Int) (fun x28 => [(5, Value.int .i64 x28)]) (fun x28 => fun w30 => w2 = w30 ∧ InK .i64 x28 ∧ x28 = j26) ?_ ?_
    ·skip
     refine cw_block ?_
     refine cw_seq (cw_regF ?_)
     refine s_fa rfl Tryz.underlying41 rfl Tryz.sizeOf26 rfl ?_
     refine s_ld rfl (hC6.cells.at 0 rfl) Tryz.isAgg26 rfl ?_
     refine s_mv rfl rfl ?_
     obtain ⟨y33, hy33, h27⟩ := bnd h27
     refine p_ia rfl rfl (f_s_0.adv hI5.adv) hy33 Tryz.underlying26 Tryz.sizeOf3 rfl ?_
     intro b34 o35 cs36 hR37 hC38
     obtain ⟨rfl, r39⟩ := hR37
     refine s_ld rfl (hC38.cells.at 0 rfl) Tryz.isAgg3 rfl ?_
     refine s_mv rfl rfl ?_
     refine s_leq rfl rfl rfl ?_
     refine Reg.nil ?_
     obtain ⟨j40, h41, h27⟩ := bnd h27
     refine cw_sub (L := [(5, _), (24, _), (1, _), (2, _), (6, _)]) (Sub.cons rfl (Sub.cons rfl (Sub.cons rfl (Sub.cons rfl (Sub.cons rfl (Sub.nil _)))))) ?_
     refine cw_unitD 2 (ι := Int) (fun x42 => [(5, Value.int .i64 x42)]) (fun x42 => fun w44 => w2 = w44 ∧ InK .i64 x42 ∧ x42 = j40) ?_ ?_
     ·skip
      refine cw_cond rfl (fun hc47 => ?_) (fun hc47 => ?_)
      ·replace h41 := cdT hc47 h41
       refine cw_regF ?_
       refine s_mv rfl rfl ?_
       obtain ⟨n48, hn48, h41⟩ := bnd h41
       replace hn48 := chk_out hn48
       refine p_add rfl rfl rfl hn48 ?_
       refine s_as rfl rfl ?_
       refine Reg.nil ?_
       obtain rfl := Option.some.inj h41
       refine ⟨rfl, n48, ⟨rfl, hn48.2, rfl⟩, Sub.cons rfl (Sub.cons rfl (Sub.cons rfl (Sub.cons rfl (Sub.nil _))))⟩
      ·replace h41 := cdF hc47 h41
       refine cw_skip ?_
       obtain rfl := Option.some.inj h41
       refine ⟨rfl, x15, ⟨rfl, r16, rfl⟩, Sub.cons rfl (Sub.cons rfl (Sub.cons rfl (Sub.cons rfl (Sub.nil _))))⟩
     ·skip
      rintro x42 _ ⟨rfl, r43, rfl⟩
      obtain rfl := Option.some.inj h27
      refine ⟨rfl, x42, ⟨rfl, r43, rfl⟩, Sub.cons rfl (Sub.cons rfl (Sub.cons rfl (Sub.cons rfl (Sub.nil _))))⟩
    ·skip
     rintro x28 _ ⟨rfl, r29, rfl⟩
     refine cw_regF ?_
     refine s_mv rfl rfl ?_
     obtain ⟨n49, hn49, h23⟩ := bnd h23
     replace hn49 := chk_out hn49
     refine p_add rfl rfl rfl hn49 ?_
     refine s_as rfl rfl ?_
     refine Reg.nil ?_
     obtain rfl := Option.some.inj h23
     refine ⟨rfl, (x28, n49), ⟨⟨rfl, r29, hn49.2⟩, rfl⟩, Sub.cons rfl (Sub.cons rfl (Sub.cons rfl (Sub.cons rfl (Sub.nil _))))⟩
   ·replace h23 := cdF hc25 h23
    refine cw_exit ?_
    refine exB_same ?_
    obtain rfl := Option.some.inj h23
    obtain rfl := hR24 _ rfl
    refine ⟨rfl, x15, ⟨rfl, r16, rfl⟩, Sub.cons rfl (Sub.cons rfl (Sub.nil _))⟩
  ·skip
   rintro x10 _ ⟨rfl, r11, rfl⟩
   refine cw_seq (cw_regF ?_)
   refine s_fa rfl Tryz.underlying41 rfl Tryz.sizeOf26 rfl ?_
   refine s_ld rfl (hC6.cells.at 1 rfl) Tryz.isAgg26 rfl ?_
   refine s_mv rfl rfl ?_
   obtain ⟨y50, hy50, h⟩ := bnd h
   refine p_ia rfl rfl (f_s_1.adv hI5.adv) hy50 Tryz.underlying26 Tryz.sizeOf3 rfl ?_
   intro b51 o52 cs53 hR54 hC55
   obtain ⟨rfl, r56⟩ := hR54
   refine s_ld rfl (hC55.cells.at 0 rfl) Tryz.isAgg3 rfl ?_
   refine s_as rfl rfl ?_
   refine Reg.nil ?_
   refine cw_ret ?_
   obtain rfl := Option.some.inj h
   refine fin1 Tryz.results78 rfl ?_
   exact ⟨rfl, r56, hI5.kp⟩
noncomputable def P.ref06_onCard (c : Card) (x : (List Int)) : Option Int :=
 Option.bind (loopM (S := Int × Int) (R := (Int)) (fun (x7, x8) => cond (decide (x8 < (c.scales.length : Int))) (Option.bind (ixo c.scales x8) fun y10 => Option.bind (ixo x x8) fun y21 => Option.bind (P.ref06_onScale y10 y21) fun z28 => Option.bind (chk .i64 (x7 + z28)) fun n33 => Option.bind (chk .i64 (x8 + 1)) fun n37 => some (.inl (n33, n37))) (some (.inr x7))) (c.base, 0)) fun x38 => some x38
theorem C_ref06_onCard {M : List Nat} {w : World} (hM : MLt M w) {c : Card} {v_c_2 : Value} (f_c_0 : InK .i64 c.weight) (f_c_1 : InK .i64 c.base) (f_c_2 : RdS ScaleE M w v_c_2 c.scales) {x : (List Int)} {v_x_0 : Value} (f_x_0 : RdS (intE .i64) M w v_x_0 x) {r0 : Int} (h : P.ref06_onCard c x = some r0) :
  Calls Tryz.prog 70 (List.toArray [Value.agg (List.toArray [Value.int .i64 c.weight, Value.int .i64 c.base, v_c_2]), v_x_0]) w fun e w' => e = .returned (Value.int .i64 r0) ∧ InK .i64 r0 ∧ Ext w w' := by
 have hI := Hp.start (Mu := []) hM
 refine calls_cw Tryz.func70 rfl Tryz.ntmps70 rfl ?_
 refine cw_seq (cw_regF ?_)
 refine y_box hI rfl rfl rfl ?_
 intro b1 w2 hI3 x4
 have hC6 := hI3.freezeRow 0 rfl
 have hI5 := hI3.erase 0
 refine s_as rfl rfl ?_
 refine Reg.nil ?_
 refine cw_seq (cw_regF ?_)
 refine s_fa rfl Tryz.underlying39 rfl Tryz.sizeOf3 rfl ?_
 refine s_ld rfl (hC6.cells.at 1 rfl) Tryz.isAgg3 rfl ?_
 refine s_as rfl rfl ?_
 refine Reg.nil ?_
 refine cw_seq (cw_seq (cw_regF ?_))
 refine s_as rfl rfl ?_
 refine Reg.nil ?_
 obtain ⟨j7, h8, h⟩ := bnd h
 refine cw_sub (L := [(1, _), (2, _), (5, _), (6, _)]) (Sub.cons rfl (Sub.cons rfl (Sub.cons rfl (Sub.cons rfl (Sub.nil _))))) ?_
 refine cw_unitD 4 (ι := Int) (fun x9 => [(5, Value.int .i64 x9)]) (fun x9 => fun w11 => Hp w [] M [] w11 ∧ Adv (mm [] M) (mm [] M) w2 w11 ∧ InK .i64 x9 ∧ x9 = j7) ?_ ?_
 ·skip
  refine cw_block ?_
  refine cw_sub (L := [(5, _), (6, _), (1, _), (2, _)]) (Sub.cons rfl (Sub.cons rfl (Sub.cons rfl (Sub.cons rfl (Sub.nil _))))) ?_
  refine cw_loopM 2 (ι := Int × Int) _ (fun ⟨x14, x16⟩ => [(5, Value.int .i64 x14), (6, Value.int .i64 x16)]) (fun ⟨x14, x16⟩ => (x14, x16)) (fun ⟨x14, x16⟩ => fun w18 => Hp w [] M [] w18 ∧ Adv (mm [] M) (mm [] M) w2 w18 ∧ InK .i64 x14 ∧ InK .i64 x16) (c.base, 0) h8 ⟨hI5, (Adv.refl _ _), f_c_1, (by decide)⟩ (Sub.cons rfl (Sub.cons rfl (Sub.cons rfl (Sub.cons rfl (Sub.nil _))))) ?_
  rintro ⟨x14, x16⟩ w18 ⟨hI19, hA20, r15, r17⟩ y21 h22 hR23
  refine cw_seq (cw_seq (cw_regF ?_))
  refine s_mv rfl rfl ?_
  refine s_fa rfl Tryz.underlying39 rfl Tryz.sizeOf37 rfl ?_
  refine s_ld rfl ((hC6.adv hA20).cells.at 2 rfl) Tryz.isAgg37 rfl ?_
  refine s_len rfl (f_c_2.adv hI19.adv) Tryz.underlying37 rfl ?_
  refine s_lss rfl rfl rfl ?_
  refine Reg.nil ?_
  refine cw_cond rfl (fun hc24 => ?_) (fun hc24 => ?_)
  ·replace h22 := cdT hc24 h22
   refine cw_skip ?_
   refine cw_seq ?_
   refine cw_block ?_
   refine cw_regT fol (by kernel_rfl) ?_
   refine s_mv rfl rfl ?_
   refine s_fa rfl Tryz.underlying39 rfl Tryz.sizeOf37 rfl ?_
   refine s_ld rfl ((hC6.adv hA20).cells.at 2 rfl) Tryz.isAgg37 rfl ?_
   refine s_mv rfl rfl ?_
   obtain ⟨y25, hy25, h22⟩ := bnd h22
   refine p_ia rfl rfl (f_c_2.adv hI19.adv) hy25 Tryz.underlying37 Tryz.sizeOf41 rfl ?_
   intro b26 o27 cs28 hR29 hC30
   obtain ⟨v31, v33, rfl, hf32, hf34, r35⟩ := ScaleE_R.1 hR29
   refine s_lda rfl hC30.cells Tryz.isAgg41 rfl Tryz.sizeOf41 rfl ?_
   refine s_mv rfl rfl ?_
   refine s_mv rfl rfl ?_
   obtain ⟨y36, hy36, h22⟩ := bnd h22
   refine p_ia rfl rfl (f_x_0.adv hI19.adv) hy36 Tryz.underlying26 Tryz.sizeOf3 rfl ?_
   intro b37 o38 cs39 hR40 hC41
   obtain ⟨rfl, r42⟩ := hR40
   refine s_ld rfl (hC41.cells.at 0 rfl) Tryz.isAgg3 rfl ?_
   obtain ⟨z43, hz44, h22⟩ := bnd h22
   refine s_callq rfl rfl Tryz.call78 rfl (fun w45 e46 => (C_ref06_onScale (hI19.mlt.ext e46) (hf32.adv (Adv.of_ext e46)) (hf34.adv (Adv.of_ext e46)) r35 r42 hz44).mono (fun _ _ hq => ⟨hq.1, hq.2.2⟩)) ?_
   have r47 := Calls.fact (C_ref06_onScale hI19.mlt hf32 hf34 r35 r42 hz44) (fun _ _ hq => hq.2.1)
   obtain ⟨n48, hn48, h22⟩ := bnd h22
   replace hn48 := chk_out hn48
   refine p_add rfl rfl rfl hn48 ?_
   refine s_as rfl rfl ?_
   refine Reg.nilq (fun w49 e50 => ?_)
   have hI51 := hI19.ext e50
   refine cw_regF ?_
   refine s_mv rfl rfl ?_
   obtain ⟨n52, hn52, h22⟩ := bnd h22
   replace hn52 := chk_out hn52
   refine p_add rfl rfl rfl hn52 ?_
   refine s_as rfl rfl ?_
   refine Reg.nil ?_
   obtain rfl := Option.some.inj h22
   refine ⟨rfl, (n48, n52), ⟨⟨hI51, (hA20.trans (Adv.of_ext e50)), hn48.2, hn52.2⟩, rfl⟩, Sub.cons rfl (Sub.cons rfl (Sub.cons rfl (Sub.cons rfl (Sub.nil _))))⟩
  ·replace h22 := cdF hc24 h22
   refine cw_exit ?_
   refine exB_same ?_
   obtain rfl := Option.some.inj h22
   obtain rfl := hR23 _ rfl
   refine ⟨rfl, x14, ⟨hI19, hA20, r15, rfl⟩, Sub.cons rfl (Sub.nil _)⟩
 ·skip
  rintro x9 w11 ⟨hI12, hA13, r10, rfl⟩
  refine cw_seq (cw_regF ?_)
  refine s_mv rfl rfl ?_
  refine s_as rfl rfl ?_
  refine Reg.nil ?_
  refine cw_ret ?_
  obtain rfl := Option.some.inj h
  refine fin1 Tryz.results70 rfl ?_
  exact ⟨rfl, r10, hI12.kp⟩
noncomputable def P.ref06_onTree (t : Tree) (x : (List Int)) : Option Int :=
 Option.bind (loopM (S := Int) (R := (Int)) (fun x7 => Option.bind (ixo t.nodes x7) fun y8 => cond (!decide (y8.trait = (-1))) (Option.bind (Option.bind (ixo t.nodes x7) fun y20 => Option.bind (ixo x y20.trait) fun y40 => Option.bind (cond (decide (y40 < y20.cut)) (some y20.low) (some y20.high)) fun x51 => some x51) fun x52 => some (.inl x52)) (some (.inr x7))) 0) fun x53 => Option.bind (ixo t.nodes x53) fun y54 => some y54.points
theorem C_ref06_onTree {M : List Nat} {w : World} (hM : MLt M w) {t : Tree} {v_t_1 : Value} (f_t_0 : InK .i64 t.weight) (f_t_1 : RdS NodeE M w v_t_1 t.nodes) {x : (List Int)} {v_x_0 : Value} (f_x_0 : RdS (intE .i64) M w v_x_0 x) {r0 : Int} (h : P.ref06_onTree t x = some r0) :
  Calls Tryz.prog 71 (List.toArray [Value.agg (List.toArray [Value.int .i64 t.weight, v_t_1]), v_x_0]) w fun e w' => e = .returned (Value.int .i64 r0) ∧ InK .i64 r0 ∧ Ext w w' := by
 have hI := Hp.start (Mu := []) hM
 refine calls_cw Tryz.func71 rfl Tryz.ntmps71 rfl ?_
 refine cw_seq (cw_regF ?_)
 refine y_box hI rfl rfl rfl ?_
 intro b1 w2 hI3 x4
 have hC6 := hI3.freezeRow 0 rfl
 have hI5 := hI3.erase 0
 refine s_as rfl rfl ?_
 refine Reg.nil ?_
 refine cw_seq (cw_regF ?_)
 refine s_as rfl rfl ?_
 refine Reg.nil ?_
 obtain ⟨j7, h8, h⟩ := bnd h
 refine cw_sub (L := [(1, _), (5, _), (2, _)]) (Sub.cons rfl (Sub.cons rfl (Sub.cons rfl (Sub.nil _)))) ?_
 refine cw_seqD 2 (ι := Int) (fun x9 => [(5, Value.int .i64 x9)]) (fun x9 => fun w11 => Hp w [] M [] w11 ∧ Adv (mm [] M) (mm [] M) w2 w11 ∧ InK .i64 x9 ∧ x9 = j7) ?_ ?_
 ·skip
  refine cw_block ?_
  refine cw_sub (L := [(5, _), (1, _), (2, _)]) (Sub.cons rfl (Sub.cons rfl (Sub.cons rfl (Sub.nil _)))) ?_
  refine cw_loopM 1 (ι := Int) _ (fun x14 => [(5, Value.int .i64 x14)]) (fun x14 => x14) (fun x14 => fun w16 => Hp w [] M [] w16 ∧ Adv (mm [] M) (mm [] M) w2 w16 ∧ InK .i64 x14) 0 h8 ⟨hI5, (Adv.refl _ _), (by decide)⟩ (Sub.cons rfl (Sub.cons rfl (Sub.cons rfl (Sub.nil _)))) ?_
  rintro x14 w16 ⟨hI17, hA18, r15⟩ y19 h20 hR21
  refine cw_seq (cw_seq (cw_regF ?_))
  refine s_fa rfl Tryz.underlying44 rfl Tryz.sizeOf42 rfl ?_
  refine s_ld rfl ((hC6.adv hA18).cells.at 1 rfl) Tryz.isAgg42 rfl ?_
  refine s_mv rfl rfl ?_
  obtain ⟨y22, hy22, h20⟩ := bnd h20
  refine p_ia rfl rfl (f_t_1.adv hI17.adv) hy22 Tryz.underlying42 Tryz.sizeOf66 rfl ?_
  intro b23 o24 cs25 hR26 hC27
  obtain ⟨rfl, r28, r29, r30, r31, r32⟩ := NodeE_R.1 hR26
  refine s_fa rfl Tryz.underlying66 rfl Tryz.sizeOf3 rfl ?_
  refine s_ld rfl (hC27.cells.at 0 rfl) Tryz.isAgg3 rfl ?_
  refine s_neq rfl rfl rfl ?_
  refine Reg.nil ?_
  refine cw_cond rfl (fun hc33 => ?_) (fun hc33 => ?_)
  ·replace h20 := cdT hc33 h20
   refine cw_skip ?_
   obtain ⟨j34, h35, h20⟩ := bnd h20
   refine cw_sub (L := [(5, _), (1, _), (2, _)]) (Sub.cons rfl (Sub.cons rfl (Sub.cons rfl (Sub.nil _)))) ?_
   refine cw_unitD 1 (ι := Int) (fun x36 => [(5, Value.int .i64 x36)]) (fun x36 => fun w38 => Hp w [] M [] w38 ∧ Adv (mm [] M) (mm [] M) w16 w38 ∧ InK .i64 x36 ∧ x36 = j34) ?_ ?_
   ·skip
    refine cw_block ?_
    refine cw_seq (cw_regF ?_)
    refine s_fa rfl Tryz.underlying44 rfl Tryz.sizeOf42 rfl ?_
    refine s_ld rfl ((hC6.adv hA18).cells.at 1 rfl) Tryz.isAgg42 rfl ?_
    refine s_mv rfl rfl ?_
    obtain ⟨y41, hy41, h35⟩ := bnd h35
    refine p_ia rfl rfl (f_t_1.adv hI17.adv) hy41 Tryz.underlying42 Tryz.sizeOf66 rfl ?_
    intro b42 o43 cs44 hR45 hC46
    obtain ⟨rfl, r47, r48, r49, r50, r51⟩ := NodeE_R.1 hR45
    refine s_lda rfl hC46.cells Tryz.isAgg66 rfl Tryz.sizeOf66 rfl ?_
    refine y_al hI17 Tryz.zeroValue66 rfl rfl ?_
    intro b52 w53 hI54 x55
    refine y_st 0 hI54 rfl rfl rfl rfl Tryz.sizeOf66 rfl rfl (one1 rfl (one1 rfl (one1 rfl (one1 rfl (one1 rfl one0))))) ?_
    intro w56 hI57 x58
    have hC60 := hI57.freezeRow 0 rfl
    have hI59 := hI57.erase 0
    refine Reg.nil ?_
    refine cw_seq ?_
    refine cw_regT fol (by kernel_rfl) ?_
    refine s_mv rfl rfl ?_
    refine s_fa rfl Tryz.underlying66 rfl Tryz.sizeOf3 rfl ?_
    refine s_ld rfl (hC60.cells.at 0 rfl) Tryz.isAgg3 rfl ?_
    obtain ⟨y61, hy61, h35⟩ := bnd h35
    refine p_ia rfl rfl (f_x_0.adv hI59.adv) hy61 Tryz.underlying26 Tryz.sizeOf3 rfl ?_
    intro b62 o63 cs64 hR65 hC66
    obtain ⟨rfl, r67⟩ := hR65
    refine s_ld rfl (hC66.cells.at 0 rfl) Tryz.isAgg3 rfl ?_
    refine s_fa rfl Tryz.underlying66 rfl Tryz.sizeOf3 rfl ?_
    refine s_ld rfl (hC60.cells.at 1 rfl) Tryz.isAgg3 rfl ?_
    refine s_lss rfl rfl rfl ?_
    refine Reg.nilq (fun w68 e69 => ?_)
    have hI70 := hI59.ext e69
    obtain ⟨j71, h72, h35⟩ := bnd h35
    refine cw_sub (L := [(6, _), (26, _), (1, _), (2, _)]) (Sub.cons rfl (Sub.cons rfl (Sub.cons rfl (Sub.cons rfl (Sub.nil _))))) ?_
    refine cw_unitD 2 (ι := Int) (fun x73 => [(5, Value.int .i64 x73)]) (fun x73 => fun w75 => w68 = w75 ∧ InK .i64 x73 ∧ x73 = j71) ?_ ?_
    ·skip
     refine cw_cond rfl (fun hc78 => ?_) (fun hc78 => ?_)
     ·replace h72 := cdT hc78 h72
      refine cw_regF ?_
      refine s_fa rfl Tryz.underlying66 rfl Tryz.sizeOf3 rfl ?_
      refine s_ld rfl ((hC60.adv (Adv.of_ext e69)).cells.at 2 rfl) Tryz.isAgg3 rfl ?_
      refine s_as rfl rfl ?_
      refine Reg.nil ?_
      obtain rfl := Option.some.inj h72
      refine ⟨rfl, y41.low, ⟨rfl, r49, rfl⟩, Sub.cons rfl (Sub.cons rfl (Sub.cons rfl (Sub.nil _)))⟩
     ·replace h72 := cdF hc78 h72
      refine cw_regF ?_
      refine s_fa rfl Tryz.underlying66 rfl Tryz.sizeOf3 rfl ?_
      refine s_ld rfl ((hC60.adv (Adv.of_ext e69)).cells.at 3 rfl) Tryz.isAgg3 rfl ?_
      refine s_as rfl rfl ?_
      refine Reg.nil ?_
      obtain rfl := Option.some.inj h72
      refine ⟨rfl, y41.high, ⟨rfl, r50, rfl⟩, Sub.cons rfl (Sub.cons rfl (Sub.cons rfl (Sub.nil _)))⟩
    ·skip
     rintro x73 _ ⟨rfl, r74, rfl⟩
     obtain rfl := Option.some.inj h35
     refine ⟨rfl, x73, ⟨hI70, (x55.trans (x58.trans ((Hp.eraseA (σ := [rowR 66 b52 [Value.int .i64 y41.trait, Value.int .i64 y41.cut, Value.int .i64 y41.low, Value.int .i64 y41.high, Value.int .i64 y41.points]]) 0).trans (Adv.of_ext e69)))), r74, rfl⟩, Sub.cons rfl (Sub.cons rfl (Sub.cons rfl (Sub.nil _)))⟩
   ·skip
    rintro x36 w38 ⟨hI39, hA40, r37, rfl⟩
    obtain rfl := Option.some.inj h20
    refine ⟨rfl, x36, ⟨⟨hI39, (hA18.trans hA40), r37⟩, rfl⟩, Sub.cons rfl (Sub.cons rfl (Sub.cons rfl (Sub.nil _)))⟩
  ·replace h20 := cdF hc33 h20
   refine cw_exit ?_
   refine exB_same ?_
   obtain rfl := Option.some.inj h20
   obtain rfl := hR21 _ rfl
   refine ⟨rfl, x14, ⟨hI17, hA18, r15, rfl⟩, Sub.cons rfl (Sub.cons rfl (Sub.nil _))⟩
 ·skip
  rintro x9 w11 ⟨hI12, hA13, r10, rfl⟩
  refine cw_seq (cw_regF ?_)
  refine s_fa rfl Tryz.underlying44 rfl Tryz.sizeOf42 rfl ?_
  refine s_ld rfl ((hC6.adv hA13).cells.at 1 rfl) Tryz.isAgg42 rfl ?_
  refine s_mv rfl rfl ?_
  obtain ⟨y79, hy79, h⟩ := bnd h
  refine p_ia rfl rfl (f_t_1.adv hI12.adv) hy79 Tryz.underlying42 Tryz.sizeOf66 rfl ?_
  intro b80 o81 cs82 hR83 hC84
  obtain ⟨rfl, r85, r86, r87, r88, r89⟩ := NodeE_R.1 hR83
  refine s_fa rfl Tryz.underlying66 rfl Tryz.sizeOf3 rfl ?_
  refine s_ld rfl (hC84.cells.at 4 rfl) Tryz.isAgg3 rfl ?_
  refine s_as rfl rfl ?_
  refine Reg.nil ?_
  refine cw_ret ?_
  obtain rfl := Option.some.inj h
  refine fin1 Tryz.results71 rfl ?_
  exact ⟨rfl, r89, hI12.kp⟩
noncomputable def P.ref06_all (m : Model) (x : (List Int)) : Option (List Int) :=
 Option.bind (loopM (S := (List Int) × Int) (R := ((List Int))) (fun (x7, x8) => cond (decide (x8 < (m.cards.length : Int))) (Option.bind (ixo m.cards x8) fun y10 => Option.bind (P.ref06_onCard y10 x) fun z20 => Option.bind (appo 8 x7 ([z20] : List Int)) fun l32 => Option.bind (chk .i64 (x8 + 1)) fun n37 => some (.inl (l32, n37))) (some (.inr x7))) ([], 0)) fun x38 => Option.bind (loopM (S := (List Int) × Int) (R := ((List Int))) (fun (x39, x40) => cond (decide (x40 < (m.trees.length : Int))) (Option.bind (ixo m.trees x40) fun y42 => Option.bind (P.ref06_onTree y42 x) fun z51 => Option.bind (appo 8 x39 ([z51] : List Int)) fun l63 => Option.bind (chk .i64 (x40 + 1)) fun n68 => some (.inl (l63, n68))) (some (.inr x39))) (x38, 0)) fun x69 => some x69
theorem C_ref06_all {M : List Nat} {w : World} (hM : MLt M w) {m : Model} {v_m_1 : Value} {v_m_2 : Value} (f_m_0 : InK .i64 m.traits) (f_m_1 : RdS CardE M w v_m_1 m.cards) (f_m_2 : RdS TreeE M w v_m_2 m.trees) (f_m_3 : InK .i64 m.need) {x : (List Int)} {v_x_0 : Value} (f_x_0 : RdS (intE .i64) M w v_x_0 x) {r0 : (List Int)} (h : P.ref06_all m x = some r0) :
  Calls Tryz.prog 49 (List.toArray [Value.agg (List.toArray [Value.int .i64 m.traits, v_m_1, v_m_2, Value.int .i64 m.need]), v_x_0]) w fun e w' => ∃ v0_0 : Value, e = .returned (v0_0) ∧ (Own (intE .i64) 3 0 M w' v0_0 r0 ∧ ∀ b ∈ ob v0_0, w.heap.size ≤ b) ∧ Ext w w' := by
 have hI := Hp.start (Mu := []) hM
 refine calls_cw Tryz.func49 rfl Tryz.ntmps49 rfl ?_
 refine cw_seq (cw_regF ?_)
 refine y_box hI rfl rfl rfl ?_
 intro b1 w2 hI3 x4
 have hC6 := hI3.freezeRow 0 rfl
 have hI5 := hI3.erase 0
 refine s_as rfl rfl ?_
 refine Reg.nil ?_
 refine cw_seq (cw_regF ?_)
 refine s_as rfl rfl ?_
 refine Reg.nil ?_
 refine cw_seq (cw_seq (cw_regF ?_))
 refine s_as rfl rfl ?_
 refine Reg.nil ?_
 obtain ⟨j7, h8, h⟩ := bnd h
 refine cw_sub (L := [(5, _), (6, _), (1, _), (2, _)]) (Sub.cons rfl (Sub.cons rfl (Sub.cons rfl (Sub.cons rfl (Sub.nil _))))) ?_
 refine cw_unitD 2 (ι := (List Int) × Value) (fun ⟨x9, v10⟩ => [(5, v10)]) (fun ⟨x9, v10⟩ => fun w11 => Hp w [] M [ownR [] (intE .i64) 3 v10 x9] w11 ∧ Adv (mm [] M) (mm [ownR [] (intE .i64) 3 v10 x9] M) w2 w11 ∧ x9 = j7) ?_ ?_
 ·skip
  refine cw_block ?_
  refine cw_sub (L := [(5, _), (6, _), (1, _), (2, _)]) (Sub.cons rfl (Sub.cons rfl (Sub.cons rfl (Sub.cons rfl (Sub.nil _))))) ?_
  have hI21 := hI5.addNil (intE .i64) 3
  refine cw_loopM 2 (ι := (List Int) × Int × Value) _ (fun ⟨x14, x16, v15⟩ => [(5, v15), (6, Value.int .i64 x16)]) (fun ⟨x14, x16, v15⟩ => (x14, x16)) (fun ⟨x14, x16, v15⟩ => fun w18 => Hp w [] M [ownR [] (intE .i64) 3 v15 x14] w18 ∧ Adv (mm [] M) (mm [ownR [] (intE .i64) 3 v15 x14] M) w2 w18 ∧ InK .i64 x16) (([] : List Int), 0, (Value.slice none 0 0)) h8 ⟨hI21, (Hp.addNilA (σ := []) (intE .i64) 3), (by decide)⟩ (Sub.cons rfl (Sub.cons rfl (Sub.cons rfl (Sub.cons rfl (Sub.nil _))))) ?_
  rintro ⟨x14, x16, v15⟩ w18 ⟨hI19, hA20, r17⟩ y22 h23 hR24
  refine cw_seq (cw_seq (cw_regF ?_))
  refine s_mv rfl rfl ?_
  refine s_fa rfl Tryz.underlying25 rfl Tryz.sizeOf22 rfl ?_
  refine s_ld rfl ((hC6.adv hA20).cells.at 1 rfl) Tryz.isAgg22 rfl ?_
  refine s_len rfl (f_m_1.adv hI19.adv) Tryz.underlying22 rfl ?_
  refine s_lss rfl rfl rfl ?_
  refine Reg.nil ?_
  refine cw_cond rfl (fun hc25 => ?_) (fun hc25 => ?_)
  ·replace h23 := cdT hc25 h23
   refine cw_skip ?_
   refine cw_seq ?_
   refine cw_block ?_
   refine cw_regF ?_
   refine s_mv rfl rfl ?_
   refine s_fa rfl Tryz.underlying25 rfl Tryz.sizeOf22 rfl ?_
   refine s_ld rfl ((hC6.adv hA20).cells.at 1 rfl) Tryz.isAgg22 rfl ?_
   refine s_mv rfl rfl ?_
   obtain ⟨y26, hy26, h23⟩ := bnd h23
   refine p_ia rfl rfl (f_m_1.adv hI19.adv) hy26 Tryz.underlying22 Tryz.sizeOf39 rfl ?_
   intro b27 o28 cs29 hR30 hC31
   obtain ⟨v34, rfl, r32, r33, hf35⟩ := CardE_R.1 hR30
   refine s_lda rfl hC31.cells Tryz.isAgg39 rfl Tryz.sizeOf39 rfl ?_
   refine s_mv rfl rfl ?_
   obtain ⟨z36, hz37, h23⟩ := bnd h23
   refine s_call rfl Tryz.call70 rfl ?_
   refine (C_ref06_onCard hI19.mlt r32 r33 hf35 (f_x_0.adv hI19.adv) hz37).mono ?_
   rintro _ w38 ⟨rfl, r40, e39⟩
   refine ⟨_, rfl, ?_⟩
   have hI41 := hI19.ext e39
   refine y_bs (E := (intE .i64)) (xs := [z36]) sl26 hI41 rfl rfl (Cls.cons rfl Cls.nil) (Chs.cons ⟨rfl, r40⟩ Chs.nil) rfl rfl ?_
   intro v42 w43 hI44 x45
   have hf46 := hI44.freeze 0 rfl
   have hI47 := hI44.erase 0
   obtain ⟨l48, hl48, h23⟩ := bnd h23
   obtain ⟨hbl48, el48⟩ := appo_out hl48
   refine y_app 0 sl26 hI47 rfl rfl rfl hf46 hbl48 rfl ?_
   rw [← el48]
   intro v49 w50 hI51 x52
   refine s_as rfl rfl ?_
   refine Reg.nil ?_
   refine cw_regF ?_
   refine s_mv rfl rfl ?_
   obtain ⟨n53, hn53, h23⟩ := bnd h23
   replace hn53 := chk_out hn53
   refine p_add rfl rfl rfl hn53 ?_
   refine s_as rfl rfl ?_
   refine Reg.nil ?_
   obtain rfl := Option.some.inj h23
   refine ⟨rfl, (l48, n53, v49), ⟨⟨hI51, (hA20.trans ((Adv.of_ext e39).trans (x45.trans ((Hp.eraseA (σ := [ownR [] (intE .i64) 3 v42 ([z36] : List Int), ownR [] (intE .i64) 3 v15 x14]) 0).trans x52)))), hn53.2⟩, rfl⟩, Sub.cons rfl (Sub.cons rfl (Sub.cons rfl (Sub.cons rfl (Sub.nil _))))⟩
  ·replace h23 := cdF hc25 h23
   refine cw_exit ?_
   refine exB_same ?_
   obtain rfl := Option.some.inj h23
   obtain rfl := hR24 _ rfl
   refine ⟨rfl, (x14, v15), ⟨hI19, hA20, rfl⟩, Sub.cons rfl (Sub.cons rfl (Sub.cons rfl (Sub.nil _)))⟩
 ·skip
  rintro ⟨x9, v10⟩ w11 ⟨hI12, hA13, rfl⟩
  refine cw_seq (cw_seq (cw_regF ?_))
  refine s_as rfl rfl ?_
  refine Reg.nil ?_
  obtain ⟨j54, h55, h⟩ := bnd h
  refine cw_sub (L := [(1, _), (2, _), (5, _), (7, _)]) (Sub.cons rfl (Sub.cons rfl (Sub.cons rfl (Sub.cons rfl (Sub.nil _))))) ?_
  refine cw_unitD 4 (ι := (List Int) × Value) (fun ⟨x56, v57⟩ => [(5, v57)]) (fun ⟨x56, v57⟩ => fun w58 => Hp w [] M [ownR [] (intE .i64) 3 v57 x56] w58 ∧ Adv (mm [ownR [] (intE .i64) 3 v10 x9] M) (mm [ownR [] (intE .i64) 3 v57 x56] M) w11 w58 ∧ x56 = j54) ?_ ?_
  ·skip
   refine cw_block ?_
   refine cw_sub (L := [(5, _), (7, _), (1, _), (2, _)]) (Sub.cons rfl (Sub.cons rfl (Sub.cons rfl (Sub.cons rfl (Sub.nil _))))) ?_
   refine cw_loopM 2 (ι := (List Int) × Int × Value) _ (fun ⟨x61, x63, v62⟩ => [(5, v62), (7, Value.int .i64 x63)]) (fun ⟨x61, x63, v62⟩ => (x61, x63)) (fun ⟨x61, x63, v62⟩ => fun w65 => Hp w [] M [ownR [] (intE .i64) 3 v62 x61] w65 ∧ Adv (mm [ownR [] (intE .i64) 3 v10 x9] M) (mm [ownR [] (intE .i64) 3 v62 x61] M) w11 w65 ∧ InK .i64 x63) (x9, 0, v10) h55 ⟨hI12, (Adv.refl _ _), (by decide)⟩ (Sub.cons rfl (Sub.cons rfl (Sub.cons rfl (Sub.cons rfl (Sub.nil _))))) ?_
   rintro ⟨x61, x63, v62⟩ w65 ⟨hI66, hA67, r64⟩ y68 h69 hR70
   refine cw_seq (cw_seq (cw_regF ?_))
   refine s_mv rfl rfl ?_
   refine s_fa rfl Tryz.underlying25 rfl Tryz.sizeOf23 rfl ?_
   refine s_ld rfl ((hC6.adv (hA13.trans hA67)).cells.at 2 rfl) Tryz.isAgg23 rfl ?_
   refine s_len rfl (f_m_2.adv hI66.adv) Tryz.underlying23 rfl ?_
   refine s_lss rfl rfl rfl ?_
   refine Reg.nil ?_
   refine cw_cond rfl (fun hc71 => ?_) (fun hc71 => ?_)
   ·replace h69 := cdT hc71 h69
    refine cw_skip ?_
    refine cw_seq ?_
    refine cw_block ?_
    refine cw_regF ?_
    refine s_mv rfl rfl ?_
    refine s_fa rfl Tryz.underlying25 rfl Tryz.sizeOf23 rfl ?_
    refine s_ld rfl ((hC6.adv (hA13.trans hA67)).cells.at 2 rfl) Tryz.isAgg23 rfl ?_
    refine s_mv rfl rfl ?_
    obtain ⟨y72, hy72, h69⟩ := bnd h69
    refine p_ia rfl rfl (f_m_2.adv hI66.adv) hy72 Tryz.underlying23 Tryz.sizeOf44 rfl ?_
    intro b73 o74 cs75 hR76 hC77
    obtain ⟨v79, rfl, r78, hf80⟩ := TreeE_R.1 hR76
    refine s_lda rfl hC77.cells Tryz.isAgg44 rfl Tryz.sizeOf44 rfl ?_
    refine s_mv rfl rfl ?_
    obtain ⟨z81, hz82, h69⟩ := bnd h69
    refine s_call rfl Tryz.call71 rfl ?_
    refine (C_ref06_onTree hI66.mlt r78 hf80 (f_x_0.adv hI66.adv) hz82).mono ?_
    rintro _ w83 ⟨rfl, r85, e84⟩
    refine ⟨_, rfl, ?_⟩
    have hI86 := hI66.ext e84
    refine y_bs (E := (intE .i64)) (xs := [z81]) sl26 hI86 rfl rfl (Cls.cons rfl Cls.nil) (Chs.cons ⟨rfl, r85⟩ Chs.nil) rfl rfl ?_
    intro v87 w88 hI89 x90
    have hf91 := hI89.freeze 0 rfl
    have hI92 := hI89.erase 0
    obtain ⟨l93, hl93, h69⟩ := bnd h69
    obtain ⟨hbl93, el93⟩ := appo_out hl93
    refine y_app 0 sl26 hI92 rfl rfl rfl hf91 hbl93 rfl ?_
    rw [← el93]
    intro v94 w95 hI96 x97
    refine s_as rfl rfl ?_
    refine Reg.nil ?_
    refine cw_regF ?_
    refine s_mv rfl rfl ?_
    obtain ⟨n98, hn98, h69⟩ := bnd h69
    replace hn98 := chk_out hn98
    refine p_add rfl rfl rfl hn98 ?_
    refine s_as rfl rfl ?_
    refine Reg.nil ?_
    obtain rfl := Option.some.inj h69
    refine ⟨rfl, (l93, n98, v94), ⟨⟨hI96, (hA67.trans ((Adv.of_ext e84).trans (x90.trans ((Hp.eraseA (σ := [ownR [] (intE .i64) 3 v87 ([z81] : List Int), ownR [] (intE .i64) 3 v62 x61]) 0).trans x97)))), hn98.2⟩, rfl⟩, Sub.cons rfl (Sub.cons rfl (Sub.cons rfl (Sub.cons rfl (Sub.nil _))))⟩
   ·replace h69 := cdF hc71 h69
    refine cw_exit ?_
    refine exB_same ?_
    obtain rfl := Option.some.inj h69
    obtain rfl := hR70 _ rfl
    refine ⟨rfl, (x61, v62), ⟨hI66, hA67, rfl⟩, Sub.cons rfl (Sub.nil _)⟩
  ·skip
   rintro ⟨x56, v57⟩ w58 ⟨hI59, hA60, rfl⟩
   refine cw_seq (cw_regF ?_)
   refine s_mv rfl rfl ?_
   refine s_as rfl rfl ?_
   refine Reg.nil ?_
   refine cw_ret ?_
   obtain rfl := Option.some.inj h
   refine fin1 Tryz.results49 rfl ?_
   exact ⟨_, rfl, (hI59.ownOut 0 rfl), hI59.kp⟩
noncomputable def P.ref06_score (m : Model) (x : (List Int)) : Option Int :=
 Option.bind (P.ref06_all (Model.mk m.traits m.cards m.trees m.need) x) fun z7 => Option.bind (loopM (S := Int × Int) (R := (Int)) (fun (x14, x15) => cond (decide (x15 < (z7.length : Int))) (Option.bind (Option.bind (cond (decide (x15 < (m.cards.length : Int))) (Option.bind (ixo m.cards x15) fun y18 => Option.bind (ixo z7 x15) fun y28 => Option.bind (chk .i64 (y18.weight * y28)) fun n35 => Option.bind (chk .i64 (x14 + n35)) fun n36 => some n36) (Option.bind (chk .i64 (x15 - (m.cards.length : Int))) fun n40 => Option.bind (ixo m.trees n40) fun y41 => Option.bind (ixo z7 x15) fun y50 => Option.bind (chk .i64 (y41.weight * y50)) fun n57 => Option.bind (chk .i64 (x14 + n57)) fun n58 => some n58)) fun x62 => some x62) fun x63 => Option.bind (chk .i64 (x15 + 1)) fun n64 => some (.inl (x63, n64))) (some (.inr x14))) (0, 0)) fun x65 => some x65
theorem C_ref06_score {M : List Nat} {w : World} (hM : MLt M w) {m : Model} {v_m_1 : Value} {v_m_2 : Value} (f_m_0 : InK .i64 m.traits) (f_m_1 : RdS CardE M w v_m_1 m.cards) (f_m_2 : RdS TreeE M w v_m_2 m.trees) (f_m_3 : InK .i64 m.need) {x : (List Int)} {v_x_0 : Value} (f_x_0 : RdS (intE .i64) M w v_x_0 x) {r0 : Int} (h : P.ref06_score m x = some r0) :
  Calls Tryz.prog 31 (List.toArray [Value.agg (List.toArray [Value.int .i64 m.traits, v_m_1, v_m_2, Value.int .i64 m.need]), v_x_0]) w fun e w' => e = .returned (Value.int .i64 r0) ∧ InK .i64 r0 ∧ Ext w w' := by
 have hI := Hp.start (Mu := []) hM
 refine calls_cw Tryz.func31 rfl Tryz.ntmps31 rfl ?_
 refine cw_seq (cw_regF ?_)
 refine y_box hI rfl rfl rfl ?_
 intro b1 w2 hI3 x4
 have hC6 := hI3.freezeRow 0 rfl
 have hI5 := hI3.erase 0
 refine s_as rfl rfl ?_
 refine Reg.nil ?_
 refine cw_seq (cw_regF ?_)
 refine s_lda rfl hC6.cells Tryz.isAgg25 rfl Tryz.sizeOf25 rfl ?_
 refine s_mv rfl rfl ?_
 obtain ⟨z7, hz8, h⟩ := bnd h
 refine s_call rfl Tryz.call49 rfl ?_
 refine (C_ref06_all hI5.mlt f_m_0 (f_m_1.adv hI5.adv) (f_m_2.adv hI5.adv) f_m_3 (f_x_0.adv hI5.adv) hz8).mono ?_
 rintro _ w9 ⟨v11, rfl, hf12, e10⟩
 refine ⟨_, rfl, ?_⟩
 have hI13 := hI5.addOwn e10 hf12
 refine s_as rfl rfl ?_
 refine Reg.nil ?_
 refine cw_seq (cw_regF ?_)
 refine s_as rfl rfl ?_
 refine Reg.nil ?_
 refine cw_seq (cw_seq (cw_regF ?_))
 refine s_as rfl rfl ?_
 refine Reg.nil ?_
 obtain ⟨j14, h15, h⟩ := bnd h
 refine cw_sub (L := [(2, _), (5, _), (6, _), (7, _)]) (Sub.cons rfl (Sub.cons rfl (Sub.cons rfl (Sub.cons rfl (Sub.nil _))))) ?_
 refine cw_unitD 4 (ι := Int) (fun x16 => [(6, Value.int .i64 x16)]) (fun x16 => fun w18 => Hp w [] M [ownR [] (intE .i64) 3 v11 z7] w18 ∧ Adv (mm [ownR [] (intE .i64) 3 v11 z7] M) (mm [ownR [] (intE .i64) 3 v11 z7] M) w9 w18 ∧ InK .i64 x16 ∧ x16 = j14) ?_ ?_
 ·skip
  refine cw_block ?_
  refine cw_sub (L := [(6, _), (7, _), (2, _), (5, _)]) (Sub.cons rfl (Sub.cons rfl (Sub.cons rfl (Sub.cons rfl (Sub.nil _))))) ?_
  refine cw_loopM 2 (ι := Int × Int) _ (fun ⟨x21, x23⟩ => [(6, Value.int .i64 x21), (7, Value.int .i64 x23)]) (fun ⟨x21, x23⟩ => (x21, x23)) (fun ⟨x21, x23⟩ => fun w25 => Hp w [] M [ownR [] (intE .i64) 3 v11 z7] w25 ∧ Adv (mm [ownR [] (intE .i64) 3 v11 z7] M) (mm [ownR [] (intE .i64) 3 v11 z7] M) w9 w25 ∧ InK .i64 x21 ∧ InK .i64 x23) (0, 0) h15 ⟨hI13, (Adv.refl _ _), (by decide), (by decide)⟩ (Sub.cons rfl (Sub.cons rfl (Sub.cons rfl (Sub.cons rfl (Sub.nil _))))) ?_
  rintro ⟨x21, x23⟩ w25 ⟨hI26, hA27, r22, r24⟩ y28 h29 hR30
  refine cw_seq (cw_seq (cw_regF ?_))
  refine s_mv rfl rfl ?_
  refine s_mv rfl rfl ?_
  refine s_lenO rfl (hI26.ownAt 0 rfl) Tryz.underlying26 rfl ?_
  refine s_lss rfl rfl rfl ?_
  refine Reg.nil ?_
  refine cw_cond rfl (fun hc31 => ?_) (fun hc31 => ?_)
  ·replace h29 := cdT hc31 h29
   refine cw_skip ?_
   obtain ⟨j32, h33, h29⟩ := bnd h29
   refine cw_sub (L := [(6, _), (2, _), (5, _), (7, _)]) (Sub.cons rfl (Sub.cons rfl (Sub.cons rfl (Sub.cons rfl (Sub.nil _))))) ?_
   refine cw_seqD 1 (ι := Int) (fun x34 => [(6, Value.int .i64 x34)]) (fun x34 => fun w36 => Hp w [] M [ownR [] (intE .i64) 3 v11 z7] w36 ∧ Adv (mm [ownR [] (intE .i64) 3 v11 z7] M) (mm [ownR [] (intE .i64) 3 v11 z7] M) w25 w36 ∧ InK .i64 x34 ∧ x34 = j32) ?_ ?_
   ·skip
    refine cw_block ?_
    refine cw_seq (cw_regF ?_)
    refine s_mv rfl rfl ?_
    refine s_fa rfl Tryz.underlying25 rfl Tryz.sizeOf22 rfl ?_
    refine s_ld rfl ((hC6.adv ((hI5.addOwnA e10 hf12).trans hA27)).cells.at 1 rfl) Tryz.isAgg22 rfl ?_
    refine s_len rfl (f_m_1.adv hI26.adv) Tryz.underlying22 rfl ?_
    refine s_lss rfl rfl rfl ?_
    refine Reg.nil ?_
    obtain ⟨j39, h40, h33⟩ := bnd h33
    refine cw_sub (L := [(6, _), (21, _), (2, _), (5, _), (7, _)]) (Sub.cons rfl (Sub.cons rfl (Sub.cons rfl (Sub.cons rfl (Sub.cons rfl (Sub.nil _)))))) ?_
    refine cw_unitD 2 (ι := Int) (fun x41 => [(6, Value.int .i64 x41)]) (fun x41 => fun w43 => Hp w [] M [ownR [] (intE .i64) 3 v11 z7] w43 ∧ Adv (mm [ownR [] (intE .i64) 3 v11 z7] M) (mm [ownR [] (intE .i64) 3 v11 z7] M) w25 w43 ∧ InK .i64 x41 ∧ x41 = j39) ?_ ?_
    ·skip
     refine cw_cond rfl (fun hc46 => ?_) (fun hc46 => ?_)
     ·replace h40 := cdT hc46 h40
      refine cw_regT fol (by kernel_rfl) ?_
      refine s_mv rfl rfl ?_
      refine s_fa rfl Tryz.underlying25 rfl Tryz.sizeOf22 rfl ?_
      refine s_ld rfl ((hC6.adv ((hI5.addOwnA e10 hf12).trans hA27)).cells.at 1 rfl) Tryz.isAgg22 rfl ?_
      refine s_mv rfl rfl ?_
      obtain ⟨y47, hy47, h40⟩ := bnd h40
      refine p_ia rfl rfl (f_m_1.adv hI26.adv) hy47 Tryz.underlying22 Tryz.sizeOf39 rfl ?_
      intro b48 o49 cs50 hR51 hC52
      obtain ⟨v55, rfl, r53, r54, hf56⟩ := CardE_R.1 hR51
      refine s_fa rfl Tryz.underlying39 rfl Tryz.sizeOf3 rfl ?_
      refine s_ld rfl (hC52.cells.at 0 rfl) Tryz.isAgg3 rfl ?_
      refine s_mv rfl rfl ?_
      refine s_mv rfl rfl ?_
      obtain ⟨y57, hy57, h40⟩ := bnd h40
      refine y_ia 0 hI26 rfl rfl rfl hy57 Tryz.underlying26 Tryz.sizeOf3 rfl ?_
      intro g58 cs59 hg60 hR61 hC62
      have khR61 := hR61
      obtain ⟨rfl, r63⟩ := hR61
      refine s_ld rfl (hC62.at 0 rfl) Tryz.isAgg3 rfl ?_
      obtain ⟨n64, hn64, h40⟩ := bnd h40
      replace hn64 := chk_out hn64
      refine p_mul rfl rfl rfl hn64 ?_
      obtain ⟨n65, hn65, h40⟩ := bnd h40
      replace hn65 := chk_out hn65
      refine p_add rfl rfl rfl hn65 ?_
      refine s_as rfl rfl ?_
      refine Reg.nilq (fun w66 e67 => ?_)
      have hI68 := hI26.ext e67
      obtain rfl := Option.some.inj h40
      refine ⟨rfl, n65, ⟨hI68, (Adv.of_ext e67), hn65.2, rfl⟩, Sub.cons rfl (Sub.cons rfl (Sub.cons rfl (Sub.cons rfl (Sub.nil _))))⟩
     ·replace h40 := cdF hc46 h40
      refine cw_regT fol (by kernel_rfl) ?_
      refine s_mv rfl rfl ?_
      refine s_fa rfl Tryz.underlying25 rfl Tryz.sizeOf23 rfl ?_
      refine s_ld rfl ((hC6.adv ((hI5.addOwnA e10 hf12).trans hA27)).cells.at 2 rfl) Tryz.isAgg23 rfl ?_
      refine s_mv rfl rfl ?_
      refine s_fa rfl Tryz.underlying25 rfl Tryz.sizeOf22 rfl ?_
      refine s_ld rfl ((hC6.adv ((hI5.addOwnA e10 hf12).trans hA27)).cells.at 1 rfl) Tryz.isAgg22 rfl ?_
      refine s_len rfl (f_m_1.adv hI26.adv) Tryz.underlying22 rfl ?_
      obtain ⟨n69, hn69, h40⟩ := bnd h40
      replace hn69 := chk_out hn69
      refine p_sub rfl rfl rfl hn69 ?_
      obtain ⟨y70, hy70, h40⟩ := bnd h40
      refine p_ia rfl rfl (f_m_2.adv hI26.adv) hy70 Tryz.underlying23 Tryz.sizeOf44 rfl ?_
      intro b71 o72 cs73 hR74 hC75
      obtain ⟨v77, rfl, r76, hf78⟩ := TreeE_R.1 hR74
      refine s_fa rfl Tryz.underlying44 rfl Tryz.sizeOf3 rfl ?_
      refine s_ld rfl (hC75.cells.at 0 rfl) Tryz.isAgg3 rfl ?_
      refine s_mv rfl rfl ?_
      refine s_mv rfl rfl ?_
      obtain ⟨y79, hy79, h40⟩ := bnd h40
      refine y_ia 0 hI26 rfl rfl rfl hy79 Tryz.underlying26 Tryz.sizeOf3 rfl ?_
      intro g80 cs81 hg82 hR83 hC84
      have khR83 := hR83
      obtain ⟨rfl, r85⟩ := hR83
      refine s_ld rfl (hC84.at 0 rfl) Tryz.isAgg3 rfl ?_
      obtain ⟨n86, hn86, h40⟩ := bnd h40
      replace hn86 := chk_out hn86
      refine p_mul rfl rfl rfl hn86 ?_
      obtain ⟨n87, hn87, h40⟩ := bnd h40
      replace hn87 := chk_out hn87
      refine p_add rfl rfl rfl hn87 ?_
      refine s_as rfl rfl ?_
      refine Reg.nilq (fun w88 e89 => ?_)
      have hI90 := hI26.ext e89
      obtain rfl := Option.some.inj h40
      refine ⟨rfl, n87, ⟨hI90, (Adv.of_ext e89), hn87.2, rfl⟩, Sub.cons rfl (Sub.cons rfl (Sub.cons rfl (Sub.cons rfl (Sub.nil _))))⟩
    ·skip
     rintro x41 w43 ⟨hI44, hA45, r42, rfl⟩
     obtain rfl := Option.some.inj h33
     refine ⟨rfl, x41, ⟨hI44, hA45, r42, rfl⟩, Sub.cons rfl (Sub.cons rfl (Sub.cons rfl (Sub.cons rfl (Sub.nil _))))⟩
   ·skip
    rintro x34 w36 ⟨hI37, hA38, r35, rfl⟩
    refine cw_regF ?_
    refine s_mv rfl rfl ?_
    obtain ⟨n91, hn91, h29⟩ := bnd h29
    replace hn91 := chk_out hn91
    refine p_add rfl rfl rfl hn91 ?_
    refine s_as rfl rfl ?_
    refine Reg.nil ?_
    obtain rfl := Option.some.inj h29
    refine ⟨rfl, (x34, n91), ⟨⟨hI37, (hA27.trans hA38), r35, hn91.2⟩, rfl⟩, Sub.cons rfl (Sub.cons rfl (Sub.cons rfl (Sub.cons rfl (Sub.nil _))))⟩
  ·replace h29 := cdF hc31 h29
   refine cw_exit ?_
   refine exB_same ?_
   obtain rfl := Option.some.inj h29
   obtain rfl := hR30 _ rfl
   refine ⟨rfl, x21, ⟨hI26, hA27, r22, rfl⟩, Sub.cons rfl (Sub.nil _)⟩
 ·skip
  rintro x16 w18 ⟨hI19, hA20, r17, rfl⟩
  refine cw_seq (cw_regF ?_)
  refine s_mv rfl rfl ?_
  refine s_as rfl rfl ?_
  refine Reg.nil ?_
  refine cw_ret ?_
  obtain rfl := Option.some.inj h
  refine fin1 Tryz.results31 rfl ?_
  exact ⟨rfl, r17, hI19.kp⟩
noncomputable def P.ref06_Score (m : Model) (x : (List Int)) : Option (Int × Bool × Int) :=
 Option.bind (P.ref06_Check (Model.mk m.traits m.cards m.trees m.need)) fun z7 => cond (!decide (z7 = 0)) (some (0, false, z7)) (Option.bind (P.ref06_Values (Model.mk m.traits m.cards m.trees m.need) x) fun z14 => cond (!z14) (some (0, false, 61)) (Option.bind (P.ref06_score (Model.mk m.traits m.cards m.trees m.need) x) fun z20 => Option.bind (chk .i64 (1000 * m.need)) fun n26 => some (z20, decide (n26 ≤ z20), 0)))
theorem C_ref06_Score {M : List Nat} {w : World} (hM : MLt M w) {m : Model} {v_m_1 : Value} {v_m_2 : Value} (f_m_0 : InK .i64 m.traits) (f_m_1 : RdS CardE M w v_m_1 m.cards) (f_m_2 : RdS TreeE M w v_m_2 m.trees) (f_m_3 : InK .i64 m.need) {x : (List Int)} {v_x_0 : Value} (f_x_0 : RdS (intE .i64) M w v_x_0 x) {r0 : Int} {r1 : Bool} {r2 : Int} (h : P.ref06_Score m x = some (r0, r1, r2)) :
  Calls Tryz.prog 16 (List.toArray [Value.agg (List.toArray [Value.int .i64 m.traits, v_m_1, v_m_2, Value.int .i64 m.need]), v_x_0]) w fun e w' => e = .returned (Value.tuple (List.toArray [Value.int .i64 r0, Value.bool r1, Value.int .i64 r2])) ∧ InK .i64 r0 ∧ InK .i64 r2 ∧ Ext w w' := by
 have hI := Hp.start (Mu := []) hM
 refine calls_cw Tryz.func16 rfl Tryz.ntmps16 rfl ?_
 refine cw_seq (cw_regF ?_)
 refine y_box hI rfl rfl rfl ?_
 intro b1 w2 hI3 x4
 have hC6 := hI3.freezeRow 0 rfl
 have hI5 := hI3.erase 0
 refine s_as rfl rfl ?_
 refine s_as rfl rfl ?_
 refine s_as rfl rfl ?_
 refine Reg.nil ?_
 refine cw_seq (cw_seq (cw_regF ?_))
 refine s_lda rfl hC6.cells Tryz.isAgg25 rfl Tryz.sizeOf25 rfl ?_
 obtain ⟨z7, hz8, h⟩ := bnd h
 refine s_call rfl Tryz.call29 rfl ?_
 refine (C_ref06_Check hI5.mlt f_m_0 (f_m_1.adv hI5.adv) (f_m_2.adv hI5.adv) f_m_3 hz8).mono ?_
 rintro _ w9 ⟨rfl, r11, e10⟩
 refine ⟨_, rfl, ?_⟩
 have hI12 := hI5.ext e10
 refine s_as rfl rfl ?_
 refine Reg.nil ?_
 refine cw_seq (cw_regF ?_)
 refine s_mv rfl rfl ?_
 refine s_neq rfl rfl rfl ?_
 refine Reg.nil ?_
 refine cw_cond rfl (fun hc13 => ?_) (fun hc13 => ?_)
 ·replace h := cdT hc13 h
  refine cw_seq (cw_regF ?_)
  refine s_mv rfl rfl ?_
  refine s_as rfl rfl ?_
  refine s_as rfl rfl ?_
  refine s_as rfl rfl ?_
  refine Reg.nil ?_
  refine cw_ret ?_
  obtain ⟨rfl, rfl, rfl⟩ := inj3 h
  refine fin3 Tryz.results16 rfl rfl rfl ?_
  exact ⟨rfl, (by decide), r11, hI12.kp⟩
 ·replace h := cdF hc13 h
  refine cw_skip (cw_seq (cw_seq (cw_regF ?_)))
  refine s_lda rfl (hC6.adv (Adv.of_ext e10)).cells Tryz.isAgg25 rfl Tryz.sizeOf25 rfl ?_
  refine s_mv rfl rfl ?_
  obtain ⟨z14, hz15, h⟩ := bnd h
  refine s_call rfl Tryz.call30 rfl ?_
  refine (C_ref06_Values hI12.mlt f_m_0 (f_m_1.adv hI12.adv) (f_m_2.adv hI12.adv) f_m_3 (f_x_0.adv hI12.adv) hz15).mono ?_
  rintro _ w16 ⟨rfl, e17⟩
  refine ⟨_, rfl, ?_⟩
  have hI18 := hI12.ext e17
  refine s_not rfl rfl ?_
  refine Reg.nil ?_
  refine cw_cond rfl (fun hc19 => ?_) (fun hc19 => ?_)
  ·replace h := cdT hc19 h
   refine cw_seq (cw_regF ?_)
   refine s_as rfl rfl ?_
   refine s_as rfl rfl ?_
   refine s_as rfl rfl ?_
   refine Reg.nil ?_
   refine cw_ret ?_
   obtain ⟨rfl, rfl, rfl⟩ := inj3 h
   refine fin3 Tryz.results16 rfl rfl rfl ?_
   exact ⟨rfl, (by decide), (by decide), hI18.kp⟩
  ·replace h := cdF hc19 h
   refine cw_skip (cw_seq (cw_regF ?_))
   refine s_lda rfl (hC6.adv ((Adv.of_ext e10).trans (Adv.of_ext e17))).cells Tryz.isAgg25 rfl Tryz.sizeOf25 rfl ?_
   refine s_mv rfl rfl ?_
   obtain ⟨z20, hz21, h⟩ := bnd h
   refine s_call rfl Tryz.call31 rfl ?_
   refine (C_ref06_score hI18.mlt f_m_0 (f_m_1.adv hI18.adv) (f_m_2.adv hI18.adv) f_m_3 (f_x_0.adv hI18.adv) hz21).mono ?_
   rintro _ w22 ⟨rfl, r24, e23⟩
   refine ⟨_, rfl, ?_⟩
   have hI25 := hI18.ext e23
   refine s_as rfl rfl ?_
   refine Reg.nil ?_
   refine cw_seq ?_
   refine cw_regT fol (by kernel_rfl) ?_
   refine s_mv rfl rfl ?_
   refine s_mv rfl rfl ?_
   refine s_fa rfl Tryz.underlying25 rfl Tryz.sizeOf3 rfl ?_
   refine s_ld rfl ((hC6.adv ((Adv.of_ext e10).trans ((Adv.of_ext e17).trans (Adv.of_ext e23)))).cells.at 3 rfl) Tryz.isAgg3 rfl ?_
   obtain ⟨n26, hn26, h⟩ := bnd h
   replace hn26 := chk_out hn26
   refine p_mul rfl rfl rfl hn26 ?_
   refine s_geq rfl rfl rfl ?_
   refine s_as rfl rfl ?_
   refine s_as rfl rfl ?_
   refine s_as rfl rfl ?_
   refine Reg.nilq (fun w27 e28 => ?_)
   have hI29 := hI25.ext e28
   refine cw_ret ?_
   obtain ⟨rfl, rfl, rfl⟩ := inj3 h
   refine fin3 Tryz.results16 rfl rfl rfl ?_
   exact ⟨rfl, r24, (by decide), hI29.kp⟩
noncomputable def P.slices_Clone_26 (s : (List Int)) : Option (List Int) :=
 nilq s fun b1 => cond b1 (some []) (Option.bind (appo 8 ([] : List Int) s) fun l7 => some l7)
theorem C_slices_Clone_26 {M : List Nat} {w : World} (hM : MLt M w) {s : (List Int)} {v_s_0 : Value} (f_s_0 : RdS (intE .i64) M w v_s_0 s) {r0 : (List Int)} (h : P.slices_Clone_26 s = some r0) :
  Calls Tryz.prog 26 (List.toArray [v_s_0]) w fun e w' => ∃ v0_0 : Value, e = .returned (v0_0) ∧ (Own (intE .i64) 3 0 M w' v0_0 r0 ∧ ∀ b ∈ ob v0_0, w.heap.size ≤ b) ∧ Ext w w' := by
 have hI := Hp.start (Mu := []) hM
 refine calls_cw Tryz.func26 rfl Tryz.ntmps26 rfl ?_
 refine cw_seq (cw_regF ?_)
 refine s_as rfl rfl ?_
 refine Reg.nil ?_
 refine cw_seq (cw_seq (cw_regF ?_))
 refine s_mv rfl rfl ?_
 refine s_eqN f_s_0 rfl rfl Tryz.underlying26 rfl ?_
 intro b1 kb1
 replace h := nilq_out h kb1
 refine Reg.nil ?_
 refine cw_cond rfl (fun hc2 => ?_) (fun hc2 => ?_)
 ·replace h := cdT hc2 h
  refine cw_seq (cw_regF ?_)
  refine s_as rfl rfl ?_
  refine Reg.nil ?_
  refine cw_ret ?_
  obtain rfl := Option.some.inj h
  refine fin1 Tryz.results26 rfl ?_
  exact ⟨_, rfl, ⟨Own.nil _ _ _ _ _, fun _ hb => by cases hb⟩, hI.kp⟩
 ·replace h := cdF hc2 h
  refine cw_skip (cw_seq (cw_regF ?_))
  refine y_bs (E := (intE .i64)) (xs := []) sl26 hI rfl rfl Cls.nil Chs.nil rfl rfl ?_
  intro v3 w4 hI5 x6
  refine s_mv rfl rfl ?_
  obtain ⟨l7, hl7, h⟩ := bnd h
  obtain ⟨hbl7, el7⟩ := appo_out hl7
  refine y_app 0 sl26 hI5 rfl rfl rfl (f_s_0.adv hI5.adv) hbl7 rfl ?_
  rw [← el7]
  intro v8 w9 hI10 x11
  refine s_as rfl rfl ?_
  refine Reg.nil ?_
  refine cw_ret ?_
  obtain rfl := Option.some.inj h
  refine fin1 Tryz.results26 rfl ?_
  exact ⟨_, rfl, (hI10.ownOut 0 rfl), hI10.kp⟩
noncomputable def P.slices_ContainsFunc_37 (s : (List Int)) (f : Int → Option Bool) : Option Bool :=
 Option.bind (P.slices_IndexFunc_52 s f) fun z1 => some (decide (0 ≤ z1))
theorem C_slices_ContainsFunc_37 {M : List Nat} {w : World} (hM : MLt M w) {s : (List Int)} {v_s_0 : Value} (f_s_0 : RdS (intE .i64) M w v_s_0 s) {v_f : Value} {f : Int → Option Bool} (f_f : ∀ (x0 : Int) (r : Bool) (w1 : World), Kp [] w w1 → InK .i64 x0 → f x0 = some r → CallsV Tryz.prog v_f [Value.int .i64 x0] w1 fun e w2 => e = .returned (Value.bool r) ∧ Ext w1 w2) {r0 : Bool} (h : P.slices_ContainsFunc_37 s f = some r0) :
  Calls Tryz.prog 37 (List.toArray [v_s_0, v_f]) w fun e w' => e = .returned (Value.bool r0) ∧ Ext w w' := by
 have hI := Hp.start (Mu := []) hM
 refine calls_cw Tryz.func37 rfl Tryz.ntmps37 rfl ?_
 refine cw_seq (cw_regF ?_)
 refine s_as rfl rfl ?_
 refine Reg.nil ?_
 refine cw_seq (cw_regF ?_)
 refine s_mv rfl rfl ?_
 refine s_mv rfl rfl ?_
 obtain ⟨z1, hz2, h⟩ := bnd h
 refine s_call rfl Tryz.call52 rfl ?_
 refine (C_slices_IndexFunc_52 hI.mlt f_s_0 (fun a0 r w9 e9 f0 hr => f_f a0 r w9 (hI.kp.trans (Ext.kp e9)) f0 hr) hz2).mono ?_
 rintro _ w3 ⟨rfl, r5, e4⟩
 refine ⟨_, rfl, ?_⟩
 have hI6 := hI.ext e4
 refine s_geq rfl rfl rfl ?_
 refine s_as rfl rfl ?_
 refine Reg.nil ?_
 refine cw_ret ?_
 obtain rfl := Option.some.inj h
 refine fin1 Tryz.results37 rfl ?_
 exact ⟨rfl, hI6.kp⟩
noncomputable def P.score_within_in1 (n : Int) (lo_c : Int) (hi_c : Int) : Option Bool :=
 Option.bind (cond (decide (n < lo_c)) (some true) (some (decide (hi_c < n)))) fun x2 => some x2
theorem C_score_within_in1 {M : List Nat} {w : World} (hM : MLt M w) {n : Int} (f_n_0 : InK .i64 n) {lo_c : Int} (f_lo_c_0 : InK .i64 lo_c) {b_lo_c : Nat} (c_lo_c : RdC M w b_lo_c 0 [Value.int .i64 lo_c]) {hi_c : Int} (f_hi_c_0 : InK .i64 hi_c) {b_hi_c : Nat} (c_hi_c : RdC M w b_hi_c 0 [Value.int .i64 hi_c]) {r0 : Bool} (h : P.score_within_in1 n lo_c hi_c = some r0) :
  Calls Tryz.prog 38 (List.toArray [Value.int .i64 n, Value.pointer (some ⟨b_lo_c, 0, none⟩), Value.pointer (some ⟨b_hi_c, 0, none⟩)]) w fun e w' => e = .returned (Value.bool r0) ∧ Ext w w' := by
 have hI := Hp.start (Mu := []) hM
 refine calls_cw Tryz.func38 rfl Tryz.ntmps38 rfl ?_
 refine cw_seq (cw_regF ?_)
 refine s_as rfl rfl ?_
 refine Reg.nil ?_
 obtain ⟨j1, h2, h⟩ := bnd h
 refine cw_sub (L := [(0, _), (1, _), (2, _)]) (Sub.cons rfl (Sub.cons rfl (Sub.cons rfl (Sub.nil _)))) ?_
 refine cw_seqD 3 (ι := Bool) (fun x3 => [(4, Value.bool x3)]) (fun x3 => fun w4 => w = w4 ∧ x3 = j1) ?_ ?_
 ·skip
  refine cw_regF ?_
  refine s_mv rfl rfl ?_
  refine s_ld rfl (c_lo_c.cells.at 0 rfl) Tryz.isAgg3 rfl ?_
  refine s_lss rfl rfl rfl ?_
  refine s_mv rfl rfl ?_
  refine Reg.gsplit (t := 8) rfl (fun hg7 => ?_) (fun hg7 => ?_)
  ·replace h2 := cdT hg7 h2
   refine Reg.pass rfl rfl rfl rfl ?_
   refine Reg.pass rfl rfl rfl rfl ?_
   refine Reg.pass rfl rfl rfl rfl ?_
   refine s_pkT rfl rfl rfl ?_
   refine s_as rfl rfl ?_
   refine Reg.nil ?_
   obtain rfl := Option.some.inj h2
   refine ⟨rfl, true, ⟨rfl, rfl⟩, Sub.cons rfl (Sub.nil _)⟩
  ·replace h2 := cdF hg7 h2
   refine Reg.take rfl rfl ?_
   refine s_mv rfl rfl ?_
   refine Reg.take rfl rfl ?_
   refine s_ld rfl (c_hi_c.cells.at 0 rfl) Tryz.isAgg3 rfl ?_
   refine Reg.take rfl rfl ?_
   refine s_gtr rfl rfl rfl ?_
   refine s_pkF rfl rfl rfl ?_
   refine s_as rfl rfl ?_
   refine Reg.nil ?_
   obtain rfl := Option.some.inj h2
   refine ⟨rfl, decide (hi_c < n), ⟨rfl, rfl⟩, Sub.cons rfl (Sub.nil _)⟩
 ·skip
  rintro x3 _ ⟨rfl, rfl⟩
  refine cw_ret ?_
  obtain rfl := Option.some.inj h
  refine fin1 Tryz.results38 rfl ?_
  exact ⟨rfl, hI.kp⟩
noncomputable def P.score_within (lo : Int) (hi : Int) (all : (List Int)) : Option Bool :=
 Option.bind (P.slices_ContainsFunc_37 all (fun x0_ => P.score_within_in1 x0_ lo hi)) fun z13 => some (!z13)
theorem C_score_within {M : List Nat} {w : World} (hM : MLt M w) {lo : Int} (f_lo_0 : InK .i64 lo) {hi : Int} (f_hi_0 : InK .i64 hi) {all : (List Int)} {v_all_0 : Value} (f_all_0 : RdS (intE .i64) M w v_all_0 all) {r0 : Bool} (h : P.score_within lo hi all = some r0) :
  Calls Tryz.prog 22 (List.toArray [Value.int .i64 lo, Value.int .i64 hi, v_all_0]) w fun e w' => e = .returned (Value.bool r0) ∧ Ext w w' := by
 have hI := Hp.start (Mu := []) hM
 refine calls_cw Tryz.func22 rfl Tryz.ntmps22 rfl ?_
 refine cw_seq (cw_regF ?_)
 refine y_box hI rfl rfl rfl ?_
 intro b1 w2 hI3 x4
 have hC6 := hI3.freezeRow 0 rfl
 have hI5 := hI3.erase 0
 refine y_box hI5 rfl rfl rfl ?_
 intro b7 w8 hI9 x10
 have hC12 := hI9.freezeRow 0 rfl
 have hI11 := hI9.erase 0
 refine s_as rfl rfl ?_
 refine Reg.nil ?_
 refine cw_seq (cw_regF ?_)
 refine s_mv rfl rfl ?_
 refine s_mf rfl rfl ?_
 obtain ⟨z13, hz14, h⟩ := bnd h
 refine s_call rfl Tryz.call37 rfl ?_
 refine (C_slices_ContainsFunc_37 hI11.mlt (f_all_0.adv hI11.adv) (fun a0 r w9 e9 f0 hr => CallsV.ofL Tryz.call38 rfl (C_score_within_in1 (hI11.mlt.ext e9) f0 f_lo_0 ((hC6.adv (x10.trans (Hp.eraseA (σ := [rowR 3 b7 [Value.int .i64 hi]]) 0))).adv (Adv.of_ext e9)) f_hi_0 (hC12.adv (Adv.of_ext e9)) hr)) hz14).mono ?_
 rintro _ w15 ⟨rfl, e16⟩
 refine ⟨_, rfl, ?_⟩
 have hI17 := hI11.ext e16
 refine s_not rfl rfl ?_
 refine s_as rfl rfl ?_
 refine Reg.nil ?_
 refine cw_ret ?_
 obtain rfl := Option.some.inj h
 refine fin1 Tryz.results22 rfl ?_
 exact ⟨rfl, hI17.kp⟩
noncomputable def P.score_counts (all : (List Int)) : Option Bool :=
 Option.bind (P.score_within (-1000000) 1000000 all) fun z1 => some z1
theorem C_score_counts {M : List Nat} {w : World} (hM : MLt M w) {all : (List Int)} {v_all_0 : Value} (f_all_0 : RdS (intE .i64) M w v_all_0 all) {r0 : Bool} (h : P.score_counts all = some r0) :
  Calls Tryz.prog 35 (List.toArray [v_all_0]) w fun e w' => e = .returned (Value.bool r0) ∧ Ext w w' := by
 have hI := Hp.start (Mu := []) hM
 refine calls_cw Tryz.func35 rfl Tryz.ntmps35 rfl ?_
 refine cw_seq (cw_regF ?_)
 refine s_as rfl rfl ?_
 refine Reg.nil ?_
 refine cw_seq (cw_regF ?_)
 refine s_mv rfl rfl ?_
 obtain ⟨z1, hz2, h⟩ := bnd h
 refine s_call rfl Tryz.call22 rfl ?_
 refine (C_score_within hI.mlt (by decide) (by decide) f_all_0 hz2).mono ?_
 rintro _ w3 ⟨rfl, e4⟩
 refine ⟨_, rfl, ?_⟩
 have hI5 := hI.ext e4
 refine s_as rfl rfl ?_
 refine Reg.nil ?_
 refine cw_ret ?_
 obtain rfl := Option.some.inj h
 refine fin1 Tryz.results35 rfl ?_
 exact ⟨rfl, hI5.kp⟩
noncomputable def P.slices_BinarySearch_112 (x : (List Int)) (target : Int) : Option (Int × Bool) :=
 Option.bind (loopM (S := Int × Int) (R := (Int)) (fun (x1, x2) => cond (decide (x1 < x2)) (Option.bind (Option.bind (chk .i64 (x1 + x2)) fun n4 => Option.bind (chk .u64 n4) fun n5 => Option.bind (shrO n5 1 IntKind.u64.bits) fun n6 => Option.bind (chk .i64 n6) fun n7 => Option.bind (ixo x n7) fun y8 => Option.bind (P.cmp_Less_86 y8 target) fun z15 => Option.bind (cond z15 (Option.bind (chk .i64 (n7 + 1)) fun n21 => some (n21, x2)) (some (x1, n7))) fun (x22, x23) => some (x22, x23)) fun (x24, x25) => some (.inl (x24, x25))) (some (.inr x1))) (0, (x.length : Int))) fun x26 => Option.bind (cond (decide (x26 < (x.length : Int))) (Option.bind (ixo x x26) fun y28 => cond (decide (y28 = target)) (some (x26, true)) (Option.bind (ixo x x26) fun y36 => Option.bind (P.slices_isNaN_116 y36) fun z43 => cond z43 (Option.bind (P.slices_isNaN_116 target) fun z49 => some (x26, z49)) (some (x26, false)))) (some (x26, false))) fun (x54, x55) => some (x54, x55)
theorem C_slices_BinarySearch_112 {M : List Nat} {w : World} (hM : MLt M w) {x : (List Int)} {v_x_0 : Value} (f_x_0 : RdS (intE .i64) M w v_x_0 x) {target : Int} (f_target_0 : InK .i64 target) {r0 : Int} {r1 : Bool} (h : P.slices_BinarySearch_112 x target = some (r0, r1)) :
  Calls Tryz.prog 112 (List.toArray [v_x_0, Value.int .i64 target]) w fun e w' => e = .returned (Value.tuple (List.toArray [Value.int .i64 r0, Value.bool r1])) ∧ InK .i64 r0 ∧ Ext w w' := by
 have hI := Hp.start (Mu := []) hM
 refine calls_cw Tryz.func112 rfl Tryz.ntmps112 rfl ?_
 refine cw_seq (cw_regF ?_)
 refine s_as rfl rfl ?_
 refine s_as rfl rfl ?_
 refine Reg.nil ?_
 refine cw_seq (cw_regF ?_)
 refine s_mv rfl rfl ?_
 refine s_len rfl f_x_0 Tryz.underlying26 rfl ?_
 refine s_as rfl rfl ?_
 refine Reg.nil ?_
 refine cw_seq (cw_regF ?_)
 refine s_mv rfl rfl ?_
 refine s_as rfl rfl ?_
 refine s_as rfl rfl ?_
 refine Reg.nil ?_
 obtain ⟨j1, h2, h⟩ := bnd h
 refine cw_sub (L := [(7, _), (8, _), (0, _), (1, _), (6, _)]) (Sub.cons rfl (Sub.cons rfl (Sub.cons rfl (Sub.cons rfl (Sub.cons rfl (Sub.nil _)))))) ?_
 refine cw_seqD 2 (ι := Int) (fun x3 => [(7, Value.int .i64 x3)]) (fun x3 => fun w5 => Hp w [] M [] w5 ∧ Adv (mm [] M) (mm [] M) w w5 ∧ InK .i64 x3 ∧ x3 = j1) ?_ ?_
 ·skip
  refine cw_block ?_
  refine cw_sub (L := [(7, _), (8, _), (0, _), (1, _), (6, _)]) (Sub.cons rfl (Sub.cons rfl (Sub.cons rfl (Sub.cons rfl (Sub.cons rfl (Sub.nil _)))))) ?_
  refine cw_loopM 2 (ι := Int × Int) _ (fun ⟨x8, x10⟩ => [(7, Value.int .i64 x8), (8, Value.int .i64 x10)]) (fun ⟨x8, x10⟩ => (x8, x10)) (fun ⟨x8, x10⟩ => fun w12 => Hp w [] M [] w12 ∧ Adv (mm [] M) (mm [] M) w w12 ∧ InK .i64 x8 ∧ InK .i64 x10) (0, (x.length : Int)) h2 ⟨hI, (Adv.refl _ _), (by decide), (RdS.inK f_x_0)⟩ (Sub.cons rfl (Sub.cons rfl (Sub.cons rfl (Sub.cons rfl (Sub.cons rfl (Sub.nil _)))))) ?_
  rintro ⟨x8, x10⟩ w12 ⟨hI13, hA14, r9, r11⟩ y15 h16 hR17
  refine cw_seq (cw_seq (cw_regF ?_))
  refine s_mv rfl rfl ?_
  refine s_mv rfl rfl ?_
  refine s_lss rfl rfl rfl ?_
  refine Reg.nil ?_
  refine cw_cond rfl (fun hc18 => ?_) (fun hc18 => ?_)
  ·replace h16 := cdT hc18 h16
   refine cw_skip ?_
   obtain ⟨j19, h20, h16⟩ := bnd h16
   refine cw_sub (L := [(7, _), (8, _), (0, _), (1, _), (6, _)]) (Sub.cons rfl (Sub.cons rfl (Sub.cons rfl (Sub.cons rfl (Sub.cons rfl (Sub.nil _)))))) ?_
   refine cw_unitD 2 (ι := Int × Int) (fun ⟨x21, x23⟩ => [(7, Value.int .i64 x21), (8, Value.int .i64 x23)]) (fun ⟨x21, x23⟩ => fun w25 => Hp w [] M [] w25 ∧ Adv (mm [] M) (mm [] M) w12 w25 ∧ InK .i64 x21 ∧ InK .i64 x23 ∧ (x21, x23) = j19) ?_ ?_
   ·skip
    refine cw_block ?_
    refine cw_seq (cw_regF ?_)
    refine s_mv rfl rfl ?_
    refine s_mv rfl rfl ?_
    obtain ⟨n28, hn28, h20⟩ := bnd h20
    replace hn28 := chk_out hn28
    refine p_add rfl rfl rfl hn28 ?_
    obtain ⟨n29, hn29, h20⟩ := bnd h20
    replace hn29 := chk_out hn29
    refine p_cvt rfl Tryz.underlying3 Tryz.underlying91 rfl hn29 ?_
    obtain ⟨n30, hn30, h20⟩ := bnd h20
    refine p_shr rfl rfl rfl hn30 ?_
    obtain ⟨n31, hn31, h20⟩ := bnd h20
    replace hn31 := chk_out hn31
    refine p_cvt rfl Tryz.underlying91 Tryz.underlying3 rfl hn31 ?_
    refine s_as rfl rfl ?_
    refine Reg.nil ?_
    refine cw_seq (cw_regF ?_)
    refine s_mv rfl rfl ?_
    refine s_mv rfl rfl ?_
    obtain ⟨y32, hy32, h20⟩ := bnd h20
    refine p_ia rfl rfl (f_x_0.adv hI13.adv) hy32 Tryz.underlying26 Tryz.sizeOf3 rfl ?_
    intro b33 o34 cs35 hR36 hC37
    obtain ⟨rfl, r38⟩ := hR36
    refine s_ld rfl (hC37.cells.at 0 rfl) Tryz.isAgg3 rfl ?_
    refine s_mv rfl rfl ?_
    obtain ⟨z39, hz40, h20⟩ := bnd h20
    refine s_call rfl Tryz.call86 rfl ?_
    refine (C_cmp_Less_86 hI13.mlt r38 f_target_0 hz40).mono ?_
    rintro _ w41 ⟨rfl, e42⟩
    refine ⟨_, rfl, ?_⟩
    have hI43 := hI13.ext e42
    refine Reg.nil ?_
    obtain ⟨j44, h45, h20⟩ := bnd h20
    refine cw_sub (L := [(7, _), (8, _), (9, _), (27, _), (0, _), (1, _), (6, _)]) (Sub.cons rfl (Sub.cons rfl (Sub.cons rfl (Sub.cons rfl (Sub.cons rfl (Sub.cons rfl (Sub.cons rfl (Sub.nil _)))))))) ?_
    refine cw_unitD 4 (ι := Int × Int) (fun ⟨x46, x48⟩ => [(7, Value.int .i64 x46), (8, Value.int .i64 x48)]) (fun ⟨x46, x48⟩ => fun w50 => w41 = w50 ∧ InK .i64 x46 ∧ InK .i64 x48 ∧ (x46, x48) = j44) ?_ ?_
    ·skip
     refine cw_cond rfl (fun hc53 => ?_) (fun hc53 => ?_)
     ·replace h45 := cdT hc53 h45
      refine cw_regF ?_
      refine s_mv rfl rfl ?_
      obtain ⟨n54, hn54, h45⟩ := bnd h45
      replace hn54 := chk_out hn54
      refine p_add rfl rfl rfl hn54 ?_
      refine s_as rfl rfl ?_
      refine Reg.nil ?_
      obtain rfl := Option.some.inj h45
      refine ⟨rfl, (n54, x10), ⟨rfl, hn54.2, r11, rfl⟩, Sub.cons rfl (Sub.cons rfl (Sub.cons rfl (Sub.cons rfl (Sub.cons rfl (Sub.nil _)))))⟩
     ·replace h45 := cdF hc53 h45
      refine cw_regF ?_
      refine s_mv rfl rfl ?_
      refine s_as rfl rfl ?_
      refine Reg.nil ?_
      obtain rfl := Option.some.inj h45
      refine ⟨rfl, (x8, n31), ⟨rfl, r9, hn31.2, rfl⟩, Sub.cons rfl (Sub.cons rfl (Sub.cons rfl (Sub.cons rfl (Sub.cons rfl (Sub.nil _)))))⟩
    ·skip
     rintro ⟨x46, x48⟩ _ ⟨rfl, r47, r49, rfl⟩
     obtain rfl := Option.some.inj h20
     refine ⟨rfl, (x46, x48), ⟨hI43, (Adv.of_ext e42), r47, r49, rfl⟩, Sub.cons rfl (Sub.cons rfl (Sub.cons rfl (Sub.cons rfl (Sub.cons rfl (Sub.nil _)))))⟩
   ·skip
    rintro ⟨x21, x23⟩ w25 ⟨hI26, hA27, r22, r24, rfl⟩
    obtain rfl := Option.some.inj h16
    refine ⟨rfl, (x21, x23), ⟨⟨hI26, hI26.adv, r22, r24⟩, rfl⟩, Sub.cons rfl (Sub.cons rfl (Sub.cons rfl (Sub.cons rfl (Sub.cons rfl (Sub.nil _)))))⟩
  ·replace h16 := cdF hc18 h16
   refine cw_exit ?_
   refine exB_same ?_
   obtain rfl := Option.some.inj h16
   obtain rfl := hR17 _ rfl
   refine ⟨rfl, x8, ⟨hI13, hI13.adv, r9, rfl⟩, Sub.cons rfl (Sub.cons rfl (Sub.cons rfl (Sub.cons rfl (Sub.nil _))))⟩
 ·skip
  rintro x3 w5 ⟨hI6, hA7, r4, rfl⟩
  obtain ⟨j55, h56, h⟩ := bnd h
  refine cw_sub (L := [(0, _), (1, _), (6, _), (7, _)]) (Sub.cons rfl (Sub.cons rfl (Sub.cons rfl (Sub.cons rfl (Sub.nil _))))) ?_
  refine cw_seqD 4 (ι := Int × Bool) (fun ⟨x57, x59⟩ => [(4, Value.int .i64 x57), (5, Value.bool x59)]) (fun ⟨x57, x59⟩ => fun w60 => Hp w [] M [] w60 ∧ Adv (mm [] M) (mm [] M) w5 w60 ∧ InK .i64 x57 ∧ (x57, x59) = j55) ?_ ?_
  ·skip
   refine cw_regF ?_
   refine s_mv rfl rfl ?_
   refine s_mv rfl rfl ?_
   refine s_mv rfl rfl ?_
   refine s_lss rfl rfl rfl ?_
   refine s_mv rfl rfl ?_
   refine Reg.gsplit (t := 35) rfl (fun hg63 => ?_) (fun hg63 => ?_)
   ·replace h56 := cdT hg63 h56
    refine Reg.take rfl rfl ?_
    refine s_mv rfl rfl ?_
    refine Reg.take rfl rfl ?_
    refine s_mv rfl rfl ?_
    refine Reg.take rfl rfl ?_
    obtain ⟨y64, hy64, h56⟩ := bnd h56
    refine p_ia rfl rfl (f_x_0.adv hI6.adv) hy64 Tryz.underlying26 Tryz.sizeOf3 rfl ?_
    intro b65 o66 cs67 hR68 hC69
    obtain ⟨rfl, r70⟩ := hR68
    refine Reg.take rfl rfl ?_
    refine s_ld rfl (hC69.cells.at 0 rfl) Tryz.isAgg3 rfl ?_
    refine Reg.take rfl rfl ?_
    refine s_mv rfl rfl ?_
    refine Reg.take rfl rfl ?_
    refine s_eql rfl rfl rfl ?_
    refine Reg.take rfl rfl ?_
    refine s_mv rfl rfl ?_
    refine Reg.gsplit (t := 42) rfl (fun hg71 => ?_) (fun hg71 => ?_)
    ·replace h56 := cdT hg71 h56
     refine Reg.pass rfl rfl rfl rfl ?_
     refine Reg.pass rfl rfl rfl rfl ?_
     refine Reg.pass rfl rfl rfl rfl ?_
     refine Reg.pass rfl rfl rfl rfl ?_
     refine Reg.pass rfl rfl rfl rfl ?_
     refine Reg.pass rfl rfl rfl rfl ?_
     refine Reg.passU rfl rfl rfl ?_
     refine Reg.passU rfl rfl rfl ?_
     refine Reg.pass rfl rfl rfl rfl ?_
     refine Reg.take rfl rfl ?_
     refine s_pkT rfl rfl rfl ?_
     refine s_pkT rfl rfl rfl ?_
     refine s_as rfl rfl ?_
     refine s_as rfl rfl ?_
     refine Reg.nil ?_
     obtain rfl := Option.some.inj h56
     refine ⟨rfl, (x3, true), ⟨hI6, (Adv.refl _ _), r4, rfl⟩, Sub.cons rfl (Sub.cons rfl (Sub.nil _))⟩
    ·replace h56 := cdF hg71 h56
     refine Reg.take rfl rfl ?_
     refine s_mv rfl rfl ?_
     refine Reg.take rfl rfl ?_
     refine s_mv rfl rfl ?_
     refine Reg.take rfl rfl ?_
     obtain ⟨y72, hy72, h56⟩ := bnd h56
     refine p_ia rfl rfl (f_x_0.adv hI6.adv) hy72 Tryz.underlying26 Tryz.sizeOf3 rfl ?_
     intro b73 o74 cs75 hR76 hC77
     obtain ⟨rfl, r78⟩ := hR76
     refine Reg.take rfl rfl ?_
     refine s_ld rfl (hC77.cells.at 0 rfl) Tryz.isAgg3 rfl ?_
     refine Reg.take rfl rfl ?_
     obtain ⟨z79, hz80, h56⟩ := bnd h56
     refine s_call rfl Tryz.call116 rfl ?_
     refine (C_slices_isNaN_116 hI6.mlt r78 hz80).mono ?_
     rintro _ w81 ⟨rfl, e82⟩
     refine ⟨_, rfl, ?_⟩
     have hI83 := hI6.ext e82
     refine Reg.take rfl rfl ?_
     refine s_mv rfl rfl ?_
     refine Reg.gsplit (t := 48) rfl (fun hg84 => ?_) (fun hg84 => ?_)
     ·replace h56 := cdT hg84 h56
      refine Reg.take rfl rfl ?_
      refine s_mv rfl rfl ?_
      refine Reg.take rfl rfl ?_
      obtain ⟨z85, hz86, h56⟩ := bnd h56
      refine s_call rfl Tryz.call116 rfl ?_
      refine (C_slices_isNaN_116 hI83.mlt f_target_0 hz86).mono ?_
      rintro _ w87 ⟨rfl, e88⟩
      refine ⟨_, rfl, ?_⟩
      have hI89 := hI83.ext e88
      refine Reg.take rfl rfl ?_
      refine s_pkT rfl rfl rfl ?_
      refine Reg.take rfl rfl ?_
      refine s_pkF rfl rfl rfl ?_
      refine s_pkT rfl rfl rfl ?_
      refine s_as rfl rfl ?_
      refine s_as rfl rfl ?_
      refine Reg.nil ?_
      obtain rfl := Option.some.inj h56
      refine ⟨rfl, (x3, z85), ⟨hI89, ((Adv.of_ext e82).trans (Adv.of_ext e88)), r4, rfl⟩, Sub.cons rfl (Sub.cons rfl (Sub.nil _))⟩
     ·replace h56 := cdF hg84 h56
      refine Reg.pass rfl rfl rfl rfl ?_
      refine Reg.pass rfl rfl rfl rfl ?_
      refine Reg.take rfl rfl ?_
      refine s_pkF rfl rfl rfl ?_
      refine Reg.take rfl rfl ?_
      refine s_pkF rfl rfl rfl ?_
      refine s_pkT rfl rfl rfl ?_
      refine s_as rfl rfl ?_
      refine s_as rfl rfl ?_
      refine Reg.nil ?_
      obtain rfl := Option.some.inj h56
      refine ⟨rfl, (x3, false), ⟨hI83, (Adv.of_ext e82), r4, rfl⟩, Sub.cons rfl (Sub.cons rfl (Sub.nil _))⟩
   ·replace h56 := cdF hg63 h56
    refine Reg.pass rfl rfl rfl rfl ?_
    refine Reg.pass rfl rfl rfl rfl ?_
    refine Reg.pass rfl rfl rfl rfl ?_
    refine Reg.pass rfl rfl rfl rfl ?_
    refine Reg.pass rfl rfl rfl rfl ?_
    refine Reg.pass rfl rfl rfl rfl ?_
    refine Reg.pass rfl rfl rfl rfl ?_
    refine Reg.passU rfl rfl rfl ?_
    refine Reg.passU rfl rfl rfl ?_
    refine Reg.passU rfl rfl rfl ?_
    refine Reg.passU rfl rfl rfl ?_
    refine Reg.passU rfl rfl rfl ?_
    refine Reg.passU rfl rfl rfl ?_
    refine Reg.passU rfl rfl rfl ?_
    refine Reg.passU rfl rfl rfl ?_
    refine Reg.passU rfl rfl rfl ?_
    refine Reg.pass rfl rfl rfl rfl ?_
    refine s_pkF rfl rfl rfl ?_
    refine s_as rfl rfl ?_
    refine s_as rfl rfl ?_
    refine Reg.nil ?_
    obtain rfl := Option.some.inj h56
    refine ⟨rfl, (x3, false), ⟨hI6, (Adv.refl _ _), r4, rfl⟩, Sub.cons rfl (Sub.cons rfl (Sub.nil _))⟩
  ·skip
   rintro ⟨x57, x59⟩ w60 ⟨hI61, hA62, r58, rfl⟩
   refine cw_ret ?_
   obtain ⟨rfl, rfl⟩ := inj2 h
   refine fin2 Tryz.results112 rfl rfl ?_
   exact ⟨rfl, r58, hI61.kp⟩
noncomputable def P.score_card_points (c : Card) (x : (List Int)) : Option Int :=
 Option.bind (loopM (S := Int × Int) (R := (Int)) (fun (x7, x8) => cond (decide (x8 < (c.scales.length : Int))) (Option.bind (Option.bind (ixo c.scales x8) fun y10 => Option.bind (ixo x x8) fun y30 => cond (decide (y30 = (-1))) (Option.bind (chk .i64 (x7 + y10.none_)) fun n38 => some n38) (Option.bind (ixo x x8) fun y39 => Option.bind (P.slices_BinarySearch_112 y10.cuts y39) fun (z46, z47) => Option.bind (Option.bind (cond z47 (Option.bind (chk .i64 (z46 + 1)) fun n56 => some n56) (some z46)) fun x57 => some x57) fun x58 => Option.bind (ixo y10.points x58) fun y59 => Option.bind (chk .i64 (x7 + y59)) fun n66 => some n66)) fun x67 => Option.bind (chk .i64 (x8 + 1)) fun n68 => some (.inl (x67, n68))) (some (.inr x7))) (c.base, 0)) fun x69 => some x69
theorem C_score_card_points {M : List Nat} {w : World} (hM : MLt M w) {c : Card} {v_c_2 : Value} (f_c_0 : InK .i64 c.weight) (f_c_1 : InK .i64 c.base) (f_c_2 : RdS ScaleE M w v_c_2 c.scales) {x : (List Int)} {v_x_0 : Value} (f_x_0 : RdS (intE .i64) M w v_x_0 x) {r0 : Int} (h : P.score_card_points c x = some r0) :
  Calls Tryz.prog 109 (List.toArray [Value.agg (List.toArray [Value.int .i64 c.weight, Value.int .i64 c.base, v_c_2]), v_x_0]) w fun e w' => e = .returned (Value.int .i64 r0) ∧ InK .i64 r0 ∧ Ext w w' := by
 have hI := Hp.start (Mu := []) hM
 refine calls_cw Tryz.func109 rfl Tryz.ntmps109 rfl ?_
 refine cw_seq (cw_regF ?_)
 refine y_box hI rfl rfl rfl ?_
 intro b1 w2 hI3 x4
 have hC6 := hI3.freezeRow 0 rfl
 have hI5 := hI3.erase 0
 refine s_as rfl rfl ?_
 refine Reg.nil ?_
 refine cw_seq (cw_regF ?_)
 refine s_fa rfl Tryz.underlying83 rfl Tryz.sizeOf3 rfl ?_
 refine s_ld rfl (hC6.cells.at 1 rfl) Tryz.isAgg3 rfl ?_
 refine s_as rfl rfl ?_
 refine Reg.nil ?_
 refine cw_seq (cw_seq (cw_regF ?_))
 refine s_fa rfl Tryz.underlying83 rfl Tryz.sizeOf37 rfl ?_
 refine s_ld rfl (hC6.cells.at 2 rfl) Tryz.isAgg37 rfl ?_
 refine s_len rfl (f_c_2.adv hI5.adv) Tryz.underlying37 rfl ?_
 refine s_mv rfl rfl ?_
 refine Reg.nil ?_
 obtain ⟨j7, h8, h⟩ := bnd h
 refine cw_sub (L := [(1, _), (5, _), (13, _), (14, _), (15, _)]) (Sub.cons rfl (Sub.cons rfl (Sub.cons rfl (Sub.cons rfl (Sub.cons rfl (Sub.nil _)))))) ?_
 refine cw_unitD 5 (ι := Int) (fun x9 => [(5, Value.int .i64 x9)]) (fun x9 => fun w11 => Hp w [] M [] w11 ∧ Adv (mm [] M) (mm [] M) w2 w11 ∧ InK .i64 x9 ∧ x9 = j7) ?_ ?_
 ·skip
  refine cw_block ?_
  refine cw_sub (L := [(5, _), (15, _), (1, _), (13, _), (14, _)]) (Sub.cons rfl (Sub.cons rfl (Sub.cons rfl (Sub.cons rfl (Sub.cons rfl (Sub.nil _)))))) ?_
  refine cw_loopM 2 (ι := Int × Int) _ (fun ⟨x14, x16⟩ => [(5, Value.int .i64 x14), (15, Value.int .i64 x16)]) (fun ⟨x14, x16⟩ => (x14, x16)) (fun ⟨x14, x16⟩ => fun w18 => Hp w [] M [] w18 ∧ Adv (mm [] M) (mm [] M) w2 w18 ∧ InK .i64 x14 ∧ InK .i64 x16) (c.base, 0) h8 ⟨hI5, (Adv.refl _ _), f_c_1, (by decide)⟩ (Sub.cons rfl (Sub.cons rfl (Sub.cons rfl (Sub.cons rfl (Sub.cons rfl (Sub.nil _)))))) ?_
  rintro ⟨x14, x16⟩ w18 ⟨hI19, hA20, r15, r17⟩ y21 h22 hR23
  refine cw_seq (cw_regF ?_)
  refine s_lss rfl rfl rfl ?_
  refine Reg.nil ?_
  refine cw_seq ?_
  refine cw_cond rfl (fun hc24 => ?_) (fun hc24 => ?_)
  ·replace h22 := cdT hc24 h22
   refine cw_skip ?_
   obtain ⟨j25, h26, h22⟩ := bnd h22
   refine cw_sub (L := [(5, _), (1, _), (13, _), (14, _), (15, _)]) (Sub.cons rfl (Sub.cons rfl (Sub.cons rfl (Sub.cons rfl (Sub.cons rfl (Sub.nil _)))))) ?_
   refine cw_seqD 1 (ι := Int) (fun x27 => [(5, Value.int .i64 x27)]) (fun x27 => fun w29 => Hp w [] M [] w29 ∧ Adv (mm [] M) (mm [] M) w18 w29 ∧ InK .i64 x27 ∧ x27 = j25) ?_ ?_
   ·skip
    refine cw_block ?_
    refine cw_seq (cw_regF ?_)
    refine s_mv rfl rfl ?_
    obtain ⟨y32, hy32, h26⟩ := bnd h26
    refine p_ia rfl rfl (f_c_2.adv hI19.adv) hy32 Tryz.underlying37 Tryz.sizeOf41 rfl ?_
    intro b33 o34 cs35 hR36 hC37
    obtain ⟨v38, v40, rfl, hf39, hf41, r42⟩ := ScaleE_R.1 hR36
    refine s_lda rfl hC37.cells Tryz.isAgg41 rfl Tryz.sizeOf41 rfl ?_
    refine y_al hI19 Tryz.zeroValue41 rfl rfl ?_
    intro b43 w44 hI45 x46
    refine s_as rfl rfl ?_
    refine y_st 0 hI45 rfl rfl rfl rfl Tryz.sizeOf41 rfl rfl (one1 (RdS.oneC hf39) (one1 (RdS.oneC hf41) (one1 rfl one0))) ?_
    intro w47 hI48 x49
    have hC51 := hI48.freezeRow 0 rfl
    have hI50 := hI48.erase 0
    refine Reg.nil ?_
    refine cw_seq (cw_seq (cw_regF ?_))
    refine s_mv rfl rfl ?_
    refine s_mv rfl rfl ?_
    obtain ⟨y52, hy52, h26⟩ := bnd h26
    refine p_ia rfl rfl (f_x_0.adv hI50.adv) hy52 Tryz.underlying26 Tryz.sizeOf3 rfl ?_
    intro b53 o54 cs55 hR56 hC57
    obtain ⟨rfl, r58⟩ := hR56
    refine s_ld rfl (hC57.cells.at 0 rfl) Tryz.isAgg3 rfl ?_
    refine s_eql rfl rfl rfl ?_
    refine Reg.nil ?_
    refine cw_cond rfl (fun hc59 => ?_) (fun hc59 => ?_)
    ·replace h26 := cdT hc59 h26
     refine cw_seq (cw_regF ?_)
     refine s_mv rfl rfl ?_
     refine s_fa rfl Tryz.underlying41 rfl Tryz.sizeOf3 rfl ?_
     refine s_ld rfl (hC51.cells.at 2 rfl) Tryz.isAgg3 rfl ?_
     obtain ⟨n60, hn60, h26⟩ := bnd h26
     replace hn60 := chk_out hn60
     refine p_add rfl rfl rfl hn60 ?_
     refine s_as rfl rfl ?_
     refine Reg.nil ?_
     refine cw_exit ?_
     refine exB_same ?_
     obtain rfl := Option.some.inj h26
     refine ⟨rfl, n60, ⟨hI50, (x46.trans (x49.trans (Hp.eraseA (σ := [rowR 41 b43 [v38, v40, Value.int .i64 y32.none_]]) 0))), hn60.2, rfl⟩, Sub.cons rfl (Sub.cons rfl (Sub.cons rfl (Sub.cons rfl (Sub.cons rfl (Sub.nil _)))))⟩
    ·replace h26 := cdF hc59 h26
     refine cw_skip ?_
     refine cw_seq ?_
     refine cw_regT fol (by kernel_rfl) ?_
     refine s_fa rfl Tryz.underlying41 rfl Tryz.sizeOf26 rfl ?_
     refine s_ld rfl (hC51.cells.at 0 rfl) Tryz.isAgg26 rfl ?_
     refine s_mv rfl rfl ?_
     refine s_mv rfl rfl ?_
     obtain ⟨y61, hy61, h26⟩ := bnd h26
     refine p_ia rfl rfl (f_x_0.adv hI50.adv) hy61 Tryz.underlying26 Tryz.sizeOf3 rfl ?_
     intro b62 o63 cs64 hR65 hC66
     obtain ⟨rfl, r67⟩ := hR65
     refine s_ld rfl (hC66.cells.at 0 rfl) Tryz.isAgg3 rfl ?_
     obtain ⟨⟨z68, z69⟩, hz70, h26⟩ := bnd h26
     refine s_callq rfl rfl Tryz.call112 rfl (fun w71 e72 => (C_slices_BinarySearch_112 (hI50.mlt.ext e72) ((hf39.adv (x46.trans (x49.trans (Hp.eraseA (σ := [rowR 41 b43 [v38, v40, Value.int .i64 y32.none_]]) 0)))).adv (Adv.of_ext e72)) r67 hz70).mono (fun _ _ hq => ⟨hq.1, hq.2.2⟩)) ?_
     have r73 := Calls.fact (C_slices_BinarySearch_112 hI50.mlt (hf39.adv (x46.trans (x49.trans (Hp.eraseA (σ := [rowR 41 b43 [v38, v40, Value.int .i64 y32.none_]]) 0)))) r67 hz70) (fun _ _ hq => hq.2.1)
     refine s_mv rfl rfl ?_
     refine s_xt rfl rfl rfl ?_
     refine s_xt rfl rfl rfl ?_
     refine s_as rfl rfl ?_
     refine s_as rfl rfl ?_
     refine Reg.nilq (fun w74 e75 => ?_)
     have hI76 := hI50.ext e75
     obtain ⟨j77, h78, h26⟩ := bnd h26
     refine cw_sub (L := [(8, _), (9, _), (1, _), (5, _), (7, _), (13, _), (14, _), (15, _)]) (Sub.cons rfl (Sub.cons rfl (Sub.cons rfl (Sub.cons rfl (Sub.cons rfl (Sub.cons rfl (Sub.cons rfl (Sub.cons rfl (Sub.nil _))))))))) ?_
     refine cw_seqD 2 (ι := Int) (fun x79 => [(8, Value.int .i64 x79)]) (fun x79 => fun w81 => w74 = w81 ∧ InK .i64 x79 ∧ x79 = j77) ?_ ?_
     ·skip
      refine cw_seq (cw_regF ?_)
      refine s_mv rfl rfl ?_
      refine Reg.nil ?_
      obtain ⟨j84, h85, h78⟩ := bnd h78
      refine cw_sub (L := [(8, _), (39, _), (1, _), (5, _), (7, _), (13, _), (14, _), (15, _)]) (Sub.cons rfl (Sub.cons rfl (Sub.cons rfl (Sub.cons rfl (Sub.cons rfl (Sub.cons rfl (Sub.cons rfl (Sub.cons rfl (Sub.nil _))))))))) ?_
      refine cw_unitD 2 (ι := Int) (fun x86 => [(8, Value.int .i64 x86)]) (fun x86 => fun w88 => w74 = w88 ∧ InK .i64 x86 ∧ x86 = j84) ?_ ?_
      ·skip
       refine cw_cond rfl (fun hc91 => ?_) (fun hc91 => ?_)
       ·replace h85 := cdT hc91 h85
        refine cw_regF ?_
        refine s_mv rfl rfl ?_
        obtain ⟨n92, hn92, h85⟩ := bnd h85
        replace hn92 := chk_out hn92
        refine p_add rfl rfl rfl hn92 ?_
        refine s_as rfl rfl ?_
        refine Reg.nil ?_
        obtain rfl := Option.some.inj h85
        refine ⟨rfl, n92, ⟨rfl, hn92.2, rfl⟩, Sub.cons rfl (Sub.cons rfl (Sub.cons rfl (Sub.cons rfl (Sub.cons rfl (Sub.cons rfl (Sub.cons rfl (Sub.nil _)))))))⟩
       ·replace h85 := cdF hc91 h85
        refine cw_skip ?_
        obtain rfl := Option.some.inj h85
        refine ⟨rfl, z68, ⟨rfl, r73, rfl⟩, Sub.cons rfl (Sub.cons rfl (Sub.cons rfl (Sub.cons rfl (Sub.cons rfl (Sub.cons rfl (Sub.cons rfl (Sub.nil _)))))))⟩
      ·skip
       rintro x86 _ ⟨rfl, r87, rfl⟩
       obtain rfl := Option.some.inj h78
       refine ⟨rfl, x86, ⟨rfl, r87, rfl⟩, Sub.cons rfl (Sub.cons rfl (Sub.cons rfl (Sub.cons rfl (Sub.cons rfl (Sub.cons rfl (Sub.cons rfl (Sub.nil _)))))))⟩
     ·skip
      rintro x79 _ ⟨rfl, r80, rfl⟩
      refine cw_regF ?_
      refine s_mv rfl rfl ?_
      refine s_fa rfl Tryz.underlying41 rfl Tryz.sizeOf26 rfl ?_
      refine s_ld rfl ((hC51.adv (Adv.of_ext e75)).cells.at 1 rfl) Tryz.isAgg26 rfl ?_
      refine s_mv rfl rfl ?_
      obtain ⟨y93, hy93, h26⟩ := bnd h26
      refine p_ia rfl rfl (hf41.adv (x46.trans (x49.trans ((Hp.eraseA (σ := [rowR 41 b43 [v38, v40, Value.int .i64 y32.none_]]) 0).trans (Adv.of_ext e75))))) hy93 Tryz.underlying26 Tryz.sizeOf3 rfl ?_
      intro b94 o95 cs96 hR97 hC98
      obtain ⟨rfl, r99⟩ := hR97
      refine s_ld rfl (hC98.cells.at 0 rfl) Tryz.isAgg3 rfl ?_
      obtain ⟨n100, hn100, h26⟩ := bnd h26
      replace hn100 := chk_out hn100
      refine p_add rfl rfl rfl hn100 ?_
      refine s_as rfl rfl ?_
      refine Reg.nil ?_
      obtain rfl := Option.some.inj h26
      refine ⟨rfl, n100, ⟨hI76, (x46.trans (x49.trans ((Hp.eraseA (σ := [rowR 41 b43 [v38, v40, Value.int .i64 y32.none_]]) 0).trans (Adv.of_ext e75)))), hn100.2, rfl⟩, Sub.cons rfl (Sub.cons rfl (Sub.cons rfl (Sub.cons rfl (Sub.cons rfl (Sub.nil _)))))⟩
   ·skip
    rintro x27 w29 ⟨hI30, hA31, r28, rfl⟩
    refine cw_regF ?_
    obtain ⟨n101, hn101, h22⟩ := bnd h22
    replace hn101 := chk_out hn101
    refine p_add rfl rfl rfl hn101 ?_
    refine s_mv rfl rfl ?_
    refine Reg.nil ?_
    obtain rfl := Option.some.inj h22
    refine ⟨rfl, (x27, n101), ⟨⟨hI30, (hA20.trans hA31), r28, hn101.2⟩, rfl⟩, Sub.cons rfl (Sub.cons rfl (Sub.cons rfl (Sub.cons rfl (Sub.cons rfl (Sub.nil _)))))⟩
  ·replace h22 := cdF hc24 h22
   refine cw_exit ?_
   refine exB_same ?_
   obtain rfl := Option.some.inj h22
   obtain rfl := hR23 _ rfl
   refine ⟨rfl, x14, ⟨hI19, hA20, r15, rfl⟩, Sub.cons rfl (Sub.nil _)⟩
 ·skip
  rintro x9 w11 ⟨hI12, hA13, r10, rfl⟩
  refine cw_seq (cw_regF ?_)
  refine s_mv rfl rfl ?_
  refine s_as rfl rfl ?_
  refine Reg.nil ?_
  refine cw_ret ?_
  obtain rfl := Option.some.inj h
  refine fin1 Tryz.results109 rfl ?_
  exact ⟨rfl, r10, hI12.kp⟩
noncomputable def P.score_tree_right (t : Tree) (traits : Int) : Option Bool :=
 Option.bind (loopM (S := Int) (R := (Unit) ⊕ (Bool)) (fun x7 => cond (decide (x7 < (t.nodes.length : Int))) (Option.bind (ixo t.nodes x7) fun y9 => Option.bind (Option.bind (chk .i64 (traits - 1)) fun n29 => Option.bind (P.score_within 0 n29 ([y9.trait] : List Int)) fun z34 => cond z34 (Option.bind (P.score_within 1 1000000 ([y9.cut] : List Int)) fun z44 => cond z44 (Option.bind (chk .i64 (x7 + 1)) fun n50 => Option.bind (chk .i64 ((t.nodes.length : Int) - 1)) fun n51 => Option.bind (P.score_within n50 n51 ([y9.low, y9.high] : List Int)) fun z56 => cond z56 (cond (!decide (y9.low = y9.high)) (some (decide (y9.points = 0))) (some false)) (some false)) (some false)) (some false)) fun x63 => Option.bind (Option.bind (P.score_counts ([y9.points] : List Int)) fun z68 => cond (!z68) (some true) (cond (!(decide ((Node.mk y9.trait y9.cut y9.low y9.high y9.points) = (Node.mk (-1) 0 0 0 y9.points)))) (some (!x63)) (some false))) fun x75 => cond x75 (some (.inr (.inr false))) (Option.bind (chk .i64 (x7 + 1)) fun n77 => some (.inl n77))) (some (.inr (.inl ())))) 0) fun j78 => Sum.elim (fun _ => Option.bind (P.score_within 1 7 ([(t.nodes.length : Int)] : List Int)) fun z83 => some z83) (fun r88 => some r88)  j78
theorem C_score_tree_right {M : List Nat} {w : World} (hM : MLt M w) {t : Tree} {v_t_1 : Value} (f_t_0 : InK .i64 t.weight) (f_t_1 : RdS NodeE M w v_t_1 t.nodes) {traits : Int} (f_traits_0 : InK .i64 traits) {r0 : Bool} (h : P.score_tree_right t traits = some r0) :
  Calls Tryz.prog 120 (List.toArray [Value.agg (List.toArray [Value.int .i64 t.weight, v_t_1]), Value.int .i64 traits]) w fun e w' => e = .returned (Value.bool r0) ∧ Ext w w' := by
 have hI := Hp.start (Mu := []) hM
 refine calls_cw Tryz.func120 rfl Tryz.ntmps120 rfl ?_
 refine cw_seq (cw_regF ?_)
 refine y_box hI rfl rfl rfl ?_
 intro b1 w2 hI3 x4
 have hC6 := hI3.freezeRow 0 rfl
 have hI5 := hI3.erase 0
 refine s_as rfl rfl ?_
 refine Reg.nil ?_
 refine cw_seq (cw_seq (cw_regF ?_))
 refine s_fa rfl Tryz.underlying84 rfl Tryz.sizeOf42 rfl ?_
 refine s_ld rfl (hC6.cells.at 1 rfl) Tryz.isAgg42 rfl ?_
 refine s_len rfl (f_t_1.adv hI5.adv) Tryz.underlying42 rfl ?_
 refine s_mv rfl rfl ?_
 refine Reg.nil ?_
 obtain ⟨j7, h8, h⟩ := bnd h
 refine cw_sub (L := [(1, _), (10, _), (11, _), (12, _), (2, _)]) (Sub.cons rfl (Sub.cons rfl (Sub.cons rfl (Sub.cons rfl (Sub.cons rfl (Sub.nil _)))))) ?_
 refine cw_unitD 4 (ι := Unit) (fun _ => []) (fun _ => fun w9 => Hp w [] M [] w9 ∧ Adv (mm [] M) (mm [] M) w2 w9 ∧ (.inl ()) = j7) ?_ ?_
 ·skip
  refine cw_block ?_
  refine cw_sub (L := [(12, _), (1, _), (2, _), (10, _), (11, _)]) (Sub.cons rfl (Sub.cons rfl (Sub.cons rfl (Sub.cons rfl (Sub.cons rfl (Sub.nil _)))))) ?_
  refine cw_loopM 1 (ι := Int) _ (fun x12 => [(12, Value.int .i64 x12)]) (fun x12 => x12) (fun x12 => fun w14 => Hp w [] M [] w14 ∧ Adv (mm [] M) (mm [] M) w2 w14 ∧ InK .i64 x12) 0 h8 ⟨hI5, (Adv.refl _ _), (by decide)⟩ (Sub.cons rfl (Sub.cons rfl (Sub.cons rfl (Sub.cons rfl (Sub.cons rfl (Sub.nil _)))))) ?_
  rintro x12 w14 ⟨hI15, hA16, r13⟩ y17 h18 hR19
  refine cw_seq (cw_regF ?_)
  refine s_lss rfl rfl rfl ?_
  refine Reg.nil ?_
  refine cw_seq ?_
  refine cw_cond rfl (fun hc20 => ?_) (fun hc20 => ?_)
  ·replace h18 := cdT hc20 h18
   refine cw_skip ?_
   refine cw_seq ?_
   refine cw_block ?_
   refine cw_seq (cw_regF ?_)
   refine s_mv rfl rfl ?_
   obtain ⟨y21, hy21, h18⟩ := bnd h18
   refine p_ia rfl rfl (f_t_1.adv hI15.adv) hy21 Tryz.underlying42 Tryz.sizeOf66 rfl ?_
   intro b22 o23 cs24 hR25 hC26
   obtain ⟨rfl, r27, r28, r29, r30, r31⟩ := NodeE_R.1 hR25
   refine s_lda rfl hC26.cells Tryz.isAgg66 rfl Tryz.sizeOf66 rfl ?_
   refine y_al hI15 Tryz.zeroValue66 rfl rfl ?_
   intro b32 w33 hI34 x35
   refine s_as rfl rfl ?_
   refine y_st 0 hI34 rfl rfl rfl rfl Tryz.sizeOf66 rfl rfl (one1 rfl (one1 rfl (one1 rfl (one1 rfl (one1 rfl one0))))) ?_
   intro w36 hI37 x38
   have hC40 := hI37.freezeRow 0 rfl
   have hI39 := hI37.erase 0
   refine Reg.nil ?_
   refine cw_seq (cw_regF ?_)
   refine s_lda rfl hC40.cells Tryz.isAgg66 rfl Tryz.sizeOf66 rfl ?_
   refine s_fa rfl Tryz.underlying66 rfl Tryz.sizeOf3 rfl ?_
   refine s_ld rfl (hC40.cells.at 4 rfl) Tryz.isAgg3 rfl ?_
   refine s_bd [(0, 1), (1, 1), (2, 1), (3, 1), (4, 1)] Tryz.zeroValue66 rfl Tryz.underlying66 (fun _ => by simp [Tryz.sizeOf3]) rfl (Cls.cons rfl (Cls.cons rfl (Cls.nil))) rfl rfl ?_
   refine s_eqS (Node_eq (Node.mk y21.trait y21.cut y21.low y21.high y21.points) (Node.mk (-1) 0 0 0 y21.points)) Tryz.eqGuardType66 rfl rfl rfl ?_
   refine s_as rfl rfl ?_
   refine Reg.nil ?_
   obtain ⟨j41, h42, h18⟩ := bnd h18
   refine cw_sub (L := [(5, _), (1, _), (2, _), (6, _), (7, _), (10, _), (11, _), (12, _)]) (Sub.cons rfl (Sub.cons rfl (Sub.cons rfl (Sub.cons rfl (Sub.cons rfl (Sub.cons rfl (Sub.cons rfl (Sub.cons rfl (Sub.nil _))))))))) ?_
   refine cw_seqD 1 (ι := Bool) (fun x43 => [(8, Value.bool x43)]) (fun x43 => fun w44 => Hp w [] M [] w44 ∧ Adv (mm [] M) (mm [] M) w36 w44 ∧ x43 = j41) ?_ ?_
   ·skip
    refine cw_regF ?_
    refine s_mv rfl rfl ?_
    obtain ⟨n47, hn47, h42⟩ := bnd h42
    replace hn47 := chk_out hn47
    refine p_sub rfl rfl rfl hn47 ?_
    refine s_fa rfl Tryz.underlying66 rfl Tryz.sizeOf3 rfl ?_
    refine s_ld rfl (hC40.cells.at 0 rfl) Tryz.isAgg3 rfl ?_
    refine y_bs (E := (intE .i64)) (xs := [y21.trait]) sl26 hI39 rfl rfl (Cls.cons rfl Cls.nil) (Chs.cons ⟨rfl, r27⟩ Chs.nil) rfl rfl ?_
    intro v48 w49 hI50 x51
    obtain ⟨z52, hz53, h42⟩ := bnd h42
    refine s_call rfl Tryz.call22 rfl ?_
    refine (C_score_within (hI50.sel [] rfl).mlt (by decide) hn47.2 (hI50.lendRd [] 0 rfl rfl) hz53).mono ?_
    rintro _ w54 ⟨rfl, e55⟩
    refine ⟨_, rfl, ?_⟩
    have hI56 := hI50.ext e55
    refine s_mv rfl rfl ?_
    refine Reg.gsplit (t := 28) rfl (fun hg57 => ?_) (fun hg57 => ?_)
    ·replace h42 := cdT hg57 h42
     refine Reg.take rfl rfl ?_
     refine s_fa rfl Tryz.underlying66 rfl Tryz.sizeOf3 rfl ?_
     refine Reg.take rfl rfl ?_
     refine s_ld rfl ((hC40.adv (x51.trans (Adv.of_ext e55))).cells.at 1 rfl) Tryz.isAgg3 rfl ?_
     refine Reg.take rfl rfl ?_
     refine y_bs (E := (intE .i64)) (xs := [y21.cut]) sl26 hI56 rfl rfl (Cls.cons rfl Cls.nil) (Chs.cons ⟨rfl, r28⟩ Chs.nil) rfl rfl ?_
     intro v58 w59 hI60 x61
     refine Reg.take rfl rfl ?_
     obtain ⟨z62, hz63, h42⟩ := bnd h42
     refine s_call rfl Tryz.call22 rfl ?_
     refine (C_score_within (hI60.sel [1] rfl).mlt (by decide) (by decide) (hI60.lendRd [1] 0 rfl rfl) hz63).mono ?_
     rintro _ w64 ⟨rfl, e65⟩
     refine ⟨_, rfl, ?_⟩
     have hI66 := hI60.ext e65
     refine s_pkT rfl rfl rfl ?_
     refine s_mv rfl rfl ?_
     refine Reg.gsplit (t := 34) rfl (fun hg67 => ?_) (fun hg67 => ?_)
     ·replace h42 := cdT hg67 h42
      refine Reg.take rfl rfl ?_
      refine s_mv rfl rfl ?_
      refine Reg.take rfl rfl ?_
      obtain ⟨n68, hn68, h42⟩ := bnd h42
      replace hn68 := chk_out hn68
      refine p_add rfl rfl rfl hn68 ?_
      refine Reg.take rfl rfl ?_
      refine s_fa rfl Tryz.underlying84 rfl Tryz.sizeOf42 rfl ?_
      refine Reg.take rfl rfl ?_
      refine s_ld rfl ((hC6.adv (hA16.trans (x35.trans (x38.trans ((Hp.eraseA (σ := [rowR 66 b32 [Value.int .i64 y21.trait, Value.int .i64 y21.cut, Value.int .i64 y21.low, Value.int .i64 y21.high, Value.int .i64 y21.points]]) 0).trans (x51.trans ((Adv.of_ext e55).trans (x61.trans (Adv.of_ext e65))))))))).cells.at 1 rfl) Tryz.isAgg42 rfl ?_
      refine Reg.take rfl rfl ?_
      refine s_len rfl (f_t_1.adv hI66.adv) Tryz.underlying42 rfl ?_
      refine Reg.take rfl rfl ?_
      obtain ⟨n69, hn69, h42⟩ := bnd h42
      replace hn69 := chk_out hn69
      refine p_sub rfl rfl rfl hn69 ?_
      refine Reg.take rfl rfl ?_
      refine s_fa rfl Tryz.underlying66 rfl Tryz.sizeOf3 rfl ?_
      refine Reg.take rfl rfl ?_
      refine s_ld rfl ((hC40.adv (x51.trans ((Adv.of_ext e55).trans (x61.trans (Adv.of_ext e65))))).cells.at 2 rfl) Tryz.isAgg3 rfl ?_
      refine Reg.take rfl rfl ?_
      refine s_fa rfl Tryz.underlying66 rfl Tryz.sizeOf3 rfl ?_
      refine Reg.take rfl rfl ?_
      refine s_ld rfl ((hC40.adv (x51.trans ((Adv.of_ext e55).trans (x61.trans (Adv.of_ext e65))))).cells.at 3 rfl) Tryz.isAgg3 rfl ?_
      refine Reg.take rfl rfl ?_
      refine y_bs (E := (intE .i64)) (xs := [y21.low, y21.high]) sl26 hI66 rfl rfl (Cls.cons rfl (Cls.cons rfl Cls.nil)) (Chs.cons ⟨rfl, r29⟩ (Chs.cons ⟨rfl, r30⟩ Chs.nil)) rfl rfl ?_
      intro v70 w71 hI72 x73
      refine Reg.take rfl rfl ?_
      obtain ⟨z74, hz75, h42⟩ := bnd h42
      refine s_call rfl Tryz.call22 rfl ?_
      refine (C_score_within (hI72.sel [1, 2] rfl).mlt hn68.2 hn69.2 (hI72.lendRd [1, 2] 0 rfl rfl) hz75).mono ?_
      rintro _ w76 ⟨rfl, e77⟩
      refine ⟨_, rfl, ?_⟩
      have hI78 := hI72.ext e77
      refine s_pkT rfl rfl rfl ?_
      refine s_mv rfl rfl ?_
      refine Reg.gsplit (t := 48) rfl (fun hg79 => ?_) (fun hg79 => ?_)
      ·replace h42 := cdT hg79 h42
       refine Reg.take rfl rfl ?_
       refine s_fa rfl Tryz.underlying66 rfl Tryz.sizeOf3 rfl ?_
       refine Reg.take rfl rfl ?_
       refine s_ld rfl ((hC40.adv (x51.trans ((Adv.of_ext e55).trans (x61.trans ((Adv.of_ext e65).trans (x73.trans (Adv.of_ext e77))))))).cells.at 2 rfl) Tryz.isAgg3 rfl ?_
       refine Reg.take rfl rfl ?_
       refine s_fa rfl Tryz.underlying66 rfl Tryz.sizeOf3 rfl ?_
       refine Reg.take rfl rfl ?_
       refine s_ld rfl ((hC40.adv (x51.trans ((Adv.of_ext e55).trans (x61.trans ((Adv.of_ext e65).trans (x73.trans (Adv.of_ext e77))))))).cells.at 3 rfl) Tryz.isAgg3 rfl ?_
       refine Reg.take rfl rfl ?_
       refine s_neq rfl rfl rfl ?_
       refine s_pkT rfl rfl rfl ?_
       refine s_mv rfl rfl ?_
       refine Reg.gsplit (t := 55) rfl (fun hg80 => ?_) (fun hg80 => ?_)
       ·replace h42 := cdT hg80 h42
        refine Reg.take rfl rfl ?_
        refine s_fa rfl Tryz.underlying66 rfl Tryz.sizeOf3 rfl ?_
        refine Reg.take rfl rfl ?_
        refine s_ld rfl ((hC40.adv (x51.trans ((Adv.of_ext e55).trans (x61.trans ((Adv.of_ext e65).trans (x73.trans (Adv.of_ext e77))))))).cells.at 4 rfl) Tryz.isAgg3 rfl ?_
        refine Reg.take rfl rfl ?_
        refine s_eql rfl rfl rfl ?_
        refine s_pkT rfl rfl rfl ?_
        refine s_as rfl rfl ?_
        refine Reg.nil ?_
        obtain rfl := Option.some.inj h42
        refine ⟨rfl, decide (y21.points = 0), ⟨(hI78.sel [] rfl), ((x51.trans ((Adv.of_ext e55).trans (x61.trans ((Adv.of_ext e65).trans (x73.trans (Adv.of_ext e77)))))).trans (Hp.selA (σ := [ownR [] (intE .i64) 3 v70 ([y21.low, y21.high] : List Int), ownR [] (intE .i64) 3 v58 ([y21.cut] : List Int), ownR [] (intE .i64) 3 v48 ([y21.trait] : List Int)]) [])), rfl⟩, Sub.cons rfl (Sub.cons rfl (Sub.cons rfl (Sub.cons rfl (Sub.cons rfl (Sub.cons rfl (Sub.cons rfl (Sub.cons rfl (Sub.nil _))))))))⟩
       ·replace h42 := cdF hg80 h42
        refine Reg.pass rfl rfl rfl rfl ?_
        refine Reg.pass rfl rfl rfl rfl ?_
        refine Reg.pass rfl rfl rfl rfl ?_
        refine s_pkF rfl rfl rfl ?_
        refine s_as rfl rfl ?_
        refine Reg.nil ?_
        obtain rfl := Option.some.inj h42
        refine ⟨rfl, false, ⟨(hI78.sel [] rfl), ((x51.trans ((Adv.of_ext e55).trans (x61.trans ((Adv.of_ext e65).trans (x73.trans (Adv.of_ext e77)))))).trans (Hp.selA (σ := [ownR [] (intE .i64) 3 v70 ([y21.low, y21.high] : List Int), ownR [] (intE .i64) 3 v58 ([y21.cut] : List Int), ownR [] (intE .i64) 3 v48 ([y21.trait] : List Int)]) [])), rfl⟩, Sub.cons rfl (Sub.cons rfl (Sub.cons rfl (Sub.cons rfl (Sub.cons rfl (Sub.cons rfl (Sub.cons rfl (Sub.cons rfl (Sub.nil _))))))))⟩
      ·replace h42 := cdF hg79 h42
       refine Reg.pass rfl rfl rfl rfl ?_
       refine Reg.pass rfl rfl rfl rfl ?_
       refine Reg.pass rfl rfl rfl rfl ?_
       refine Reg.pass rfl rfl rfl rfl ?_
       refine Reg.pass rfl rfl rfl rfl ?_
       refine s_pkF rfl rfl rfl ?_
       refine s_mv rfl rfl ?_
       refine Reg.pass rfl rfl rfl rfl ?_
       refine Reg.pass rfl rfl rfl rfl ?_
       refine Reg.pass rfl rfl rfl rfl ?_
       refine s_pkF rfl rfl rfl ?_
       refine s_as rfl rfl ?_
       refine Reg.nil ?_
       obtain rfl := Option.some.inj h42
       refine ⟨rfl, false, ⟨(hI78.sel [] rfl), ((x51.trans ((Adv.of_ext e55).trans (x61.trans ((Adv.of_ext e65).trans (x73.trans (Adv.of_ext e77)))))).trans (Hp.selA (σ := [ownR [] (intE .i64) 3 v70 ([y21.low, y21.high] : List Int), ownR [] (intE .i64) 3 v58 ([y21.cut] : List Int), ownR [] (intE .i64) 3 v48 ([y21.trait] : List Int)]) [])), rfl⟩, Sub.cons rfl (Sub.cons rfl (Sub.cons rfl (Sub.cons rfl (Sub.cons rfl (Sub.cons rfl (Sub.cons rfl (Sub.cons rfl (Sub.nil _))))))))⟩
     ·replace h42 := cdF hg67 h42
      refine Reg.pass rfl rfl rfl rfl ?_
      refine Reg.pass rfl rfl rfl rfl ?_
      refine Reg.pass rfl rfl rfl rfl ?_
      refine Reg.pass rfl rfl rfl rfl ?_
      refine Reg.pass rfl rfl rfl rfl ?_
      refine Reg.pass rfl rfl rfl rfl ?_
      refine Reg.pass rfl rfl rfl rfl ?_
      refine Reg.pass rfl rfl rfl rfl ?_
      refine Reg.pass rfl rfl rfl rfl ?_
      refine Reg.pass rfl rfl rfl rfl ?_
      refine Reg.pass rfl rfl rfl rfl ?_
      refine Reg.pass rfl rfl rfl rfl ?_
      refine s_pkF rfl rfl rfl ?_
      refine s_mv rfl rfl ?_
      refine Reg.pass rfl rfl rfl rfl ?_
      refine Reg.pass rfl rfl rfl rfl ?_
      refine Reg.pass rfl rfl rfl rfl ?_
      refine Reg.pass rfl rfl rfl rfl ?_
      refine Reg.pass rfl rfl rfl rfl ?_
      refine s_pkF rfl rfl rfl ?_
      refine s_mv rfl rfl ?_
      refine Reg.pass rfl rfl rfl rfl ?_
      refine Reg.pass rfl rfl rfl rfl ?_
      refine Reg.pass rfl rfl rfl rfl ?_
      refine s_pkF rfl rfl rfl ?_
      refine s_as rfl rfl ?_
      refine Reg.nil ?_
      obtain rfl := Option.some.inj h42
      refine ⟨rfl, false, ⟨(hI66.sel [] rfl), ((x51.trans ((Adv.of_ext e55).trans (x61.trans (Adv.of_ext e65)))).trans (Hp.selA (σ := [ownR [] (intE .i64) 3 v58 ([y21.cut] : List Int), ownR [] (intE .i64) 3 v48 ([y21.trait] : List Int)]) [])), rfl⟩, Sub.cons rfl (Sub.cons rfl (Sub.cons rfl (Sub.cons rfl (Sub.cons rfl (Sub.cons rfl (Sub.cons rfl (Sub.cons rfl (Sub.nil _))))))))⟩
    ·replace h42 := cdF hg57 h42
     refine Reg.pass rfl rfl rfl rfl ?_
     refine Reg.pass rfl rfl rfl rfl ?_
     refine Reg.pass rfl rfl rfl rfl ?_
     refine Reg.pass rfl rfl rfl rfl ?_
     refine s_pkF rfl rfl rfl ?_
     refine s_mv rfl rfl ?_
     refine Reg.pass rfl rfl rfl rfl ?_
     refine Reg.pass rfl rfl rfl rfl ?_
     refine Reg.pass rfl rfl rfl rfl ?_
     refine Reg.pass rfl rfl rfl rfl ?_
     refine Reg.pass rfl rfl rfl rfl ?_
     refine Reg.pass rfl rfl rfl rfl ?_
     refine Reg.pass rfl rfl rfl rfl ?_
     refine Reg.pass rfl rfl rfl rfl ?_
     refine Reg.pass rfl rfl rfl rfl ?_
     refine Reg.pass rfl rfl rfl rfl ?_
     refine Reg.pass rfl rfl rfl rfl ?_
     refine Reg.pass rfl rfl rfl rfl ?_
     refine s_pkF rfl rfl rfl ?_
     refine s_mv rfl rfl ?_
     refine Reg.pass rfl rfl rfl rfl ?_
     refine Reg.pass rfl rfl rfl rfl ?_
     refine Reg.pass rfl rfl rfl rfl ?_
     refine Reg.pass rfl rfl rfl rfl ?_
     refine Reg.pass rfl rfl rfl rfl ?_
     refine s_pkF rfl rfl rfl ?_
     refine s_mv rfl rfl ?_
     refine Reg.pass rfl rfl rfl rfl ?_
     refine Reg.pass rfl rfl rfl rfl ?_
     refine Reg.pass rfl rfl rfl rfl ?_
     refine s_pkF rfl rfl rfl ?_
     refine s_as rfl rfl ?_
     refine Reg.nil ?_
     obtain rfl := Option.some.inj h42
     refine ⟨rfl, false, ⟨(hI56.sel [] rfl), ((x51.trans (Adv.of_ext e55)).trans (Hp.selA (σ := [ownR [] (intE .i64) 3 v48 ([y21.trait] : List Int)]) [])), rfl⟩, Sub.cons rfl (Sub.cons rfl (Sub.cons rfl (Sub.cons rfl (Sub.cons rfl (Sub.cons rfl (Sub.cons rfl (Sub.cons rfl (Sub.nil _))))))))⟩
   ·skip
    rintro x43 w44 ⟨hI45, hA46, rfl⟩
    obtain ⟨j81, h82, h18⟩ := bnd h18
    refine cw_sub (L := [(6, _), (7, _), (8, _), (1, _), (2, _), (10, _), (11, _), (12, _)]) (Sub.cons rfl (Sub.cons rfl (Sub.cons rfl (Sub.cons rfl (Sub.cons rfl (Sub.cons rfl (Sub.cons rfl (Sub.cons rfl (Sub.nil _))))))))) ?_
    refine cw_seqD 3 (ι := Bool) (fun x83 => [(72, Value.bool x83)]) (fun x83 => fun w84 => Hp w [] M [] w84 ∧ Adv (mm [] M) (mm [] M) w44 w84 ∧ x83 = j81) ?_ ?_
    ·skip
     refine cw_regF ?_
     refine s_fa rfl Tryz.underlying66 rfl Tryz.sizeOf3 rfl ?_
     refine s_ld rfl ((hC40.adv hA46).cells.at 4 rfl) Tryz.isAgg3 rfl ?_
     refine y_bs (E := (intE .i64)) (xs := [y21.points]) sl26 hI45 rfl rfl (Cls.cons rfl Cls.nil) (Chs.cons ⟨rfl, r31⟩ Chs.nil) rfl rfl ?_
     intro v87 w88 hI89 x90
     obtain ⟨z91, hz92, h82⟩ := bnd h82
     refine s_call rfl Tryz.call35 rfl ?_
     refine (C_score_counts (hI89.sel [] rfl).mlt (hI89.lendRd [] 0 rfl rfl) hz92).mono ?_
     rintro _ w93 ⟨rfl, e94⟩
     refine ⟨_, rfl, ?_⟩
     have hI95 := hI89.ext e94
     refine s_not rfl rfl ?_
     refine s_mv rfl rfl ?_
     refine Reg.gsplit (t := 65) rfl (fun hg96 => ?_) (fun hg96 => ?_)
     ·replace h82 := cdT hg96 h82
      refine Reg.pass rfl rfl rfl rfl ?_
      refine Reg.pass rfl rfl rfl rfl ?_
      refine Reg.pass rfl rfl rfl rfl ?_
      refine Reg.passU rfl rfl rfl ?_
      refine Reg.passU rfl rfl rfl ?_
      refine Reg.pass rfl rfl rfl rfl ?_
      refine s_pkT rfl rfl rfl ?_
      refine Reg.nil ?_
      obtain rfl := Option.some.inj h82
      refine ⟨rfl, true, ⟨(hI95.sel [] rfl), ((x90.trans (Adv.of_ext e94)).trans (Hp.selA (σ := [ownR [] (intE .i64) 3 v87 ([y21.points] : List Int)]) [])), rfl⟩, Sub.cons rfl (Sub.cons rfl (Sub.cons rfl (Sub.cons rfl (Sub.cons rfl (Sub.cons rfl (Sub.nil _))))))⟩
     ·replace h82 := cdF hg96 h82
      refine Reg.take rfl rfl ?_
      refine s_mv rfl rfl ?_
      refine Reg.take rfl rfl ?_
      refine s_not rfl rfl ?_
      refine Reg.take rfl rfl ?_
      refine s_mv rfl rfl ?_
      refine Reg.gsplit (t := 68) rfl (fun hg97 => ?_) (fun hg97 => ?_)
      ·replace h82 := cdT hg97 h82
       refine Reg.take rfl rfl ?_
       refine s_mv rfl rfl ?_
       refine Reg.take rfl rfl ?_
       refine s_not rfl rfl ?_
       refine Reg.take rfl rfl ?_
       refine s_pkT rfl rfl rfl ?_
       refine s_pkF rfl rfl rfl ?_
       refine Reg.nil ?_
       obtain rfl := Option.some.inj h82
       refine ⟨rfl, !x43, ⟨(hI95.sel [] rfl), ((x90.trans (Adv.of_ext e94)).trans (Hp.selA (σ := [ownR [] (intE .i64) 3 v87 ([y21.points] : List Int)]) [])), rfl⟩, Sub.cons rfl (Sub.cons rfl (Sub.cons rfl (Sub.cons rfl (Sub.cons rfl (Sub.cons rfl (Sub.nil _))))))⟩
      ·replace h82 := cdF hg97 h82
       refine Reg.pass rfl rfl rfl rfl ?_
       refine Reg.pass rfl rfl rfl rfl ?_
       refine Reg.take rfl rfl ?_
       refine s_pkF rfl rfl rfl ?_
       refine s_pkF rfl rfl rfl ?_
       refine Reg.nil ?_
       obtain rfl := Option.some.inj h82
       refine ⟨rfl, false, ⟨(hI95.sel [] rfl), ((x90.trans (Adv.of_ext e94)).trans (Hp.selA (σ := [ownR [] (intE .i64) 3 v87 ([y21.points] : List Int)]) [])), rfl⟩, Sub.cons rfl (Sub.cons rfl (Sub.cons rfl (Sub.cons rfl (Sub.cons rfl (Sub.cons rfl (Sub.nil _))))))⟩
    ·skip
     rintro x83 w84 ⟨hI85, hA86, rfl⟩
     refine cw_cond rfl (fun hc98 => ?_) (fun hc98 => ?_)
     ·replace h18 := cdT hc98 h18
      refine cw_seq (cw_regF ?_)
      refine s_as rfl rfl ?_
      refine Reg.nil ?_
      refine cw_ret ?_
      obtain rfl := Option.some.inj h18
      obtain rfl := hR19 _ rfl
      replace h := elimR h
      obtain rfl := Option.some.inj h
      refine fin1 Tryz.results120 rfl ?_
      exact ⟨rfl, hI85.kp⟩
     ·replace h18 := cdF hc98 h18
      refine cw_skip ?_
      refine cw_regF ?_
      obtain ⟨n99, hn99, h18⟩ := bnd h18
      replace hn99 := chk_out hn99
      refine p_add rfl rfl rfl hn99 ?_
      refine s_mv rfl rfl ?_
      refine Reg.nil ?_
      obtain rfl := Option.some.inj h18
      refine ⟨rfl, n99, ⟨⟨hI85, (hA16.trans (x35.trans (x38.trans ((Hp.eraseA (σ := [rowR 66 b32 [Value.int .i64 y21.trait, Value.int .i64 y21.cut, Value.int .i64 y21.low, Value.int .i64 y21.high, Value.int .i64 y21.points]]) 0).trans (hA46.trans hA86))))), hn99.2⟩, rfl⟩, Sub.cons rfl (Sub.cons rfl (Sub.cons rfl (Sub.cons rfl (Sub.cons rfl (Sub.nil _)))))⟩
  ·replace h18 := cdF hc20 h18
   refine cw_exit ?_
   refine exB_same ?_
   obtain rfl := Option.some.inj h18
   obtain rfl := hR19 _ rfl
   refine ⟨rfl, (), ⟨hI15, hA16, rfl⟩, Sub.cons rfl (Sub.nil _)⟩
 ·skip
  rintro _ w9 ⟨hI10, hA11, rfl⟩
  replace h := elimL h
  refine cw_seq (cw_regF ?_)
  refine s_fa rfl Tryz.underlying84 rfl Tryz.sizeOf42 rfl ?_
  refine s_ld rfl ((hC6.adv hA11).cells.at 1 rfl) Tryz.isAgg42 rfl ?_
  refine s_len rfl (f_t_1.adv hI10.adv) Tryz.underlying42 rfl ?_
  refine y_bs (E := (intE .i64)) (xs := [(t.nodes.length : Int)]) sl26 hI10 rfl rfl (Cls.cons rfl Cls.nil) (Chs.cons ⟨rfl, (RdS.inK f_t_1)⟩ Chs.nil) rfl rfl ?_
  intro v100 w101 hI102 x103
  obtain ⟨z104, hz105, h⟩ := bnd h
  refine s_call rfl Tryz.call22 rfl ?_
  refine (C_score_within (hI102.sel [] rfl).mlt (by decide) (by decide) (hI102.lendRd [] 0 rfl rfl) hz105).mono ?_
  rintro _ w106 ⟨rfl, e107⟩
  refine ⟨_, rfl, ?_⟩
  have hI108 := hI102.ext e107
  refine s_as rfl rfl ?_
  refine Reg.nil ?_
  refine cw_ret ?_
  obtain rfl := Option.some.inj h
  refine fin1 Tryz.results120 rfl ?_
  exact ⟨rfl, hI108.kp⟩
end Go.Proofs.YtecmlmngcnionaaGreat
