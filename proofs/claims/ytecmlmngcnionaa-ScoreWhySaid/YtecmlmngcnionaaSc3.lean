/-
  Part 3 of the texts that the statement's proof stands on: what memory holds, how code is walked, what the functions reckon. In the order in which they build.
-/
import Derived.Test.YtecmlmngcnionaaProg
import Derived.Test.YtecmlmngcnionaaSc2
set_option linter.unusedVariables false
set_option maxRecDepth 20000
namespace Go.Proofs.Ytecmlmngcnionaa
open Go Go.Sx Go.RowKit
noncomputable def P.ref06_Great (m : Model) : Option Bool :=
 Option.bind (cond (decide (6 < (m.cards.length : Int))) (some true) (some (decide (6 < (m.trees.length : Int))))) fun x8 => cond x8 (some true) (Option.bind (loopM (S := Int) (R := (Unit) ⊕ (Bool)) (fun x10 => cond (decide (x10 < (m.cards.length : Int))) (Option.bind (ixo m.cards x10) fun y12 => cond (decide (10 < (y12.scales.length : Int))) (some (.inr (.inr true))) (Option.bind (loopM (S := Int) (R := (Unit) ⊕ (Bool)) (fun x23 => Option.bind (ixo m.cards x10) fun y24 => cond (decide (x23 < (y24.scales.length : Int))) (Option.bind (Option.bind (ixo m.cards x10) fun y35 => Option.bind (ixo y35.scales x23) fun y45 => cond (decide (10 < (y45.cuts.length : Int))) (some true) (Option.bind (ixo m.cards x10) fun y57 => Option.bind (ixo y57.scales x23) fun y67 => some (decide (12 < (y67.points.length : Int))))) fun x78 => cond x78 (some (.inr (.inr true))) (Option.bind (chk .i64 (x23 + 1)) fun n80 => some (.inl n80))) (some (.inr (.inl ())))) 0) fun j81 => Sum.elim (fun _ => Option.bind (chk .i64 (x10 + 1)) fun n82 => some (.inl n82)) (fun r83 => some (.inr (.inr r83)))  j81)) (some (.inr (.inl ())))) 0) fun j84 => Sum.elim (fun _ => Option.bind (loopM (S := Int) (R := (Unit) ⊕ (Bool)) (fun x85 => cond (decide (x85 < (m.trees.length : Int))) (Option.bind (ixo m.trees x85) fun y87 => cond (decide (20 < (y87.nodes.length : Int))) (some (.inr (.inr true))) (Option.bind (chk .i64 (x85 + 1)) fun n97 => some (.inl n97))) (some (.inr (.inl ())))) 0) fun j98 => Sum.elim (fun _ => some false) (fun r99 => some r99)  j98) (fun r100 => some r100)  j84)
theorem C_ref06_Great {M : List Nat} {w : World} (hM : MLt M w) {m : Model} {v_m_1 : Value} {v_m_2 : Value} (f_m_0 : InK .i64 m.traits) (f_m_1 : RdS CardE M w v_m_1 m.cards) (f_m_2 : RdS TreeE M w v_m_2 m.trees) (f_m_3 : InK .i64 m.need) {r0 : Bool} (h : P.ref06_Great m = some r0) :
  Calls Try.prog 12 (List.toArray [Value.agg (List.toArray [Value.int .i64 m.traits, v_m_1, v_m_2, Value.int .i64 m.need])]) w fun e w' => e = .returned (Value.bool r0) ∧ Ext w w' := by
 have hI := Hp.start (Mu := []) hM
 refine calls_cw Try.func12 rfl Try.ntmps12 rfl ?_
 refine cw_seq (cw_regF ?_)
 refine y_box hI rfl rfl rfl ?_
 intro b1 w2 hI3 x4
 have hC6 := hI3.freezeRow 0 rfl
 have hI5 := hI3.erase 0
 refine s_as rfl rfl ?_
 refine Reg.nil ?_
 refine cw_seq ?_
 obtain ⟨j7, h8, h⟩ := bnd h
 refine cw_sub (L := [(1, _)]) (Sub.cons rfl (Sub.nil _)) ?_
 refine cw_seqD 0 (ι := Bool) (fun x9 => [(15, Value.bool x9)]) (fun x9 => fun w10 => w2 = w10 ∧ x9 = j7) ?_ ?_
 ·skip
  refine cw_regF ?_
  refine s_fa rfl Try.underlying25 rfl Try.sizeOf22 rfl ?_
  refine s_ld rfl (hC6.cells.at 1 rfl) Try.isAgg22 rfl ?_
  refine s_len rfl (f_m_1.adv hI5.adv) Try.underlying22 rfl ?_
  refine s_gtr rfl rfl rfl ?_
  refine s_mv rfl rfl ?_
  refine Reg.gsplit (t := 10) rfl (fun hg13 => ?_) (fun hg13 => ?_)
  ·replace h8 := cdT hg13 h8
   refine Reg.pass rfl rfl rfl rfl ?_
   refine Reg.pass rfl rfl rfl rfl ?_
   refine Reg.pass rfl rfl rfl rfl ?_
   refine Reg.pass rfl rfl rfl rfl ?_
   refine s_pkT rfl rfl rfl ?_
   refine Reg.nil ?_
   obtain rfl := Option.some.inj h8
   refine ⟨rfl, true, ⟨rfl, rfl⟩, Sub.cons rfl (Sub.cons rfl (Sub.nil _))⟩
  ·replace h8 := cdF hg13 h8
   refine Reg.take rfl rfl ?_
   refine s_fa rfl Try.underlying25 rfl Try.sizeOf23 rfl ?_
   refine Reg.take rfl rfl ?_
   refine s_ld rfl (hC6.cells.at 2 rfl) Try.isAgg23 rfl ?_
   refine Reg.take rfl rfl ?_
   refine s_len rfl (f_m_2.adv hI5.adv) Try.underlying23 rfl ?_
   refine Reg.take rfl rfl ?_
   refine s_gtr rfl rfl rfl ?_
   refine s_pkF rfl rfl rfl ?_
   refine Reg.nil ?_
   obtain rfl := Option.some.inj h8
   refine ⟨rfl, decide (6 < (m.trees.length : Int)), ⟨rfl, rfl⟩, Sub.cons rfl (Sub.cons rfl (Sub.nil _))⟩
 ·skip
  rintro x9 _ ⟨rfl, rfl⟩
  refine cw_cond rfl (fun hc14 => ?_) (fun hc14 => ?_)
  ·replace h := cdT hc14 h
   refine cw_seq (cw_regF ?_)
   refine s_as rfl rfl ?_
   refine Reg.nil ?_
   refine cw_ret ?_
   obtain rfl := Option.some.inj h
   refine fin1 Try.results12 rfl ?_
   exact ⟨rfl, hI5.kp⟩
  ·replace h := cdF hc14 h
   refine cw_skip (cw_seq (cw_seq (cw_regF ?_)))
   refine s_as rfl rfl ?_
   refine Reg.nil ?_
   obtain ⟨j15, h16, h⟩ := bnd h
   refine cw_sub (L := [(3, _), (1, _)]) (Sub.cons rfl (Sub.cons rfl (Sub.nil _))) ?_
   refine cw_unitD 1 (ι := Unit) (fun _ => []) (fun _ => fun w17 => w2 = w17 ∧ (.inl ()) = j15) ?_ ?_
   ·skip
    refine cw_block ?_
    refine cw_sub (L := [(3, _), (1, _)]) (Sub.cons rfl (Sub.cons rfl (Sub.nil _))) ?_
    refine cw_loopM 1 (ι := Int) _ (fun x20 => [(3, Value.int .i64 x20)]) (fun x20 => x20) (fun x20 => fun w22 => w2 = w22 ∧ InK .i64 x20) 0 h16 ⟨rfl, (by decide)⟩ (Sub.cons rfl (Sub.cons rfl (Sub.nil _))) ?_
    rintro x20 _ ⟨rfl, r21⟩ y25 h26 hR27
    refine cw_seq (cw_seq (cw_regF ?_))
    refine s_mv rfl rfl ?_
    refine s_fa rfl Try.underlying25 rfl Try.sizeOf22 rfl ?_
    refine s_ld rfl (hC6.cells.at 1 rfl) Try.isAgg22 rfl ?_
    refine s_len rfl (f_m_1.adv hI5.adv) Try.underlying22 rfl ?_
    refine s_lss rfl rfl rfl ?_
    refine Reg.nil ?_
    refine cw_cond rfl (fun hc28 => ?_) (fun hc28 => ?_)
    ·replace h26 := cdT hc28 h26
     refine cw_skip ?_
     refine cw_seq ?_
     refine cw_block ?_
     refine cw_seq (cw_seq (cw_regF ?_))
     refine s_fa rfl Try.underlying25 rfl Try.sizeOf22 rfl ?_
     refine s_ld rfl (hC6.cells.at 1 rfl) Try.isAgg22 rfl ?_
     refine s_mv rfl rfl ?_
     obtain ⟨y29, hy29, h26⟩ := bnd h26
     refine p_ia rfl rfl (f_m_1.adv hI5.adv) hy29 Try.underlying22 Try.sizeOf54 rfl ?_
     intro b30 o31 cs32 hR33 hC34
     obtain ⟨v37, rfl, r35, r36, hf38⟩ := CardE_R.1 hR33
     refine s_fa rfl Try.underlying54 rfl Try.sizeOf52 rfl ?_
     refine s_ld rfl (hC34.cells.at 2 rfl) Try.isAgg52 rfl ?_
     refine s_len rfl hf38 Try.underlying52 rfl ?_
     refine s_gtr rfl rfl rfl ?_
     refine Reg.nil ?_
     refine cw_cond rfl (fun hc39 => ?_) (fun hc39 => ?_)
     ·replace h26 := cdT hc39 h26
      refine cw_seq (cw_regF ?_)
      refine s_as rfl rfl ?_
      refine Reg.nil ?_
      refine cw_ret ?_
      obtain rfl := Option.some.inj h26
      obtain rfl := hR27 _ rfl
      replace h := elimR h
      obtain rfl := Option.some.inj h
      refine fin1 Try.results12 rfl ?_
      exact ⟨rfl, hI5.kp⟩
     ·replace h26 := cdF hc39 h26
      refine cw_skip (cw_seq (cw_regF ?_))
      refine s_as rfl rfl ?_
      refine Reg.nil ?_
      obtain ⟨j40, h41, h26⟩ := bnd h26
      refine cw_sub (L := [(4, _), (1, _), (3, _)]) (Sub.cons rfl (Sub.cons rfl (Sub.cons rfl (Sub.nil _)))) ?_
      refine cw_unitD 1 (ι := Unit) (fun _ => []) (fun _ => fun w42 => w2 = w42 ∧ (.inl ()) = j40) ?_ ?_
      ·skip
       refine cw_block ?_
       refine cw_sub (L := [(4, _), (1, _), (3, _)]) (Sub.cons rfl (Sub.cons rfl (Sub.cons rfl (Sub.nil _)))) ?_
       refine cw_loopM 1 (ι := Int) _ (fun x45 => [(4, Value.int .i64 x45)]) (fun x45 => x45) (fun x45 => fun w47 => w2 = w47 ∧ InK .i64 x45) 0 h41 ⟨rfl, (by decide)⟩ (Sub.cons rfl (Sub.cons rfl (Sub.cons rfl (Sub.nil _)))) ?_
       rintro x45 _ ⟨rfl, r46⟩ y50 h51 hR52
       refine cw_seq (cw_seq (cw_regF ?_))
       refine s_mv rfl rfl ?_
       refine s_fa rfl Try.underlying25 rfl Try.sizeOf22 rfl ?_
       refine s_ld rfl (hC6.cells.at 1 rfl) Try.isAgg22 rfl ?_
       refine s_mv rfl rfl ?_
       obtain ⟨y53, hy53, h51⟩ := bnd h51
       refine p_ia rfl rfl (f_m_1.adv hI5.adv) hy53 Try.underlying22 Try.sizeOf54 rfl ?_
       intro b54 o55 cs56 hR57 hC58
       obtain ⟨v61, rfl, r59, r60, hf62⟩ := CardE_R.1 hR57
       refine s_fa rfl Try.underlying54 rfl Try.sizeOf52 rfl ?_
       refine s_ld rfl (hC58.cells.at 2 rfl) Try.isAgg52 rfl ?_
       refine s_len rfl hf62 Try.underlying52 rfl ?_
       refine s_lss rfl rfl rfl ?_
       refine Reg.nil ?_
       refine cw_cond rfl (fun hc63 => ?_) (fun hc63 => ?_)
       ·replace h51 := cdT hc63 h51
        refine cw_skip ?_
        refine cw_seq ?_
        refine cw_block ?_
        obtain ⟨j64, h65, h51⟩ := bnd h51
        refine cw_sub (L := [(1, _), (3, _), (4, _)]) (Sub.cons rfl (Sub.cons rfl (Sub.cons rfl (Sub.nil _)))) ?_
        refine cw_seqD 0 (ι := Bool) (fun x66 => [(67, Value.bool x66)]) (fun x66 => fun w67 => w2 = w67 ∧ x66 = j64) ?_ ?_
        ·skip
         refine cw_regF ?_
         refine s_fa rfl Try.underlying25 rfl Try.sizeOf22 rfl ?_
         refine s_ld rfl (hC6.cells.at 1 rfl) Try.isAgg22 rfl ?_
         refine s_mv rfl rfl ?_
         obtain ⟨y70, hy70, h65⟩ := bnd h65
         refine p_ia rfl rfl (f_m_1.adv hI5.adv) hy70 Try.underlying22 Try.sizeOf54 rfl ?_
         intro b71 o72 cs73 hR74 hC75
         obtain ⟨v78, rfl, r76, r77, hf79⟩ := CardE_R.1 hR74
         refine s_fa rfl Try.underlying54 rfl Try.sizeOf52 rfl ?_
         refine s_ld rfl (hC75.cells.at 2 rfl) Try.isAgg52 rfl ?_
         refine s_mv rfl rfl ?_
         obtain ⟨y80, hy80, h65⟩ := bnd h65
         refine p_ia rfl rfl hf79 hy80 Try.underlying52 Try.sizeOf56 rfl ?_
         intro b81 o82 cs83 hR84 hC85
         obtain ⟨v86, v88, rfl, hf87, hf89, r90⟩ := ScaleE_R.1 hR84
         refine s_fa rfl Try.underlying56 rfl Try.sizeOf26 rfl ?_
         refine s_ld rfl (hC85.cells.at 0 rfl) Try.isAgg26 rfl ?_
         refine s_len rfl hf87 Try.underlying26 rfl ?_
         refine s_gtr rfl rfl rfl ?_
         refine s_mv rfl rfl ?_
         refine Reg.gsplit (t := 54) rfl (fun hg91 => ?_) (fun hg91 => ?_)
         ·replace h65 := cdT hg91 h65
          refine Reg.pass rfl rfl rfl rfl ?_
          refine Reg.pass rfl rfl rfl rfl ?_
          refine Reg.pass rfl rfl rfl rfl ?_
          refine Reg.pass rfl rfl rfl rfl ?_
          refine Reg.pass rfl rfl rfl rfl ?_
          refine Reg.pass rfl rfl rfl rfl ?_
          refine Reg.pass rfl rfl rfl rfl ?_
          refine Reg.pass rfl rfl rfl rfl ?_
          refine Reg.pass rfl rfl rfl rfl ?_
          refine Reg.pass rfl rfl rfl rfl ?_
          refine Reg.pass rfl rfl rfl rfl ?_
          refine Reg.pass rfl rfl rfl rfl ?_
          refine s_pkT rfl rfl rfl ?_
          refine Reg.nil ?_
          obtain rfl := Option.some.inj h65
          refine ⟨rfl, true, ⟨rfl, rfl⟩, Sub.cons rfl (Sub.cons rfl (Sub.cons rfl (Sub.cons rfl (Sub.nil _))))⟩
         ·replace h65 := cdF hg91 h65
          refine Reg.take rfl rfl ?_
          refine s_fa rfl Try.underlying25 rfl Try.sizeOf22 rfl ?_
          refine Reg.take rfl rfl ?_
          refine s_ld rfl (hC6.cells.at 1 rfl) Try.isAgg22 rfl ?_
          refine Reg.take rfl rfl ?_
          refine s_mv rfl rfl ?_
          refine Reg.take rfl rfl ?_
          obtain ⟨y92, hy92, h65⟩ := bnd h65
          refine p_ia rfl rfl (f_m_1.adv hI5.adv) hy92 Try.underlying22 Try.sizeOf54 rfl ?_
          intro b93 o94 cs95 hR96 hC97
          obtain ⟨v100, rfl, r98, r99, hf101⟩ := CardE_R.1 hR96
          refine Reg.take rfl rfl ?_
          refine s_fa rfl Try.underlying54 rfl Try.sizeOf52 rfl ?_
          refine Reg.take rfl rfl ?_
          refine s_ld rfl (hC97.cells.at 2 rfl) Try.isAgg52 rfl ?_
          refine Reg.take rfl rfl ?_
          refine s_mv rfl rfl ?_
          refine Reg.take rfl rfl ?_
          obtain ⟨y102, hy102, h65⟩ := bnd h65
          refine p_ia rfl rfl hf101 hy102 Try.underlying52 Try.sizeOf56 rfl ?_
          intro b103 o104 cs105 hR106 hC107
          obtain ⟨v108, v110, rfl, hf109, hf111, r112⟩ := ScaleE_R.1 hR106
          refine Reg.take rfl rfl ?_
          refine s_fa rfl Try.underlying56 rfl Try.sizeOf26 rfl ?_
          refine Reg.take rfl rfl ?_
          refine s_ld rfl (hC107.cells.at 1 rfl) Try.isAgg26 rfl ?_
          refine Reg.take rfl rfl ?_
          refine s_len rfl hf111 Try.underlying26 rfl ?_
          refine Reg.take rfl rfl ?_
          refine s_gtr rfl rfl rfl ?_
          refine s_pkF rfl rfl rfl ?_
          refine Reg.nil ?_
          obtain rfl := Option.some.inj h65
          refine ⟨rfl, decide (12 < (y102.points.length : Int)), ⟨rfl, rfl⟩, Sub.cons rfl (Sub.cons rfl (Sub.cons rfl (Sub.cons rfl (Sub.nil _))))⟩
        ·skip
         rintro x66 _ ⟨rfl, rfl⟩
         refine cw_cond rfl (fun hc113 => ?_) (fun hc113 => ?_)
         ·replace h51 := cdT hc113 h51
          refine cw_seq (cw_regF ?_)
          refine s_as rfl rfl ?_
          refine Reg.nil ?_
          refine cw_ret ?_
          obtain rfl := Option.some.inj h51
          obtain rfl := hR52 _ rfl
          replace h26 := elimR h26
          obtain rfl := Option.some.inj h26
          obtain rfl := hR27 _ rfl
          replace h := elimR h
          obtain rfl := Option.some.inj h
          refine fin1 Try.results12 rfl ?_
          exact ⟨rfl, hI5.kp⟩
         ·replace h51 := cdF hc113 h51
          refine cw_skip ?_
          refine cw_regF ?_
          refine s_mv rfl rfl ?_
          obtain ⟨n114, hn114, h51⟩ := bnd h51
          replace hn114 := chk_out hn114
          refine p_add rfl rfl rfl hn114 ?_
          refine s_as rfl rfl ?_
          refine Reg.nil ?_
          obtain rfl := Option.some.inj h51
          refine ⟨rfl, n114, ⟨⟨rfl, hn114.2⟩, rfl⟩, Sub.cons rfl (Sub.cons rfl (Sub.cons rfl (Sub.nil _)))⟩
       ·replace h51 := cdF hc63 h51
        refine cw_exit ?_
        refine exB_same ?_
        obtain rfl := Option.some.inj h51
        obtain rfl := hR52 _ rfl
        refine ⟨rfl, (), ⟨rfl, rfl⟩, Sub.cons rfl (Sub.cons rfl (Sub.nil _))⟩
      ·skip
       rintro _ _ ⟨rfl, rfl⟩
       replace h26 := elimL h26
       refine cw_regF ?_
       refine s_mv rfl rfl ?_
       obtain ⟨n115, hn115, h26⟩ := bnd h26
       replace hn115 := chk_out hn115
       refine p_add rfl rfl rfl hn115 ?_
       refine s_as rfl rfl ?_
       refine Reg.nil ?_
       obtain rfl := Option.some.inj h26
       refine ⟨rfl, n115, ⟨⟨rfl, hn115.2⟩, rfl⟩, Sub.cons rfl (Sub.cons rfl (Sub.nil _))⟩
    ·replace h26 := cdF hc28 h26
     refine cw_exit ?_
     refine exB_same ?_
     obtain rfl := Option.some.inj h26
     obtain rfl := hR27 _ rfl
     refine ⟨rfl, (), ⟨rfl, rfl⟩, Sub.cons rfl (Sub.nil _)⟩
   ·skip
    rintro _ _ ⟨rfl, rfl⟩
    replace h := elimL h
    refine cw_seq (cw_seq (cw_regF ?_))
    refine s_as rfl rfl ?_
    refine Reg.nil ?_
    obtain ⟨j116, h117, h⟩ := bnd h
    refine cw_sub (L := [(1, _), (5, _)]) (Sub.cons rfl (Sub.cons rfl (Sub.nil _))) ?_
    refine cw_unitD 2 (ι := Unit) (fun _ => []) (fun _ => fun w118 => w2 = w118 ∧ (.inl ()) = j116) ?_ ?_
    ·skip
     refine cw_block ?_
     refine cw_sub (L := [(5, _), (1, _)]) (Sub.cons rfl (Sub.cons rfl (Sub.nil _))) ?_
     refine cw_loopM 1 (ι := Int) _ (fun x121 => [(5, Value.int .i64 x121)]) (fun x121 => x121) (fun x121 => fun w123 => w2 = w123 ∧ InK .i64 x121) 0 h117 ⟨rfl, (by decide)⟩ (Sub.cons rfl (Sub.cons rfl (Sub.nil _))) ?_
     rintro x121 _ ⟨rfl, r122⟩ y126 h127 hR128
     refine cw_seq (cw_seq (cw_regF ?_))
     refine s_mv rfl rfl ?_
     refine s_fa rfl Try.underlying25 rfl Try.sizeOf23 rfl ?_
     refine s_ld rfl (hC6.cells.at 2 rfl) Try.isAgg23 rfl ?_
     refine s_len rfl (f_m_2.adv hI5.adv) Try.underlying23 rfl ?_
     refine s_lss rfl rfl rfl ?_
     refine Reg.nil ?_
     refine cw_cond rfl (fun hc129 => ?_) (fun hc129 => ?_)
     ·replace h127 := cdT hc129 h127
      refine cw_skip ?_
      refine cw_seq ?_
      refine cw_block ?_
      refine cw_seq (cw_regF ?_)
      refine s_fa rfl Try.underlying25 rfl Try.sizeOf23 rfl ?_
      refine s_ld rfl (hC6.cells.at 2 rfl) Try.isAgg23 rfl ?_
      refine s_mv rfl rfl ?_
      obtain ⟨y130, hy130, h127⟩ := bnd h127
      refine p_ia rfl rfl (f_m_2.adv hI5.adv) hy130 Try.underlying23 Try.sizeOf59 rfl ?_
      intro b131 o132 cs133 hR134 hC135
      obtain ⟨v137, rfl, r136, hf138⟩ := TreeE_R.1 hR134
      refine s_fa rfl Try.underlying59 rfl Try.sizeOf57 rfl ?_
      refine s_ld rfl (hC135.cells.at 1 rfl) Try.isAgg57 rfl ?_
      refine s_len rfl hf138 Try.underlying57 rfl ?_
      refine s_gtr rfl rfl rfl ?_
      refine Reg.nil ?_
      refine cw_cond rfl (fun hc139 => ?_) (fun hc139 => ?_)
      ·replace h127 := cdT hc139 h127
       refine cw_seq (cw_regF ?_)
       refine s_as rfl rfl ?_
       refine Reg.nil ?_
       refine cw_ret ?_
       obtain rfl := Option.some.inj h127
       obtain rfl := hR128 _ rfl
       replace h := elimR h
       obtain rfl := Option.some.inj h
       refine fin1 Try.results12 rfl ?_
       exact ⟨rfl, hI5.kp⟩
      ·replace h127 := cdF hc139 h127
       refine cw_skip ?_
       refine cw_regF ?_
       refine s_mv rfl rfl ?_
       obtain ⟨n140, hn140, h127⟩ := bnd h127
       replace hn140 := chk_out hn140
       refine p_add rfl rfl rfl hn140 ?_
       refine s_as rfl rfl ?_
       refine Reg.nil ?_
       obtain rfl := Option.some.inj h127
       refine ⟨rfl, n140, ⟨⟨rfl, hn140.2⟩, rfl⟩, Sub.cons rfl (Sub.cons rfl (Sub.nil _))⟩
     ·replace h127 := cdF hc129 h127
      refine cw_exit ?_
      refine exB_same ?_
      obtain rfl := Option.some.inj h127
      obtain rfl := hR128 _ rfl
      refine ⟨rfl, (), ⟨rfl, rfl⟩, Sub.nil _⟩
    ·skip
     rintro _ _ ⟨rfl, rfl⟩
     replace h := elimL h
     refine cw_seq (cw_regF ?_)
     refine s_as rfl rfl ?_
     refine Reg.nil ?_
     refine cw_ret ?_
     obtain rfl := Option.some.inj h
     refine fin1 Try.results12 rfl ?_
     exact ⟨rfl, hI5.kp⟩
noncomputable def P.ref06_within (n : Int) (lo : Int) (hi : Int) : Option Bool :=
 Option.bind (cond (decide (lo ≤ n)) (some (decide (n ≤ hi))) (some false)) fun x2 => some x2
theorem C_ref06_within {M : List Nat} {w : World} (hM : MLt M w) {n : Int} (f_n_0 : InK .i64 n) {lo : Int} (f_lo_0 : InK .i64 lo) {hi : Int} (f_hi_0 : InK .i64 hi) {r0 : Bool} (h : P.ref06_within n lo hi = some r0) :
  Calls Try.prog 38 (List.toArray [Value.int .i64 n, Value.int .i64 lo, Value.int .i64 hi]) w fun e w' => e = .returned (Value.bool r0) ∧ Ext w w' := by
 have hI := Hp.start (Mu := []) hM
 refine calls_cw Try.func38 rfl Try.ntmps38 rfl ?_
 refine cw_seq (cw_regF ?_)
 refine s_as rfl rfl ?_
 refine Reg.nil ?_
 obtain ⟨j1, h2, h⟩ := bnd h
 refine cw_sub (L := [(0, _), (1, _), (2, _)]) (Sub.cons rfl (Sub.cons rfl (Sub.cons rfl (Sub.nil _)))) ?_
 refine cw_seqD 3 (ι := Bool) (fun x3 => [(6, Value.bool x3)]) (fun x3 => fun w4 => w = w4 ∧ x3 = j1) ?_ ?_
 ·skip
  refine cw_regF ?_
  refine s_mv rfl rfl ?_
  refine s_mv rfl rfl ?_
  refine s_geq rfl rfl rfl ?_
  refine s_mv rfl rfl ?_
  refine Reg.gsplit (t := 10) rfl (fun hg7 => ?_) (fun hg7 => ?_)
  ·replace h2 := cdT hg7 h2
   refine Reg.take rfl rfl ?_
   refine s_mv rfl rfl ?_
   refine Reg.take rfl rfl ?_
   refine s_mv rfl rfl ?_
   refine Reg.take rfl rfl ?_
   refine s_leq rfl rfl rfl ?_
   refine s_pkT rfl rfl rfl ?_
   refine s_as rfl rfl ?_
   refine Reg.nil ?_
   obtain rfl := Option.some.inj h2
   refine ⟨rfl, decide (n ≤ hi), ⟨rfl, rfl⟩, Sub.cons rfl (Sub.nil _)⟩
  ·replace h2 := cdF hg7 h2
   refine Reg.pass rfl rfl rfl rfl ?_
   refine Reg.pass rfl rfl rfl rfl ?_
   refine Reg.pass rfl rfl rfl rfl ?_
   refine s_pkF rfl rfl rfl ?_
   refine s_as rfl rfl ?_
   refine Reg.nil ?_
   obtain rfl := Option.some.inj h2
   refine ⟨rfl, false, ⟨rfl, rfl⟩, Sub.cons rfl (Sub.nil _)⟩
 ·skip
  rintro x3 _ ⟨rfl, rfl⟩
  refine cw_ret ?_
  obtain rfl := Option.some.inj h
  refine fin1 Try.results38 rfl ?_
  exact ⟨rfl, hI.kp⟩
noncomputable def P.ref06_points (n : Int) : Option Bool :=
 Option.bind (P.ref06_within n (-1000000) 1000000) fun z1 => some z1
theorem C_ref06_points {M : List Nat} {w : World} (hM : MLt M w) {n : Int} (f_n_0 : InK .i64 n) {r0 : Bool} (h : P.ref06_points n = some r0) :
  Calls Try.prog 39 (List.toArray [Value.int .i64 n]) w fun e w' => e = .returned (Value.bool r0) ∧ Ext w w' := by
 have hI := Hp.start (Mu := []) hM
 refine calls_cw Try.func39 rfl Try.ntmps39 rfl ?_
 refine cw_seq (cw_regF ?_)
 refine s_as rfl rfl ?_
 refine Reg.nil ?_
 refine cw_seq (cw_regF ?_)
 refine s_mv rfl rfl ?_
 obtain ⟨z1, hz2, h⟩ := bnd h
 refine s_call rfl Try.call38 rfl ?_
 refine (C_ref06_within hI.mlt f_n_0 (by decide) (by decide) hz2).mono ?_
 rintro _ w3 ⟨rfl, e4⟩
 refine ⟨_, rfl, ?_⟩
 have hI5 := hI.ext e4
 refine s_as rfl rfl ?_
 refine Reg.nil ?_
 refine cw_ret ?_
 obtain rfl := Option.some.inj h
 refine fin1 Try.results39 rfl ?_
 exact ⟨rfl, hI5.kp⟩
noncomputable def P.ref06_scale (s : Scale) : Option Bool :=
 Option.bind (cond (decide (3 < (s.cuts.length : Int))) (some true) (Option.bind (chk .i64 ((s.cuts.length : Int) + 1)) fun n8 => cond (!decide ((s.points.length : Int) = n8)) (some true) (Option.bind (P.ref06_points s.none_) fun z10 => some (!z10)))) fun x15 => cond x15 (some false) (Option.bind (loopM (S := Int) (R := (Unit) ⊕ (Bool)) (fun x17 => cond (decide (x17 < (s.cuts.length : Int))) (Option.bind (Option.bind (ixo s.cuts x17) fun y19 => Option.bind (P.ref06_within y19 1 1000000) fun z26 => cond (!z26) (some true) (cond (decide (0 < x17)) (Option.bind (ixo s.cuts x17) fun y35 => Option.bind (chk .i64 (x17 - 1)) fun n42 => Option.bind (ixo s.cuts n42) fun y43 => some (decide (y35 ≤ y43))) (some false))) fun x56 => cond x56 (some (.inr (.inr false))) (Option.bind (chk .i64 (x17 + 1)) fun n58 => some (.inl n58))) (some (.inr (.inl ())))) 0) fun j59 => Sum.elim (fun _ => Option.bind (loopM (S := Int) (R := (Unit) ⊕ (Bool)) (fun x60 => cond (decide (x60 < (s.points.length : Int))) (Option.bind (ixo s.points x60) fun y62 => Option.bind (P.ref06_points y62) fun z69 => cond (!z69) (some (.inr (.inr false))) (Option.bind (chk .i64 (x60 + 1)) fun n75 => some (.inl n75))) (some (.inr (.inl ())))) 0) fun j76 => Sum.elim (fun _ => some true) (fun r77 => some r77)  j76) (fun r78 => some r78)  j59)
theorem C_ref06_scale {M : List Nat} {w : World} (hM : MLt M w) {s : Scale} {v_s_0 : Value} {v_s_1 : Value} (f_s_0 : RdS (intE .i64) M w v_s_0 s.cuts) (f_s_1 : RdS (intE .i64) M w v_s_1 s.points) (f_s_2 : InK .i64 s.none_) {r0 : Bool} (h : P.ref06_scale s = some r0) :
  Calls Try.prog 55 (List.toArray [Value.agg (List.toArray [v_s_0, v_s_1, Value.int .i64 s.none_])]) w fun e w' => e = .returned (Value.bool r0) ∧ Ext w w' := by
 have hI := Hp.start (Mu := []) hM
 refine calls_cw Try.func55 rfl Try.ntmps55 rfl ?_
 refine cw_seq (cw_regF ?_)
 refine y_box hI rfl rfl rfl ?_
 intro b1 w2 hI3 x4
 have hC6 := hI3.freezeRow 0 rfl
 have hI5 := hI3.erase 0
 refine s_as rfl rfl ?_
 refine Reg.nil ?_
 refine cw_seq ?_
 obtain ⟨j7, h8, h⟩ := bnd h
 refine cw_sub (L := [(1, _)]) (Sub.cons rfl (Sub.nil _)) ?_
 refine cw_seqD 0 (ι := Bool) (fun x9 => [(24, Value.bool x9)]) (fun x9 => fun w10 => Hp w [] M [] w10 ∧ Adv (mm [] M) (mm [] M) w2 w10 ∧ x9 = j7) ?_ ?_
 ·skip
  refine cw_regF ?_
  refine s_fa rfl Try.underlying56 rfl Try.sizeOf26 rfl ?_
  refine s_ld rfl (hC6.cells.at 0 rfl) Try.isAgg26 rfl ?_
  refine s_len rfl (f_s_0.adv hI5.adv) Try.underlying26 rfl ?_
  refine s_gtr rfl rfl rfl ?_
  refine s_mv rfl rfl ?_
  refine Reg.gsplit (t := 9) rfl (fun hg13 => ?_) (fun hg13 => ?_)
  ·replace h8 := cdT hg13 h8
   refine Reg.pass rfl rfl rfl rfl ?_
   refine Reg.pass rfl rfl rfl rfl ?_
   refine Reg.pass rfl rfl rfl rfl ?_
   refine Reg.pass rfl rfl rfl rfl ?_
   refine Reg.pass rfl rfl rfl rfl ?_
   refine Reg.pass rfl rfl rfl rfl ?_
   refine Reg.pass rfl rfl rfl rfl ?_
   refine Reg.pass rfl rfl rfl rfl ?_
   refine s_pkT rfl rfl rfl ?_
   refine s_mv rfl rfl ?_
   refine Reg.pass rfl rfl rfl rfl ?_
   refine Reg.pass rfl rfl rfl rfl ?_
   refine Reg.pass rfl rfl rfl rfl ?_
   refine Reg.pass rfl rfl rfl rfl ?_
   refine s_pkT rfl rfl rfl ?_
   refine Reg.nil ?_
   obtain rfl := Option.some.inj h8
   refine ⟨rfl, true, ⟨hI5, (Adv.refl _ _), rfl⟩, Sub.cons rfl (Sub.cons rfl (Sub.nil _))⟩
  ·replace h8 := cdF hg13 h8
   refine Reg.take rfl rfl ?_
   refine s_fa rfl Try.underlying56 rfl Try.sizeOf26 rfl ?_
   refine Reg.take rfl rfl ?_
   refine s_ld rfl (hC6.cells.at 1 rfl) Try.isAgg26 rfl ?_
   refine Reg.take rfl rfl ?_
   refine s_len rfl (f_s_1.adv hI5.adv) Try.underlying26 rfl ?_
   refine Reg.take rfl rfl ?_
   refine s_fa rfl Try.underlying56 rfl Try.sizeOf26 rfl ?_
   refine Reg.take rfl rfl ?_
   refine s_ld rfl (hC6.cells.at 0 rfl) Try.isAgg26 rfl ?_
   refine Reg.take rfl rfl ?_
   refine s_len rfl (f_s_0.adv hI5.adv) Try.underlying26 rfl ?_
   refine Reg.take rfl rfl ?_
   obtain ⟨n14, hn14, h8⟩ := bnd h8
   replace hn14 := chk_out hn14
   refine p_add rfl rfl rfl hn14 ?_
   refine Reg.take rfl rfl ?_
   refine s_neq rfl rfl rfl ?_
   refine s_pkF rfl rfl rfl ?_
   refine s_mv rfl rfl ?_
   refine Reg.gsplit (t := 19) rfl (fun hg15 => ?_) (fun hg15 => ?_)
   ·replace h8 := cdT hg15 h8
    refine Reg.pass rfl rfl rfl rfl ?_
    refine Reg.pass rfl rfl rfl rfl ?_
    refine Reg.pass rfl rfl rfl rfl ?_
    refine Reg.pass rfl rfl rfl rfl ?_
    refine s_pkT rfl rfl rfl ?_
    refine Reg.nil ?_
    obtain rfl := Option.some.inj h8
    refine ⟨rfl, true, ⟨hI5, (Adv.refl _ _), rfl⟩, Sub.cons rfl (Sub.cons rfl (Sub.nil _))⟩
   ·replace h8 := cdF hg15 h8
    refine Reg.take rfl rfl ?_
    refine s_fa rfl Try.underlying56 rfl Try.sizeOf3 rfl ?_
    refine Reg.take rfl rfl ?_
    refine s_ld rfl (hC6.cells.at 2 rfl) Try.isAgg3 rfl ?_
    refine Reg.take rfl rfl ?_
    obtain ⟨z16, hz17, h8⟩ := bnd h8
    refine s_call rfl Try.call39 rfl ?_
    refine (C_ref06_points hI5.mlt f_s_2 hz17).mono ?_
    rintro _ w18 ⟨rfl, e19⟩
    refine ⟨_, rfl, ?_⟩
    have hI20 := hI5.ext e19
    refine Reg.take rfl rfl ?_
    refine s_not rfl rfl ?_
    refine s_pkF rfl rfl rfl ?_
    refine Reg.nil ?_
    obtain rfl := Option.some.inj h8
    refine ⟨rfl, !z16, ⟨hI20, (Adv.of_ext e19), rfl⟩, Sub.cons rfl (Sub.cons rfl (Sub.nil _))⟩
 ·skip
  rintro x9 w10 ⟨hI11, hA12, rfl⟩
  refine cw_cond rfl (fun hc21 => ?_) (fun hc21 => ?_)
  ·replace h := cdT hc21 h
   refine cw_seq (cw_regF ?_)
   refine s_as rfl rfl ?_
   refine Reg.nil ?_
   refine cw_ret ?_
   obtain rfl := Option.some.inj h
   refine fin1 Try.results55 rfl ?_
   exact ⟨rfl, hI11.kp⟩
  ·replace h := cdF hc21 h
   refine cw_skip (cw_seq (cw_seq (cw_regF ?_)))
   refine s_as rfl rfl ?_
   refine Reg.nil ?_
   obtain ⟨j22, h23, h⟩ := bnd h
   refine cw_sub (L := [(3, _), (1, _)]) (Sub.cons rfl (Sub.cons rfl (Sub.nil _))) ?_
   refine cw_unitD 1 (ι := Unit) (fun _ => []) (fun _ => fun w24 => Hp w [] M [] w24 ∧ Adv (mm [] M) (mm [] M) w10 w24 ∧ (.inl ()) = j22) ?_ ?_
   ·skip
    refine cw_block ?_
    refine cw_sub (L := [(3, _), (1, _)]) (Sub.cons rfl (Sub.cons rfl (Sub.nil _))) ?_
    refine cw_loopM 1 (ι := Int) _ (fun x27 => [(3, Value.int .i64 x27)]) (fun x27 => x27) (fun x27 => fun w29 => Hp w [] M [] w29 ∧ Adv (mm [] M) (mm [] M) w10 w29 ∧ InK .i64 x27) 0 h23 ⟨hI11, (Adv.refl _ _), (by decide)⟩ (Sub.cons rfl (Sub.cons rfl (Sub.nil _))) ?_
    rintro x27 w29 ⟨hI30, hA31, r28⟩ y32 h33 hR34
    refine cw_seq (cw_seq (cw_regF ?_))
    refine s_mv rfl rfl ?_
    refine s_fa rfl Try.underlying56 rfl Try.sizeOf26 rfl ?_
    refine s_ld rfl ((hC6.adv (hA12.trans hA31)).cells.at 0 rfl) Try.isAgg26 rfl ?_
    refine s_len rfl (f_s_0.adv hI30.adv) Try.underlying26 rfl ?_
    refine s_lss rfl rfl rfl ?_
    refine Reg.nil ?_
    refine cw_cond rfl (fun hc35 => ?_) (fun hc35 => ?_)
    ·replace h33 := cdT hc35 h33
     refine cw_skip ?_
     refine cw_seq ?_
     refine cw_block ?_
     obtain ⟨j36, h37, h33⟩ := bnd h33
     refine cw_sub (L := [(1, _), (3, _)]) (Sub.cons rfl (Sub.cons rfl (Sub.nil _))) ?_
     refine cw_seqD 0 (ι := Bool) (fun x38 => [(56, Value.bool x38)]) (fun x38 => fun w39 => Hp w [] M [] w39 ∧ Adv (mm [] M) (mm [] M) w29 w39 ∧ x38 = j36) ?_ ?_
     ·skip
      refine cw_regT fol (by kernel_rfl) ?_
      refine s_fa rfl Try.underlying56 rfl Try.sizeOf26 rfl ?_
      refine s_ld rfl ((hC6.adv (hA12.trans hA31)).cells.at 0 rfl) Try.isAgg26 rfl ?_
      refine s_mv rfl rfl ?_
      obtain ⟨y42, hy42, h37⟩ := bnd h37
      refine p_ia rfl rfl (f_s_0.adv hI30.adv) hy42 Try.underlying26 Try.sizeOf3 rfl ?_
      intro b43 o44 cs45 hR46 hC47
      obtain ⟨rfl, r48⟩ := hR46
      refine s_ld rfl (hC47.cells.at 0 rfl) Try.isAgg3 rfl ?_
      obtain ⟨z49, hz50, h37⟩ := bnd h37
      refine s_callq rfl rfl Try.call38 rfl (fun w51 e52 => (C_ref06_within (hI30.mlt.ext e52) r48 (by decide) (by decide) hz50).mono (fun _ _ hq => ⟨hq.1, hq.2⟩)) ?_
      refine s_not rfl rfl ?_
      refine s_mv rfl rfl ?_
      refine Reg.gsplit (t := 39) rfl (fun hg53 => ?_) (fun hg53 => ?_)
      ·replace h37 := cdT hg53 h37
       refine Reg.pass rfl rfl rfl rfl ?_
       refine Reg.pass rfl rfl rfl rfl ?_
       refine Reg.pass rfl rfl rfl rfl ?_
       refine Reg.passU rfl rfl rfl ?_
       refine Reg.passU rfl rfl rfl ?_
       refine Reg.passU rfl rfl rfl ?_
       refine Reg.passU rfl rfl rfl ?_
       refine Reg.passU rfl rfl rfl ?_
       refine Reg.passU rfl rfl rfl ?_
       refine Reg.passU rfl rfl rfl ?_
       refine Reg.passU rfl rfl rfl ?_
       refine Reg.passU rfl rfl rfl ?_
       refine Reg.passU rfl rfl rfl ?_
       refine Reg.passU rfl rfl rfl ?_
       refine Reg.passU rfl rfl rfl ?_
       refine Reg.pass rfl rfl rfl rfl ?_
       refine s_pkT rfl rfl rfl ?_
       refine Reg.nilq (fun w54 e55 => ?_)
       have hI56 := hI30.ext e55
       obtain rfl := Option.some.inj h37
       refine ⟨rfl, true, ⟨hI56, (Adv.of_ext e55), rfl⟩, Sub.cons rfl (Sub.cons rfl (Sub.cons rfl (Sub.nil _)))⟩
      ·replace h37 := cdF hg53 h37
       refine Reg.take rfl rfl ?_
       refine s_mv rfl rfl ?_
       refine Reg.take rfl rfl ?_
       refine s_gtr rfl rfl rfl ?_
       refine Reg.take rfl rfl ?_
       refine s_mv rfl rfl ?_
       refine Reg.gsplit (t := 42) rfl (fun hg57 => ?_) (fun hg57 => ?_)
       ·replace h37 := cdT hg57 h37
        refine Reg.take rfl rfl ?_
        refine s_fa rfl Try.underlying56 rfl Try.sizeOf26 rfl ?_
        refine Reg.take rfl rfl ?_
        refine s_ld rfl ((hC6.adv (hA12.trans hA31)).cells.at 0 rfl) Try.isAgg26 rfl ?_
        refine Reg.take rfl rfl ?_
        refine s_mv rfl rfl ?_
        refine Reg.take rfl rfl ?_
        obtain ⟨y58, hy58, h37⟩ := bnd h37
        refine p_ia rfl rfl (f_s_0.adv hI30.adv) hy58 Try.underlying26 Try.sizeOf3 rfl ?_
        intro b59 o60 cs61 hR62 hC63
        obtain ⟨rfl, r64⟩ := hR62
        refine Reg.take rfl rfl ?_
        refine s_ld rfl (hC63.cells.at 0 rfl) Try.isAgg3 rfl ?_
        refine Reg.take rfl rfl ?_
        refine s_fa rfl Try.underlying56 rfl Try.sizeOf26 rfl ?_
        refine Reg.take rfl rfl ?_
        refine s_ld rfl ((hC6.adv (hA12.trans hA31)).cells.at 0 rfl) Try.isAgg26 rfl ?_
        refine Reg.take rfl rfl ?_
        refine s_mv rfl rfl ?_
        refine Reg.take rfl rfl ?_
        obtain ⟨n65, hn65, h37⟩ := bnd h37
        replace hn65 := chk_out hn65
        refine p_sub rfl rfl rfl hn65 ?_
        refine Reg.take rfl rfl ?_
        obtain ⟨y66, hy66, h37⟩ := bnd h37
        refine p_ia rfl rfl (f_s_0.adv hI30.adv) hy66 Try.underlying26 Try.sizeOf3 rfl ?_
        intro b67 o68 cs69 hR70 hC71
        obtain ⟨rfl, r72⟩ := hR70
        refine Reg.take rfl rfl ?_
        refine s_ld rfl (hC71.cells.at 0 rfl) Try.isAgg3 rfl ?_
        refine Reg.take rfl rfl ?_
        refine s_leq rfl rfl rfl ?_
        refine Reg.take rfl rfl ?_
        refine s_pkT rfl rfl rfl ?_
        refine s_pkF rfl rfl rfl ?_
        refine Reg.nilq (fun w73 e74 => ?_)
        have hI75 := hI30.ext e74
        obtain rfl := Option.some.inj h37
        refine ⟨rfl, decide (y58 ≤ y66), ⟨hI75, (Adv.of_ext e74), rfl⟩, Sub.cons rfl (Sub.cons rfl (Sub.cons rfl (Sub.nil _)))⟩
       ·replace h37 := cdF hg57 h37
        refine Reg.pass rfl rfl rfl rfl ?_
        refine Reg.pass rfl rfl rfl rfl ?_
        refine Reg.pass rfl rfl rfl rfl ?_
        refine Reg.pass rfl rfl rfl rfl ?_
        refine Reg.pass rfl rfl rfl rfl ?_
        refine Reg.pass rfl rfl rfl rfl ?_
        refine Reg.pass rfl rfl rfl rfl ?_
        refine Reg.pass rfl rfl rfl rfl ?_
        refine Reg.pass rfl rfl rfl rfl ?_
        refine Reg.pass rfl rfl rfl rfl ?_
        refine Reg.pass rfl rfl rfl rfl ?_
        refine Reg.pass rfl rfl rfl rfl ?_
        refine Reg.take rfl rfl ?_
        refine s_pkF rfl rfl rfl ?_
        refine s_pkF rfl rfl rfl ?_
        refine Reg.nilq (fun w76 e77 => ?_)
        have hI78 := hI30.ext e77
        obtain rfl := Option.some.inj h37
        refine ⟨rfl, false, ⟨hI78, (Adv.of_ext e77), rfl⟩, Sub.cons rfl (Sub.cons rfl (Sub.cons rfl (Sub.nil _)))⟩
     ·skip
      rintro x38 w39 ⟨hI40, hA41, rfl⟩
      refine cw_cond rfl (fun hc79 => ?_) (fun hc79 => ?_)
      ·replace h33 := cdT hc79 h33
       refine cw_seq (cw_regF ?_)
       refine s_as rfl rfl ?_
       refine Reg.nil ?_
       refine cw_ret ?_
       obtain rfl := Option.some.inj h33
       obtain rfl := hR34 _ rfl
       replace h := elimR h
       obtain rfl := Option.some.inj h
       refine fin1 Try.results55 rfl ?_
       exact ⟨rfl, hI40.kp⟩
      ·replace h33 := cdF hc79 h33
       refine cw_skip ?_
       refine cw_regF ?_
       refine s_mv rfl rfl ?_
       obtain ⟨n80, hn80, h33⟩ := bnd h33
       replace hn80 := chk_out hn80
       refine p_add rfl rfl rfl hn80 ?_
       refine s_as rfl rfl ?_
       refine Reg.nil ?_
       obtain rfl := Option.some.inj h33
       refine ⟨rfl, n80, ⟨⟨hI40, (hA31.trans hA41), hn80.2⟩, rfl⟩, Sub.cons rfl (Sub.cons rfl (Sub.nil _))⟩
    ·replace h33 := cdF hc35 h33
     refine cw_exit ?_
     refine exB_same ?_
     obtain rfl := Option.some.inj h33
     obtain rfl := hR34 _ rfl
     refine ⟨rfl, (), ⟨hI30, hA31, rfl⟩, Sub.cons rfl (Sub.nil _)⟩
   ·skip
    rintro _ w24 ⟨hI25, hA26, rfl⟩
    replace h := elimL h
    refine cw_seq (cw_seq (cw_regF ?_))
    refine s_as rfl rfl ?_
    refine Reg.nil ?_
    obtain ⟨j81, h82, h⟩ := bnd h
    refine cw_sub (L := [(1, _), (4, _)]) (Sub.cons rfl (Sub.cons rfl (Sub.nil _))) ?_
    refine cw_unitD 2 (ι := Unit) (fun _ => []) (fun _ => fun w83 => Hp w [] M [] w83 ∧ Adv (mm [] M) (mm [] M) w24 w83 ∧ (.inl ()) = j81) ?_ ?_
    ·skip
     refine cw_block ?_
     refine cw_sub (L := [(4, _), (1, _)]) (Sub.cons rfl (Sub.cons rfl (Sub.nil _))) ?_
     refine cw_loopM 1 (ι := Int) _ (fun x86 => [(4, Value.int .i64 x86)]) (fun x86 => x86) (fun x86 => fun w88 => Hp w [] M [] w88 ∧ Adv (mm [] M) (mm [] M) w24 w88 ∧ InK .i64 x86) 0 h82 ⟨hI25, (Adv.refl _ _), (by decide)⟩ (Sub.cons rfl (Sub.cons rfl (Sub.nil _))) ?_
     rintro x86 w88 ⟨hI89, hA90, r87⟩ y91 h92 hR93
     refine cw_seq (cw_seq (cw_regF ?_))
     refine s_mv rfl rfl ?_
     refine s_fa rfl Try.underlying56 rfl Try.sizeOf26 rfl ?_
     refine s_ld rfl ((hC6.adv (hA12.trans (hA26.trans hA90))).cells.at 1 rfl) Try.isAgg26 rfl ?_
     refine s_len rfl (f_s_1.adv hI89.adv) Try.underlying26 rfl ?_
     refine s_lss rfl rfl rfl ?_
     refine Reg.nil ?_
     refine cw_cond rfl (fun hc94 => ?_) (fun hc94 => ?_)
     ·replace h92 := cdT hc94 h92
      refine cw_skip ?_
      refine cw_seq ?_
      refine cw_block ?_
      refine cw_seq (cw_regF ?_)
      refine s_fa rfl Try.underlying56 rfl Try.sizeOf26 rfl ?_
      refine s_ld rfl ((hC6.adv (hA12.trans (hA26.trans hA90))).cells.at 1 rfl) Try.isAgg26 rfl ?_
      refine s_mv rfl rfl ?_
      obtain ⟨y95, hy95, h92⟩ := bnd h92
      refine p_ia rfl rfl (f_s_1.adv hI89.adv) hy95 Try.underlying26 Try.sizeOf3 rfl ?_
      intro b96 o97 cs98 hR99 hC100
      obtain ⟨rfl, r101⟩ := hR99
      refine s_ld rfl (hC100.cells.at 0 rfl) Try.isAgg3 rfl ?_
      obtain ⟨z102, hz103, h92⟩ := bnd h92
      refine s_call rfl Try.call39 rfl ?_
      refine (C_ref06_points hI89.mlt r101 hz103).mono ?_
      rintro _ w104 ⟨rfl, e105⟩
      refine ⟨_, rfl, ?_⟩
      have hI106 := hI89.ext e105
      refine s_not rfl rfl ?_
      refine Reg.nil ?_
      refine cw_cond rfl (fun hc107 => ?_) (fun hc107 => ?_)
      ·replace h92 := cdT hc107 h92
       refine cw_seq (cw_regF ?_)
       refine s_as rfl rfl ?_
       refine Reg.nil ?_
       refine cw_ret ?_
       obtain rfl := Option.some.inj h92
       obtain rfl := hR93 _ rfl
       replace h := elimR h
       obtain rfl := Option.some.inj h
       refine fin1 Try.results55 rfl ?_
       exact ⟨rfl, hI106.kp⟩
      ·replace h92 := cdF hc107 h92
       refine cw_skip ?_
       refine cw_regF ?_
       refine s_mv rfl rfl ?_
       obtain ⟨n108, hn108, h92⟩ := bnd h92
       replace hn108 := chk_out hn108
       refine p_add rfl rfl rfl hn108 ?_
       refine s_as rfl rfl ?_
       refine Reg.nil ?_
       obtain rfl := Option.some.inj h92
       refine ⟨rfl, n108, ⟨⟨hI106, (hA90.trans (Adv.of_ext e105)), hn108.2⟩, rfl⟩, Sub.cons rfl (Sub.cons rfl (Sub.nil _))⟩
     ·replace h92 := cdF hc94 h92
      refine cw_exit ?_
      refine exB_same ?_
      obtain rfl := Option.some.inj h92
      obtain rfl := hR93 _ rfl
      refine ⟨rfl, (), ⟨hI89, hA90, rfl⟩, Sub.nil _⟩
    ·skip
     rintro _ w83 ⟨hI84, hA85, rfl⟩
     replace h := elimL h
     refine cw_seq (cw_regF ?_)
     refine s_as rfl rfl ?_
     refine Reg.nil ?_
     refine cw_ret ?_
     obtain rfl := Option.some.inj h
     refine fin1 Try.results55 rfl ?_
     exact ⟨rfl, hI84.kp⟩
noncomputable def P.ref06_card (c : Card) (traits : Int) : Option Bool :=
 Option.bind (Option.bind (P.ref06_within c.weight 0 1000) fun z7 => cond (!z7) (some true) (Option.bind (P.ref06_points c.base) fun z13 => cond (!z13) (some true) (some (!decide ((c.scales.length : Int) = traits))))) fun x19 => cond x19 (some false) (Option.bind (loopM (S := Int) (R := (Unit) ⊕ (Bool)) (fun x21 => cond (decide (x21 < traits)) (Option.bind (ixo c.scales x21) fun y23 => Option.bind (P.ref06_scale y23) fun z34 => cond (!z34) (some (.inr (.inr false))) (Option.bind (chk .i64 (x21 + 1)) fun n40 => some (.inl n40))) (some (.inr (.inl ())))) 0) fun j41 => Sum.elim (fun _ => some true) (fun r42 => some r42)  j41)
theorem C_ref06_card {M : List Nat} {w : World} (hM : MLt M w) {c : Card} {v_c_2 : Value} (f_c_0 : InK .i64 c.weight) (f_c_1 : InK .i64 c.base) (f_c_2 : RdS ScaleE M w v_c_2 c.scales) {traits : Int} (f_traits_0 : InK .i64 traits) {r0 : Bool} (h : P.ref06_card c traits = some r0) :
  Calls Try.prog 40 (List.toArray [Value.agg (List.toArray [Value.int .i64 c.weight, Value.int .i64 c.base, v_c_2]), Value.int .i64 traits]) w fun e w' => e = .returned (Value.bool r0) ∧ Ext w w' := by
 have hI := Hp.start (Mu := []) hM
 refine calls_cw Try.func40 rfl Try.ntmps40 rfl ?_
 refine cw_seq (cw_regF ?_)
 refine y_box hI rfl rfl rfl ?_
 intro b1 w2 hI3 x4
 have hC6 := hI3.freezeRow 0 rfl
 have hI5 := hI3.erase 0
 refine s_as rfl rfl ?_
 refine Reg.nil ?_
 refine cw_seq ?_
 obtain ⟨j7, h8, h⟩ := bnd h
 refine cw_sub (L := [(1, _), (2, _)]) (Sub.cons rfl (Sub.cons rfl (Sub.nil _))) ?_
 refine cw_seqD 0 (ι := Bool) (fun x9 => [(22, Value.bool x9)]) (fun x9 => fun w10 => Hp w [] M [] w10 ∧ Adv (mm [] M) (mm [] M) w2 w10 ∧ x9 = j7) ?_ ?_
 ·skip
  refine cw_regF ?_
  refine s_fa rfl Try.underlying54 rfl Try.sizeOf3 rfl ?_
  refine s_ld rfl (hC6.cells.at 0 rfl) Try.isAgg3 rfl ?_
  obtain ⟨z13, hz14, h8⟩ := bnd h8
  refine s_call rfl Try.call38 rfl ?_
  refine (C_ref06_within hI5.mlt f_c_0 (by decide) (by decide) hz14).mono ?_
  rintro _ w15 ⟨rfl, e16⟩
  refine ⟨_, rfl, ?_⟩
  have hI17 := hI5.ext e16
  refine s_not rfl rfl ?_
  refine s_mv rfl rfl ?_
  refine Reg.gsplit (t := 10) rfl (fun hg18 => ?_) (fun hg18 => ?_)
  ·replace h8 := cdT hg18 h8
   refine Reg.pass rfl rfl rfl rfl ?_
   refine Reg.pass rfl rfl rfl rfl ?_
   refine Reg.pass rfl rfl rfl rfl ?_
   refine Reg.pass rfl rfl rfl rfl ?_
   refine s_pkT rfl rfl rfl ?_
   refine s_mv rfl rfl ?_
   refine Reg.pass rfl rfl rfl rfl ?_
   refine Reg.pass rfl rfl rfl rfl ?_
   refine Reg.pass rfl rfl rfl rfl ?_
   refine Reg.pass rfl rfl rfl rfl ?_
   refine Reg.pass rfl rfl rfl rfl ?_
   refine s_pkT rfl rfl rfl ?_
   refine Reg.nil ?_
   obtain rfl := Option.some.inj h8
   refine ⟨rfl, true, ⟨hI17, (Adv.of_ext e16), rfl⟩, Sub.cons rfl (Sub.cons rfl (Sub.cons rfl (Sub.nil _)))⟩
  ·replace h8 := cdF hg18 h8
   refine Reg.take rfl rfl ?_
   refine s_fa rfl Try.underlying54 rfl Try.sizeOf3 rfl ?_
   refine Reg.take rfl rfl ?_
   refine s_ld rfl ((hC6.adv (Adv.of_ext e16)).cells.at 1 rfl) Try.isAgg3 rfl ?_
   refine Reg.take rfl rfl ?_
   obtain ⟨z19, hz20, h8⟩ := bnd h8
   refine s_call rfl Try.call39 rfl ?_
   refine (C_ref06_points hI17.mlt f_c_1 hz20).mono ?_
   rintro _ w21 ⟨rfl, e22⟩
   refine ⟨_, rfl, ?_⟩
   have hI23 := hI17.ext e22
   refine Reg.take rfl rfl ?_
   refine s_not rfl rfl ?_
   refine s_pkF rfl rfl rfl ?_
   refine s_mv rfl rfl ?_
   refine Reg.gsplit (t := 16) rfl (fun hg24 => ?_) (fun hg24 => ?_)
   ·replace h8 := cdT hg24 h8
    refine Reg.pass rfl rfl rfl rfl ?_
    refine Reg.pass rfl rfl rfl rfl ?_
    refine Reg.pass rfl rfl rfl rfl ?_
    refine Reg.pass rfl rfl rfl rfl ?_
    refine Reg.pass rfl rfl rfl rfl ?_
    refine s_pkT rfl rfl rfl ?_
    refine Reg.nil ?_
    obtain rfl := Option.some.inj h8
    refine ⟨rfl, true, ⟨hI23, ((Adv.of_ext e16).trans (Adv.of_ext e22)), rfl⟩, Sub.cons rfl (Sub.cons rfl (Sub.cons rfl (Sub.nil _)))⟩
   ·replace h8 := cdF hg24 h8
    refine Reg.take rfl rfl ?_
    refine s_fa rfl Try.underlying54 rfl Try.sizeOf52 rfl ?_
    refine Reg.take rfl rfl ?_
    refine s_ld rfl ((hC6.adv ((Adv.of_ext e16).trans (Adv.of_ext e22))).cells.at 2 rfl) Try.isAgg52 rfl ?_
    refine Reg.take rfl rfl ?_
    refine s_len rfl (f_c_2.adv hI23.adv) Try.underlying52 rfl ?_
    refine Reg.take rfl rfl ?_
    refine s_mv rfl rfl ?_
    refine Reg.take rfl rfl ?_
    refine s_neq rfl rfl rfl ?_
    refine s_pkF rfl rfl rfl ?_
    refine Reg.nil ?_
    obtain rfl := Option.some.inj h8
    refine ⟨rfl, !decide ((c.scales.length : Int) = traits), ⟨hI23, ((Adv.of_ext e16).trans (Adv.of_ext e22)), rfl⟩, Sub.cons rfl (Sub.cons rfl (Sub.cons rfl (Sub.nil _)))⟩
 ·skip
  rintro x9 w10 ⟨hI11, hA12, rfl⟩
  refine cw_cond rfl (fun hc25 => ?_) (fun hc25 => ?_)
  ·replace h := cdT hc25 h
   refine cw_seq (cw_regF ?_)
   refine s_as rfl rfl ?_
   refine Reg.nil ?_
   refine cw_ret ?_
   obtain rfl := Option.some.inj h
   refine fin1 Try.results40 rfl ?_
   exact ⟨rfl, hI11.kp⟩
  ·replace h := cdF hc25 h
   refine cw_skip (cw_seq (cw_seq (cw_regF ?_)))
   refine s_as rfl rfl ?_
   refine Reg.nil ?_
   obtain ⟨j26, h27, h⟩ := bnd h
   refine cw_sub (L := [(1, _), (2, _), (5, _)]) (Sub.cons rfl (Sub.cons rfl (Sub.cons rfl (Sub.nil _)))) ?_
   refine cw_unitD 3 (ι := Unit) (fun _ => []) (fun _ => fun w28 => Hp w [] M [] w28 ∧ Adv (mm [] M) (mm [] M) w10 w28 ∧ (.inl ()) = j26) ?_ ?_
   ·skip
    refine cw_block ?_
    refine cw_sub (L := [(5, _), (1, _), (2, _)]) (Sub.cons rfl (Sub.cons rfl (Sub.cons rfl (Sub.nil _)))) ?_
    refine cw_loopM 1 (ι := Int) _ (fun x31 => [(5, Value.int .i64 x31)]) (fun x31 => x31) (fun x31 => fun w33 => Hp w [] M [] w33 ∧ Adv (mm [] M) (mm [] M) w10 w33 ∧ InK .i64 x31) 0 h27 ⟨hI11, (Adv.refl _ _), (by decide)⟩ (Sub.cons rfl (Sub.cons rfl (Sub.cons rfl (Sub.nil _)))) ?_
    rintro x31 w33 ⟨hI34, hA35, r32⟩ y36 h37 hR38
    refine cw_seq (cw_seq (cw_regF ?_))
    refine s_mv rfl rfl ?_
    refine s_mv rfl rfl ?_
    refine s_lss rfl rfl rfl ?_
    refine Reg.nil ?_
    refine cw_cond rfl (fun hc39 => ?_) (fun hc39 => ?_)
    ·replace h37 := cdT hc39 h37
     refine cw_skip ?_
     refine cw_seq ?_
     refine cw_block ?_
     refine cw_seq (cw_regF ?_)
     refine s_fa rfl Try.underlying54 rfl Try.sizeOf52 rfl ?_
     refine s_ld rfl ((hC6.adv (hA12.trans hA35)).cells.at 2 rfl) Try.isAgg52 rfl ?_
     refine s_mv rfl rfl ?_
     obtain ⟨y40, hy40, h37⟩ := bnd h37
     refine p_ia rfl rfl (f_c_2.adv hI34.adv) hy40 Try.underlying52 Try.sizeOf56 rfl ?_
     intro b41 o42 cs43 hR44 hC45
     obtain ⟨v46, v48, rfl, hf47, hf49, r50⟩ := ScaleE_R.1 hR44
     refine s_lda rfl hC45.cells Try.isAgg56 rfl Try.sizeOf56 rfl ?_
     obtain ⟨z51, hz52, h37⟩ := bnd h37
     refine s_call rfl Try.call55 rfl ?_
     refine (C_ref06_scale hI34.mlt hf47 hf49 r50 hz52).mono ?_
     rintro _ w53 ⟨rfl, e54⟩
     refine ⟨_, rfl, ?_⟩
     have hI55 := hI34.ext e54
     refine s_not rfl rfl ?_
     refine Reg.nil ?_
     refine cw_cond rfl (fun hc56 => ?_) (fun hc56 => ?_)
     ·replace h37 := cdT hc56 h37
      refine cw_seq (cw_regF ?_)
      refine s_as rfl rfl ?_
      refine Reg.nil ?_
      refine cw_ret ?_
      obtain rfl := Option.some.inj h37
      obtain rfl := hR38 _ rfl
      replace h := elimR h
      obtain rfl := Option.some.inj h
      refine fin1 Try.results40 rfl ?_
      exact ⟨rfl, hI55.kp⟩
     ·replace h37 := cdF hc56 h37
      refine cw_skip ?_
      refine cw_regF ?_
      refine s_mv rfl rfl ?_
      obtain ⟨n57, hn57, h37⟩ := bnd h37
      replace hn57 := chk_out hn57
      refine p_add rfl rfl rfl hn57 ?_
      refine s_as rfl rfl ?_
      refine Reg.nil ?_
      obtain rfl := Option.some.inj h37
      refine ⟨rfl, n57, ⟨⟨hI55, (hA35.trans (Adv.of_ext e54)), hn57.2⟩, rfl⟩, Sub.cons rfl (Sub.cons rfl (Sub.cons rfl (Sub.nil _)))⟩
    ·replace h37 := cdF hc39 h37
     refine cw_exit ?_
     refine exB_same ?_
     obtain rfl := Option.some.inj h37
     obtain rfl := hR38 _ rfl
     refine ⟨rfl, (), ⟨hI34, hA35, rfl⟩, Sub.nil _⟩
   ·skip
    rintro _ w28 ⟨hI29, hA30, rfl⟩
    replace h := elimL h
    refine cw_seq (cw_regF ?_)
    refine s_as rfl rfl ?_
    refine Reg.nil ?_
    refine cw_ret ?_
    obtain rfl := Option.some.inj h
    refine fin1 Try.results40 rfl ?_
    exact ⟨rfl, hI29.kp⟩
noncomputable def P.ref06_tree (t : Tree) (traits : Int) : Option Bool :=
 Option.bind (Option.bind (P.ref06_within t.weight 0 1000) fun z7 => cond (!z7) (some true) (Option.bind (P.ref06_within (t.nodes.length : Int) 1 7) fun z13 => some (!z13))) fun x18 => cond x18 (some false) (Option.bind (loopM (S := Int) (R := (Unit) ⊕ (Bool)) (fun x20 => cond (decide (x20 < (t.nodes.length : Int))) (Option.bind (Option.bind (ixo t.nodes x20) fun y22 => Option.bind (P.ref06_points y22.points) fun z42 => cond (!z42) (some (.inr false)) (cond (decide (y22.trait = (-1))) (Option.bind (cond (!decide (y22.cut = 0)) (some true) (cond (!decide (y22.low = 0)) (some true) (some (!decide (y22.high = 0))))) fun x51 => cond x51 (some (.inr false)) (some (.inl ()))) (Option.bind (Option.bind (chk .i64 (traits - 1)) fun n53 => Option.bind (P.ref06_within y22.trait 0 n53) fun z54 => cond (!z54) (some true) (Option.bind (P.ref06_within y22.cut 1 1000000) fun z60 => cond (!z60) (some true) (cond (decide (y22.low ≤ x20)) (some true) (cond (decide (y22.high ≤ x20)) (some true) (cond (decide ((t.nodes.length : Int) ≤ y22.low)) (some true) (cond (decide ((t.nodes.length : Int) ≤ y22.high)) (some true) (cond (decide (y22.low = y22.high)) (some true) (some (!decide (y22.points = 0)))))))))) fun x71 => cond x71 (some (.inr false)) (some (.inl ()))))) fun j73 => Sum.elim (fun _ => Option.bind (chk .i64 (x20 + 1)) fun n74 => some (.inl n74)) (fun r75 => some (.inr (.inr r75)))  j73) (some (.inr (.inl ())))) 0) fun j76 => Sum.elim (fun _ => some true) (fun r77 => some r77)  j76)
theorem C_ref06_tree {M : List Nat} {w : World} (hM : MLt M w) {t : Tree} {v_t_1 : Value} (f_t_0 : InK .i64 t.weight) (f_t_1 : RdS NodeE M w v_t_1 t.nodes) {traits : Int} (f_traits_0 : InK .i64 traits) {r0 : Bool} (h : P.ref06_tree t traits = some r0) :
  Calls Try.prog 41 (List.toArray [Value.agg (List.toArray [Value.int .i64 t.weight, v_t_1]), Value.int .i64 traits]) w fun e w' => e = .returned (Value.bool r0) ∧ Ext w w' := by
 have hI := Hp.start (Mu := []) hM
 refine calls_cw Try.func41 rfl Try.ntmps41 rfl ?_
 refine cw_seq (cw_regF ?_)
 refine y_box hI rfl rfl rfl ?_
 intro b1 w2 hI3 x4
 have hC6 := hI3.freezeRow 0 rfl
 have hI5 := hI3.erase 0
 refine s_as rfl rfl ?_
 refine Reg.nil ?_
 refine cw_seq ?_
 obtain ⟨j7, h8, h⟩ := bnd h
 refine cw_sub (L := [(1, _), (2, _)]) (Sub.cons rfl (Sub.cons rfl (Sub.nil _))) ?_
 refine cw_seqD 0 (ι := Bool) (fun x9 => [(17, Value.bool x9)]) (fun x9 => fun w10 => Hp w [] M [] w10 ∧ Adv (mm [] M) (mm [] M) w2 w10 ∧ x9 = j7) ?_ ?_
 ·skip
  refine cw_regF ?_
  refine s_fa rfl Try.underlying59 rfl Try.sizeOf3 rfl ?_
  refine s_ld rfl (hC6.cells.at 0 rfl) Try.isAgg3 rfl ?_
  obtain ⟨z13, hz14, h8⟩ := bnd h8
  refine s_call rfl Try.call38 rfl ?_
  refine (C_ref06_within hI5.mlt f_t_0 (by decide) (by decide) hz14).mono ?_
  rintro _ w15 ⟨rfl, e16⟩
  refine ⟨_, rfl, ?_⟩
  have hI17 := hI5.ext e16
  refine s_not rfl rfl ?_
  refine s_mv rfl rfl ?_
  refine Reg.gsplit (t := 11) rfl (fun hg18 => ?_) (fun hg18 => ?_)
  ·replace h8 := cdT hg18 h8
   refine Reg.pass rfl rfl rfl rfl ?_
   refine Reg.pass rfl rfl rfl rfl ?_
   refine Reg.pass rfl rfl rfl rfl ?_
   refine Reg.pass rfl rfl rfl rfl ?_
   refine Reg.pass rfl rfl rfl rfl ?_
   refine s_pkT rfl rfl rfl ?_
   refine Reg.nil ?_
   obtain rfl := Option.some.inj h8
   refine ⟨rfl, true, ⟨hI17, (Adv.of_ext e16), rfl⟩, Sub.cons rfl (Sub.cons rfl (Sub.cons rfl (Sub.nil _)))⟩
  ·replace h8 := cdF hg18 h8
   refine Reg.take rfl rfl ?_
   refine s_fa rfl Try.underlying59 rfl Try.sizeOf57 rfl ?_
   refine Reg.take rfl rfl ?_
   refine s_ld rfl ((hC6.adv (Adv.of_ext e16)).cells.at 1 rfl) Try.isAgg57 rfl ?_
   refine Reg.take rfl rfl ?_
   refine s_len rfl (f_t_1.adv hI17.adv) Try.underlying57 rfl ?_
   refine Reg.take rfl rfl ?_
   obtain ⟨z19, hz20, h8⟩ := bnd h8
   refine s_call rfl Try.call38 rfl ?_
   refine (C_ref06_within hI17.mlt (RdS.inK f_t_1) (by decide) (by decide) hz20).mono ?_
   rintro _ w21 ⟨rfl, e22⟩
   refine ⟨_, rfl, ?_⟩
   have hI23 := hI17.ext e22
   refine Reg.take rfl rfl ?_
   refine s_not rfl rfl ?_
   refine s_pkF rfl rfl rfl ?_
   refine Reg.nil ?_
   obtain rfl := Option.some.inj h8
   refine ⟨rfl, !z19, ⟨hI23, ((Adv.of_ext e16).trans (Adv.of_ext e22)), rfl⟩, Sub.cons rfl (Sub.cons rfl (Sub.cons rfl (Sub.nil _)))⟩
 ·skip
  rintro x9 w10 ⟨hI11, hA12, rfl⟩
  refine cw_cond rfl (fun hc24 => ?_) (fun hc24 => ?_)
  ·replace h := cdT hc24 h
   refine cw_seq (cw_regF ?_)
   refine s_as rfl rfl ?_
   refine Reg.nil ?_
   refine cw_ret ?_
   obtain rfl := Option.some.inj h
   refine fin1 Try.results41 rfl ?_
   exact ⟨rfl, hI11.kp⟩
  ·replace h := cdF hc24 h
   refine cw_skip (cw_seq (cw_seq (cw_regF ?_)))
   refine s_as rfl rfl ?_
   refine Reg.nil ?_
   obtain ⟨j25, h26, h⟩ := bnd h
   refine cw_sub (L := [(1, _), (2, _), (5, _)]) (Sub.cons rfl (Sub.cons rfl (Sub.cons rfl (Sub.nil _)))) ?_
   refine cw_unitD 3 (ι := Unit) (fun _ => []) (fun _ => fun w27 => Hp w [] M [] w27 ∧ Adv (mm [] M) (mm [] M) w10 w27 ∧ (.inl ()) = j25) ?_ ?_
   ·skip
    refine cw_block ?_
    refine cw_sub (L := [(5, _), (1, _), (2, _)]) (Sub.cons rfl (Sub.cons rfl (Sub.cons rfl (Sub.nil _)))) ?_
    refine cw_loopM 1 (ι := Int) _ (fun x30 => [(5, Value.int .i64 x30)]) (fun x30 => x30) (fun x30 => fun w32 => Hp w [] M [] w32 ∧ Adv (mm [] M) (mm [] M) w10 w32 ∧ InK .i64 x30) 0 h26 ⟨hI11, (Adv.refl _ _), (by decide)⟩ (Sub.cons rfl (Sub.cons rfl (Sub.cons rfl (Sub.nil _)))) ?_
    rintro x30 w32 ⟨hI33, hA34, r31⟩ y35 h36 hR37
    refine cw_seq (cw_seq (cw_regF ?_))
    refine s_mv rfl rfl ?_
    refine s_fa rfl Try.underlying59 rfl Try.sizeOf57 rfl ?_
    refine s_ld rfl ((hC6.adv (hA12.trans hA34)).cells.at 1 rfl) Try.isAgg57 rfl ?_
    refine s_len rfl (f_t_1.adv hI33.adv) Try.underlying57 rfl ?_
    refine s_lss rfl rfl rfl ?_
    refine Reg.nil ?_
    refine cw_cond rfl (fun hc38 => ?_) (fun hc38 => ?_)
    ·replace h36 := cdT hc38 h36
     refine cw_skip ?_
     obtain ⟨j39, h40, h36⟩ := bnd h36
     refine cw_sub (L := [(1, _), (2, _), (5, _)]) (Sub.cons rfl (Sub.cons rfl (Sub.cons rfl (Sub.nil _)))) ?_
     refine cw_seqD 0 (ι := Unit) (fun _ => []) (fun _ => fun w41 => Hp w [] M [] w41 ∧ Adv (mm [] M) (mm [] M) w32 w41 ∧ (.inl ()) = j39) ?_ ?_
     ·skip
      refine cw_block ?_
      refine cw_seq (cw_regF ?_)
      refine s_fa rfl Try.underlying59 rfl Try.sizeOf57 rfl ?_
      refine s_ld rfl ((hC6.adv (hA12.trans hA34)).cells.at 1 rfl) Try.isAgg57 rfl ?_
      refine s_mv rfl rfl ?_
      obtain ⟨y44, hy44, h40⟩ := bnd h40
      refine p_ia rfl rfl (f_t_1.adv hI33.adv) hy44 Try.underlying57 Try.sizeOf62 rfl ?_
      intro b45 o46 cs47 hR48 hC49
      obtain ⟨rfl, r50, r51, r52, r53, r54⟩ := NodeE_R.1 hR48
      refine s_lda rfl hC49.cells Try.isAgg62 rfl Try.sizeOf62 rfl ?_
      refine y_al hI33 Try.zeroValue62 rfl rfl ?_
      intro b55 w56 hI57 x58
      refine y_st 0 hI57 rfl rfl rfl rfl Try.sizeOf62 rfl rfl (one1 rfl (one1 rfl (one1 rfl (one1 rfl (one1 rfl one0))))) ?_
      intro w59 hI60 x61
      have hC63 := hI60.freezeRow 0 rfl
      have hI62 := hI60.erase 0
      refine Reg.nil ?_
      refine cw_seq (cw_seq (cw_regF ?_))
      refine s_fa rfl Try.underlying62 rfl Try.sizeOf3 rfl ?_
      refine s_ld rfl (hC63.cells.at 4 rfl) Try.isAgg3 rfl ?_
      obtain ⟨z64, hz65, h40⟩ := bnd h40
      refine s_call rfl Try.call39 rfl ?_
      refine (C_ref06_points hI62.mlt r54 hz65).mono ?_
      rintro _ w66 ⟨rfl, e67⟩
      refine ⟨_, rfl, ?_⟩
      have hI68 := hI62.ext e67
      refine s_not rfl rfl ?_
      refine Reg.nil ?_
      refine cw_cond rfl (fun hc69 => ?_) (fun hc69 => ?_)
      ·replace h40 := cdT hc69 h40
       refine cw_seq (cw_regF ?_)
       refine s_as rfl rfl ?_
       refine Reg.nil ?_
       refine cw_ret ?_
       obtain rfl := Option.some.inj h40
       replace h36 := elimR h36
       obtain rfl := Option.some.inj h36
       obtain rfl := hR37 _ rfl
       replace h := elimR h
       obtain rfl := Option.some.inj h
       refine fin1 Try.results41 rfl ?_
       exact ⟨rfl, hI68.kp⟩
      ·replace h40 := cdF hc69 h40
       refine cw_skip (cw_seq (cw_seq (cw_regF ?_)))
       refine s_fa rfl Try.underlying62 rfl Try.sizeOf3 rfl ?_
       refine s_ld rfl ((hC63.adv (Adv.of_ext e67)).cells.at 0 rfl) Try.isAgg3 rfl ?_
       refine s_eql rfl rfl rfl ?_
       refine Reg.nil ?_
       refine cw_cond rfl (fun hc70 => ?_) (fun hc70 => ?_)
       ·replace h40 := cdT hc70 h40
        refine cw_seq ?_
        obtain ⟨j71, h72, h40⟩ := bnd h40
        refine cw_sub (L := [(6, _), (1, _), (2, _), (5, _)]) (Sub.cons rfl (Sub.cons rfl (Sub.cons rfl (Sub.cons rfl (Sub.nil _))))) ?_
        refine cw_seqD 1 (ι := Bool) (fun x73 => [(49, Value.bool x73)]) (fun x73 => fun w74 => w66 = w74 ∧ x73 = j71) ?_ ?_
        ·skip
         refine cw_regF ?_
         refine s_fa rfl Try.underlying62 rfl Try.sizeOf3 rfl ?_
         refine s_ld rfl ((hC63.adv (Adv.of_ext e67)).cells.at 1 rfl) Try.isAgg3 rfl ?_
         refine s_neq rfl rfl rfl ?_
         refine s_mv rfl rfl ?_
         refine Reg.gsplit (t := 40) rfl (fun hg77 => ?_) (fun hg77 => ?_)
         ·replace h72 := cdT hg77 h72
          refine Reg.pass rfl rfl rfl rfl ?_
          refine Reg.pass rfl rfl rfl rfl ?_
          refine Reg.pass rfl rfl rfl rfl ?_
          refine s_pkT rfl rfl rfl ?_
          refine s_mv rfl rfl ?_
          refine Reg.pass rfl rfl rfl rfl ?_
          refine Reg.pass rfl rfl rfl rfl ?_
          refine Reg.pass rfl rfl rfl rfl ?_
          refine s_pkT rfl rfl rfl ?_
          refine Reg.nil ?_
          obtain rfl := Option.some.inj h72
          refine ⟨rfl, true, ⟨rfl, rfl⟩, Sub.cons rfl (Sub.cons rfl (Sub.cons rfl (Sub.cons rfl (Sub.nil _))))⟩
         ·replace h72 := cdF hg77 h72
          refine Reg.take rfl rfl ?_
          refine s_fa rfl Try.underlying62 rfl Try.sizeOf3 rfl ?_
          refine Reg.take rfl rfl ?_
          refine s_ld rfl ((hC63.adv (Adv.of_ext e67)).cells.at 2 rfl) Try.isAgg3 rfl ?_
          refine Reg.take rfl rfl ?_
          refine s_neq rfl rfl rfl ?_
          refine s_pkF rfl rfl rfl ?_
          refine s_mv rfl rfl ?_
          refine Reg.gsplit (t := 45) rfl (fun hg78 => ?_) (fun hg78 => ?_)
          ·replace h72 := cdT hg78 h72
           refine Reg.pass rfl rfl rfl rfl ?_
           refine Reg.pass rfl rfl rfl rfl ?_
           refine Reg.pass rfl rfl rfl rfl ?_
           refine s_pkT rfl rfl rfl ?_
           refine Reg.nil ?_
           obtain rfl := Option.some.inj h72
           refine ⟨rfl, true, ⟨rfl, rfl⟩, Sub.cons rfl (Sub.cons rfl (Sub.cons rfl (Sub.cons rfl (Sub.nil _))))⟩
          ·replace h72 := cdF hg78 h72
           refine Reg.take rfl rfl ?_
           refine s_fa rfl Try.underlying62 rfl Try.sizeOf3 rfl ?_
           refine Reg.take rfl rfl ?_
           refine s_ld rfl ((hC63.adv (Adv.of_ext e67)).cells.at 3 rfl) Try.isAgg3 rfl ?_
           refine Reg.take rfl rfl ?_
           refine s_neq rfl rfl rfl ?_
           refine s_pkF rfl rfl rfl ?_
           refine Reg.nil ?_
           obtain rfl := Option.some.inj h72
           refine ⟨rfl, !decide (y44.high = 0), ⟨rfl, rfl⟩, Sub.cons rfl (Sub.cons rfl (Sub.cons rfl (Sub.cons rfl (Sub.nil _))))⟩
        ·skip
         rintro x73 _ ⟨rfl, rfl⟩
         refine cw_cond rfl (fun hc79 => ?_) (fun hc79 => ?_)
         ·replace h40 := cdT hc79 h40
          refine cw_seq (cw_regF ?_)
          refine s_as rfl rfl ?_
          refine Reg.nil ?_
          refine cw_ret ?_
          obtain rfl := Option.some.inj h40
          replace h36 := elimR h36
          obtain rfl := Option.some.inj h36
          obtain rfl := hR37 _ rfl
          replace h := elimR h
          obtain rfl := Option.some.inj h
          refine fin1 Try.results41 rfl ?_
          exact ⟨rfl, hI68.kp⟩
         ·replace h40 := cdF hc79 h40
          refine cw_skip ?_
          refine cw_exit ?_
          refine exB_same ?_
          obtain rfl := Option.some.inj h40
          refine ⟨rfl, (), ⟨hI68, (x58.trans (x61.trans ((Hp.eraseA (σ := [rowR 62 b55 [Value.int .i64 y44.trait, Value.int .i64 y44.cut, Value.int .i64 y44.low, Value.int .i64 y44.high, Value.int .i64 y44.points]]) 0).trans (Adv.of_ext e67)))), rfl⟩, Sub.cons rfl (Sub.cons rfl (Sub.cons rfl (Sub.nil _)))⟩
       ·replace h40 := cdF hc70 h40
        refine cw_skip ?_
        obtain ⟨j80, h81, h40⟩ := bnd h40
        refine cw_sub (L := [(6, _), (1, _), (2, _), (5, _)]) (Sub.cons rfl (Sub.cons rfl (Sub.cons rfl (Sub.cons rfl (Sub.nil _))))) ?_
        refine cw_seqD 1 (ι := Bool) (fun x82 => [(101, Value.bool x82)]) (fun x82 => fun w83 => Hp w [] M [] w83 ∧ Adv (mm [] M) (mm [] M) w66 w83 ∧ x82 = j80) ?_ ?_
        ·skip
         refine cw_regF ?_
         refine s_fa rfl Try.underlying62 rfl Try.sizeOf3 rfl ?_
         refine s_ld rfl ((hC63.adv (Adv.of_ext e67)).cells.at 0 rfl) Try.isAgg3 rfl ?_
         refine s_mv rfl rfl ?_
         obtain ⟨n86, hn86, h81⟩ := bnd h81
         replace hn86 := chk_out hn86
         refine p_sub rfl rfl rfl hn86 ?_
         obtain ⟨z87, hz88, h81⟩ := bnd h81
         refine s_call rfl Try.call38 rfl ?_
         refine (C_ref06_within hI68.mlt r50 (by decide) hn86.2 hz88).mono ?_
         rintro _ w89 ⟨rfl, e90⟩
         refine ⟨_, rfl, ?_⟩
         have hI91 := hI68.ext e90
         refine s_not rfl rfl ?_
         refine s_mv rfl rfl ?_
         refine Reg.gsplit (t := 56) rfl (fun hg92 => ?_) (fun hg92 => ?_)
         ·replace h81 := cdT hg92 h81
          refine Reg.pass rfl rfl rfl rfl ?_
          refine Reg.pass rfl rfl rfl rfl ?_
          refine Reg.pass rfl rfl rfl rfl ?_
          refine Reg.pass rfl rfl rfl rfl ?_
          refine s_pkT rfl rfl rfl ?_
          refine s_mv rfl rfl ?_
          refine Reg.pass rfl rfl rfl rfl ?_
          refine Reg.pass rfl rfl rfl rfl ?_
          refine Reg.pass rfl rfl rfl rfl ?_
          refine Reg.pass rfl rfl rfl rfl ?_
          refine s_pkT rfl rfl rfl ?_
          refine s_mv rfl rfl ?_
          refine Reg.pass rfl rfl rfl rfl ?_
          refine Reg.pass rfl rfl rfl rfl ?_
          refine Reg.pass rfl rfl rfl rfl ?_
          refine Reg.pass rfl rfl rfl rfl ?_
          refine s_pkT rfl rfl rfl ?_
          refine s_mv rfl rfl ?_
          refine Reg.pass rfl rfl rfl rfl ?_
          refine Reg.pass rfl rfl rfl rfl ?_
          refine Reg.pass rfl rfl rfl rfl ?_
          refine Reg.pass rfl rfl rfl rfl ?_
          refine Reg.pass rfl rfl rfl rfl ?_
          refine Reg.pass rfl rfl rfl rfl ?_
          refine s_pkT rfl rfl rfl ?_
          refine s_mv rfl rfl ?_
          refine Reg.pass rfl rfl rfl rfl ?_
          refine Reg.pass rfl rfl rfl rfl ?_
          refine Reg.pass rfl rfl rfl rfl ?_
          refine Reg.pass rfl rfl rfl rfl ?_
          refine Reg.pass rfl rfl rfl rfl ?_
          refine Reg.pass rfl rfl rfl rfl ?_
          refine s_pkT rfl rfl rfl ?_
          refine s_mv rfl rfl ?_
          refine Reg.pass rfl rfl rfl rfl ?_
          refine Reg.pass rfl rfl rfl rfl ?_
          refine Reg.pass rfl rfl rfl rfl ?_
          refine Reg.pass rfl rfl rfl rfl ?_
          refine Reg.pass rfl rfl rfl rfl ?_
          refine s_pkT rfl rfl rfl ?_
          refine s_mv rfl rfl ?_
          refine Reg.pass rfl rfl rfl rfl ?_
          refine Reg.pass rfl rfl rfl rfl ?_
          refine Reg.pass rfl rfl rfl rfl ?_
          refine s_pkT rfl rfl rfl ?_
          refine Reg.nil ?_
          obtain rfl := Option.some.inj h81
          refine ⟨rfl, true, ⟨hI91, (Adv.of_ext e90), rfl⟩, Sub.cons rfl (Sub.cons rfl (Sub.cons rfl (Sub.cons rfl (Sub.nil _))))⟩
         ·replace h81 := cdF hg92 h81
          refine Reg.take rfl rfl ?_
          refine s_fa rfl Try.underlying62 rfl Try.sizeOf3 rfl ?_
          refine Reg.take rfl rfl ?_
          refine s_ld rfl ((hC63.adv ((Adv.of_ext e67).trans (Adv.of_ext e90))).cells.at 1 rfl) Try.isAgg3 rfl ?_
          refine Reg.take rfl rfl ?_
          obtain ⟨z93, hz94, h81⟩ := bnd h81
          refine s_call rfl Try.call38 rfl ?_
          refine (C_ref06_within hI91.mlt r51 (by decide) (by decide) hz94).mono ?_
          rintro _ w95 ⟨rfl, e96⟩
          refine ⟨_, rfl, ?_⟩
          have hI97 := hI91.ext e96
          refine Reg.take rfl rfl ?_
          refine s_not rfl rfl ?_
          refine s_pkF rfl rfl rfl ?_
          refine s_mv rfl rfl ?_
          refine Reg.gsplit (t := 62) rfl (fun hg98 => ?_) (fun hg98 => ?_)
          ·replace h81 := cdT hg98 h81
           refine Reg.pass rfl rfl rfl rfl ?_
           refine Reg.pass rfl rfl rfl rfl ?_
           refine Reg.pass rfl rfl rfl rfl ?_
           refine Reg.pass rfl rfl rfl rfl ?_
           refine s_pkT rfl rfl rfl ?_
           refine s_mv rfl rfl ?_
           refine Reg.pass rfl rfl rfl rfl ?_
           refine Reg.pass rfl rfl rfl rfl ?_
           refine Reg.pass rfl rfl rfl rfl ?_
           refine Reg.pass rfl rfl rfl rfl ?_
           refine s_pkT rfl rfl rfl ?_
           refine s_mv rfl rfl ?_
           refine Reg.pass rfl rfl rfl rfl ?_
           refine Reg.pass rfl rfl rfl rfl ?_
           refine Reg.pass rfl rfl rfl rfl ?_
           refine Reg.pass rfl rfl rfl rfl ?_
           refine Reg.pass rfl rfl rfl rfl ?_
           refine Reg.pass rfl rfl rfl rfl ?_
           refine s_pkT rfl rfl rfl ?_
           refine s_mv rfl rfl ?_
           refine Reg.pass rfl rfl rfl rfl ?_
           refine Reg.pass rfl rfl rfl rfl ?_
           refine Reg.pass rfl rfl rfl rfl ?_
           refine Reg.pass rfl rfl rfl rfl ?_
           refine Reg.pass rfl rfl rfl rfl ?_
           refine Reg.pass rfl rfl rfl rfl ?_
           refine s_pkT rfl rfl rfl ?_
           refine s_mv rfl rfl ?_
           refine Reg.pass rfl rfl rfl rfl ?_
           refine Reg.pass rfl rfl rfl rfl ?_
           refine Reg.pass rfl rfl rfl rfl ?_
           refine Reg.pass rfl rfl rfl rfl ?_
           refine Reg.pass rfl rfl rfl rfl ?_
           refine s_pkT rfl rfl rfl ?_
           refine s_mv rfl rfl ?_
           refine Reg.pass rfl rfl rfl rfl ?_
           refine Reg.pass rfl rfl rfl rfl ?_
           refine Reg.pass rfl rfl rfl rfl ?_
           refine s_pkT rfl rfl rfl ?_
           refine Reg.nil ?_
           obtain rfl := Option.some.inj h81
           refine ⟨rfl, true, ⟨hI97, ((Adv.of_ext e90).trans (Adv.of_ext e96)), rfl⟩, Sub.cons rfl (Sub.cons rfl (Sub.cons rfl (Sub.cons rfl (Sub.nil _))))⟩
          ·replace h81 := cdF hg98 h81
           refine Reg.take rfl rfl ?_
           refine s_fa rfl Try.underlying62 rfl Try.sizeOf3 rfl ?_
           refine Reg.take rfl rfl ?_
           refine s_ld rfl ((hC63.adv ((Adv.of_ext e67).trans ((Adv.of_ext e90).trans (Adv.of_ext e96)))).cells.at 2 rfl) Try.isAgg3 rfl ?_
           refine Reg.take rfl rfl ?_
           refine s_mv rfl rfl ?_
           refine Reg.take rfl rfl ?_
           refine s_leq rfl rfl rfl ?_
           refine s_pkF rfl rfl rfl ?_
           refine s_mv rfl rfl ?_
           refine Reg.gsplit (t := 68) rfl (fun hg99 => ?_) (fun hg99 => ?_)
           ·replace h81 := cdT hg99 h81
            refine Reg.pass rfl rfl rfl rfl ?_
            refine Reg.pass rfl rfl rfl rfl ?_
            refine Reg.pass rfl rfl rfl rfl ?_
            refine Reg.pass rfl rfl rfl rfl ?_
            refine s_pkT rfl rfl rfl ?_
            refine s_mv rfl rfl ?_
            refine Reg.pass rfl rfl rfl rfl ?_
            refine Reg.pass rfl rfl rfl rfl ?_
            refine Reg.pass rfl rfl rfl rfl ?_
            refine Reg.pass rfl rfl rfl rfl ?_
            refine Reg.pass rfl rfl rfl rfl ?_
            refine Reg.pass rfl rfl rfl rfl ?_
            refine s_pkT rfl rfl rfl ?_
            refine s_mv rfl rfl ?_
            refine Reg.pass rfl rfl rfl rfl ?_
            refine Reg.pass rfl rfl rfl rfl ?_
            refine Reg.pass rfl rfl rfl rfl ?_
            refine Reg.pass rfl rfl rfl rfl ?_
            refine Reg.pass rfl rfl rfl rfl ?_
            refine Reg.pass rfl rfl rfl rfl ?_
            refine s_pkT rfl rfl rfl ?_
            refine s_mv rfl rfl ?_
            refine Reg.pass rfl rfl rfl rfl ?_
            refine Reg.pass rfl rfl rfl rfl ?_
            refine Reg.pass rfl rfl rfl rfl ?_
            refine Reg.pass rfl rfl rfl rfl ?_
            refine Reg.pass rfl rfl rfl rfl ?_
            refine s_pkT rfl rfl rfl ?_
            refine s_mv rfl rfl ?_
            refine Reg.pass rfl rfl rfl rfl ?_
            refine Reg.pass rfl rfl rfl rfl ?_
            refine Reg.pass rfl rfl rfl rfl ?_
            refine s_pkT rfl rfl rfl ?_
            refine Reg.nil ?_
            obtain rfl := Option.some.inj h81
            refine ⟨rfl, true, ⟨hI97, ((Adv.of_ext e90).trans (Adv.of_ext e96)), rfl⟩, Sub.cons rfl (Sub.cons rfl (Sub.cons rfl (Sub.cons rfl (Sub.nil _))))⟩
           ·replace h81 := cdF hg99 h81
            refine Reg.take rfl rfl ?_
            refine s_fa rfl Try.underlying62 rfl Try.sizeOf3 rfl ?_
            refine Reg.take rfl rfl ?_
            refine s_ld rfl ((hC63.adv ((Adv.of_ext e67).trans ((Adv.of_ext e90).trans (Adv.of_ext e96)))).cells.at 3 rfl) Try.isAgg3 rfl ?_
            refine Reg.take rfl rfl ?_
            refine s_mv rfl rfl ?_
            refine Reg.take rfl rfl ?_
            refine s_leq rfl rfl rfl ?_
            refine s_pkF rfl rfl rfl ?_
            refine s_mv rfl rfl ?_
            refine Reg.gsplit (t := 74) rfl (fun hg100 => ?_) (fun hg100 => ?_)
            ·replace h81 := cdT hg100 h81
             refine Reg.pass rfl rfl rfl rfl ?_
             refine Reg.pass rfl rfl rfl rfl ?_
             refine Reg.pass rfl rfl rfl rfl ?_
             refine Reg.pass rfl rfl rfl rfl ?_
             refine Reg.pass rfl rfl rfl rfl ?_
             refine Reg.pass rfl rfl rfl rfl ?_
             refine s_pkT rfl rfl rfl ?_
             refine s_mv rfl rfl ?_
             refine Reg.pass rfl rfl rfl rfl ?_
             refine Reg.pass rfl rfl rfl rfl ?_
             refine Reg.pass rfl rfl rfl rfl ?_
             refine Reg.pass rfl rfl rfl rfl ?_
             refine Reg.pass rfl rfl rfl rfl ?_
             refine Reg.pass rfl rfl rfl rfl ?_
             refine s_pkT rfl rfl rfl ?_
             refine s_mv rfl rfl ?_
             refine Reg.pass rfl rfl rfl rfl ?_
             refine Reg.pass rfl rfl rfl rfl ?_
             refine Reg.pass rfl rfl rfl rfl ?_
             refine Reg.pass rfl rfl rfl rfl ?_
             refine Reg.pass rfl rfl rfl rfl ?_
             refine s_pkT rfl rfl rfl ?_
             refine s_mv rfl rfl ?_
             refine Reg.pass rfl rfl rfl rfl ?_
             refine Reg.pass rfl rfl rfl rfl ?_
             refine Reg.pass rfl rfl rfl rfl ?_
             refine s_pkT rfl rfl rfl ?_
             refine Reg.nil ?_
             obtain rfl := Option.some.inj h81
             refine ⟨rfl, true, ⟨hI97, ((Adv.of_ext e90).trans (Adv.of_ext e96)), rfl⟩, Sub.cons rfl (Sub.cons rfl (Sub.cons rfl (Sub.cons rfl (Sub.nil _))))⟩
            ·replace h81 := cdF hg100 h81
             refine Reg.take rfl rfl ?_
             refine s_fa rfl Try.underlying62 rfl Try.sizeOf3 rfl ?_
             refine Reg.take rfl rfl ?_
             refine s_ld rfl ((hC63.adv ((Adv.of_ext e67).trans ((Adv.of_ext e90).trans (Adv.of_ext e96)))).cells.at 2 rfl) Try.isAgg3 rfl ?_
             refine Reg.take rfl rfl ?_
             refine s_fa rfl Try.underlying59 rfl Try.sizeOf57 rfl ?_
             refine Reg.take rfl rfl ?_
             refine s_ld rfl ((hC6.adv (hA12.trans (hA34.trans (x58.trans (x61.trans ((Hp.eraseA (σ := [rowR 62 b55 [Value.int .i64 y44.trait, Value.int .i64 y44.cut, Value.int .i64 y44.low, Value.int .i64 y44.high, Value.int .i64 y44.points]]) 0).trans ((Adv.of_ext e67).trans ((Adv.of_ext e90).trans (Adv.of_ext e96))))))))).cells.at 1 rfl) Try.isAgg57 rfl ?_
             refine Reg.take rfl rfl ?_
             refine s_len rfl (f_t_1.adv hI97.adv) Try.underlying57 rfl ?_
             refine Reg.take rfl rfl ?_
             refine s_geq rfl rfl rfl ?_
             refine s_pkF rfl rfl rfl ?_
             refine s_mv rfl rfl ?_
             refine Reg.gsplit (t := 82) rfl (fun hg101 => ?_) (fun hg101 => ?_)
             ·replace h81 := cdT hg101 h81
              refine Reg.pass rfl rfl rfl rfl ?_
              refine Reg.pass rfl rfl rfl rfl ?_
              refine Reg.pass rfl rfl rfl rfl ?_
              refine Reg.pass rfl rfl rfl rfl ?_
              refine Reg.pass rfl rfl rfl rfl ?_
              refine Reg.pass rfl rfl rfl rfl ?_
              refine s_pkT rfl rfl rfl ?_
              refine s_mv rfl rfl ?_
              refine Reg.pass rfl rfl rfl rfl ?_
              refine Reg.pass rfl rfl rfl rfl ?_
              refine Reg.pass rfl rfl rfl rfl ?_
              refine Reg.pass rfl rfl rfl rfl ?_
              refine Reg.pass rfl rfl rfl rfl ?_
              refine s_pkT rfl rfl rfl ?_
              refine s_mv rfl rfl ?_
              refine Reg.pass rfl rfl rfl rfl ?_
              refine Reg.pass rfl rfl rfl rfl ?_
              refine Reg.pass rfl rfl rfl rfl ?_
              refine s_pkT rfl rfl rfl ?_
              refine Reg.nil ?_
              obtain rfl := Option.some.inj h81
              refine ⟨rfl, true, ⟨hI97, ((Adv.of_ext e90).trans (Adv.of_ext e96)), rfl⟩, Sub.cons rfl (Sub.cons rfl (Sub.cons rfl (Sub.cons rfl (Sub.nil _))))⟩
             ·replace h81 := cdF hg101 h81
              refine Reg.take rfl rfl ?_
              refine s_fa rfl Try.underlying62 rfl Try.sizeOf3 rfl ?_
              refine Reg.take rfl rfl ?_
              refine s_ld rfl ((hC63.adv ((Adv.of_ext e67).trans ((Adv.of_ext e90).trans (Adv.of_ext e96)))).cells.at 3 rfl) Try.isAgg3 rfl ?_
              refine Reg.take rfl rfl ?_
              refine s_fa rfl Try.underlying59 rfl Try.sizeOf57 rfl ?_
              refine Reg.take rfl rfl ?_
              refine s_ld rfl ((hC6.adv (hA12.trans (hA34.trans (x58.trans (x61.trans ((Hp.eraseA (σ := [rowR 62 b55 [Value.int .i64 y44.trait, Value.int .i64 y44.cut, Value.int .i64 y44.low, Value.int .i64 y44.high, Value.int .i64 y44.points]]) 0).trans ((Adv.of_ext e67).trans ((Adv.of_ext e90).trans (Adv.of_ext e96))))))))).cells.at 1 rfl) Try.isAgg57 rfl ?_
              refine Reg.take rfl rfl ?_
              refine s_len rfl (f_t_1.adv hI97.adv) Try.underlying57 rfl ?_
              refine Reg.take rfl rfl ?_
              refine s_geq rfl rfl rfl ?_
              refine s_pkF rfl rfl rfl ?_
              refine s_mv rfl rfl ?_
              refine Reg.gsplit (t := 90) rfl (fun hg102 => ?_) (fun hg102 => ?_)
              ·replace h81 := cdT hg102 h81
               refine Reg.pass rfl rfl rfl rfl ?_
               refine Reg.pass rfl rfl rfl rfl ?_
               refine Reg.pass rfl rfl rfl rfl ?_
               refine Reg.pass rfl rfl rfl rfl ?_
               refine Reg.pass rfl rfl rfl rfl ?_
               refine s_pkT rfl rfl rfl ?_
               refine s_mv rfl rfl ?_
               refine Reg.pass rfl rfl rfl rfl ?_
               refine Reg.pass rfl rfl rfl rfl ?_
               refine Reg.pass rfl rfl rfl rfl ?_
               refine s_pkT rfl rfl rfl ?_
               refine Reg.nil ?_
               obtain rfl := Option.some.inj h81
               refine ⟨rfl, true, ⟨hI97, ((Adv.of_ext e90).trans (Adv.of_ext e96)), rfl⟩, Sub.cons rfl (Sub.cons rfl (Sub.cons rfl (Sub.cons rfl (Sub.nil _))))⟩
              ·replace h81 := cdF hg102 h81
               refine Reg.take rfl rfl ?_
               refine s_fa rfl Try.underlying62 rfl Try.sizeOf3 rfl ?_
               refine Reg.take rfl rfl ?_
               refine s_ld rfl ((hC63.adv ((Adv.of_ext e67).trans ((Adv.of_ext e90).trans (Adv.of_ext e96)))).cells.at 2 rfl) Try.isAgg3 rfl ?_
               refine Reg.take rfl rfl ?_
               refine s_fa rfl Try.underlying62 rfl Try.sizeOf3 rfl ?_
               refine Reg.take rfl rfl ?_
               refine s_ld rfl ((hC63.adv ((Adv.of_ext e67).trans ((Adv.of_ext e90).trans (Adv.of_ext e96)))).cells.at 3 rfl) Try.isAgg3 rfl ?_
               refine Reg.take rfl rfl ?_
               refine s_eql rfl rfl rfl ?_
               refine s_pkF rfl rfl rfl ?_
               refine s_mv rfl rfl ?_
               refine Reg.gsplit (t := 97) rfl (fun hg103 => ?_) (fun hg103 => ?_)
               ·replace h81 := cdT hg103 h81
                refine Reg.pass rfl rfl rfl rfl ?_
                refine Reg.pass rfl rfl rfl rfl ?_
                refine Reg.pass rfl rfl rfl rfl ?_
                refine s_pkT rfl rfl rfl ?_
                refine Reg.nil ?_
                obtain rfl := Option.some.inj h81
                refine ⟨rfl, true, ⟨hI97, ((Adv.of_ext e90).trans (Adv.of_ext e96)), rfl⟩, Sub.cons rfl (Sub.cons rfl (Sub.cons rfl (Sub.cons rfl (Sub.nil _))))⟩
               ·replace h81 := cdF hg103 h81
                refine Reg.take rfl rfl ?_
                refine s_fa rfl Try.underlying62 rfl Try.sizeOf3 rfl ?_
                refine Reg.take rfl rfl ?_
                refine s_ld rfl ((hC63.adv ((Adv.of_ext e67).trans ((Adv.of_ext e90).trans (Adv.of_ext e96)))).cells.at 4 rfl) Try.isAgg3 rfl ?_
                refine Reg.take rfl rfl ?_
                refine s_neq rfl rfl rfl ?_
                refine s_pkF rfl rfl rfl ?_
                refine Reg.nil ?_
                obtain rfl := Option.some.inj h81
                refine ⟨rfl, !decide (y44.points = 0), ⟨hI97, ((Adv.of_ext e90).trans (Adv.of_ext e96)), rfl⟩, Sub.cons rfl (Sub.cons rfl (Sub.cons rfl (Sub.cons rfl (Sub.nil _))))⟩
        ·skip
         rintro x82 w83 ⟨hI84, hA85, rfl⟩
         refine cw_cond rfl (fun hc104 => ?_) (fun hc104 => ?_)
         ·replace h40 := cdT hc104 h40
          refine cw_seq (cw_regF ?_)
          refine s_as rfl rfl ?_
          refine Reg.nil ?_
          refine cw_ret ?_
          obtain rfl := Option.some.inj h40
          replace h36 := elimR h36
          obtain rfl := Option.some.inj h36
          obtain rfl := hR37 _ rfl
          replace h := elimR h
          obtain rfl := Option.some.inj h
          refine fin1 Try.results41 rfl ?_
          exact ⟨rfl, hI84.kp⟩
         ·replace h40 := cdF hc104 h40
          refine cw_skip ?_
          obtain rfl := Option.some.inj h40
          refine ⟨rfl, (), ⟨hI84, (x58.trans (x61.trans ((Hp.eraseA (σ := [rowR 62 b55 [Value.int .i64 y44.trait, Value.int .i64 y44.cut, Value.int .i64 y44.low, Value.int .i64 y44.high, Value.int .i64 y44.points]]) 0).trans ((Adv.of_ext e67).trans hA85)))), rfl⟩, Sub.cons rfl (Sub.cons rfl (Sub.cons rfl (Sub.nil _)))⟩
     ·skip
      rintro _ w41 ⟨hI42, hA43, rfl⟩
      replace h36 := elimL h36
      refine cw_regF ?_
      refine s_mv rfl rfl ?_
      obtain ⟨n105, hn105, h36⟩ := bnd h36
      replace hn105 := chk_out hn105
      refine p_add rfl rfl rfl hn105 ?_
      refine s_as rfl rfl ?_
      refine Reg.nil ?_
      obtain rfl := Option.some.inj h36
      refine ⟨rfl, n105, ⟨⟨hI42, (hA34.trans hA43), hn105.2⟩, rfl⟩, Sub.cons rfl (Sub.cons rfl (Sub.cons rfl (Sub.nil _)))⟩
    ·replace h36 := cdF hc38 h36
     refine cw_exit ?_
     refine exB_same ?_
     obtain rfl := Option.some.inj h36
     obtain rfl := hR37 _ rfl
     refine ⟨rfl, (), ⟨hI33, hA34, rfl⟩, Sub.nil _⟩
   ·skip
    rintro _ w27 ⟨hI28, hA29, rfl⟩
    replace h := elimL h
    refine cw_seq (cw_regF ?_)
    refine s_as rfl rfl ?_
    refine Reg.nil ?_
    refine cw_ret ?_
    obtain rfl := Option.some.inj h
    refine fin1 Try.results41 rfl ?_
    exact ⟨rfl, hI28.kp⟩
noncomputable def P.ref06_Check (m : Model) : Option Int :=
 Option.bind (Option.bind (P.ref06_within m.traits 1 5) fun z7 => cond (!z7) (some true) (Option.bind (P.ref06_points m.need) fun z13 => cond (!z13) (some true) (cond (decide (2 < (m.cards.length : Int))) (some true) (some (decide (2 < (m.trees.length : Int))))))) fun x20 => cond x20 (some 60) (Option.bind (loopM (S := Int) (R := (Unit) ⊕ (Int)) (fun x22 => cond (decide (x22 < (m.cards.length : Int))) (Option.bind (ixo m.cards x22) fun y24 => Option.bind (P.ref06_card y24 m.traits) fun z34 => cond (!z34) (some (.inr (.inr 60))) (Option.bind (chk .i64 (x22 + 1)) fun n42 => some (.inl n42))) (some (.inr (.inl ())))) 0) fun j43 => Sum.elim (fun _ => Option.bind (loopM (S := Int) (R := (Unit) ⊕ (Int)) (fun x44 => cond (decide (x44 < (m.trees.length : Int))) (Option.bind (ixo m.trees x44) fun y46 => Option.bind (P.ref06_tree y46 m.traits) fun z55 => cond (!z55) (some (.inr (.inr 60))) (Option.bind (chk .i64 (x44 + 1)) fun n63 => some (.inl n63))) (some (.inr (.inl ())))) 0) fun j64 => Sum.elim (fun _ => some 0) (fun r65 => some r65)  j64) (fun r66 => some r66)  j43)
theorem C_ref06_Check {M : List Nat} {w : World} (hM : MLt M w) {m : Model} {v_m_1 : Value} {v_m_2 : Value} (f_m_0 : InK .i64 m.traits) (f_m_1 : RdS CardE M w v_m_1 m.cards) (f_m_2 : RdS TreeE M w v_m_2 m.trees) (f_m_3 : InK .i64 m.need) {r0 : Int} (h : P.ref06_Check m = some r0) :
  Calls Try.prog 19 (List.toArray [Value.agg (List.toArray [Value.int .i64 m.traits, v_m_1, v_m_2, Value.int .i64 m.need])]) w fun e w' => e = .returned (Value.int .i64 r0) ∧ InK .i64 r0 ∧ Ext w w' := by
 have hI := Hp.start (Mu := []) hM
 refine calls_cw Try.func19 rfl Try.ntmps19 rfl ?_
 refine cw_seq (cw_regF ?_)
 refine y_box hI rfl rfl rfl ?_
 intro b1 w2 hI3 x4
 have hC6 := hI3.freezeRow 0 rfl
 have hI5 := hI3.erase 0
 refine s_as rfl rfl ?_
 refine Reg.nil ?_
 refine cw_seq ?_
 obtain ⟨j7, h8, h⟩ := bnd h
 refine cw_sub (L := [(1, _)]) (Sub.cons rfl (Sub.nil _)) ?_
 refine cw_seqD 0 (ι := Bool) (fun x9 => [(26, Value.bool x9)]) (fun x9 => fun w10 => Hp w [] M [] w10 ∧ Adv (mm [] M) (mm [] M) w2 w10 ∧ x9 = j7) ?_ ?_
 ·skip
  refine cw_regF ?_
  refine s_fa rfl Try.underlying25 rfl Try.sizeOf3 rfl ?_
  refine s_ld rfl (hC6.cells.at 0 rfl) Try.isAgg3 rfl ?_
  obtain ⟨z13, hz14, h8⟩ := bnd h8
  refine s_call rfl Try.call38 rfl ?_
  refine (C_ref06_within hI5.mlt f_m_0 (by decide) (by decide) hz14).mono ?_
  rintro _ w15 ⟨rfl, e16⟩
  refine ⟨_, rfl, ?_⟩
  have hI17 := hI5.ext e16
  refine s_not rfl rfl ?_
  refine s_mv rfl rfl ?_
  refine Reg.gsplit (t := 9) rfl (fun hg18 => ?_) (fun hg18 => ?_)
  ·replace h8 := cdT hg18 h8
   refine Reg.pass rfl rfl rfl rfl ?_
   refine Reg.pass rfl rfl rfl rfl ?_
   refine Reg.pass rfl rfl rfl rfl ?_
   refine Reg.pass rfl rfl rfl rfl ?_
   refine s_pkT rfl rfl rfl ?_
   refine s_mv rfl rfl ?_
   refine Reg.pass rfl rfl rfl rfl ?_
   refine Reg.pass rfl rfl rfl rfl ?_
   refine Reg.pass rfl rfl rfl rfl ?_
   refine Reg.pass rfl rfl rfl rfl ?_
   refine s_pkT rfl rfl rfl ?_
   refine s_mv rfl rfl ?_
   refine Reg.pass rfl rfl rfl rfl ?_
   refine Reg.pass rfl rfl rfl rfl ?_
   refine Reg.pass rfl rfl rfl rfl ?_
   refine Reg.pass rfl rfl rfl rfl ?_
   refine s_pkT rfl rfl rfl ?_
   refine Reg.nil ?_
   obtain rfl := Option.some.inj h8
   refine ⟨rfl, true, ⟨hI17, (Adv.of_ext e16), rfl⟩, Sub.cons rfl (Sub.cons rfl (Sub.nil _))⟩
  ·replace h8 := cdF hg18 h8
   refine Reg.take rfl rfl ?_
   refine s_fa rfl Try.underlying25 rfl Try.sizeOf3 rfl ?_
   refine Reg.take rfl rfl ?_
   refine s_ld rfl ((hC6.adv (Adv.of_ext e16)).cells.at 3 rfl) Try.isAgg3 rfl ?_
   refine Reg.take rfl rfl ?_
   obtain ⟨z19, hz20, h8⟩ := bnd h8
   refine s_call rfl Try.call39 rfl ?_
   refine (C_ref06_points hI17.mlt f_m_3 hz20).mono ?_
   rintro _ w21 ⟨rfl, e22⟩
   refine ⟨_, rfl, ?_⟩
   have hI23 := hI17.ext e22
   refine Reg.take rfl rfl ?_
   refine s_not rfl rfl ?_
   refine s_pkF rfl rfl rfl ?_
   refine s_mv rfl rfl ?_
   refine Reg.gsplit (t := 15) rfl (fun hg24 => ?_) (fun hg24 => ?_)
   ·replace h8 := cdT hg24 h8
    refine Reg.pass rfl rfl rfl rfl ?_
    refine Reg.pass rfl rfl rfl rfl ?_
    refine Reg.pass rfl rfl rfl rfl ?_
    refine Reg.pass rfl rfl rfl rfl ?_
    refine s_pkT rfl rfl rfl ?_
    refine s_mv rfl rfl ?_
    refine Reg.pass rfl rfl rfl rfl ?_
    refine Reg.pass rfl rfl rfl rfl ?_
    refine Reg.pass rfl rfl rfl rfl ?_
    refine Reg.pass rfl rfl rfl rfl ?_
    refine s_pkT rfl rfl rfl ?_
    refine Reg.nil ?_
    obtain rfl := Option.some.inj h8
    refine ⟨rfl, true, ⟨hI23, ((Adv.of_ext e16).trans (Adv.of_ext e22)), rfl⟩, Sub.cons rfl (Sub.cons rfl (Sub.nil _))⟩
   ·replace h8 := cdF hg24 h8
    refine Reg.take rfl rfl ?_
    refine s_fa rfl Try.underlying25 rfl Try.sizeOf22 rfl ?_
    refine Reg.take rfl rfl ?_
    refine s_ld rfl ((hC6.adv ((Adv.of_ext e16).trans (Adv.of_ext e22))).cells.at 1 rfl) Try.isAgg22 rfl ?_
    refine Reg.take rfl rfl ?_
    refine s_len rfl (f_m_1.adv hI23.adv) Try.underlying22 rfl ?_
    refine Reg.take rfl rfl ?_
    refine s_gtr rfl rfl rfl ?_
    refine s_pkF rfl rfl rfl ?_
    refine s_mv rfl rfl ?_
    refine Reg.gsplit (t := 21) rfl (fun hg25 => ?_) (fun hg25 => ?_)
    ·replace h8 := cdT hg25 h8
     refine Reg.pass rfl rfl rfl rfl ?_
     refine Reg.pass rfl rfl rfl rfl ?_
     refine Reg.pass rfl rfl rfl rfl ?_
     refine Reg.pass rfl rfl rfl rfl ?_
     refine s_pkT rfl rfl rfl ?_
     refine Reg.nil ?_
     obtain rfl := Option.some.inj h8
     refine ⟨rfl, true, ⟨hI23, ((Adv.of_ext e16).trans (Adv.of_ext e22)), rfl⟩, Sub.cons rfl (Sub.cons rfl (Sub.nil _))⟩
    ·replace h8 := cdF hg25 h8
     refine Reg.take rfl rfl ?_
     refine s_fa rfl Try.underlying25 rfl Try.sizeOf23 rfl ?_
     refine Reg.take rfl rfl ?_
     refine s_ld rfl ((hC6.adv ((Adv.of_ext e16).trans (Adv.of_ext e22))).cells.at 2 rfl) Try.isAgg23 rfl ?_
     refine Reg.take rfl rfl ?_
     refine s_len rfl (f_m_2.adv hI23.adv) Try.underlying23 rfl ?_
     refine Reg.take rfl rfl ?_
     refine s_gtr rfl rfl rfl ?_
     refine s_pkF rfl rfl rfl ?_
     refine Reg.nil ?_
     obtain rfl := Option.some.inj h8
     refine ⟨rfl, decide (2 < (m.trees.length : Int)), ⟨hI23, ((Adv.of_ext e16).trans (Adv.of_ext e22)), rfl⟩, Sub.cons rfl (Sub.cons rfl (Sub.nil _))⟩
 ·skip
  rintro x9 w10 ⟨hI11, hA12, rfl⟩
  refine cw_cond rfl (fun hc26 => ?_) (fun hc26 => ?_)
  ·replace h := cdT hc26 h
   refine cw_seq (cw_regF ?_)
   refine s_as rfl rfl ?_
   refine Reg.nil ?_
   refine cw_ret ?_
   obtain rfl := Option.some.inj h
   refine fin1 Try.results19 rfl ?_
   exact ⟨rfl, (by decide), hI11.kp⟩
  ·replace h := cdF hc26 h
   refine cw_skip (cw_seq (cw_seq (cw_regF ?_)))
   refine s_as rfl rfl ?_
   refine Reg.nil ?_
   obtain ⟨j27, h28, h⟩ := bnd h
   refine cw_sub (L := [(3, _), (1, _)]) (Sub.cons rfl (Sub.cons rfl (Sub.nil _))) ?_
   refine cw_unitD 1 (ι := Unit) (fun _ => []) (fun _ => fun w29 => Hp w [] M [] w29 ∧ Adv (mm [] M) (mm [] M) w10 w29 ∧ (.inl ()) = j27) ?_ ?_
   ·skip
    refine cw_block ?_
    refine cw_sub (L := [(3, _), (1, _)]) (Sub.cons rfl (Sub.cons rfl (Sub.nil _))) ?_
    refine cw_loopM 1 (ι := Int) _ (fun x32 => [(3, Value.int .i64 x32)]) (fun x32 => x32) (fun x32 => fun w34 => Hp w [] M [] w34 ∧ Adv (mm [] M) (mm [] M) w10 w34 ∧ InK .i64 x32) 0 h28 ⟨hI11, (Adv.refl _ _), (by decide)⟩ (Sub.cons rfl (Sub.cons rfl (Sub.nil _))) ?_
    rintro x32 w34 ⟨hI35, hA36, r33⟩ y37 h38 hR39
    refine cw_seq (cw_seq (cw_regF ?_))
    refine s_mv rfl rfl ?_
    refine s_fa rfl Try.underlying25 rfl Try.sizeOf22 rfl ?_
    refine s_ld rfl ((hC6.adv (hA12.trans hA36)).cells.at 1 rfl) Try.isAgg22 rfl ?_
    refine s_len rfl (f_m_1.adv hI35.adv) Try.underlying22 rfl ?_
    refine s_lss rfl rfl rfl ?_
    refine Reg.nil ?_
    refine cw_cond rfl (fun hc40 => ?_) (fun hc40 => ?_)
    ·replace h38 := cdT hc40 h38
     refine cw_skip ?_
     refine cw_seq ?_
     refine cw_block ?_
     refine cw_seq ?_
     refine cw_regT fol (by kernel_rfl) ?_
     refine s_fa rfl Try.underlying25 rfl Try.sizeOf22 rfl ?_
     refine s_ld rfl ((hC6.adv (hA12.trans hA36)).cells.at 1 rfl) Try.isAgg22 rfl ?_
     refine s_mv rfl rfl ?_
     obtain ⟨y41, hy41, h38⟩ := bnd h38
     refine p_ia rfl rfl (f_m_1.adv hI35.adv) hy41 Try.underlying22 Try.sizeOf54 rfl ?_
     intro b42 o43 cs44 hR45 hC46
     obtain ⟨v49, rfl, r47, r48, hf50⟩ := CardE_R.1 hR45
     refine s_lda rfl hC46.cells Try.isAgg54 rfl Try.sizeOf54 rfl ?_
     refine s_fa rfl Try.underlying25 rfl Try.sizeOf3 rfl ?_
     refine s_ld rfl ((hC6.adv (hA12.trans hA36)).cells.at 0 rfl) Try.isAgg3 rfl ?_
     obtain ⟨z51, hz52, h38⟩ := bnd h38
     refine s_callq rfl rfl Try.call40 rfl (fun w53 e54 => (C_ref06_card (hI35.mlt.ext e54) r47 r48 (hf50.adv (Adv.of_ext e54)) f_m_0 hz52).mono (fun _ _ hq => ⟨hq.1, hq.2⟩)) ?_
     refine s_not rfl rfl ?_
     refine Reg.nilq (fun w55 e56 => ?_)
     have hI57 := hI35.ext e56
     refine cw_cond rfl (fun hc58 => ?_) (fun hc58 => ?_)
     ·replace h38 := cdT hc58 h38
      refine cw_seq (cw_regF ?_)
      refine s_as rfl rfl ?_
      refine Reg.nil ?_
      refine cw_ret ?_
      obtain rfl := Option.some.inj h38
      obtain rfl := hR39 _ rfl
      replace h := elimR h
      obtain rfl := Option.some.inj h
      refine fin1 Try.results19 rfl ?_
      exact ⟨rfl, (by decide), hI57.kp⟩
     ·replace h38 := cdF hc58 h38
      refine cw_skip ?_
      refine cw_regF ?_
      refine s_mv rfl rfl ?_
      obtain ⟨n59, hn59, h38⟩ := bnd h38
      replace hn59 := chk_out hn59
      refine p_add rfl rfl rfl hn59 ?_
      refine s_as rfl rfl ?_
      refine Reg.nil ?_
      obtain rfl := Option.some.inj h38
      refine ⟨rfl, n59, ⟨⟨hI57, (hA36.trans (Adv.of_ext e56)), hn59.2⟩, rfl⟩, Sub.cons rfl (Sub.cons rfl (Sub.nil _))⟩
    ·replace h38 := cdF hc40 h38
     refine cw_exit ?_
     refine exB_same ?_
     obtain rfl := Option.some.inj h38
     obtain rfl := hR39 _ rfl
     refine ⟨rfl, (), ⟨hI35, hA36, rfl⟩, Sub.cons rfl (Sub.nil _)⟩
   ·skip
    rintro _ w29 ⟨hI30, hA31, rfl⟩
    replace h := elimL h
    refine cw_seq (cw_seq (cw_regF ?_))
    refine s_as rfl rfl ?_
    refine Reg.nil ?_
    obtain ⟨j60, h61, h⟩ := bnd h
    refine cw_sub (L := [(1, _), (4, _)]) (Sub.cons rfl (Sub.cons rfl (Sub.nil _))) ?_
    refine cw_unitD 2 (ι := Unit) (fun _ => []) (fun _ => fun w62 => Hp w [] M [] w62 ∧ Adv (mm [] M) (mm [] M) w29 w62 ∧ (.inl ()) = j60) ?_ ?_
    ·skip
     refine cw_block ?_
     refine cw_sub (L := [(4, _), (1, _)]) (Sub.cons rfl (Sub.cons rfl (Sub.nil _))) ?_
     refine cw_loopM 1 (ι := Int) _ (fun x65 => [(4, Value.int .i64 x65)]) (fun x65 => x65) (fun x65 => fun w67 => Hp w [] M [] w67 ∧ Adv (mm [] M) (mm [] M) w29 w67 ∧ InK .i64 x65) 0 h61 ⟨hI30, (Adv.refl _ _), (by decide)⟩ (Sub.cons rfl (Sub.cons rfl (Sub.nil _))) ?_
     rintro x65 w67 ⟨hI68, hA69, r66⟩ y70 h71 hR72
     refine cw_seq (cw_seq (cw_regF ?_))
     refine s_mv rfl rfl ?_
     refine s_fa rfl Try.underlying25 rfl Try.sizeOf23 rfl ?_
     refine s_ld rfl ((hC6.adv (hA12.trans (hA31.trans hA69))).cells.at 2 rfl) Try.isAgg23 rfl ?_
     refine s_len rfl (f_m_2.adv hI68.adv) Try.underlying23 rfl ?_
     refine s_lss rfl rfl rfl ?_
     refine Reg.nil ?_
     refine cw_cond rfl (fun hc73 => ?_) (fun hc73 => ?_)
     ·replace h71 := cdT hc73 h71
      refine cw_skip ?_
      refine cw_seq ?_
      refine cw_block ?_
      refine cw_seq ?_
      refine cw_regT fol (by kernel_rfl) ?_
      refine s_fa rfl Try.underlying25 rfl Try.sizeOf23 rfl ?_
      refine s_ld rfl ((hC6.adv (hA12.trans (hA31.trans hA69))).cells.at 2 rfl) Try.isAgg23 rfl ?_
      refine s_mv rfl rfl ?_
      obtain ⟨y74, hy74, h71⟩ := bnd h71
      refine p_ia rfl rfl (f_m_2.adv hI68.adv) hy74 Try.underlying23 Try.sizeOf59 rfl ?_
      intro b75 o76 cs77 hR78 hC79
      obtain ⟨v81, rfl, r80, hf82⟩ := TreeE_R.1 hR78
      refine s_lda rfl hC79.cells Try.isAgg59 rfl Try.sizeOf59 rfl ?_
      refine s_fa rfl Try.underlying25 rfl Try.sizeOf3 rfl ?_
      refine s_ld rfl ((hC6.adv (hA12.trans (hA31.trans hA69))).cells.at 0 rfl) Try.isAgg3 rfl ?_
      obtain ⟨z83, hz84, h71⟩ := bnd h71
      refine s_callq rfl rfl Try.call41 rfl (fun w85 e86 => (C_ref06_tree (hI68.mlt.ext e86) r80 (hf82.adv (Adv.of_ext e86)) f_m_0 hz84).mono (fun _ _ hq => ⟨hq.1, hq.2⟩)) ?_
      refine s_not rfl rfl ?_
      refine Reg.nilq (fun w87 e88 => ?_)
      have hI89 := hI68.ext e88
      refine cw_cond rfl (fun hc90 => ?_) (fun hc90 => ?_)
      ·replace h71 := cdT hc90 h71
       refine cw_seq (cw_regF ?_)
       refine s_as rfl rfl ?_
       refine Reg.nil ?_
       refine cw_ret ?_
       obtain rfl := Option.some.inj h71
       obtain rfl := hR72 _ rfl
       replace h := elimR h
       obtain rfl := Option.some.inj h
       refine fin1 Try.results19 rfl ?_
       exact ⟨rfl, (by decide), hI89.kp⟩
      ·replace h71 := cdF hc90 h71
       refine cw_skip ?_
       refine cw_regF ?_
       refine s_mv rfl rfl ?_
       obtain ⟨n91, hn91, h71⟩ := bnd h71
       replace hn91 := chk_out hn91
       refine p_add rfl rfl rfl hn91 ?_
       refine s_as rfl rfl ?_
       refine Reg.nil ?_
       obtain rfl := Option.some.inj h71
       refine ⟨rfl, n91, ⟨⟨hI89, (hA69.trans (Adv.of_ext e88)), hn91.2⟩, rfl⟩, Sub.cons rfl (Sub.cons rfl (Sub.nil _))⟩
     ·replace h71 := cdF hc73 h71
      refine cw_exit ?_
      refine exB_same ?_
      obtain rfl := Option.some.inj h71
      obtain rfl := hR72 _ rfl
      refine ⟨rfl, (), ⟨hI68, hA69, rfl⟩, Sub.nil _⟩
    ·skip
     rintro _ w62 ⟨hI63, hA64, rfl⟩
     replace h := elimL h
     refine cw_seq (cw_regF ?_)
     refine s_as rfl rfl ?_
     refine Reg.nil ?_
     refine cw_ret ?_
     obtain rfl := Option.some.inj h
     refine fin1 Try.results19 rfl ?_
     exact ⟨rfl, (by decide), hI63.kp⟩
noncomputable def P.ref06_Values (m : Model) (x : (List Int)) : Option Bool :=
 cond (!decide ((x.length : Int) = m.traits)) (some false) (Option.bind (loopM (S := Int) (R := (Unit) ⊕ (Bool)) (fun x8 => cond (decide (x8 < (x.length : Int))) (Option.bind (ixo x x8) fun y10 => Option.bind (P.ref06_within y10 (-1) 1000000) fun z17 => cond (!z17) (some (.inr (.inr false))) (Option.bind (chk .i64 (x8 + 1)) fun n23 => some (.inl n23))) (some (.inr (.inl ())))) 0) fun j24 => Sum.elim (fun _ => some true) (fun r25 => some r25)  j24)
theorem C_ref06_Values {M : List Nat} {w : World} (hM : MLt M w) {m : Model} {v_m_1 : Value} {v_m_2 : Value} (f_m_0 : InK .i64 m.traits) (f_m_1 : RdS CardE M w v_m_1 m.cards) (f_m_2 : RdS TreeE M w v_m_2 m.trees) (f_m_3 : InK .i64 m.need) {x : (List Int)} {v_x_0 : Value} (f_x_0 : RdS (intE .i64) M w v_x_0 x) {r0 : Bool} (h : P.ref06_Values m x = some r0) :
  Calls Try.prog 34 (List.toArray [Value.agg (List.toArray [Value.int .i64 m.traits, v_m_1, v_m_2, Value.int .i64 m.need]), v_x_0]) w fun e w' => e = .returned (Value.bool r0) ∧ Ext w w' := by
 have hI := Hp.start (Mu := []) hM
 refine calls_cw Try.func34 rfl Try.ntmps34 rfl ?_
 refine cw_seq (cw_regF ?_)
 refine y_box hI rfl rfl rfl ?_
 intro b1 w2 hI3 x4
 have hC6 := hI3.freezeRow 0 rfl
 have hI5 := hI3.erase 0
 refine s_as rfl rfl ?_
 refine Reg.nil ?_
 refine cw_seq (cw_seq (cw_regF ?_))
 refine s_mv rfl rfl ?_
 refine s_len rfl (f_x_0.adv hI5.adv) Try.underlying26 rfl ?_
 refine s_fa rfl Try.underlying25 rfl Try.sizeOf3 rfl ?_
 refine s_ld rfl (hC6.cells.at 0 rfl) Try.isAgg3 rfl ?_
 refine s_neq rfl rfl rfl ?_
 refine Reg.nil ?_
 refine cw_cond rfl (fun hc7 => ?_) (fun hc7 => ?_)
 ·replace h := cdT hc7 h
  refine cw_seq (cw_regF ?_)
  refine s_as rfl rfl ?_
  refine Reg.nil ?_
  refine cw_ret ?_
  obtain rfl := Option.some.inj h
  refine fin1 Try.results34 rfl ?_
  exact ⟨rfl, hI5.kp⟩
 ·replace h := cdF hc7 h
  refine cw_skip (cw_seq (cw_seq (cw_regF ?_)))
  refine s_as rfl rfl ?_
  refine Reg.nil ?_
  obtain ⟨j8, h9, h⟩ := bnd h
  refine cw_sub (L := [(1, _), (5, _)]) (Sub.cons rfl (Sub.cons rfl (Sub.nil _))) ?_
  refine cw_unitD 2 (ι := Unit) (fun _ => []) (fun _ => fun w10 => Hp w [] M [] w10 ∧ Adv (mm [] M) (mm [] M) w2 w10 ∧ (.inl ()) = j8) ?_ ?_
  ·skip
   refine cw_block ?_
   refine cw_sub (L := [(5, _), (1, _)]) (Sub.cons rfl (Sub.cons rfl (Sub.nil _))) ?_
   refine cw_loopM 1 (ι := Int) _ (fun x13 => [(5, Value.int .i64 x13)]) (fun x13 => x13) (fun x13 => fun w15 => Hp w [] M [] w15 ∧ Adv (mm [] M) (mm [] M) w2 w15 ∧ InK .i64 x13) 0 h9 ⟨hI5, (Adv.refl _ _), (by decide)⟩ (Sub.cons rfl (Sub.cons rfl (Sub.nil _))) ?_
   rintro x13 w15 ⟨hI16, hA17, r14⟩ y18 h19 hR20
   refine cw_seq (cw_seq (cw_regF ?_))
   refine s_mv rfl rfl ?_
   refine s_mv rfl rfl ?_
   refine s_len rfl (f_x_0.adv hI16.adv) Try.underlying26 rfl ?_
   refine s_lss rfl rfl rfl ?_
   refine Reg.nil ?_
   refine cw_cond rfl (fun hc21 => ?_) (fun hc21 => ?_)
   ·replace h19 := cdT hc21 h19
    refine cw_skip ?_
    refine cw_seq ?_
    refine cw_block ?_
    refine cw_seq (cw_regF ?_)
    refine s_mv rfl rfl ?_
    refine s_mv rfl rfl ?_
    obtain ⟨y22, hy22, h19⟩ := bnd h19
    refine p_ia rfl rfl (f_x_0.adv hI16.adv) hy22 Try.underlying26 Try.sizeOf3 rfl ?_
    intro b23 o24 cs25 hR26 hC27
    obtain ⟨rfl, r28⟩ := hR26
    refine s_ld rfl (hC27.cells.at 0 rfl) Try.isAgg3 rfl ?_
    obtain ⟨z29, hz30, h19⟩ := bnd h19
    refine s_call rfl Try.call38 rfl ?_
    refine (C_ref06_within hI16.mlt r28 (by decide) (by decide) hz30).mono ?_
    rintro _ w31 ⟨rfl, e32⟩
    refine ⟨_, rfl, ?_⟩
    have hI33 := hI16.ext e32
    refine s_not rfl rfl ?_
    refine Reg.nil ?_
    refine cw_cond rfl (fun hc34 => ?_) (fun hc34 => ?_)
    ·replace h19 := cdT hc34 h19
     refine cw_seq (cw_regF ?_)
     refine s_as rfl rfl ?_
     refine Reg.nil ?_
     refine cw_ret ?_
     obtain rfl := Option.some.inj h19
     obtain rfl := hR20 _ rfl
     replace h := elimR h
     obtain rfl := Option.some.inj h
     refine fin1 Try.results34 rfl ?_
     exact ⟨rfl, hI33.kp⟩
    ·replace h19 := cdF hc34 h19
     refine cw_skip ?_
     refine cw_regF ?_
     refine s_mv rfl rfl ?_
     obtain ⟨n35, hn35, h19⟩ := bnd h19
     replace hn35 := chk_out hn35
     refine p_add rfl rfl rfl hn35 ?_
     refine s_as rfl rfl ?_
     refine Reg.nil ?_
     obtain rfl := Option.some.inj h19
     refine ⟨rfl, n35, ⟨⟨hI33, (hA17.trans (Adv.of_ext e32)), hn35.2⟩, rfl⟩, Sub.cons rfl (Sub.cons rfl (Sub.nil _))⟩
   ·replace h19 := cdF hc21 h19
    refine cw_exit ?_
    refine exB_same ?_
    obtain rfl := Option.some.inj h19
    obtain rfl := hR20 _ rfl
    refine ⟨rfl, (), ⟨hI16, hA17, rfl⟩, Sub.nil _⟩
  ·skip
   rintro _ w10 ⟨hI11, hA12, rfl⟩
   replace h := elimL h
   refine cw_seq (cw_regF ?_)
   refine s_as rfl rfl ?_
   refine Reg.nil ?_
   refine cw_ret ?_
   obtain rfl := Option.some.inj h
   refine fin1 Try.results34 rfl ?_
   exact ⟨rfl, hI11.kp⟩
noncomputable def P.ref01_SameInts (a : (List Int)) (b : (List Int)) : Option Bool :=
 cond (!decide ((a.length : Int) = (b.length : Int))) (some false) (Option.bind (loopM (S := Int) (R := (Unit) ⊕ (Bool)) (fun x2 => cond (decide (x2 < (a.length : Int))) (Option.bind (ixo a x2) fun y4 => Option.bind (ixo b x2) fun y11 => cond (!decide (y4 = y11)) (some (.inr (.inr false))) (Option.bind (chk .i64 (x2 + 1)) fun n22 => some (.inl n22))) (some (.inr (.inl ())))) 0) fun j23 => Sum.elim (fun _ => some true) (fun r24 => some r24)  j23)
theorem C_ref01_SameInts {M : List Nat} {w : World} (hM : MLt M w) {a : (List Int)} {v_a_0 : Value} (f_a_0 : RdS (intE .i64) M w v_a_0 a) {b : (List Int)} {v_b_0 : Value} (f_b_0 : RdS (intE .i64) M w v_b_0 b) {r0 : Bool} (h : P.ref01_SameInts a b = some r0) :
  Calls Try.prog 20 (List.toArray [v_a_0, v_b_0]) w fun e w' => e = .returned (Value.bool r0) ∧ Ext w w' := by
 have hI := Hp.start (Mu := []) hM
 refine calls_cw Try.func20 rfl Try.ntmps20 rfl ?_
 refine cw_seq (cw_regF ?_)
 refine s_as rfl rfl ?_
 refine Reg.nil ?_
 refine cw_seq (cw_seq (cw_regF ?_))
 refine s_mv rfl rfl ?_
 refine s_len rfl f_a_0 Try.underlying26 rfl ?_
 refine s_mv rfl rfl ?_
 refine s_len rfl f_b_0 Try.underlying26 rfl ?_
 refine s_neq rfl rfl rfl ?_
 refine Reg.nil ?_
 refine cw_cond rfl (fun hc1 => ?_) (fun hc1 => ?_)
 ·replace h := cdT hc1 h
  refine cw_seq (cw_regF ?_)
  refine s_as rfl rfl ?_
  refine Reg.nil ?_
  refine cw_ret ?_
  obtain rfl := Option.some.inj h
  refine fin1 Try.results20 rfl ?_
  exact ⟨rfl, hI.kp⟩
 ·replace h := cdF hc1 h
  refine cw_skip (cw_seq (cw_seq (cw_regF ?_)))
  refine s_as rfl rfl ?_
  refine Reg.nil ?_
  obtain ⟨j2, h3, h⟩ := bnd h
  refine cw_sub (L := [(0, _), (1, _), (5, _)]) (Sub.cons rfl (Sub.cons rfl (Sub.cons rfl (Sub.nil _)))) ?_
  refine cw_unitD 3 (ι := Unit) (fun _ => []) (fun _ => fun w4 => Hp w [] M [] w4 ∧ Adv (mm [] M) (mm [] M) w w4 ∧ (.inl ()) = j2) ?_ ?_
  ·skip
   refine cw_block ?_
   refine cw_sub (L := [(5, _), (0, _), (1, _)]) (Sub.cons rfl (Sub.cons rfl (Sub.cons rfl (Sub.nil _)))) ?_
   refine cw_loopM 1 (ι := Int) _ (fun x7 => [(5, Value.int .i64 x7)]) (fun x7 => x7) (fun x7 => fun w9 => Hp w [] M [] w9 ∧ Adv (mm [] M) (mm [] M) w w9 ∧ InK .i64 x7) 0 h3 ⟨hI, (Adv.refl _ _), (by decide)⟩ (Sub.cons rfl (Sub.cons rfl (Sub.cons rfl (Sub.nil _)))) ?_
   rintro x7 w9 ⟨hI10, hA11, r8⟩ y12 h13 hR14
   refine cw_seq (cw_seq (cw_regF ?_))
   refine s_mv rfl rfl ?_
   refine s_mv rfl rfl ?_
   refine s_len rfl (f_a_0.adv hI10.adv) Try.underlying26 rfl ?_
   refine s_lss rfl rfl rfl ?_
   refine Reg.nil ?_
   refine cw_cond rfl (fun hc15 => ?_) (fun hc15 => ?_)
   ·replace h13 := cdT hc15 h13
    refine cw_skip ?_
    refine cw_seq ?_
    refine cw_block ?_
    refine cw_seq ?_
    refine cw_regT fol (by kernel_rfl) ?_
    refine s_mv rfl rfl ?_
    refine s_mv rfl rfl ?_
    obtain ⟨y16, hy16, h13⟩ := bnd h13
    refine p_ia rfl rfl (f_a_0.adv hI10.adv) hy16 Try.underlying26 Try.sizeOf3 rfl ?_
    intro b17 o18 cs19 hR20 hC21
    obtain ⟨rfl, r22⟩ := hR20
    refine s_ld rfl (hC21.cells.at 0 rfl) Try.isAgg3 rfl ?_
    refine s_mv rfl rfl ?_
    refine s_mv rfl rfl ?_
    obtain ⟨y23, hy23, h13⟩ := bnd h13
    refine p_ia rfl rfl (f_b_0.adv hI10.adv) hy23 Try.underlying26 Try.sizeOf3 rfl ?_
    intro b24 o25 cs26 hR27 hC28
    obtain ⟨rfl, r29⟩ := hR27
    refine s_ld rfl (hC28.cells.at 0 rfl) Try.isAgg3 rfl ?_
    refine s_neq rfl rfl rfl ?_
    refine Reg.nilq (fun w30 e31 => ?_)
    have hI32 := hI10.ext e31
    refine cw_cond rfl (fun hc33 => ?_) (fun hc33 => ?_)
    ·replace h13 := cdT hc33 h13
     refine cw_seq (cw_regF ?_)
     refine s_as rfl rfl ?_
     refine Reg.nil ?_
     refine cw_ret ?_
     obtain rfl := Option.some.inj h13
     obtain rfl := hR14 _ rfl
     replace h := elimR h
     obtain rfl := Option.some.inj h
     refine fin1 Try.results20 rfl ?_
     exact ⟨rfl, hI32.kp⟩
    ·replace h13 := cdF hc33 h13
     refine cw_skip ?_
     refine cw_regF ?_
     refine s_mv rfl rfl ?_
     obtain ⟨n34, hn34, h13⟩ := bnd h13
     replace hn34 := chk_out hn34
     refine p_add rfl rfl rfl hn34 ?_
     refine s_as rfl rfl ?_
     refine Reg.nil ?_
     obtain rfl := Option.some.inj h13
     refine ⟨rfl, n34, ⟨⟨hI32, hI32.adv, hn34.2⟩, rfl⟩, Sub.cons rfl (Sub.cons rfl (Sub.cons rfl (Sub.nil _)))⟩
   ·replace h13 := cdF hc15 h13
    refine cw_exit ?_
    refine exB_same ?_
    obtain rfl := Option.some.inj h13
    obtain rfl := hR14 _ rfl
    refine ⟨rfl, (), ⟨hI10, hI10.adv, rfl⟩, Sub.nil _⟩
  ·skip
   rintro _ w4 ⟨hI5, hA6, rfl⟩
   replace h := elimL h
   refine cw_seq (cw_regF ?_)
   refine s_as rfl rfl ?_
   refine Reg.nil ?_
   refine cw_ret ?_
   obtain rfl := Option.some.inj h
   refine fin1 Try.results20 rfl ?_
   exact ⟨rfl, hI5.kp⟩
noncomputable def P.law06_ready (m : Model) (x : (List Int)) : Option Bool :=
 Option.bind (Option.bind (P.ref06_Great (Model.mk m.traits m.cards m.trees m.need)) fun z7 => cond (!z7) (Option.bind (P.ref06_Check (Model.mk m.traits m.cards m.trees m.need)) fun z13 => cond (decide (z13 = 0)) (Option.bind (P.ref06_Values (Model.mk m.traits m.cards m.trees m.need) x) fun z20 => some z20) (some false)) (some false)) fun x25 => some x25
theorem C_law06_ready {M : List Nat} {w : World} (hM : MLt M w) {m : Model} {v_m_1 : Value} {v_m_2 : Value} (f_m_0 : InK .i64 m.traits) (f_m_1 : RdS CardE M w v_m_1 m.cards) (f_m_2 : RdS TreeE M w v_m_2 m.trees) (f_m_3 : InK .i64 m.need) {x : (List Int)} {v_x_0 : Value} (f_x_0 : RdS (intE .i64) M w v_x_0 x) {r0 : Bool} (h : P.law06_ready m x = some r0) :
  Calls Try.prog 25 (List.toArray [Value.agg (List.toArray [Value.int .i64 m.traits, v_m_1, v_m_2, Value.int .i64 m.need]), v_x_0]) w fun e w' => e = .returned (Value.bool r0) ∧ Ext w w' := by
 have hI := Hp.start (Mu := []) hM
 refine calls_cw Try.func25 rfl Try.ntmps25 rfl ?_
 refine cw_seq (cw_regF ?_)
 refine y_box hI rfl rfl rfl ?_
 intro b1 w2 hI3 x4
 have hC6 := hI3.freezeRow 0 rfl
 have hI5 := hI3.erase 0
 refine s_as rfl rfl ?_
 refine Reg.nil ?_
 obtain ⟨j7, h8, h⟩ := bnd h
 refine cw_sub (L := [(1, _), (2, _)]) (Sub.cons rfl (Sub.cons rfl (Sub.nil _))) ?_
 refine cw_seqD 2 (ι := Bool) (fun x9 => [(4, Value.bool x9)]) (fun x9 => fun w10 => Hp w [] M [] w10 ∧ Adv (mm [] M) (mm [] M) w2 w10 ∧ x9 = j7) ?_ ?_
 ·skip
  refine cw_regF ?_
  refine s_lda rfl hC6.cells Try.isAgg25 rfl Try.sizeOf25 rfl ?_
  obtain ⟨z13, hz14, h8⟩ := bnd h8
  refine s_call rfl Try.call12 rfl ?_
  refine (C_ref06_Great hI5.mlt f_m_0 (f_m_1.adv hI5.adv) (f_m_2.adv hI5.adv) f_m_3 hz14).mono ?_
  rintro _ w15 ⟨rfl, e16⟩
  refine ⟨_, rfl, ?_⟩
  have hI17 := hI5.ext e16
  refine s_not rfl rfl ?_
  refine s_mv rfl rfl ?_
  refine Reg.gsplit (t := 8) rfl (fun hg18 => ?_) (fun hg18 => ?_)
  ·replace h8 := cdT hg18 h8
   refine Reg.take rfl rfl ?_
   refine s_lda rfl (hC6.adv (Adv.of_ext e16)).cells Try.isAgg25 rfl Try.sizeOf25 rfl ?_
   refine Reg.take rfl rfl ?_
   obtain ⟨z19, hz20, h8⟩ := bnd h8
   refine s_call rfl Try.call19 rfl ?_
   refine (C_ref06_Check hI17.mlt f_m_0 (f_m_1.adv hI17.adv) (f_m_2.adv hI17.adv) f_m_3 hz20).mono ?_
   rintro _ w21 ⟨rfl, r23, e22⟩
   refine ⟨_, rfl, ?_⟩
   have hI24 := hI17.ext e22
   refine Reg.take rfl rfl ?_
   refine s_eql rfl rfl rfl ?_
   refine s_pkT rfl rfl rfl ?_
   refine s_mv rfl rfl ?_
   refine Reg.gsplit (t := 13) rfl (fun hg25 => ?_) (fun hg25 => ?_)
   ·replace h8 := cdT hg25 h8
    refine Reg.take rfl rfl ?_
    refine s_lda rfl (hC6.adv ((Adv.of_ext e16).trans (Adv.of_ext e22))).cells Try.isAgg25 rfl Try.sizeOf25 rfl ?_
    refine Reg.take rfl rfl ?_
    refine s_mv rfl rfl ?_
    refine Reg.take rfl rfl ?_
    obtain ⟨z26, hz27, h8⟩ := bnd h8
    refine s_call rfl Try.call34 rfl ?_
    refine (C_ref06_Values hI24.mlt f_m_0 (f_m_1.adv hI24.adv) (f_m_2.adv hI24.adv) f_m_3 (f_x_0.adv hI24.adv) hz27).mono ?_
    rintro _ w28 ⟨rfl, e29⟩
    refine ⟨_, rfl, ?_⟩
    have hI30 := hI24.ext e29
    refine s_pkT rfl rfl rfl ?_
    refine s_as rfl rfl ?_
    refine Reg.nil ?_
    obtain rfl := Option.some.inj h8
    refine ⟨rfl, z26, ⟨hI30, ((Adv.of_ext e16).trans ((Adv.of_ext e22).trans (Adv.of_ext e29))), rfl⟩, Sub.cons rfl (Sub.nil _)⟩
   ·replace h8 := cdF hg25 h8
    refine Reg.pass rfl rfl rfl rfl ?_
    refine Reg.pass rfl rfl rfl rfl ?_
    refine Reg.pass rfl rfl rfl rfl ?_
    refine s_pkF rfl rfl rfl ?_
    refine s_as rfl rfl ?_
    refine Reg.nil ?_
    obtain rfl := Option.some.inj h8
    refine ⟨rfl, false, ⟨hI24, ((Adv.of_ext e16).trans (Adv.of_ext e22)), rfl⟩, Sub.cons rfl (Sub.nil _)⟩
  ·replace h8 := cdF hg18 h8
   refine Reg.pass rfl rfl rfl rfl ?_
   refine Reg.pass rfl rfl rfl rfl ?_
   refine Reg.pass rfl rfl rfl rfl ?_
   refine s_pkF rfl rfl rfl ?_
   refine s_mv rfl rfl ?_
   refine Reg.pass rfl rfl rfl rfl ?_
   refine Reg.pass rfl rfl rfl rfl ?_
   refine Reg.pass rfl rfl rfl rfl ?_
   refine s_pkF rfl rfl rfl ?_
   refine s_as rfl rfl ?_
   refine Reg.nil ?_
   obtain rfl := Option.some.inj h8
   refine ⟨rfl, false, ⟨hI17, (Adv.of_ext e16), rfl⟩, Sub.cons rfl (Sub.nil _)⟩
 ·skip
  rintro x9 w10 ⟨hI11, hA12, rfl⟩
  refine cw_ret ?_
  obtain rfl := Option.some.inj h
  refine fin1 Try.results25 rfl ?_
  exact ⟨rfl, hI11.kp⟩
noncomputable def P.law06_at (l : (List Int)) (i : Int) : Option Int :=
 cond (decide ((l.length : Int) = 0)) (some 0) (Option.bind (remO i (l.length : Int)) fun n2 => Option.bind (ixo l n2) fun y3 => some y3)
theorem C_law06_at {M : List Nat} {w : World} (hM : MLt M w) {l : (List Int)} {v_l_0 : Value} (f_l_0 : RdS (intE .u32) M w v_l_0 l) {i : Int} (f_i_0 : InK .i64 i) {r0 : Int} (h : P.law06_at l i = some r0) :
  Calls Try.prog 27 (List.toArray [v_l_0, Value.int .i64 i]) w fun e w' => e = .returned (Value.int IntKind.u32 r0) ∧ InK IntKind.u32 r0 ∧ Ext w w' := by
 have hI := Hp.start (Mu := []) hM
 refine calls_cw Try.func27 rfl Try.ntmps27 rfl ?_
 refine cw_seq (cw_regF ?_)
 refine s_as rfl rfl ?_
 refine Reg.nil ?_
 refine cw_seq (cw_seq (cw_regF ?_))
 refine s_mv rfl rfl ?_
 refine s_len rfl f_l_0 Try.underlying63 rfl ?_
 refine s_eql rfl rfl rfl ?_
 refine Reg.nil ?_
 refine cw_cond rfl (fun hc1 => ?_) (fun hc1 => ?_)
 ·replace h := cdT hc1 h
  refine cw_seq (cw_regF ?_)
  refine s_as rfl rfl ?_
  refine Reg.nil ?_
  refine cw_ret ?_
  obtain rfl := Option.some.inj h
  refine fin1 Try.results27 rfl ?_
  exact ⟨rfl, (by decide), hI.kp⟩
 ·replace h := cdF hc1 h
  refine cw_skip (cw_seq (cw_regF ?_))
  refine s_mv rfl rfl ?_
  refine s_mv rfl rfl ?_
  refine s_mv rfl rfl ?_
  refine s_len rfl f_l_0 Try.underlying63 rfl ?_
  obtain ⟨n2, hn2, h⟩ := bnd h
  have kn2 := remO_out hn2
  refine p_rem rfl rfl rfl kn2 ?_
  obtain ⟨y3, hy3, h⟩ := bnd h
  refine p_ia rfl rfl f_l_0 hy3 Try.underlying63 Try.sizeOf65 rfl ?_
  intro b4 o5 cs6 hR7 hC8
  obtain ⟨rfl, r9⟩ := hR7
  refine s_ld rfl (hC8.cells.at 0 rfl) Try.isAgg65 rfl ?_
  refine s_as rfl rfl ?_
  refine Reg.nil ?_
  refine cw_ret ?_
  obtain rfl := Option.some.inj h
  refine fin1 Try.results27 rfl ?_
  exact ⟨rfl, r9, hI.kp⟩
noncomputable def P.cmp_isNaN_89 (x : Int) : Option Bool :=
 some (!decide (x = x))
theorem C_cmp_isNaN_89 {M : List Nat} {w : World} (hM : MLt M w) {x : Int} (f_x_0 : InK .i64 x) {r0 : Bool} (h : P.cmp_isNaN_89 x = some r0) :
  Calls Try.prog 89 (List.toArray [Value.int .i64 x]) w fun e w' => e = .returned (Value.bool r0) ∧ Ext w w' := by
 have hI := Hp.start (Mu := []) hM
 refine calls_cw Try.func89 rfl Try.ntmps89 rfl ?_
 refine cw_seq (cw_regF ?_)
 refine s_as rfl rfl ?_
 refine Reg.nil ?_
 refine cw_seq (cw_regF ?_)
 refine s_mv rfl rfl ?_
 refine s_mv rfl rfl ?_
 refine s_neq rfl rfl rfl ?_
 refine s_as rfl rfl ?_
 refine Reg.nil ?_
 refine cw_ret ?_
 obtain rfl := Option.some.inj h
 refine fin1 Try.results89 rfl ?_
 exact ⟨rfl, hI.kp⟩
noncomputable def P.cmp_Compare_73 (x : Int) (y : Int) : Option Int :=
 Option.bind (P.cmp_isNaN_89 x) fun z1 => Option.bind (P.cmp_isNaN_89 y) fun z6 => cond z1 (cond z6 (some 0) (some (-1))) (cond z6 (some 1) (cond (decide (x < y)) (some (-1)) (cond (decide (y < x)) (some 1) (some 0))))
theorem C_cmp_Compare_73 {M : List Nat} {w : World} (hM : MLt M w) {x : Int} (f_x_0 : InK .i64 x) {y : Int} (f_y_0 : InK .i64 y) {r0 : Int} (h : P.cmp_Compare_73 x y = some r0) :
  Calls Try.prog 73 (List.toArray [Value.int .i64 x, Value.int .i64 y]) w fun e w' => e = .returned (Value.int .i64 r0) ∧ InK .i64 r0 ∧ Ext w w' := by
 have hI := Hp.start (Mu := []) hM
 refine calls_cw Try.func73 rfl Try.ntmps73 rfl ?_
 refine cw_seq (cw_regF ?_)
 refine s_as rfl rfl ?_
 refine Reg.nil ?_
 refine cw_seq (cw_regF ?_)
 refine s_mv rfl rfl ?_
 obtain ⟨z1, hz2, h⟩ := bnd h
 refine s_call rfl Try.call89 rfl ?_
 refine (C_cmp_isNaN_89 hI.mlt f_x_0 hz2).mono ?_
 rintro _ w3 ⟨rfl, e4⟩
 refine ⟨_, rfl, ?_⟩
 have hI5 := hI.ext e4
 refine s_as rfl rfl ?_
 refine Reg.nil ?_
 refine cw_seq (cw_regF ?_)
 refine s_mv rfl rfl ?_
 obtain ⟨z6, hz7, h⟩ := bnd h
 refine s_call rfl Try.call89 rfl ?_
 refine (C_cmp_isNaN_89 hI5.mlt f_y_0 hz7).mono ?_
 rintro _ w8 ⟨rfl, e9⟩
 refine ⟨_, rfl, ?_⟩
 have hI10 := hI5.ext e9
 refine s_as rfl rfl ?_
 refine Reg.nil ?_
 refine cw_seq (cw_seq (cw_regF ?_))
 refine s_mv rfl rfl ?_
 refine Reg.nil ?_
 refine cw_cond rfl (fun hc11 => ?_) (fun hc11 => ?_)
 ·replace h := cdT hc11 h
  refine cw_seq (cw_seq (cw_regF ?_))
  refine s_mv rfl rfl ?_
  refine Reg.nil ?_
  refine cw_cond rfl (fun hc12 => ?_) (fun hc12 => ?_)
  ·replace h := cdT hc12 h
   refine cw_seq (cw_regF ?_)
   refine s_as rfl rfl ?_
   refine Reg.nil ?_
   refine cw_ret ?_
   obtain rfl := Option.some.inj h
   refine fin1 Try.results73 rfl ?_
   exact ⟨rfl, (by decide), hI10.kp⟩
  ·replace h := cdF hc12 h
   refine cw_skip (cw_seq (cw_regF ?_))
   refine s_as rfl rfl ?_
   refine Reg.nil ?_
   refine cw_ret ?_
   obtain rfl := Option.some.inj h
   refine fin1 Try.results73 rfl ?_
   exact ⟨rfl, (by decide), hI10.kp⟩
 ·replace h := cdF hc11 h
  refine cw_skip (cw_seq (cw_seq (cw_regF ?_)))
  refine s_mv rfl rfl ?_
  refine Reg.nil ?_
  refine cw_cond rfl (fun hc13 => ?_) (fun hc13 => ?_)
  ·replace h := cdT hc13 h
   refine cw_seq (cw_regF ?_)
   refine s_as rfl rfl ?_
   refine Reg.nil ?_
   refine cw_ret ?_
   obtain rfl := Option.some.inj h
   refine fin1 Try.results73 rfl ?_
   exact ⟨rfl, (by decide), hI10.kp⟩
  ·replace h := cdF hc13 h
   refine cw_skip (cw_seq (cw_seq (cw_regF ?_)))
   refine s_mv rfl rfl ?_
   refine s_mv rfl rfl ?_
   refine s_lss rfl rfl rfl ?_
   refine Reg.nil ?_
   refine cw_cond rfl (fun hc14 => ?_) (fun hc14 => ?_)
   ·replace h := cdT hc14 h
    refine cw_seq (cw_regF ?_)
    refine s_as rfl rfl ?_
    refine Reg.nil ?_
    refine cw_ret ?_
    obtain rfl := Option.some.inj h
    refine fin1 Try.results73 rfl ?_
    exact ⟨rfl, (by decide), hI10.kp⟩
   ·replace h := cdF hc14 h
    refine cw_skip (cw_seq (cw_seq (cw_regF ?_)))
    refine s_mv rfl rfl ?_
    refine s_mv rfl rfl ?_
    refine s_gtr rfl rfl rfl ?_
    refine Reg.nil ?_
    refine cw_cond rfl (fun hc15 => ?_) (fun hc15 => ?_)
    ·replace h := cdT hc15 h
     refine cw_seq (cw_regF ?_)
     refine s_as rfl rfl ?_
     refine Reg.nil ?_
     refine cw_ret ?_
     obtain rfl := Option.some.inj h
     refine fin1 Try.results73 rfl ?_
     exact ⟨rfl, (by decide), hI10.kp⟩
    ·replace h := cdF hc15 h
     refine cw_skip (cw_seq (cw_regF ?_))
     refine s_as rfl rfl ?_
     refine Reg.nil ?_
     refine cw_ret ?_
     obtain rfl := Option.some.inj h
     refine fin1 Try.results73 rfl ?_
     exact ⟨rfl, (by decide), hI10.kp⟩
noncomputable def P.slices_Compare_64 (s1 : (List Int)) (s2 : (List Int)) : Option Int :=
 Option.bind (loopM (S := Int) (R := (Unit) ⊕ (Int)) (fun x1 => cond (decide (x1 < (s1.length : Int))) (Option.bind (ixo s1 x1) fun y3 => cond (decide ((s2.length : Int) ≤ x1)) (some (.inr (.inr 1))) (Option.bind (ixo s2 x1) fun y11 => Option.bind (P.cmp_Compare_73 y3 y11) fun z18 => cond (!decide (z18 = 0)) (some (.inr (.inr z18))) (Option.bind (chk .i64 (x1 + 1)) fun n25 => some (.inl n25)))) (some (.inr (.inl ())))) 0) fun j26 => Sum.elim (fun _ => cond (decide ((s1.length : Int) < (s2.length : Int))) (some (-1)) (some 0)) (fun r28 => some r28)  j26
theorem C_slices_Compare_64 {M : List Nat} {w : World} (hM : MLt M w) {s1 : (List Int)} {v_s1_0 : Value} (f_s1_0 : RdS (intE .i64) M w v_s1_0 s1) {s2 : (List Int)} {v_s2_0 : Value} (f_s2_0 : RdS (intE .i64) M w v_s2_0 s2) {r0 : Int} (h : P.slices_Compare_64 s1 s2 = some r0) :
  Calls Try.prog 64 (List.toArray [v_s1_0, v_s2_0]) w fun e w' => e = .returned (Value.int .i64 r0) ∧ InK .i64 r0 ∧ Ext w w' := by
 have hI := Hp.start (Mu := []) hM
 refine calls_cw Try.func64 rfl Try.ntmps64 rfl ?_
 refine cw_seq (cw_regF ?_)
 refine s_as rfl rfl ?_
 refine Reg.nil ?_
 refine cw_seq (cw_seq (cw_regF ?_))
 refine s_mv rfl rfl ?_
 refine s_len rfl f_s1_0 Try.underlying26 rfl ?_
 refine s_mv rfl rfl ?_
 refine Reg.nil ?_
 obtain ⟨j1, h2, h⟩ := bnd h
 refine cw_sub (L := [(9, _), (10, _), (11, _), (0, _), (1, _)]) (Sub.cons rfl (Sub.cons rfl (Sub.cons rfl (Sub.cons rfl (Sub.cons rfl (Sub.nil _)))))) ?_
 refine cw_unitD 3 (ι := Unit) (fun _ => []) (fun _ => fun w3 => Hp w [] M [] w3 ∧ Adv (mm [] M) (mm [] M) w w3 ∧ (.inl ()) = j1) ?_ ?_
 ·skip
  refine cw_block ?_
  refine cw_sub (L := [(11, _), (0, _), (1, _), (9, _), (10, _)]) (Sub.cons rfl (Sub.cons rfl (Sub.cons rfl (Sub.cons rfl (Sub.cons rfl (Sub.nil _)))))) ?_
  refine cw_loopM 1 (ι := Int) _ (fun x6 => [(11, Value.int .i64 x6)]) (fun x6 => x6) (fun x6 => fun w8 => Hp w [] M [] w8 ∧ Adv (mm [] M) (mm [] M) w w8 ∧ InK .i64 x6) 0 h2 ⟨hI, (Adv.refl _ _), (by decide)⟩ (Sub.cons rfl (Sub.cons rfl (Sub.cons rfl (Sub.cons rfl (Sub.cons rfl (Sub.nil _)))))) ?_
  rintro x6 w8 ⟨hI9, hA10, r7⟩ y11 h12 hR13
  refine cw_seq (cw_regF ?_)
  refine s_lss rfl rfl rfl ?_
  refine Reg.nil ?_
  refine cw_seq ?_
  refine cw_cond rfl (fun hc14 => ?_) (fun hc14 => ?_)
  ·replace h12 := cdT hc14 h12
   refine cw_skip ?_
   refine cw_seq ?_
   refine cw_block ?_
   refine cw_seq (cw_regF ?_)
   refine s_mv rfl rfl ?_
   obtain ⟨y15, hy15, h12⟩ := bnd h12
   refine p_ia rfl rfl (f_s1_0.adv hI9.adv) hy15 Try.underlying26 Try.sizeOf3 rfl ?_
   intro b16 o17 cs18 hR19 hC20
   obtain ⟨rfl, r21⟩ := hR19
   refine s_ld rfl (hC20.cells.at 0 rfl) Try.isAgg3 rfl ?_
   refine s_as rfl rfl ?_
   refine s_as rfl rfl ?_
   refine Reg.nil ?_
   refine cw_seq (cw_seq (cw_regF ?_))
   refine s_mv rfl rfl ?_
   refine s_mv rfl rfl ?_
   refine s_len rfl (f_s2_0.adv hI9.adv) Try.underlying26 rfl ?_
   refine s_geq rfl rfl rfl ?_
   refine Reg.nil ?_
   refine cw_cond rfl (fun hc22 => ?_) (fun hc22 => ?_)
   ·replace h12 := cdT hc22 h12
    refine cw_seq (cw_regF ?_)
    refine s_as rfl rfl ?_
    refine Reg.nil ?_
    refine cw_ret ?_
    obtain rfl := Option.some.inj h12
    obtain rfl := hR13 _ rfl
    replace h := elimR h
    obtain rfl := Option.some.inj h
    refine fin1 Try.results64 rfl ?_
    exact ⟨rfl, (by decide), hI9.kp⟩
   ·replace h12 := cdF hc22 h12
    refine cw_skip (cw_seq (cw_regF ?_))
    refine s_mv rfl rfl ?_
    refine s_mv rfl rfl ?_
    obtain ⟨y23, hy23, h12⟩ := bnd h12
    refine p_ia rfl rfl (f_s2_0.adv hI9.adv) hy23 Try.underlying26 Try.sizeOf3 rfl ?_
    intro b24 o25 cs26 hR27 hC28
    obtain ⟨rfl, r29⟩ := hR27
    refine s_ld rfl (hC28.cells.at 0 rfl) Try.isAgg3 rfl ?_
    refine s_as rfl rfl ?_
    refine Reg.nil ?_
    refine cw_seq (cw_regF ?_)
    refine s_mv rfl rfl ?_
    refine s_mv rfl rfl ?_
    obtain ⟨z30, hz31, h12⟩ := bnd h12
    refine s_call rfl Try.call73 rfl ?_
    refine (C_cmp_Compare_73 hI9.mlt r21 r29 hz31).mono ?_
    rintro _ w32 ⟨rfl, r34, e33⟩
    refine ⟨_, rfl, ?_⟩
    have hI35 := hI9.ext e33
    refine s_as rfl rfl ?_
    refine Reg.nil ?_
    refine cw_seq (cw_regF ?_)
    refine s_mv rfl rfl ?_
    refine s_neq rfl rfl rfl ?_
    refine Reg.nil ?_
    refine cw_cond rfl (fun hc36 => ?_) (fun hc36 => ?_)
    ·replace h12 := cdT hc36 h12
     refine cw_seq (cw_regF ?_)
     refine s_mv rfl rfl ?_
     refine s_as rfl rfl ?_
     refine Reg.nil ?_
     refine cw_ret ?_
     obtain rfl := Option.some.inj h12
     obtain rfl := hR13 _ rfl
     replace h := elimR h
     obtain rfl := Option.some.inj h
     refine fin1 Try.results64 rfl ?_
     exact ⟨rfl, r34, hI35.kp⟩
    ·replace h12 := cdF hc36 h12
     refine cw_skip ?_
     refine cw_regF ?_
     obtain ⟨n37, hn37, h12⟩ := bnd h12
     replace hn37 := chk_out hn37
     refine p_add rfl rfl rfl hn37 ?_
     refine s_mv rfl rfl ?_
     refine Reg.nil ?_
     obtain rfl := Option.some.inj h12
     refine ⟨rfl, n37, ⟨⟨hI35, hI35.adv, hn37.2⟩, rfl⟩, Sub.cons rfl (Sub.cons rfl (Sub.cons rfl (Sub.cons rfl (Sub.cons rfl (Sub.nil _)))))⟩
  ·replace h12 := cdF hc14 h12
   refine cw_exit ?_
   refine exB_same ?_
   obtain rfl := Option.some.inj h12
   obtain rfl := hR13 _ rfl
   refine ⟨rfl, (), ⟨hI9, hI9.adv, rfl⟩, Sub.cons rfl (Sub.cons rfl (Sub.nil _))⟩
 ·skip
  rintro _ w3 ⟨hI4, hA5, rfl⟩
  replace h := elimL h
  refine cw_seq (cw_seq (cw_regF ?_))
  refine s_mv rfl rfl ?_
  refine s_len rfl (f_s1_0.adv hI4.adv) Try.underlying26 rfl ?_
  refine s_mv rfl rfl ?_
  refine s_len rfl (f_s2_0.adv hI4.adv) Try.underlying26 rfl ?_
  refine s_lss rfl rfl rfl ?_
  refine Reg.nil ?_
  refine cw_cond rfl (fun hc38 => ?_) (fun hc38 => ?_)
  ·replace h := cdT hc38 h
   refine cw_seq (cw_regF ?_)
   refine s_as rfl rfl ?_
   refine Reg.nil ?_
   refine cw_ret ?_
   obtain rfl := Option.some.inj h
   refine fin1 Try.results64 rfl ?_
   exact ⟨rfl, (by decide), hI4.kp⟩
  ·replace h := cdF hc38 h
   refine cw_skip (cw_seq (cw_regF ?_))
   refine s_as rfl rfl ?_
   refine Reg.nil ?_
   refine cw_ret ?_
   obtain rfl := Option.some.inj h
   refine fin1 Try.results64 rfl ?_
   exact ⟨rfl, (by decide), hI4.kp⟩
noncomputable def P.score_sets_in1 (a : (List Int)) (b : (List Int)) : Option Int :=
 Option.bind (chk .i64 ((a.length : Int) - (b.length : Int))) fun n1 => cond (!decide (n1 = 0)) (some n1) (Option.bind (P.slices_Compare_64 a b) fun z3 => some z3)
theorem C_score_sets_in1 {M : List Nat} {w : World} (hM : MLt M w) {a : (List Int)} {v_a_0 : Value} (f_a_0 : RdS (intE .i64) M w v_a_0 a) {b : (List Int)} {v_b_0 : Value} (f_b_0 : RdS (intE .i64) M w v_b_0 b) {r0 : Int} (h : P.score_sets_in1 a b = some r0) :
  Calls Try.prog 63 (List.toArray [v_a_0, v_b_0]) w fun e w' => e = .returned (Value.int .i64 r0) ∧ InK .i64 r0 ∧ Ext w w' := by
 have hI := Hp.start (Mu := []) hM
 refine calls_cw Try.func63 rfl Try.ntmps63 rfl ?_
 refine cw_seq (cw_regF ?_)
 refine s_as rfl rfl ?_
 refine Reg.nil ?_
 refine cw_seq (cw_seq (cw_regF ?_))
 refine s_mv rfl rfl ?_
 refine s_len rfl f_a_0 Try.underlying26 rfl ?_
 refine s_mv rfl rfl ?_
 refine s_len rfl f_b_0 Try.underlying26 rfl ?_
 obtain ⟨n1, hn1, h⟩ := bnd h
 replace hn1 := chk_out hn1
 refine p_sub rfl rfl rfl hn1 ?_
 refine s_as rfl rfl ?_
 refine Reg.nil ?_
 refine cw_seq (cw_regF ?_)
 refine s_mv rfl rfl ?_
 refine s_neq rfl rfl rfl ?_
 refine Reg.nil ?_
 refine cw_cond rfl (fun hc2 => ?_) (fun hc2 => ?_)
 ·replace h := cdT hc2 h
  refine cw_seq (cw_regF ?_)
  refine s_mv rfl rfl ?_
  refine s_as rfl rfl ?_
  refine Reg.nil ?_
  refine cw_ret ?_
  obtain rfl := Option.some.inj h
  refine fin1 Try.results63 rfl ?_
  exact ⟨rfl, hn1.2, hI.kp⟩
 ·replace h := cdF hc2 h
  refine cw_skip (cw_seq (cw_regF ?_))
  refine s_mv rfl rfl ?_
  refine s_mv rfl rfl ?_
  obtain ⟨z3, hz4, h⟩ := bnd h
  refine s_call rfl Try.call64 rfl ?_
  refine (C_slices_Compare_64 hI.mlt f_a_0 f_b_0 hz4).mono ?_
  rintro _ w5 ⟨rfl, r7, e6⟩
  refine ⟨_, rfl, ?_⟩
  have hI8 := hI.ext e6
  refine s_as rfl rfl ?_
  refine Reg.nil ?_
  refine cw_ret ?_
  obtain rfl := Option.some.inj h
  refine fin1 Try.results63 rfl ?_
  exact ⟨rfl, r7, hI8.kp⟩
noncomputable def P.score_works_stand_in1 (n : Int) (s_c : Span) : Option Bool :=
 Option.bind (cond (decide (s_c.lo ≤ n)) (some (decide (n ≤ s_c.hi))) (some false)) fun x2 => some x2
theorem C_score_works_stand_in1 {M : List Nat} {w : World} (hM : MLt M w) {n : Int} (f_n_0 : InK .i64 n) {s_c : Span} (f_s_c_0 : InK .i64 s_c.lo) (f_s_c_1 : InK .i64 s_c.hi) {b_s_c : Nat} (c_s_c : RdC M w b_s_c 0 [Value.int .i64 s_c.lo, Value.int .i64 s_c.hi]) {r0 : Bool} (h : P.score_works_stand_in1 n s_c = some r0) :
  Calls Try.prog 70 (List.toArray [Value.int .i64 n, Value.pointer (some ⟨b_s_c, 0, none⟩)]) w fun e w' => e = .returned (Value.bool r0) ∧ Ext w w' := by
 have hI := Hp.start (Mu := []) hM
 refine calls_cw Try.func70 rfl Try.ntmps70 rfl ?_
 refine cw_seq (cw_regF ?_)
 refine s_as rfl rfl ?_
 refine Reg.nil ?_
 obtain ⟨j1, h2, h⟩ := bnd h
 refine cw_sub (L := [(0, _), (1, _)]) (Sub.cons rfl (Sub.cons rfl (Sub.nil _))) ?_
 refine cw_seqD 2 (ι := Bool) (fun x3 => [(3, Value.bool x3)]) (fun x3 => fun w4 => w = w4 ∧ x3 = j1) ?_ ?_
 ·skip
  refine cw_regF ?_
  refine s_mv rfl rfl ?_
  refine s_fa rfl Try.underlying45 rfl Try.sizeOf3 rfl ?_
  refine s_ld rfl (c_s_c.cells.at 0 rfl) Try.isAgg3 rfl ?_
  refine s_geq rfl rfl rfl ?_
  refine s_mv rfl rfl ?_
  refine Reg.gsplit (t := 8) rfl (fun hg7 => ?_) (fun hg7 => ?_)
  ·replace h2 := cdT hg7 h2
   refine Reg.take rfl rfl ?_
   refine s_mv rfl rfl ?_
   refine Reg.take rfl rfl ?_
   refine s_fa rfl Try.underlying45 rfl Try.sizeOf3 rfl ?_
   refine Reg.take rfl rfl ?_
   refine s_ld rfl (c_s_c.cells.at 1 rfl) Try.isAgg3 rfl ?_
   refine Reg.take rfl rfl ?_
   refine s_leq rfl rfl rfl ?_
   refine s_pkT rfl rfl rfl ?_
   refine s_as rfl rfl ?_
   refine Reg.nil ?_
   obtain rfl := Option.some.inj h2
   refine ⟨rfl, decide (n ≤ s_c.hi), ⟨rfl, rfl⟩, Sub.cons rfl (Sub.nil _)⟩
  ·replace h2 := cdF hg7 h2
   refine Reg.pass rfl rfl rfl rfl ?_
   refine Reg.pass rfl rfl rfl rfl ?_
   refine Reg.pass rfl rfl rfl rfl ?_
   refine Reg.pass rfl rfl rfl rfl ?_
   refine s_pkF rfl rfl rfl ?_
   refine s_as rfl rfl ?_
   refine Reg.nil ?_
   obtain rfl := Option.some.inj h2
   refine ⟨rfl, false, ⟨rfl, rfl⟩, Sub.cons rfl (Sub.nil _)⟩
 ·skip
  rintro x3 _ ⟨rfl, rfl⟩
  refine cw_ret ?_
  obtain rfl := Option.some.inj h
  refine fin1 Try.results70 rfl ?_
  exact ⟨rfl, hI.kp⟩
noncomputable def P.cmp_Less_102 (x : Int) (y : Int) : Option Bool :=
 Option.bind (Option.bind (P.cmp_isNaN_89 x) fun z1 => cond z1 (Option.bind (P.cmp_isNaN_89 y) fun z7 => cond (!z7) (some true) (some (decide (x < y)))) (some (decide (x < y)))) fun x13 => some x13
theorem C_cmp_Less_102 {M : List Nat} {w : World} (hM : MLt M w) {x : Int} (f_x_0 : InK .i64 x) {y : Int} (f_y_0 : InK .i64 y) {r0 : Bool} (h : P.cmp_Less_102 x y = some r0) :
  Calls Try.prog 102 (List.toArray [Value.int .i64 x, Value.int .i64 y]) w fun e w' => e = .returned (Value.bool r0) ∧ Ext w w' := by
 have hI := Hp.start (Mu := []) hM
 refine calls_cw Try.func102 rfl Try.ntmps102 rfl ?_
 refine cw_seq (cw_regF ?_)
 refine s_as rfl rfl ?_
 refine Reg.nil ?_
 obtain ⟨j1, h2, h⟩ := bnd h
 refine cw_sub (L := [(0, _), (1, _)]) (Sub.cons rfl (Sub.cons rfl (Sub.nil _))) ?_
 refine cw_seqD 2 (ι := Bool) (fun x3 => [(4, Value.bool x3)]) (fun x3 => fun w4 => Hp w [] M [] w4 ∧ Adv (mm [] M) (mm [] M) w w4 ∧ x3 = j1) ?_ ?_
 ·skip
  refine cw_regF ?_
  refine s_mv rfl rfl ?_
  obtain ⟨z7, hz8, h2⟩ := bnd h2
  refine s_call rfl Try.call89 rfl ?_
  refine (C_cmp_isNaN_89 hI.mlt f_x_0 hz8).mono ?_
  rintro _ w9 ⟨rfl, e10⟩
  refine ⟨_, rfl, ?_⟩
  have hI11 := hI.ext e10
  refine s_mv rfl rfl ?_
  refine Reg.gsplit (t := 7) rfl (fun hg12 => ?_) (fun hg12 => ?_)
  ·replace h2 := cdT hg12 h2
   refine Reg.take rfl rfl ?_
   refine s_mv rfl rfl ?_
   refine Reg.take rfl rfl ?_
   obtain ⟨z13, hz14, h2⟩ := bnd h2
   refine s_call rfl Try.call89 rfl ?_
   refine (C_cmp_isNaN_89 hI11.mlt f_y_0 hz14).mono ?_
   rintro _ w15 ⟨rfl, e16⟩
   refine ⟨_, rfl, ?_⟩
   have hI17 := hI11.ext e16
   refine Reg.take rfl rfl ?_
   refine s_not rfl rfl ?_
   refine s_pkT rfl rfl rfl ?_
   refine s_mv rfl rfl ?_
   refine Reg.gsplit (t := 12) rfl (fun hg18 => ?_) (fun hg18 => ?_)
   ·replace h2 := cdT hg18 h2
    refine Reg.pass rfl rfl rfl rfl ?_
    refine Reg.pass rfl rfl rfl rfl ?_
    refine Reg.pass rfl rfl rfl rfl ?_
    refine s_pkT rfl rfl rfl ?_
    refine s_as rfl rfl ?_
    refine Reg.nil ?_
    obtain rfl := Option.some.inj h2
    refine ⟨rfl, true, ⟨hI17, hI17.adv, rfl⟩, Sub.cons rfl (Sub.nil _)⟩
   ·replace h2 := cdF hg18 h2
    refine Reg.take rfl rfl ?_
    refine s_mv rfl rfl ?_
    refine Reg.take rfl rfl ?_
    refine s_mv rfl rfl ?_
    refine Reg.take rfl rfl ?_
    refine s_lss rfl rfl rfl ?_
    refine s_pkF rfl rfl rfl ?_
    refine s_as rfl rfl ?_
    refine Reg.nil ?_
    obtain rfl := Option.some.inj h2
    refine ⟨rfl, decide (x < y), ⟨hI17, hI17.adv, rfl⟩, Sub.cons rfl (Sub.nil _)⟩
  ·replace h2 := cdF hg12 h2
   refine Reg.pass rfl rfl rfl rfl ?_
   refine Reg.pass rfl rfl rfl rfl ?_
   refine Reg.pass rfl rfl rfl rfl ?_
   refine s_pkF rfl rfl rfl ?_
   refine s_mv rfl rfl ?_
   refine Reg.take rfl rfl ?_
   refine s_mv rfl rfl ?_
   refine Reg.take rfl rfl ?_
   refine s_mv rfl rfl ?_
   refine Reg.take rfl rfl ?_
   refine s_lss rfl rfl rfl ?_
   refine s_pkF rfl rfl rfl ?_
   refine s_as rfl rfl ?_
   refine Reg.nil ?_
   obtain rfl := Option.some.inj h2
   refine ⟨rfl, decide (x < y), ⟨hI11, hI11.adv, rfl⟩, Sub.cons rfl (Sub.nil _)⟩
 ·skip
  rintro x3 w4 ⟨hI5, hA6, rfl⟩
  refine cw_ret ?_
  obtain rfl := Option.some.inj h
  refine fin1 Try.results102 rfl ?_
  exact ⟨rfl, hI5.kp⟩
noncomputable def P.slices_IsSorted_135 (x : (List Int)) : Option Bool :=
 Option.bind (chk .i64 ((x.length : Int) - 1)) fun n1 => Option.bind (loopM (S := Int) (R := (Unit) ⊕ (Bool)) (fun x2 => cond (decide (0 < x2)) (Option.bind (ixo x x2) fun y4 => Option.bind (chk .i64 (x2 - 1)) fun n11 => Option.bind (ixo x n11) fun y12 => Option.bind (P.cmp_Less_102 y4 y12) fun z19 => cond z19 (some (.inr (.inr false))) (Option.bind (chk .i64 (x2 - 1)) fun n27 => some (.inl n27))) (some (.inr (.inl ())))) n1) fun j28 => Sum.elim (fun _ => some true) (fun r29 => some r29)  j28
theorem C_slices_IsSorted_135 {M : List Nat} {w : World} (hM : MLt M w) {x : (List Int)} {v_x_0 : Value} (f_x_0 : RdS (intE .i64) M w v_x_0 x) {r0 : Bool} (h : P.slices_IsSorted_135 x = some r0) :
  Calls Try.prog 135 (List.toArray [v_x_0]) w fun e w' => e = .returned (Value.bool r0) ∧ Ext w w' := by
 have hI := Hp.start (Mu := []) hM
 refine calls_cw Try.func135 rfl Try.ntmps135 rfl ?_
 refine cw_seq (cw_regF ?_)
 refine s_as rfl rfl ?_
 refine Reg.nil ?_
 refine cw_seq (cw_seq (cw_regF ?_))
 refine s_mv rfl rfl ?_
 refine s_len rfl f_x_0 Try.underlying26 rfl ?_
 obtain ⟨n1, hn1, h⟩ := bnd h
 replace hn1 := chk_out hn1
 refine p_sub rfl rfl rfl hn1 ?_
 refine s_as rfl rfl ?_
 refine Reg.nil ?_
 obtain ⟨j2, h3, h⟩ := bnd h
 refine cw_sub (L := [(0, _), (3, _)]) (Sub.cons rfl (Sub.cons rfl (Sub.nil _))) ?_
 refine cw_unitD 2 (ι := Unit) (fun _ => []) (fun _ => fun w4 => Hp w [] M [] w4 ∧ Adv (mm [] M) (mm [] M) w w4 ∧ (.inl ()) = j2) ?_ ?_
 ·skip
  refine cw_block ?_
  refine cw_sub (L := [(3, _), (0, _)]) (Sub.cons rfl (Sub.cons rfl (Sub.nil _))) ?_
  refine cw_loopM 1 (ι := Int) _ (fun x7 => [(3, Value.int .i64 x7)]) (fun x7 => x7) (fun x7 => fun w9 => Hp w [] M [] w9 ∧ Adv (mm [] M) (mm [] M) w w9 ∧ InK .i64 x7) n1 h3 ⟨hI, (Adv.refl _ _), hn1.2⟩ (Sub.cons rfl (Sub.cons rfl (Sub.nil _))) ?_
  rintro x7 w9 ⟨hI10, hA11, r8⟩ y12 h13 hR14
  refine cw_seq (cw_seq (cw_regF ?_))
  refine s_mv rfl rfl ?_
  refine s_gtr rfl rfl rfl ?_
  refine Reg.nil ?_
  refine cw_cond rfl (fun hc15 => ?_) (fun hc15 => ?_)
  ·replace h13 := cdT hc15 h13
   refine cw_skip ?_
   refine cw_seq ?_
   refine cw_block ?_
   refine cw_seq ?_
   refine cw_regT fol (by kernel_rfl) ?_
   refine s_mv rfl rfl ?_
   refine s_mv rfl rfl ?_
   obtain ⟨y16, hy16, h13⟩ := bnd h13
   refine p_ia rfl rfl (f_x_0.adv hI10.adv) hy16 Try.underlying26 Try.sizeOf3 rfl ?_
   intro b17 o18 cs19 hR20 hC21
   obtain ⟨rfl, r22⟩ := hR20
   refine s_ld rfl (hC21.cells.at 0 rfl) Try.isAgg3 rfl ?_
   refine s_mv rfl rfl ?_
   refine s_mv rfl rfl ?_
   obtain ⟨n23, hn23, h13⟩ := bnd h13
   replace hn23 := chk_out hn23
   refine p_sub rfl rfl rfl hn23 ?_
   obtain ⟨y24, hy24, h13⟩ := bnd h13
   refine p_ia rfl rfl (f_x_0.adv hI10.adv) hy24 Try.underlying26 Try.sizeOf3 rfl ?_
   intro b25 o26 cs27 hR28 hC29
   obtain ⟨rfl, r30⟩ := hR28
   refine s_ld rfl (hC29.cells.at 0 rfl) Try.isAgg3 rfl ?_
   obtain ⟨z31, hz32, h13⟩ := bnd h13
   refine s_callq rfl rfl Try.call102 rfl (fun w33 e34 => (C_cmp_Less_102 (hI10.mlt.ext e34) r22 r30 hz32).mono (fun _ _ hq => ⟨hq.1, hq.2⟩)) ?_
   refine Reg.nilq (fun w35 e36 => ?_)
   have hI37 := hI10.ext e36
   refine cw_cond rfl (fun hc38 => ?_) (fun hc38 => ?_)
   ·replace h13 := cdT hc38 h13
    refine cw_seq (cw_regF ?_)
    refine s_as rfl rfl ?_
    refine Reg.nil ?_
    refine cw_ret ?_
    obtain rfl := Option.some.inj h13
    obtain rfl := hR14 _ rfl
    replace h := elimR h
    obtain rfl := Option.some.inj h
    refine fin1 Try.results135 rfl ?_
    exact ⟨rfl, hI37.kp⟩
   ·replace h13 := cdF hc38 h13
    refine cw_skip ?_
    refine cw_regF ?_
    refine s_mv rfl rfl ?_
    obtain ⟨n39, hn39, h13⟩ := bnd h13
    replace hn39 := chk_out hn39
    refine p_sub rfl rfl rfl hn39 ?_
    refine s_as rfl rfl ?_
    refine Reg.nil ?_
    obtain rfl := Option.some.inj h13
    refine ⟨rfl, n39, ⟨⟨hI37, hI37.adv, hn39.2⟩, rfl⟩, Sub.cons rfl (Sub.cons rfl (Sub.nil _))⟩
  ·replace h13 := cdF hc15 h13
   refine cw_exit ?_
   refine exB_same ?_
   obtain rfl := Option.some.inj h13
   obtain rfl := hR14 _ rfl
   refine ⟨rfl, (), ⟨hI10, hI10.adv, rfl⟩, Sub.nil _⟩
 ·skip
  rintro _ w4 ⟨hI5, hA6, rfl⟩
  replace h := elimL h
  refine cw_seq (cw_regF ?_)
  refine s_as rfl rfl ?_
  refine Reg.nil ?_
  refine cw_ret ?_
  obtain rfl := Option.some.inj h
  refine fin1 Try.results135 rfl ?_
  exact ⟨rfl, hI5.kp⟩
noncomputable def P.score_tree_points (t : Tree) (x : (List Int)) : Option Int :=
 Option.bind (ixo t.nodes 0) fun y7 => Option.bind (loopM (S := Int × Int × Int × Int × Int) (R := (Int × Int × Int × Int × Int)) (fun (x25, x26, x27, x28, x29) => cond (!decide (x25 = (-1))) (Option.bind (Option.bind (ixo x x25) fun y31 => Option.bind (cond (decide (y31 < x26)) (Option.bind (ixo t.nodes x27) fun y42 => some (y42.trait, y42.cut, y42.low, y42.high, y42.points)) (Option.bind (ixo t.nodes x28) fun y56 => some (y56.trait, y56.cut, y56.low, y56.high, y56.points))) fun (x70, x71, x72, x73, x74) => some (x70, x71, x72, x73, x74)) fun (x75, x76, x77, x78, x79) => some (.inl (x75, x76, x77, x78, x79))) (some (.inr (x25, x26, x27, x28, x29)))) (y7.trait, y7.cut, y7.low, y7.high, y7.points)) fun (x80, x81, x82, x83, x84) => some x84
theorem C_score_tree_points {M : List Nat} {w : World} (hM : MLt M w) {t : Tree} {v_t_1 : Value} (f_t_0 : InK .i64 t.weight) (f_t_1 : RdS NodeE M w v_t_1 t.nodes) {x : (List Int)} {v_x_0 : Value} (f_x_0 : RdS (intE .i64) M w v_x_0 x) {r0 : Int} (h : P.score_tree_points t x = some r0) :
  Calls Try.prog 136 (List.toArray [Value.agg (List.toArray [Value.int .i64 t.weight, v_t_1]), v_x_0]) w fun e w' => e = .returned (Value.int .i64 r0) ∧ InK .i64 r0 ∧ Ext w w' := by
 have hI := Hp.start (Mu := []) hM
 refine calls_cw Try.func136 rfl Try.ntmps136 rfl ?_
 refine cw_seq (cw_regF ?_)
 refine y_box hI rfl rfl rfl ?_
 intro b1 w2 hI3 x4
 have hC6 := hI3.freezeRow 0 rfl
 have hI5 := hI3.erase 0
 refine s_as rfl rfl ?_
 refine Reg.nil ?_
 refine cw_seq (cw_regF ?_)
 refine s_fa rfl Try.underlying106 rfl Try.sizeOf57 rfl ?_
 refine s_ld rfl (hC6.cells.at 1 rfl) Try.isAgg57 rfl ?_
 obtain ⟨y7, hy7, h⟩ := bnd h
 refine p_ia rfl rfl (f_t_1.adv hI5.adv) hy7 Try.underlying57 Try.sizeOf62 rfl ?_
 intro b8 o9 cs10 hR11 hC12
 obtain ⟨rfl, r13, r14, r15, r16, r17⟩ := NodeE_R.1 hR11
 refine s_lda rfl hC12.cells Try.isAgg62 rfl Try.sizeOf62 rfl ?_
 refine y_al hI5 Try.zeroValue62 rfl rfl ?_
 intro b18 w19 hI20 x21
 refine y_st 0 hI20 rfl rfl rfl rfl Try.sizeOf62 rfl rfl (one1 rfl (one1 rfl (one1 rfl (one1 rfl (one1 rfl one0))))) ?_
 intro w22 hI23 x24
 refine Reg.nil ?_
 obtain ⟨j25, h26, h⟩ := bnd h
 refine cw_sub (L := [(1, _), (2, _), (5, _)]) (Sub.cons rfl (Sub.cons rfl (Sub.cons rfl (Sub.nil _)))) ?_
 refine cw_seqD 2 (ι := Int × Int × Int × Int × Int) (fun ⟨x27, x29, x31, x33, x35⟩ => []) (fun ⟨x27, x29, x31, x33, x35⟩ => fun w37 => Hp w [] M [rowR 62 b18 [Value.int .i64 x27, Value.int .i64 x29, Value.int .i64 x31, Value.int .i64 x33, Value.int .i64 x35]] w37 ∧ Adv (mm [rowR 62 b18 [Value.int .i64 y7.trait, Value.int .i64 y7.cut, Value.int .i64 y7.low, Value.int .i64 y7.high, Value.int .i64 y7.points]] M) (mm [rowR 62 b18 [Value.int .i64 x27, Value.int .i64 x29, Value.int .i64 x31, Value.int .i64 x33, Value.int .i64 x35]] M) w22 w37 ∧ InK .i64 x27 ∧ InK .i64 x29 ∧ InK .i64 x31 ∧ InK .i64 x33 ∧ InK .i64 x35 ∧ (x27, x29, x31, x33, x35) = j25) ?_ ?_
 ·skip
  refine cw_block ?_
  refine cw_sub (L := [(1, _), (2, _), (5, _)]) (Sub.cons rfl (Sub.cons rfl (Sub.cons rfl (Sub.nil _)))) ?_
  refine cw_loopM 0 (ι := Int × Int × Int × Int × Int) _ (fun ⟨x40, x42, x44, x46, x48⟩ => []) (fun ⟨x40, x42, x44, x46, x48⟩ => (x40, x42, x44, x46, x48)) (fun ⟨x40, x42, x44, x46, x48⟩ => fun w50 => Hp w [] M [rowR 62 b18 [Value.int .i64 x40, Value.int .i64 x42, Value.int .i64 x44, Value.int .i64 x46, Value.int .i64 x48]] w50 ∧ Adv (mm [rowR 62 b18 [Value.int .i64 y7.trait, Value.int .i64 y7.cut, Value.int .i64 y7.low, Value.int .i64 y7.high, Value.int .i64 y7.points]] M) (mm [rowR 62 b18 [Value.int .i64 x40, Value.int .i64 x42, Value.int .i64 x44, Value.int .i64 x46, Value.int .i64 x48]] M) w22 w50 ∧ InK .i64 x40 ∧ InK .i64 x42 ∧ InK .i64 x44 ∧ InK .i64 x46 ∧ InK .i64 x48) (y7.trait, y7.cut, y7.low, y7.high, y7.points) h26 ⟨hI23, (Adv.refl _ _), r13, r14, r15, r16, r17⟩ (Sub.cons rfl (Sub.cons rfl (Sub.cons rfl (Sub.nil _)))) ?_
  rintro ⟨x40, x42, x44, x46, x48⟩ w50 ⟨hI51, hA52, r41, r43, r45, r47, r49⟩ y53 h54 hR55
  refine cw_seq (cw_seq (cw_regF ?_))
  refine s_fa rfl Try.underlying62 rfl Try.sizeOf3 rfl ?_
  refine s_ld rfl ((hI51.row 0 rfl).rd.cells.at 0 rfl) Try.isAgg3 rfl ?_
  refine s_neq rfl rfl rfl ?_
  refine Reg.nil ?_
  refine cw_cond rfl (fun hc56 => ?_) (fun hc56 => ?_)
  ·replace h54 := cdT hc56 h54
   refine cw_skip ?_
   obtain ⟨j57, h58, h54⟩ := bnd h54
   refine cw_sub (L := [(1, _), (2, _), (5, _)]) (Sub.cons rfl (Sub.cons rfl (Sub.cons rfl (Sub.nil _)))) ?_
   refine cw_unitD 0 (ι := Int × Int × Int × Int × Int) (fun ⟨x59, x61, x63, x65, x67⟩ => []) (fun ⟨x59, x61, x63, x65, x67⟩ => fun w69 => Hp w [] M [rowR 62 b18 [Value.int .i64 x59, Value.int .i64 x61, Value.int .i64 x63, Value.int .i64 x65, Value.int .i64 x67]] w69 ∧ Adv (mm [rowR 62 b18 [Value.int .i64 x40, Value.int .i64 x42, Value.int .i64 x44, Value.int .i64 x46, Value.int .i64 x48]] M) (mm [rowR 62 b18 [Value.int .i64 x59, Value.int .i64 x61, Value.int .i64 x63, Value.int .i64 x65, Value.int .i64 x67]] M) w50 w69 ∧ InK .i64 x59 ∧ InK .i64 x61 ∧ InK .i64 x63 ∧ InK .i64 x65 ∧ InK .i64 x67 ∧ (x59, x61, x63, x65, x67) = j57) ?_ ?_
   ·skip
    refine cw_block ?_
    refine cw_seq (cw_regF ?_)
    refine s_fa rfl Try.underlying62 rfl Try.sizeOf3 rfl ?_
    refine s_ld rfl ((hI51.row 0 rfl).rd.cells.at 3 rfl) Try.isAgg3 rfl ?_
    refine s_as rfl rfl ?_
    refine Reg.nil ?_
    refine cw_seq ?_
    refine cw_regT fol (by kernel_rfl) ?_
    refine s_mv rfl rfl ?_
    refine s_fa rfl Try.underlying62 rfl Try.sizeOf3 rfl ?_
    refine s_ld rfl ((hI51.row 0 rfl).rd.cells.at 0 rfl) Try.isAgg3 rfl ?_
    obtain ⟨y72, hy72, h58⟩ := bnd h58
    refine p_ia rfl rfl (f_x_0.adv hI51.adv) hy72 Try.underlying26 Try.sizeOf3 rfl ?_
    intro b73 o74 cs75 hR76 hC77
    obtain ⟨rfl, r78⟩ := hR76
    refine s_ld rfl (hC77.cells.at 0 rfl) Try.isAgg3 rfl ?_
    refine s_fa rfl Try.underlying62 rfl Try.sizeOf3 rfl ?_
    refine s_ld rfl ((hI51.row 0 rfl).rd.cells.at 1 rfl) Try.isAgg3 rfl ?_
    refine s_lss rfl rfl rfl ?_
    refine Reg.nilq (fun w79 e80 => ?_)
    have hI81 := hI51.ext e80
    obtain ⟨j82, h83, h58⟩ := bnd h58
    refine cw_sub (L := [(6, _), (23, _), (1, _), (2, _), (5, _)]) (Sub.cons rfl (Sub.cons rfl (Sub.cons rfl (Sub.cons rfl (Sub.cons rfl (Sub.nil _)))))) ?_
    refine cw_unitD 2 (ι := Int × Int × Int × Int × Int) (fun ⟨x84, x86, x88, x90, x92⟩ => []) (fun ⟨x84, x86, x88, x90, x92⟩ => fun w94 => Hp w [] M [rowR 62 b18 [Value.int .i64 x84, Value.int .i64 x86, Value.int .i64 x88, Value.int .i64 x90, Value.int .i64 x92]] w94 ∧ Adv (mm [rowR 62 b18 [Value.int .i64 x40, Value.int .i64 x42, Value.int .i64 x44, Value.int .i64 x46, Value.int .i64 x48]] M) (mm [rowR 62 b18 [Value.int .i64 x84, Value.int .i64 x86, Value.int .i64 x88, Value.int .i64 x90, Value.int .i64 x92]] M) w79 w94 ∧ InK .i64 x84 ∧ InK .i64 x86 ∧ InK .i64 x88 ∧ InK .i64 x90 ∧ InK .i64 x92 ∧ (x84, x86, x88, x90, x92) = j82) ?_ ?_
    ·skip
     refine cw_cond rfl (fun hc97 => ?_) (fun hc97 => ?_)
     ·replace h83 := cdT hc97 h83
      refine cw_regF ?_
      refine s_fa rfl Try.underlying106 rfl Try.sizeOf57 rfl ?_
      refine s_ld rfl ((hC6.adv (x21.trans (x24.trans (hA52.trans (Adv.of_ext e80))))).cells.at 1 rfl) Try.isAgg57 rfl ?_
      refine s_fa rfl Try.underlying62 rfl Try.sizeOf3 rfl ?_
      refine s_ld rfl ((hI81.row 0 rfl).rd.cells.at 2 rfl) Try.isAgg3 rfl ?_
      obtain ⟨y98, hy98, h83⟩ := bnd h83
      refine p_ia rfl rfl (f_t_1.adv hI81.adv) hy98 Try.underlying57 Try.sizeOf62 rfl ?_
      intro b99 o100 cs101 hR102 hC103
      obtain ⟨rfl, r104, r105, r106, r107, r108⟩ := NodeE_R.1 hR102
      refine s_lda rfl hC103.cells Try.isAgg62 rfl Try.sizeOf62 rfl ?_
      refine y_st 0 hI81 rfl rfl rfl rfl Try.sizeOf62 rfl rfl (one1 rfl (one1 rfl (one1 rfl (one1 rfl (one1 rfl one0))))) ?_
      intro w109 hI110 x111
      refine Reg.nil ?_
      obtain rfl := Option.some.inj h83
      refine ⟨rfl, (y98.trait, y98.cut, y98.low, y98.high, y98.points), ⟨hI110, x111, r104, r105, r106, r107, r108, rfl⟩, Sub.cons rfl (Sub.cons rfl (Sub.cons rfl (Sub.nil _)))⟩
     ·replace h83 := cdF hc97 h83
      refine cw_regF ?_
      refine s_fa rfl Try.underlying106 rfl Try.sizeOf57 rfl ?_
      refine s_ld rfl ((hC6.adv (x21.trans (x24.trans (hA52.trans (Adv.of_ext e80))))).cells.at 1 rfl) Try.isAgg57 rfl ?_
      refine s_mv rfl rfl ?_
      obtain ⟨y112, hy112, h83⟩ := bnd h83
      refine p_ia rfl rfl (f_t_1.adv hI81.adv) hy112 Try.underlying57 Try.sizeOf62 rfl ?_
      intro b113 o114 cs115 hR116 hC117
      obtain ⟨rfl, r118, r119, r120, r121, r122⟩ := NodeE_R.1 hR116
      refine s_lda rfl hC117.cells Try.isAgg62 rfl Try.sizeOf62 rfl ?_
      refine y_st 0 hI81 rfl rfl rfl rfl Try.sizeOf62 rfl rfl (one1 rfl (one1 rfl (one1 rfl (one1 rfl (one1 rfl one0))))) ?_
      intro w123 hI124 x125
      refine Reg.nil ?_
      obtain rfl := Option.some.inj h83
      refine ⟨rfl, (y112.trait, y112.cut, y112.low, y112.high, y112.points), ⟨hI124, x125, r118, r119, r120, r121, r122, rfl⟩, Sub.cons rfl (Sub.cons rfl (Sub.cons rfl (Sub.nil _)))⟩
    ·skip
     rintro ⟨x84, x86, x88, x90, x92⟩ w94 ⟨hI95, hA96, r85, r87, r89, r91, r93, rfl⟩
     obtain rfl := Option.some.inj h58
     refine ⟨rfl, (x84, x86, x88, x90, x92), ⟨hI95, ((Adv.of_ext e80).trans hA96), r85, r87, r89, r91, r93, rfl⟩, Sub.cons rfl (Sub.cons rfl (Sub.cons rfl (Sub.nil _)))⟩
   ·skip
    rintro ⟨x59, x61, x63, x65, x67⟩ w69 ⟨hI70, hA71, r60, r62, r64, r66, r68, rfl⟩
    obtain rfl := Option.some.inj h54
    refine ⟨rfl, (x59, x61, x63, x65, x67), ⟨⟨hI70, (hA52.trans hA71), r60, r62, r64, r66, r68⟩, rfl⟩, Sub.cons rfl (Sub.cons rfl (Sub.cons rfl (Sub.nil _)))⟩
  ·replace h54 := cdF hc56 h54
   refine cw_exit ?_
   refine exB_same ?_
   obtain rfl := Option.some.inj h54
   obtain rfl := hR55 _ rfl
   refine ⟨rfl, (x40, x42, x44, x46, x48), ⟨hI51, hA52, r41, r43, r45, r47, r49, rfl⟩, Sub.cons rfl (Sub.nil _)⟩
 ·skip
  rintro ⟨x27, x29, x31, x33, x35⟩ w37 ⟨hI38, hA39, r28, r30, r32, r34, r36, rfl⟩
  refine cw_seq (cw_regF ?_)
  refine s_fa rfl Try.underlying62 rfl Try.sizeOf3 rfl ?_
  refine s_ld rfl ((hI38.row 0 rfl).rd.cells.at 4 rfl) Try.isAgg3 rfl ?_
  refine s_as rfl rfl ?_
  refine Reg.nil ?_
  refine cw_ret ?_
  obtain rfl := Option.some.inj h
  refine fin1 Try.results136 rfl ?_
  exact ⟨rfl, r36, hI38.kp⟩
noncomputable def P.score_card_weight (c : Card) : Option Int :=
 some c.weight
theorem C_score_card_weight {M : List Nat} {w : World} (hM : MLt M w) {c : Card} {v_c_2 : Value} (f_c_0 : InK .i64 c.weight) (f_c_1 : InK .i64 c.base) (f_c_2 : RdS ScaleE M w v_c_2 c.scales) {r0 : Int} (h : P.score_card_weight c = some r0) :
  Calls Try.prog 128 (List.toArray [Value.agg (List.toArray [Value.int .i64 c.weight, Value.int .i64 c.base, v_c_2])]) w fun e w' => e = .returned (Value.int .i64 r0) ∧ InK .i64 r0 ∧ Ext w w' := by
 have hI := Hp.start (Mu := []) hM
 refine calls_cw Try.func128 rfl Try.ntmps128 rfl ?_
 refine cw_seq (cw_regF ?_)
 refine y_box hI rfl rfl rfl ?_
 intro b1 w2 hI3 x4
 have hC6 := hI3.freezeRow 0 rfl
 have hI5 := hI3.erase 0
 refine s_as rfl rfl ?_
 refine Reg.nil ?_
 refine cw_seq (cw_regF ?_)
 refine s_fa rfl Try.underlying105 rfl Try.sizeOf3 rfl ?_
 refine s_ld rfl (hC6.cells.at 0 rfl) Try.isAgg3 rfl ?_
 refine s_as rfl rfl ?_
 refine Reg.nil ?_
 refine cw_ret ?_
 obtain rfl := Option.some.inj h
 refine fin1 Try.results128 rfl ?_
 exact ⟨rfl, f_c_0, hI5.kp⟩
noncomputable def P.score_tree_weight (t : Tree) : Option Int :=
 some t.weight
theorem C_score_tree_weight {M : List Nat} {w : World} (hM : MLt M w) {t : Tree} {v_t_1 : Value} (f_t_0 : InK .i64 t.weight) (f_t_1 : RdS NodeE M w v_t_1 t.nodes) {r0 : Int} (h : P.score_tree_weight t = some r0) :
  Calls Try.prog 138 (List.toArray [Value.agg (List.toArray [Value.int .i64 t.weight, v_t_1])]) w fun e w' => e = .returned (Value.int .i64 r0) ∧ InK .i64 r0 ∧ Ext w w' := by
 have hI := Hp.start (Mu := []) hM
 refine calls_cw Try.func138 rfl Try.ntmps138 rfl ?_
 refine cw_seq (cw_regF ?_)
 refine y_box hI rfl rfl rfl ?_
 intro b1 w2 hI3 x4
 have hC6 := hI3.freezeRow 0 rfl
 have hI5 := hI3.erase 0
 refine s_as rfl rfl ?_
 refine Reg.nil ?_
 refine cw_seq (cw_regF ?_)
 refine s_fa rfl Try.underlying106 rfl Try.sizeOf3 rfl ?_
 refine s_ld rfl (hC6.cells.at 0 rfl) Try.isAgg3 rfl ?_
 refine s_as rfl rfl ?_
 refine Reg.nil ?_
 refine cw_ret ?_
 obtain rfl := Option.some.inj h
 refine fin1 Try.results138 rfl ?_
 exact ⟨rfl, f_t_0, hI5.kp⟩
noncomputable def P.slices_isNaN_133 (x : Int) : Option Bool :=
 some (!decide (x = x))
theorem C_slices_isNaN_133 {M : List Nat} {w : World} (hM : MLt M w) {x : Int} (f_x_0 : InK .i64 x) {r0 : Bool} (h : P.slices_isNaN_133 x = some r0) :
  Calls Try.prog 133 (List.toArray [Value.int .i64 x]) w fun e w' => e = .returned (Value.bool r0) ∧ Ext w w' := by
 have hI := Hp.start (Mu := []) hM
 refine calls_cw Try.func133 rfl Try.ntmps133 rfl ?_
 refine cw_seq (cw_regF ?_)
 refine s_as rfl rfl ?_
 refine Reg.nil ?_
 refine cw_seq (cw_regF ?_)
 refine s_mv rfl rfl ?_
 refine s_mv rfl rfl ?_
 refine s_neq rfl rfl rfl ?_
 refine s_as rfl rfl ?_
 refine Reg.nil ?_
 refine cw_ret ?_
 obtain rfl := Option.some.inj h
 refine fin1 Try.results133 rfl ?_
 exact ⟨rfl, hI.kp⟩
noncomputable def P.slices_IndexFunc_67 (s : (List Int)) (f : Int → Option Bool) : Option Int :=
 Option.bind (loopM (S := Int) (R := (Unit) ⊕ (Int)) (fun x1 => cond (decide (x1 < (s.length : Int))) (Option.bind (ixo s x1) fun y3 => Option.bind (f y3) fun z10 => cond z10 (some (.inr (.inr x1))) (Option.bind (chk .i64 (x1 + 1)) fun n16 => some (.inl n16))) (some (.inr (.inl ())))) 0) fun j17 => Sum.elim (fun _ => some (-1)) (fun r18 => some r18)  j17
theorem C_slices_IndexFunc_67 {M : List Nat} {w : World} (hM : MLt M w) {s : (List Int)} {v_s_0 : Value} (f_s_0 : RdS (intE .i64) M w v_s_0 s) {v_f : Value} {f : Int → Option Bool} (f_f : ∀ (x0 : Int) (r : Bool) (w1 : World), Kp [] w w1 → InK .i64 x0 → f x0 = some r → CallsV Try.prog v_f [Value.int .i64 x0] w1 fun e w2 => e = .returned (Value.bool r) ∧ Ext w1 w2) {r0 : Int} (h : P.slices_IndexFunc_67 s f = some r0) :
  Calls Try.prog 67 (List.toArray [v_s_0, v_f]) w fun e w' => e = .returned (Value.int .i64 r0) ∧ InK .i64 r0 ∧ Ext w w' := by
 have hI := Hp.start (Mu := []) hM
 refine calls_cw Try.func67 rfl Try.ntmps67 rfl ?_
 refine cw_seq (cw_regF ?_)
 refine s_as rfl rfl ?_
 refine Reg.nil ?_
 refine cw_seq (cw_seq (cw_regF ?_))
 refine s_mv rfl rfl ?_
 refine s_len rfl f_s_0 Try.underlying26 rfl ?_
 refine s_mv rfl rfl ?_
 refine Reg.nil ?_
 obtain ⟨j1, h2, h⟩ := bnd h
 refine cw_sub (L := [(0, _), (1, _), (7, _), (8, _)]) (Sub.cons rfl (Sub.cons rfl (Sub.cons rfl (Sub.cons rfl (Sub.nil _))))) ?_
 refine cw_unitD 4 (ι := Unit) (fun _ => []) (fun _ => fun w3 => Hp w [] M [] w3 ∧ Adv (mm [] M) (mm [] M) w w3 ∧ (.inl ()) = j1) ?_ ?_
 ·skip
  refine cw_block ?_
  refine cw_sub (L := [(8, _), (0, _), (1, _), (7, _)]) (Sub.cons rfl (Sub.cons rfl (Sub.cons rfl (Sub.cons rfl (Sub.nil _))))) ?_
  refine cw_loopM 1 (ι := Int) _ (fun x6 => [(8, Value.int .i64 x6)]) (fun x6 => x6) (fun x6 => fun w8 => Hp w [] M [] w8 ∧ Adv (mm [] M) (mm [] M) w w8 ∧ InK .i64 x6) 0 h2 ⟨hI, (Adv.refl _ _), (by decide)⟩ (Sub.cons rfl (Sub.cons rfl (Sub.cons rfl (Sub.cons rfl (Sub.nil _))))) ?_
  rintro x6 w8 ⟨hI9, hA10, r7⟩ y11 h12 hR13
  refine cw_seq (cw_regF ?_)
  refine s_lss rfl rfl rfl ?_
  refine Reg.nil ?_
  refine cw_seq ?_
  refine cw_cond rfl (fun hc14 => ?_) (fun hc14 => ?_)
  ·replace h12 := cdT hc14 h12
   refine cw_skip ?_
   refine cw_seq ?_
   refine cw_block ?_
   refine cw_seq (cw_regF ?_)
   refine s_mv rfl rfl ?_
   refine s_as rfl rfl ?_
   refine Reg.nil ?_
   refine cw_seq (cw_regF ?_)
   refine s_mv rfl rfl ?_
   refine s_mv rfl rfl ?_
   refine s_mv rfl rfl ?_
   obtain ⟨y15, hy15, h12⟩ := bnd h12
   refine p_ia rfl rfl (f_s_0.adv hI9.adv) hy15 Try.underlying26 Try.sizeOf3 rfl ?_
   intro b16 o17 cs18 hR19 hC20
   obtain ⟨rfl, r21⟩ := hR19
   refine s_ld rfl (hC20.cells.at 0 rfl) Try.isAgg3 rfl ?_
   obtain ⟨z22, hz22, h12⟩ := bnd h12
   refine s_callV rfl rfl rfl ?_
   refine (f_f _ _ _ hI9.kp r21 hz22).mono ?_
   rintro _ w23 ⟨rfl, e24⟩
   refine ⟨_, rfl, ?_⟩
   have hI26 := hI9.ext e24
   refine Reg.nil ?_
   refine cw_cond rfl (fun hc27 => ?_) (fun hc27 => ?_)
   ·replace h12 := cdT hc27 h12
    refine cw_seq (cw_regF ?_)
    refine s_mv rfl rfl ?_
    refine s_as rfl rfl ?_
    refine Reg.nil ?_
    refine cw_ret ?_
    obtain rfl := Option.some.inj h12
    obtain rfl := hR13 _ rfl
    replace h := elimR h
    obtain rfl := Option.some.inj h
    refine fin1 Try.results67 rfl ?_
    exact ⟨rfl, r7, hI26.kp⟩
   ·replace h12 := cdF hc27 h12
    refine cw_skip ?_
    refine cw_regF ?_
    obtain ⟨n28, hn28, h12⟩ := bnd h12
    replace hn28 := chk_out hn28
    refine p_add rfl rfl rfl hn28 ?_
    refine s_mv rfl rfl ?_
    refine Reg.nil ?_
    obtain rfl := Option.some.inj h12
    refine ⟨rfl, n28, ⟨⟨hI26, hI26.adv, hn28.2⟩, rfl⟩, Sub.cons rfl (Sub.cons rfl (Sub.cons rfl (Sub.cons rfl (Sub.nil _))))⟩
  ·replace h12 := cdF hc14 h12
   refine cw_exit ?_
   refine exB_same ?_
   obtain rfl := Option.some.inj h12
   obtain rfl := hR13 _ rfl
   refine ⟨rfl, (), ⟨hI9, hI9.adv, rfl⟩, Sub.nil _⟩
 ·skip
  rintro _ w3 ⟨hI4, hA5, rfl⟩
  replace h := elimL h
  refine cw_seq (cw_regF ?_)
  refine s_as rfl rfl ?_
  refine Reg.nil ?_
  refine cw_ret ?_
  obtain rfl := Option.some.inj h
  refine fin1 Try.results67 rfl ?_
  exact ⟨rfl, (by decide), hI4.kp⟩
end Go.Proofs.Ytecmlmngcnionaa
