/-
  Part 3 of the texts that the statement's proof stands on: what memory holds, how code is walked, what the functions reckon. In the order in which they build.
-/
import Derived.Test.YtecmlmngcnionaaGreatProg
import Derived.Test.YtecmlmngcnionaaGreatSr2
set_option linter.unusedVariables false
set_option maxRecDepth 20000
namespace Go.Proofs.YtecmlmngcnionaaGreat
open Go Go.Sx Go.RowKit
noncomputable def P.ref06_Great (m : Model) : Option Bool :=
 Option.bind (cond (decide (6 < (m.cards.length : Int))) (some true) (some (decide (6 < (m.trees.length : Int))))) fun x8 => cond x8 (some true) (Option.bind (loopM (S := Int) (R := (Unit) ⊕ (Bool)) (fun x10 => cond (decide (x10 < (m.cards.length : Int))) (Option.bind (ixo m.cards x10) fun y12 => cond (decide (10 < (y12.scales.length : Int))) (some (.inr (.inr true))) (Option.bind (loopM (S := Int) (R := (Unit) ⊕ (Bool)) (fun x23 => Option.bind (ixo m.cards x10) fun y24 => cond (decide (x23 < (y24.scales.length : Int))) (Option.bind (Option.bind (ixo m.cards x10) fun y35 => Option.bind (ixo y35.scales x23) fun y45 => cond (decide (10 < (y45.cuts.length : Int))) (some true) (Option.bind (ixo m.cards x10) fun y57 => Option.bind (ixo y57.scales x23) fun y67 => some (decide (12 < (y67.points.length : Int))))) fun x78 => cond x78 (some (.inr (.inr true))) (Option.bind (chk .i64 (x23 + 1)) fun n80 => some (.inl n80))) (some (.inr (.inl ())))) 0) fun j81 => Sum.elim (fun _ => Option.bind (chk .i64 (x10 + 1)) fun n82 => some (.inl n82)) (fun r83 => some (.inr (.inr r83)))  j81)) (some (.inr (.inl ())))) 0) fun j84 => Sum.elim (fun _ => Option.bind (loopM (S := Int) (R := (Unit) ⊕ (Bool)) (fun x85 => cond (decide (x85 < (m.trees.length : Int))) (Option.bind (ixo m.trees x85) fun y87 => cond (decide (20 < (y87.nodes.length : Int))) (some (.inr (.inr true))) (Option.bind (chk .i64 (x85 + 1)) fun n97 => some (.inl n97))) (some (.inr (.inl ())))) 0) fun j98 => Sum.elim (fun _ => some false) (fun r99 => some r99)  j98) (fun r100 => some r100)  j84)
theorem C_ref06_Great {M : List Nat} {w : World} (hM : MLt M w) {m : Model} {v_m_1 : Value} {v_m_2 : Value} (f_m_0 : InK .i64 m.traits) (f_m_1 : RdS CardE M w v_m_1 m.cards) (f_m_2 : RdS TreeE M w v_m_2 m.trees) (f_m_3 : InK .i64 m.need) {r0 : Bool} (h : P.ref06_Great m = some r0) :
  Calls Tryz.prog 4 (List.toArray [Value.agg (List.toArray [Value.int .i64 m.traits, v_m_1, v_m_2, Value.int .i64 m.need])]) w fun e w' => e = .returned (Value.bool r0) ∧ Ext w w' := by
 have hI := Hp.start (Mu := []) hM
 refine calls_cw Tryz.func4 rfl Tryz.ntmps4 rfl ?_
 refine cw_seq (cw_regF ?_)
 refine y_box hI rfl rfl rfl ?_
 intro b1 w2 hI3 x4
 have hC6 := hI3.freezeRow 0 rfl
 have hI5 := hI3.erase 0
 refine s_as rfl rfl ?_
 refine Reg.nil ?_
 refine cw_seq ?_
 obtain ⟨j7, h8, h⟩ := bnd h
 refine cw_sub (L := [(1, _)]) (Sub.cons rfl (Sub.nil _)) ?_
 refine cw_seqD 0 (ι := Bool) (fun x9 => [(15, Value.bool x9)]) (fun x9 => fun w10 => w2 = w10 ∧ x9 = j7) ?_ ?_
 ·skip
  refine cw_regF ?_
  refine s_fa rfl Tryz.underlying25 rfl Tryz.sizeOf22 rfl ?_
  refine s_ld rfl (hC6.cells.at 1 rfl) Tryz.isAgg22 rfl ?_
  refine s_len rfl (f_m_1.adv hI5.adv) Tryz.underlying22 rfl ?_
  refine s_gtr rfl rfl rfl ?_
  refine s_mv rfl rfl ?_
  refine Reg.gsplit (t := 10) rfl (fun hg13 => ?_) (fun hg13 => ?_)
  ·replace h8 := cdT hg13 h8
   refine Reg.pass rfl rfl rfl rfl ?_
   refine Reg.pass rfl rfl rfl rfl ?_
   refine Reg.pass rfl rfl rfl rfl ?_
   refine Reg.pass rfl rfl rfl rfl ?_
   refine s_pkT rfl rfl rfl ?_
   refine Reg.nil ?_
   obtain rfl := Option.some.inj h8
   refine ⟨rfl, true, ⟨rfl, rfl⟩, Sub.cons rfl (Sub.cons rfl (Sub.nil _))⟩
  ·replace h8 := cdF hg13 h8
   refine Reg.take rfl rfl ?_
   refine s_fa rfl Tryz.underlying25 rfl Tryz.sizeOf23 rfl ?_
   refine Reg.take rfl rfl ?_
   refine s_ld rfl (hC6.cells.at 2 rfl) Tryz.isAgg23 rfl ?_
   refine Reg.take rfl rfl ?_
   refine s_len rfl (f_m_2.adv hI5.adv) Tryz.underlying23 rfl ?_
   refine Reg.take rfl rfl ?_
   refine s_gtr rfl rfl rfl ?_
   refine s_pkF rfl rfl rfl ?_
   refine Reg.nil ?_
   obtain rfl := Option.some.inj h8
   refine ⟨rfl, decide (6 < (m.trees.length : Int)), ⟨rfl, rfl⟩, Sub.cons rfl (Sub.cons rfl (Sub.nil _))⟩
 ·skip
  rintro x9 _ ⟨rfl, rfl⟩
  refine cw_cond rfl (fun hc14 => ?_) (fun hc14 => ?_)
  ·replace h := cdT hc14 h
   refine cw_seq (cw_regF ?_)
   refine s_as rfl rfl ?_
   refine Reg.nil ?_
   refine cw_ret ?_
   obtain rfl := Option.some.inj h
   refine fin1 Tryz.results4 rfl ?_
   exact ⟨rfl, hI5.kp⟩
  ·replace h := cdF hc14 h
   refine cw_skip (cw_seq (cw_seq (cw_regF ?_)))
   refine s_as rfl rfl ?_
   refine Reg.nil ?_
   obtain ⟨j15, h16, h⟩ := bnd h
   refine cw_sub (L := [(3, _), (1, _)]) (Sub.cons rfl (Sub.cons rfl (Sub.nil _))) ?_
   refine cw_unitD 1 (ι := Unit) (fun _ => []) (fun _ => fun w17 => w2 = w17 ∧ (.inl ()) = j15) ?_ ?_
   ·skip
    refine cw_block ?_
    refine cw_sub (L := [(3, _), (1, _)]) (Sub.cons rfl (Sub.cons rfl (Sub.nil _))) ?_
    refine cw_loopM 1 (ι := Int) _ (fun x20 => [(3, Value.int .i64 x20)]) (fun x20 => x20) (fun x20 => fun w22 => w2 = w22 ∧ InK .i64 x20) 0 h16 ⟨rfl, (by decide)⟩ (Sub.cons rfl (Sub.cons rfl (Sub.nil _))) ?_
    rintro x20 _ ⟨rfl, r21⟩ y25 h26 hR27
    refine cw_seq (cw_seq (cw_regF ?_))
    refine s_mv rfl rfl ?_
    refine s_fa rfl Tryz.underlying25 rfl Tryz.sizeOf22 rfl ?_
    refine s_ld rfl (hC6.cells.at 1 rfl) Tryz.isAgg22 rfl ?_
    refine s_len rfl (f_m_1.adv hI5.adv) Tryz.underlying22 rfl ?_
    refine s_lss rfl rfl rfl ?_
    refine Reg.nil ?_
    refine cw_cond rfl (fun hc28 => ?_) (fun hc28 => ?_)
    ·replace h26 := cdT hc28 h26
     refine cw_skip ?_
     refine cw_seq ?_
     refine cw_block ?_
     refine cw_seq (cw_seq (cw_regF ?_))
     refine s_fa rfl Tryz.underlying25 rfl Tryz.sizeOf22 rfl ?_
     refine s_ld rfl (hC6.cells.at 1 rfl) Tryz.isAgg22 rfl ?_
     refine s_mv rfl rfl ?_
     obtain ⟨y29, hy29, h26⟩ := bnd h26
     refine p_ia rfl rfl (f_m_1.adv hI5.adv) hy29 Tryz.underlying22 Tryz.sizeOf39 rfl ?_
     intro b30 o31 cs32 hR33 hC34
     obtain ⟨v37, rfl, r35, r36, hf38⟩ := CardE_R.1 hR33
     refine s_fa rfl Tryz.underlying39 rfl Tryz.sizeOf37 rfl ?_
     refine s_ld rfl (hC34.cells.at 2 rfl) Tryz.isAgg37 rfl ?_
     refine s_len rfl hf38 Tryz.underlying37 rfl ?_
     refine s_gtr rfl rfl rfl ?_
     refine Reg.nil ?_
     refine cw_cond rfl (fun hc39 => ?_) (fun hc39 => ?_)
     ·replace h26 := cdT hc39 h26
      refine cw_seq (cw_regF ?_)
      refine s_as rfl rfl ?_
      refine Reg.nil ?_
      refine cw_ret ?_
      obtain rfl := Option.some.inj h26
      obtain rfl := hR27 _ rfl
      replace h := elimR h
      obtain rfl := Option.some.inj h
      refine fin1 Tryz.results4 rfl ?_
      exact ⟨rfl, hI5.kp⟩
     ·replace h26 := cdF hc39 h26
      refine cw_skip (cw_seq (cw_regF ?_))
      refine s_as rfl rfl ?_
      refine Reg.nil ?_
      obtain ⟨j40, h41, h26⟩ := bnd h26
      refine cw_sub (L := [(4, _), (1, _), (3, _)]) (Sub.cons rfl (Sub.cons rfl (Sub.cons rfl (Sub.nil _)))) ?_
      refine cw_unitD 1 (ι := Unit) (fun _ => []) (fun _ => fun w42 => w2 = w42 ∧ (.inl ()) = j40) ?_ ?_
      ·skip
       refine cw_block ?_
       refine cw_sub (L := [(4, _), (1, _), (3, _)]) (Sub.cons rfl (Sub.cons rfl (Sub.cons rfl (Sub.nil _)))) ?_
       refine cw_loopM 1 (ι := Int) _ (fun x45 => [(4, Value.int .i64 x45)]) (fun x45 => x45) (fun x45 => fun w47 => w2 = w47 ∧ InK .i64 x45) 0 h41 ⟨rfl, (by decide)⟩ (Sub.cons rfl (Sub.cons rfl (Sub.cons rfl (Sub.nil _)))) ?_
       rintro x45 _ ⟨rfl, r46⟩ y50 h51 hR52
       refine cw_seq (cw_seq (cw_regF ?_))
       refine s_mv rfl rfl ?_
       refine s_fa rfl Tryz.underlying25 rfl Tryz.sizeOf22 rfl ?_
       refine s_ld rfl (hC6.cells.at 1 rfl) Tryz.isAgg22 rfl ?_
       refine s_mv rfl rfl ?_
       obtain ⟨y53, hy53, h51⟩ := bnd h51
       refine p_ia rfl rfl (f_m_1.adv hI5.adv) hy53 Tryz.underlying22 Tryz.sizeOf39 rfl ?_
       intro b54 o55 cs56 hR57 hC58
       obtain ⟨v61, rfl, r59, r60, hf62⟩ := CardE_R.1 hR57
       refine s_fa rfl Tryz.underlying39 rfl Tryz.sizeOf37 rfl ?_
       refine s_ld rfl (hC58.cells.at 2 rfl) Tryz.isAgg37 rfl ?_
       refine s_len rfl hf62 Tryz.underlying37 rfl ?_
       refine s_lss rfl rfl rfl ?_
       refine Reg.nil ?_
       refine cw_cond rfl (fun hc63 => ?_) (fun hc63 => ?_)
       ·replace h51 := cdT hc63 h51
        refine cw_skip ?_
        refine cw_seq ?_
        refine cw_block ?_
        obtain ⟨j64, h65, h51⟩ := bnd h51
        refine cw_sub (L := [(1, _), (3, _), (4, _)]) (Sub.cons rfl (Sub.cons rfl (Sub.cons rfl (Sub.nil _)))) ?_
        refine cw_seqD 0 (ι := Bool) (fun x66 => [(67, Value.bool x66)]) (fun x66 => fun w67 => w2 = w67 ∧ x66 = j64) ?_ ?_
        ·skip
         refine cw_regF ?_
         refine s_fa rfl Tryz.underlying25 rfl Tryz.sizeOf22 rfl ?_
         refine s_ld rfl (hC6.cells.at 1 rfl) Tryz.isAgg22 rfl ?_
         refine s_mv rfl rfl ?_
         obtain ⟨y70, hy70, h65⟩ := bnd h65
         refine p_ia rfl rfl (f_m_1.adv hI5.adv) hy70 Tryz.underlying22 Tryz.sizeOf39 rfl ?_
         intro b71 o72 cs73 hR74 hC75
         obtain ⟨v78, rfl, r76, r77, hf79⟩ := CardE_R.1 hR74
         refine s_fa rfl Tryz.underlying39 rfl Tryz.sizeOf37 rfl ?_
         refine s_ld rfl (hC75.cells.at 2 rfl) Tryz.isAgg37 rfl ?_
         refine s_mv rfl rfl ?_
         obtain ⟨y80, hy80, h65⟩ := bnd h65
         refine p_ia rfl rfl hf79 hy80 Tryz.underlying37 Tryz.sizeOf41 rfl ?_
         intro b81 o82 cs83 hR84 hC85
         obtain ⟨v86, v88, rfl, hf87, hf89, r90⟩ := ScaleE_R.1 hR84
         refine s_fa rfl Tryz.underlying41 rfl Tryz.sizeOf26 rfl ?_
         refine s_ld rfl (hC85.cells.at 0 rfl) Tryz.isAgg26 rfl ?_
         refine s_len rfl hf87 Tryz.underlying26 rfl ?_
         refine s_gtr rfl rfl rfl ?_
         refine s_mv rfl rfl ?_
         refine Reg.gsplit (t := 54) rfl (fun hg91 => ?_) (fun hg91 => ?_)
         ·replace h65 := cdT hg91 h65
          refine Reg.pass rfl rfl rfl rfl ?_
          refine Reg.pass rfl rfl rfl rfl ?_
          refine Reg.pass rfl rfl rfl rfl ?_
          refine Reg.pass rfl rfl rfl rfl ?_
          refine Reg.pass rfl rfl rfl rfl ?_
          refine Reg.pass rfl rfl rfl rfl ?_
          refine Reg.pass rfl rfl rfl rfl ?_
          refine Reg.pass rfl rfl rfl rfl ?_
          refine Reg.pass rfl rfl rfl rfl ?_
          refine Reg.pass rfl rfl rfl rfl ?_
          refine Reg.pass rfl rfl rfl rfl ?_
          refine Reg.pass rfl rfl rfl rfl ?_
          refine s_pkT rfl rfl rfl ?_
          refine Reg.nil ?_
          obtain rfl := Option.some.inj h65
          refine ⟨rfl, true, ⟨rfl, rfl⟩, Sub.cons rfl (Sub.cons rfl (Sub.cons rfl (Sub.cons rfl (Sub.nil _))))⟩
         ·replace h65 := cdF hg91 h65
          refine Reg.take rfl rfl ?_
          refine s_fa rfl Tryz.underlying25 rfl Tryz.sizeOf22 rfl ?_
          refine Reg.take rfl rfl ?_
          refine s_ld rfl (hC6.cells.at 1 rfl) Tryz.isAgg22 rfl ?_
          refine Reg.take rfl rfl ?_
          refine s_mv rfl rfl ?_
          refine Reg.take rfl rfl ?_
          obtain ⟨y92, hy92, h65⟩ := bnd h65
          refine p_ia rfl rfl (f_m_1.adv hI5.adv) hy92 Tryz.underlying22 Tryz.sizeOf39 rfl ?_
          intro b93 o94 cs95 hR96 hC97
          obtain ⟨v100, rfl, r98, r99, hf101⟩ := CardE_R.1 hR96
          refine Reg.take rfl rfl ?_
          refine s_fa rfl Tryz.underlying39 rfl Tryz.sizeOf37 rfl ?_
          refine Reg.take rfl rfl ?_
          refine s_ld rfl (hC97.cells.at 2 rfl) Tryz.isAgg37 rfl ?_
          refine Reg.take rfl rfl ?_
          refine s_mv rfl rfl ?_
          refine Reg.take rfl rfl ?_
          obtain ⟨y102, hy102, h65⟩ := bnd h65
          refine p_ia rfl rfl hf101 hy102 Tryz.underlying37 Tryz.sizeOf41 rfl ?_
          intro b103 o104 cs105 hR106 hC107
          obtain ⟨v108, v110, rfl, hf109, hf111, r112⟩ := ScaleE_R.1 hR106
          refine Reg.take rfl rfl ?_
          refine s_fa rfl Tryz.underlying41 rfl Tryz.sizeOf26 rfl ?_
          refine Reg.take rfl rfl ?_
          refine s_ld rfl (hC107.cells.at 1 rfl) Tryz.isAgg26 rfl ?_
          refine Reg.take rfl rfl ?_
          refine s_len rfl hf111 Tryz.underlying26 rfl ?_
          refine Reg.take rfl rfl ?_
          refine s_gtr rfl rfl rfl ?_
          refine s_pkF rfl rfl rfl ?_
          refine Reg.nil ?_
          obtain rfl := Option.some.inj h65
          refine ⟨rfl, decide (12 < (y102.points.length : Int)), ⟨rfl, rfl⟩, Sub.cons rfl (Sub.cons rfl (Sub.cons rfl (Sub.cons rfl (Sub.nil _))))⟩
        ·skip
         rintro x66 _ ⟨rfl, rfl⟩
         refine cw_cond rfl (fun hc113 => ?_) (fun hc113 => ?_)
         ·replace h51 := cdT hc113 h51
          refine cw_seq (cw_regF ?_)
          refine s_as rfl rfl ?_
          refine Reg.nil ?_
          refine cw_ret ?_
          obtain rfl := Option.some.inj h51
          obtain rfl := hR52 _ rfl
          replace h26 := elimR h26
          obtain rfl := Option.some.inj h26
          obtain rfl := hR27 _ rfl
          replace h := elimR h
          obtain rfl := Option.some.inj h
          refine fin1 Tryz.results4 rfl ?_
          exact ⟨rfl, hI5.kp⟩
         ·replace h51 := cdF hc113 h51
          refine cw_skip ?_
          refine cw_regF ?_
          refine s_mv rfl rfl ?_
          obtain ⟨n114, hn114, h51⟩ := bnd h51
          replace hn114 := chk_out hn114
          refine p_add rfl rfl rfl hn114 ?_
          refine s_as rfl rfl ?_
          refine Reg.nil ?_
          obtain rfl := Option.some.inj h51
          refine ⟨rfl, n114, ⟨⟨rfl, hn114.2⟩, rfl⟩, Sub.cons rfl (Sub.cons rfl (Sub.cons rfl (Sub.nil _)))⟩
       ·replace h51 := cdF hc63 h51
        refine cw_exit ?_
        refine exB_same ?_
        obtain rfl := Option.some.inj h51
        obtain rfl := hR52 _ rfl
        refine ⟨rfl, (), ⟨rfl, rfl⟩, Sub.cons rfl (Sub.cons rfl (Sub.nil _))⟩
      ·skip
       rintro _ _ ⟨rfl, rfl⟩
       replace h26 := elimL h26
       refine cw_regF ?_
       refine s_mv rfl rfl ?_
       obtain ⟨n115, hn115, h26⟩ := bnd h26
       replace hn115 := chk_out hn115
       refine p_add rfl rfl rfl hn115 ?_
       refine s_as rfl rfl ?_
       refine Reg.nil ?_
       obtain rfl := Option.some.inj h26
       refine ⟨rfl, n115, ⟨⟨rfl, hn115.2⟩, rfl⟩, Sub.cons rfl (Sub.cons rfl (Sub.nil _))⟩
    ·replace h26 := cdF hc28 h26
     refine cw_exit ?_
     refine exB_same ?_
     obtain rfl := Option.some.inj h26
     obtain rfl := hR27 _ rfl
     refine ⟨rfl, (), ⟨rfl, rfl⟩, Sub.cons rfl (Sub.nil _)⟩
   ·skip
    rintro _ _ ⟨rfl, rfl⟩
    replace h := elimL h
    refine cw_seq (cw_seq (cw_regF ?_))
    refine s_as rfl rfl ?_
    refine Reg.nil ?_
    obtain ⟨j116, h117, h⟩ := bnd h
    refine cw_sub (L := [(1, _), (5, _)]) (Sub.cons rfl (Sub.cons rfl (Sub.nil _))) ?_
    refine cw_unitD 2 (ι := Unit) (fun _ => []) (fun _ => fun w118 => w2 = w118 ∧ (.inl ()) = j116) ?_ ?_
    ·skip
     refine cw_block ?_
     refine cw_sub (L := [(5, _), (1, _)]) (Sub.cons rfl (Sub.cons rfl (Sub.nil _))) ?_
     refine cw_loopM 1 (ι := Int) _ (fun x121 => [(5, Value.int .i64 x121)]) (fun x121 => x121) (fun x121 => fun w123 => w2 = w123 ∧ InK .i64 x121) 0 h117 ⟨rfl, (by decide)⟩ (Sub.cons rfl (Sub.cons rfl (Sub.nil _))) ?_
     rintro x121 _ ⟨rfl, r122⟩ y126 h127 hR128
     refine cw_seq (cw_seq (cw_regF ?_))
     refine s_mv rfl rfl ?_
     refine s_fa rfl Tryz.underlying25 rfl Tryz.sizeOf23 rfl ?_
     refine s_ld rfl (hC6.cells.at 2 rfl) Tryz.isAgg23 rfl ?_
     refine s_len rfl (f_m_2.adv hI5.adv) Tryz.underlying23 rfl ?_
     refine s_lss rfl rfl rfl ?_
     refine Reg.nil ?_
     refine cw_cond rfl (fun hc129 => ?_) (fun hc129 => ?_)
     ·replace h127 := cdT hc129 h127
      refine cw_skip ?_
      refine cw_seq ?_
      refine cw_block ?_
      refine cw_seq (cw_regF ?_)
      refine s_fa rfl Tryz.underlying25 rfl Tryz.sizeOf23 rfl ?_
      refine s_ld rfl (hC6.cells.at 2 rfl) Tryz.isAgg23 rfl ?_
      refine s_mv rfl rfl ?_
      obtain ⟨y130, hy130, h127⟩ := bnd h127
      refine p_ia rfl rfl (f_m_2.adv hI5.adv) hy130 Tryz.underlying23 Tryz.sizeOf44 rfl ?_
      intro b131 o132 cs133 hR134 hC135
      obtain ⟨v137, rfl, r136, hf138⟩ := TreeE_R.1 hR134
      refine s_fa rfl Tryz.underlying44 rfl Tryz.sizeOf42 rfl ?_
      refine s_ld rfl (hC135.cells.at 1 rfl) Tryz.isAgg42 rfl ?_
      refine s_len rfl hf138 Tryz.underlying42 rfl ?_
      refine s_gtr rfl rfl rfl ?_
      refine Reg.nil ?_
      refine cw_cond rfl (fun hc139 => ?_) (fun hc139 => ?_)
      ·replace h127 := cdT hc139 h127
       refine cw_seq (cw_regF ?_)
       refine s_as rfl rfl ?_
       refine Reg.nil ?_
       refine cw_ret ?_
       obtain rfl := Option.some.inj h127
       obtain rfl := hR128 _ rfl
       replace h := elimR h
       obtain rfl := Option.some.inj h
       refine fin1 Tryz.results4 rfl ?_
       exact ⟨rfl, hI5.kp⟩
      ·replace h127 := cdF hc139 h127
       refine cw_skip ?_
       refine cw_regF ?_
       refine s_mv rfl rfl ?_
       obtain ⟨n140, hn140, h127⟩ := bnd h127
       replace hn140 := chk_out hn140
       refine p_add rfl rfl rfl hn140 ?_
       refine s_as rfl rfl ?_
       refine Reg.nil ?_
       obtain rfl := Option.some.inj h127
       refine ⟨rfl, n140, ⟨⟨rfl, hn140.2⟩, rfl⟩, Sub.cons rfl (Sub.cons rfl (Sub.nil _))⟩
     ·replace h127 := cdF hc129 h127
      refine cw_exit ?_
      refine exB_same ?_
      obtain rfl := Option.some.inj h127
      obtain rfl := hR128 _ rfl
      refine ⟨rfl, (), ⟨rfl, rfl⟩, Sub.nil _⟩
    ·skip
     rintro _ _ ⟨rfl, rfl⟩
     replace h := elimL h
     refine cw_seq (cw_regF ?_)
     refine s_as rfl rfl ?_
     refine Reg.nil ?_
     refine cw_ret ?_
     obtain rfl := Option.some.inj h
     refine fin1 Tryz.results4 rfl ?_
     exact ⟨rfl, hI5.kp⟩
noncomputable def P.ref01_SameInts (a : (List Int)) (b : (List Int)) : Option Bool :=
 cond (!decide ((a.length : Int) = (b.length : Int))) (some false) (Option.bind (loopM (S := Int) (R := (Unit) ⊕ (Bool)) (fun x2 => cond (decide (x2 < (a.length : Int))) (Option.bind (ixo a x2) fun y4 => Option.bind (ixo b x2) fun y11 => cond (!decide (y4 = y11)) (some (.inr (.inr false))) (Option.bind (chk .i64 (x2 + 1)) fun n22 => some (.inl n22))) (some (.inr (.inl ())))) 0) fun j23 => Sum.elim (fun _ => some true) (fun r24 => some r24)  j23)
theorem C_ref01_SameInts {M : List Nat} {w : World} (hM : MLt M w) {a : (List Int)} {v_a_0 : Value} (f_a_0 : RdS (intE .i64) M w v_a_0 a) {b : (List Int)} {v_b_0 : Value} (f_b_0 : RdS (intE .i64) M w v_b_0 b) {r0 : Bool} (h : P.ref01_SameInts a b = some r0) :
  Calls Tryz.prog 8 (List.toArray [v_a_0, v_b_0]) w fun e w' => e = .returned (Value.bool r0) ∧ Ext w w' := by
 have hI := Hp.start (Mu := []) hM
 refine calls_cw Tryz.func8 rfl Tryz.ntmps8 rfl ?_
 refine cw_seq (cw_regF ?_)
 refine s_as rfl rfl ?_
 refine Reg.nil ?_
 refine cw_seq (cw_seq (cw_regF ?_))
 refine s_mv rfl rfl ?_
 refine s_len rfl f_a_0 Tryz.underlying26 rfl ?_
 refine s_mv rfl rfl ?_
 refine s_len rfl f_b_0 Tryz.underlying26 rfl ?_
 refine s_neq rfl rfl rfl ?_
 refine Reg.nil ?_
 refine cw_cond rfl (fun hc1 => ?_) (fun hc1 => ?_)
 ·replace h := cdT hc1 h
  refine cw_seq (cw_regF ?_)
  refine s_as rfl rfl ?_
  refine Reg.nil ?_
  refine cw_ret ?_
  obtain rfl := Option.some.inj h
  refine fin1 Tryz.results8 rfl ?_
  exact ⟨rfl, hI.kp⟩
 ·replace h := cdF hc1 h
  refine cw_skip (cw_seq (cw_seq (cw_regF ?_)))
  refine s_as rfl rfl ?_
  refine Reg.nil ?_
  obtain ⟨j2, h3, h⟩ := bnd h
  refine cw_sub (L := [(0, _), (1, _), (5, _)]) (Sub.cons rfl (Sub.cons rfl (Sub.cons rfl (Sub.nil _)))) ?_
  refine cw_unitD 3 (ι := Unit) (fun _ => []) (fun _ => fun w4 => Hp w [] M [] w4 ∧ Adv (mm [] M) (mm [] M) w w4 ∧ (.inl ()) = j2) ?_ ?_
  ·skip
   refine cw_block ?_
   refine cw_sub (L := [(5, _), (0, _), (1, _)]) (Sub.cons rfl (Sub.cons rfl (Sub.cons rfl (Sub.nil _)))) ?_
   refine cw_loopM 1 (ι := Int) _ (fun x7 => [(5, Value.int .i64 x7)]) (fun x7 => x7) (fun x7 => fun w9 => Hp w [] M [] w9 ∧ Adv (mm [] M) (mm [] M) w w9 ∧ InK .i64 x7) 0 h3 ⟨hI, (Adv.refl _ _), (by decide)⟩ (Sub.cons rfl (Sub.cons rfl (Sub.cons rfl (Sub.nil _)))) ?_
   rintro x7 w9 ⟨hI10, hA11, r8⟩ y12 h13 hR14
   refine cw_seq (cw_seq (cw_regF ?_))
   refine s_mv rfl rfl ?_
   refine s_mv rfl rfl ?_
   refine s_len rfl (f_a_0.adv hI10.adv) Tryz.underlying26 rfl ?_
   refine s_lss rfl rfl rfl ?_
   refine Reg.nil ?_
   refine cw_cond rfl (fun hc15 => ?_) (fun hc15 => ?_)
   ·replace h13 := cdT hc15 h13
    refine cw_skip ?_
    refine cw_seq ?_
    refine cw_block ?_
    refine cw_seq ?_
    refine cw_regT fol (by kernel_rfl) ?_
    refine s_mv rfl rfl ?_
    refine s_mv rfl rfl ?_
    obtain ⟨y16, hy16, h13⟩ := bnd h13
    refine p_ia rfl rfl (f_a_0.adv hI10.adv) hy16 Tryz.underlying26 Tryz.sizeOf3 rfl ?_
    intro b17 o18 cs19 hR20 hC21
    obtain ⟨rfl, r22⟩ := hR20
    refine s_ld rfl (hC21.cells.at 0 rfl) Tryz.isAgg3 rfl ?_
    refine s_mv rfl rfl ?_
    refine s_mv rfl rfl ?_
    obtain ⟨y23, hy23, h13⟩ := bnd h13
    refine p_ia rfl rfl (f_b_0.adv hI10.adv) hy23 Tryz.underlying26 Tryz.sizeOf3 rfl ?_
    intro b24 o25 cs26 hR27 hC28
    obtain ⟨rfl, r29⟩ := hR27
    refine s_ld rfl (hC28.cells.at 0 rfl) Tryz.isAgg3 rfl ?_
    refine s_neq rfl rfl rfl ?_
    refine Reg.nilq (fun w30 e31 => ?_)
    have hI32 := hI10.ext e31
    refine cw_cond rfl (fun hc33 => ?_) (fun hc33 => ?_)
    ·replace h13 := cdT hc33 h13
     refine cw_seq (cw_regF ?_)
     refine s_as rfl rfl ?_
     refine Reg.nil ?_
     refine cw_ret ?_
     obtain rfl := Option.some.inj h13
     obtain rfl := hR14 _ rfl
     replace h := elimR h
     obtain rfl := Option.some.inj h
     refine fin1 Tryz.results8 rfl ?_
     exact ⟨rfl, hI32.kp⟩
    ·replace h13 := cdF hc33 h13
     refine cw_skip ?_
     refine cw_regF ?_
     refine s_mv rfl rfl ?_
     obtain ⟨n34, hn34, h13⟩ := bnd h13
     replace hn34 := chk_out hn34
     refine p_add rfl rfl rfl hn34 ?_
     refine s_as rfl rfl ?_
     refine Reg.nil ?_
     obtain rfl := Option.some.inj h13
     refine ⟨rfl, n34, ⟨⟨hI32, hI32.adv, hn34.2⟩, rfl⟩, Sub.cons rfl (Sub.cons rfl (Sub.cons rfl (Sub.nil _)))⟩
   ·replace h13 := cdF hc15 h13
    refine cw_exit ?_
    refine exB_same ?_
    obtain rfl := Option.some.inj h13
    obtain rfl := hR14 _ rfl
    refine ⟨rfl, (), ⟨hI10, hI10.adv, rfl⟩, Sub.nil _⟩
  ·skip
   rintro _ w4 ⟨hI5, hA6, rfl⟩
   replace h := elimL h
   refine cw_seq (cw_regF ?_)
   refine s_as rfl rfl ?_
   refine Reg.nil ?_
   refine cw_ret ?_
   obtain rfl := Option.some.inj h
   refine fin1 Tryz.results8 rfl ?_
   exact ⟨rfl, hI5.kp⟩
noncomputable def P.cmp_isNaN_63 (x : Int) : Option Bool :=
 some (!decide (x = x))
theorem C_cmp_isNaN_63 {M : List Nat} {w : World} (hM : MLt M w) {x : Int} (f_x_0 : InK .i64 x) {r0 : Bool} (h : P.cmp_isNaN_63 x = some r0) :
  Calls Tryz.prog 63 (List.toArray [Value.int .i64 x]) w fun e w' => e = .returned (Value.bool r0) ∧ Ext w w' := by
 have hI := Hp.start (Mu := []) hM
 refine calls_cw Tryz.func63 rfl Tryz.ntmps63 rfl ?_
 refine cw_seq (cw_regF ?_)
 refine s_as rfl rfl ?_
 refine Reg.nil ?_
 refine cw_seq (cw_regF ?_)
 refine s_mv rfl rfl ?_
 refine s_mv rfl rfl ?_
 refine s_neq rfl rfl rfl ?_
 refine s_as rfl rfl ?_
 refine Reg.nil ?_
 refine cw_ret ?_
 obtain rfl := Option.some.inj h
 refine fin1 Tryz.results63 rfl ?_
 exact ⟨rfl, hI.kp⟩
noncomputable def P.cmp_Compare_41 (x : Int) (y : Int) : Option Int :=
 Option.bind (P.cmp_isNaN_63 x) fun z1 => Option.bind (P.cmp_isNaN_63 y) fun z6 => cond z1 (cond z6 (some 0) (some (-1))) (cond z6 (some 1) (cond (decide (x < y)) (some (-1)) (cond (decide (y < x)) (some 1) (some 0))))
theorem C_cmp_Compare_41 {M : List Nat} {w : World} (hM : MLt M w) {x : Int} (f_x_0 : InK .i64 x) {y : Int} (f_y_0 : InK .i64 y) {r0 : Int} (h : P.cmp_Compare_41 x y = some r0) :
  Calls Tryz.prog 41 (List.toArray [Value.int .i64 x, Value.int .i64 y]) w fun e w' => e = .returned (Value.int .i64 r0) ∧ InK .i64 r0 ∧ Ext w w' := by
 have hI := Hp.start (Mu := []) hM
 refine calls_cw Tryz.func41 rfl Tryz.ntmps41 rfl ?_
 refine cw_seq (cw_regF ?_)
 refine s_as rfl rfl ?_
 refine Reg.nil ?_
 refine cw_seq (cw_regF ?_)
 refine s_mv rfl rfl ?_
 obtain ⟨z1, hz2, h⟩ := bnd h
 refine s_call rfl Tryz.call63 rfl ?_
 refine (C_cmp_isNaN_63 hI.mlt f_x_0 hz2).mono ?_
 rintro _ w3 ⟨rfl, e4⟩
 refine ⟨_, rfl, ?_⟩
 have hI5 := hI.ext e4
 refine s_as rfl rfl ?_
 refine Reg.nil ?_
 refine cw_seq (cw_regF ?_)
 refine s_mv rfl rfl ?_
 obtain ⟨z6, hz7, h⟩ := bnd h
 refine s_call rfl Tryz.call63 rfl ?_
 refine (C_cmp_isNaN_63 hI5.mlt f_y_0 hz7).mono ?_
 rintro _ w8 ⟨rfl, e9⟩
 refine ⟨_, rfl, ?_⟩
 have hI10 := hI5.ext e9
 refine s_as rfl rfl ?_
 refine Reg.nil ?_
 refine cw_seq (cw_seq (cw_regF ?_))
 refine s_mv rfl rfl ?_
 refine Reg.nil ?_
 refine cw_cond rfl (fun hc11 => ?_) (fun hc11 => ?_)
 ·replace h := cdT hc11 h
  refine cw_seq (cw_seq (cw_regF ?_))
  refine s_mv rfl rfl ?_
  refine Reg.nil ?_
  refine cw_cond rfl (fun hc12 => ?_) (fun hc12 => ?_)
  ·replace h := cdT hc12 h
   refine cw_seq (cw_regF ?_)
   refine s_as rfl rfl ?_
   refine Reg.nil ?_
   refine cw_ret ?_
   obtain rfl := Option.some.inj h
   refine fin1 Tryz.results41 rfl ?_
   exact ⟨rfl, (by decide), hI10.kp⟩
  ·replace h := cdF hc12 h
   refine cw_skip (cw_seq (cw_regF ?_))
   refine s_as rfl rfl ?_
   refine Reg.nil ?_
   refine cw_ret ?_
   obtain rfl := Option.some.inj h
   refine fin1 Tryz.results41 rfl ?_
   exact ⟨rfl, (by decide), hI10.kp⟩
 ·replace h := cdF hc11 h
  refine cw_skip (cw_seq (cw_seq (cw_regF ?_)))
  refine s_mv rfl rfl ?_
  refine Reg.nil ?_
  refine cw_cond rfl (fun hc13 => ?_) (fun hc13 => ?_)
  ·replace h := cdT hc13 h
   refine cw_seq (cw_regF ?_)
   refine s_as rfl rfl ?_
   refine Reg.nil ?_
   refine cw_ret ?_
   obtain rfl := Option.some.inj h
   refine fin1 Tryz.results41 rfl ?_
   exact ⟨rfl, (by decide), hI10.kp⟩
  ·replace h := cdF hc13 h
   refine cw_skip (cw_seq (cw_seq (cw_regF ?_)))
   refine s_mv rfl rfl ?_
   refine s_mv rfl rfl ?_
   refine s_lss rfl rfl rfl ?_
   refine Reg.nil ?_
   refine cw_cond rfl (fun hc14 => ?_) (fun hc14 => ?_)
   ·replace h := cdT hc14 h
    refine cw_seq (cw_regF ?_)
    refine s_as rfl rfl ?_
    refine Reg.nil ?_
    refine cw_ret ?_
    obtain rfl := Option.some.inj h
    refine fin1 Tryz.results41 rfl ?_
    exact ⟨rfl, (by decide), hI10.kp⟩
   ·replace h := cdF hc14 h
    refine cw_skip (cw_seq (cw_seq (cw_regF ?_)))
    refine s_mv rfl rfl ?_
    refine s_mv rfl rfl ?_
    refine s_gtr rfl rfl rfl ?_
    refine Reg.nil ?_
    refine cw_cond rfl (fun hc15 => ?_) (fun hc15 => ?_)
    ·replace h := cdT hc15 h
     refine cw_seq (cw_regF ?_)
     refine s_as rfl rfl ?_
     refine Reg.nil ?_
     refine cw_ret ?_
     obtain rfl := Option.some.inj h
     refine fin1 Tryz.results41 rfl ?_
     exact ⟨rfl, (by decide), hI10.kp⟩
    ·replace h := cdF hc15 h
     refine cw_skip (cw_seq (cw_regF ?_))
     refine s_as rfl rfl ?_
     refine Reg.nil ?_
     refine cw_ret ?_
     obtain rfl := Option.some.inj h
     refine fin1 Tryz.results41 rfl ?_
     exact ⟨rfl, (by decide), hI10.kp⟩
noncomputable def P.slices_Compare_25 (s1 : (List Int)) (s2 : (List Int)) : Option Int :=
 Option.bind (loopM (S := Int) (R := (Unit) ⊕ (Int)) (fun x1 => cond (decide (x1 < (s1.length : Int))) (Option.bind (ixo s1 x1) fun y3 => cond (decide ((s2.length : Int) ≤ x1)) (some (.inr (.inr 1))) (Option.bind (ixo s2 x1) fun y11 => Option.bind (P.cmp_Compare_41 y3 y11) fun z18 => cond (!decide (z18 = 0)) (some (.inr (.inr z18))) (Option.bind (chk .i64 (x1 + 1)) fun n25 => some (.inl n25)))) (some (.inr (.inl ())))) 0) fun j26 => Sum.elim (fun _ => cond (decide ((s1.length : Int) < (s2.length : Int))) (some (-1)) (some 0)) (fun r28 => some r28)  j26
theorem C_slices_Compare_25 {M : List Nat} {w : World} (hM : MLt M w) {s1 : (List Int)} {v_s1_0 : Value} (f_s1_0 : RdS (intE .i64) M w v_s1_0 s1) {s2 : (List Int)} {v_s2_0 : Value} (f_s2_0 : RdS (intE .i64) M w v_s2_0 s2) {r0 : Int} (h : P.slices_Compare_25 s1 s2 = some r0) :
  Calls Tryz.prog 25 (List.toArray [v_s1_0, v_s2_0]) w fun e w' => e = .returned (Value.int .i64 r0) ∧ InK .i64 r0 ∧ Ext w w' := by
 have hI := Hp.start (Mu := []) hM
 refine calls_cw Tryz.func25 rfl Tryz.ntmps25 rfl ?_
 refine cw_seq (cw_regF ?_)
 refine s_as rfl rfl ?_
 refine Reg.nil ?_
 refine cw_seq (cw_seq (cw_regF ?_))
 refine s_mv rfl rfl ?_
 refine s_len rfl f_s1_0 Tryz.underlying26 rfl ?_
 refine s_mv rfl rfl ?_
 refine Reg.nil ?_
 obtain ⟨j1, h2, h⟩ := bnd h
 refine cw_sub (L := [(9, _), (10, _), (11, _), (0, _), (1, _)]) (Sub.cons rfl (Sub.cons rfl (Sub.cons rfl (Sub.cons rfl (Sub.cons rfl (Sub.nil _)))))) ?_
 refine cw_unitD 3 (ι := Unit) (fun _ => []) (fun _ => fun w3 => Hp w [] M [] w3 ∧ Adv (mm [] M) (mm [] M) w w3 ∧ (.inl ()) = j1) ?_ ?_
 ·skip
  refine cw_block ?_
  refine cw_sub (L := [(11, _), (0, _), (1, _), (9, _), (10, _)]) (Sub.cons rfl (Sub.cons rfl (Sub.cons rfl (Sub.cons rfl (Sub.cons rfl (Sub.nil _)))))) ?_
  refine cw_loopM 1 (ι := Int) _ (fun x6 => [(11, Value.int .i64 x6)]) (fun x6 => x6) (fun x6 => fun w8 => Hp w [] M [] w8 ∧ Adv (mm [] M) (mm [] M) w w8 ∧ InK .i64 x6) 0 h2 ⟨hI, (Adv.refl _ _), (by decide)⟩ (Sub.cons rfl (Sub.cons rfl (Sub.cons rfl (Sub.cons rfl (Sub.cons rfl (Sub.nil _)))))) ?_
  rintro x6 w8 ⟨hI9, hA10, r7⟩ y11 h12 hR13
  refine cw_seq (cw_regF ?_)
  refine s_lss rfl rfl rfl ?_
  refine Reg.nil ?_
  refine cw_seq ?_
  refine cw_cond rfl (fun hc14 => ?_) (fun hc14 => ?_)
  ·replace h12 := cdT hc14 h12
   refine cw_skip ?_
   refine cw_seq ?_
   refine cw_block ?_
   refine cw_seq (cw_regF ?_)
   refine s_mv rfl rfl ?_
   obtain ⟨y15, hy15, h12⟩ := bnd h12
   refine p_ia rfl rfl (f_s1_0.adv hI9.adv) hy15 Tryz.underlying26 Tryz.sizeOf3 rfl ?_
   intro b16 o17 cs18 hR19 hC20
   obtain ⟨rfl, r21⟩ := hR19
   refine s_ld rfl (hC20.cells.at 0 rfl) Tryz.isAgg3 rfl ?_
   refine s_as rfl rfl ?_
   refine s_as rfl rfl ?_
   refine Reg.nil ?_
   refine cw_seq (cw_seq (cw_regF ?_))
   refine s_mv rfl rfl ?_
   refine s_mv rfl rfl ?_
   refine s_len rfl (f_s2_0.adv hI9.adv) Tryz.underlying26 rfl ?_
   refine s_geq rfl rfl rfl ?_
   refine Reg.nil ?_
   refine cw_cond rfl (fun hc22 => ?_) (fun hc22 => ?_)
   ·replace h12 := cdT hc22 h12
    refine cw_seq (cw_regF ?_)
    refine s_as rfl rfl ?_
    refine Reg.nil ?_
    refine cw_ret ?_
    obtain rfl := Option.some.inj h12
    obtain rfl := hR13 _ rfl
    replace h := elimR h
    obtain rfl := Option.some.inj h
    refine fin1 Tryz.results25 rfl ?_
    exact ⟨rfl, (by decide), hI9.kp⟩
   ·replace h12 := cdF hc22 h12
    refine cw_skip (cw_seq (cw_regF ?_))
    refine s_mv rfl rfl ?_
    refine s_mv rfl rfl ?_
    obtain ⟨y23, hy23, h12⟩ := bnd h12
    refine p_ia rfl rfl (f_s2_0.adv hI9.adv) hy23 Tryz.underlying26 Tryz.sizeOf3 rfl ?_
    intro b24 o25 cs26 hR27 hC28
    obtain ⟨rfl, r29⟩ := hR27
    refine s_ld rfl (hC28.cells.at 0 rfl) Tryz.isAgg3 rfl ?_
    refine s_as rfl rfl ?_
    refine Reg.nil ?_
    refine cw_seq (cw_regF ?_)
    refine s_mv rfl rfl ?_
    refine s_mv rfl rfl ?_
    obtain ⟨z30, hz31, h12⟩ := bnd h12
    refine s_call rfl Tryz.call41 rfl ?_
    refine (C_cmp_Compare_41 hI9.mlt r21 r29 hz31).mono ?_
    rintro _ w32 ⟨rfl, r34, e33⟩
    refine ⟨_, rfl, ?_⟩
    have hI35 := hI9.ext e33
    refine s_as rfl rfl ?_
    refine Reg.nil ?_
    refine cw_seq (cw_regF ?_)
    refine s_mv rfl rfl ?_
    refine s_neq rfl rfl rfl ?_
    refine Reg.nil ?_
    refine cw_cond rfl (fun hc36 => ?_) (fun hc36 => ?_)
    ·replace h12 := cdT hc36 h12
     refine cw_seq (cw_regF ?_)
     refine s_mv rfl rfl ?_
     refine s_as rfl rfl ?_
     refine Reg.nil ?_
     refine cw_ret ?_
     obtain rfl := Option.some.inj h12
     obtain rfl := hR13 _ rfl
     replace h := elimR h
     obtain rfl := Option.some.inj h
     refine fin1 Tryz.results25 rfl ?_
     exact ⟨rfl, r34, hI35.kp⟩
    ·replace h12 := cdF hc36 h12
     refine cw_skip ?_
     refine cw_regF ?_
     obtain ⟨n37, hn37, h12⟩ := bnd h12
     replace hn37 := chk_out hn37
     refine p_add rfl rfl rfl hn37 ?_
     refine s_mv rfl rfl ?_
     refine Reg.nil ?_
     obtain rfl := Option.some.inj h12
     refine ⟨rfl, n37, ⟨⟨hI35, hI35.adv, hn37.2⟩, rfl⟩, Sub.cons rfl (Sub.cons rfl (Sub.cons rfl (Sub.cons rfl (Sub.cons rfl (Sub.nil _)))))⟩
  ·replace h12 := cdF hc14 h12
   refine cw_exit ?_
   refine exB_same ?_
   obtain rfl := Option.some.inj h12
   obtain rfl := hR13 _ rfl
   refine ⟨rfl, (), ⟨hI9, hI9.adv, rfl⟩, Sub.cons rfl (Sub.cons rfl (Sub.nil _))⟩
 ·skip
  rintro _ w3 ⟨hI4, hA5, rfl⟩
  replace h := elimL h
  refine cw_seq (cw_seq (cw_regF ?_))
  refine s_mv rfl rfl ?_
  refine s_len rfl (f_s1_0.adv hI4.adv) Tryz.underlying26 rfl ?_
  refine s_mv rfl rfl ?_
  refine s_len rfl (f_s2_0.adv hI4.adv) Tryz.underlying26 rfl ?_
  refine s_lss rfl rfl rfl ?_
  refine Reg.nil ?_
  refine cw_cond rfl (fun hc38 => ?_) (fun hc38 => ?_)
  ·replace h := cdT hc38 h
   refine cw_seq (cw_regF ?_)
   refine s_as rfl rfl ?_
   refine Reg.nil ?_
   refine cw_ret ?_
   obtain rfl := Option.some.inj h
   refine fin1 Tryz.results25 rfl ?_
   exact ⟨rfl, (by decide), hI4.kp⟩
  ·replace h := cdF hc38 h
   refine cw_skip (cw_seq (cw_regF ?_))
   refine s_as rfl rfl ?_
   refine Reg.nil ?_
   refine cw_ret ?_
   obtain rfl := Option.some.inj h
   refine fin1 Tryz.results25 rfl ?_
   exact ⟨rfl, (by decide), hI4.kp⟩
noncomputable def P.score_sets_in1 (a : (List Int)) (b : (List Int)) : Option Int :=
 Option.bind (chk .i64 ((a.length : Int) - (b.length : Int))) fun n1 => cond (!decide (n1 = 0)) (some n1) (Option.bind (P.slices_Compare_25 a b) fun z3 => some z3)
theorem C_score_sets_in1 {M : List Nat} {w : World} (hM : MLt M w) {a : (List Int)} {v_a_0 : Value} (f_a_0 : RdS (intE .i64) M w v_a_0 a) {b : (List Int)} {v_b_0 : Value} (f_b_0 : RdS (intE .i64) M w v_b_0 b) {r0 : Int} (h : P.score_sets_in1 a b = some r0) :
  Calls Tryz.prog 24 (List.toArray [v_a_0, v_b_0]) w fun e w' => e = .returned (Value.int .i64 r0) ∧ InK .i64 r0 ∧ Ext w w' := by
 have hI := Hp.start (Mu := []) hM
 refine calls_cw Tryz.func24 rfl Tryz.ntmps24 rfl ?_
 refine cw_seq (cw_regF ?_)
 refine s_as rfl rfl ?_
 refine Reg.nil ?_
 refine cw_seq (cw_seq (cw_regF ?_))
 refine s_mv rfl rfl ?_
 refine s_len rfl f_a_0 Tryz.underlying26 rfl ?_
 refine s_mv rfl rfl ?_
 refine s_len rfl f_b_0 Tryz.underlying26 rfl ?_
 obtain ⟨n1, hn1, h⟩ := bnd h
 replace hn1 := chk_out hn1
 refine p_sub rfl rfl rfl hn1 ?_
 refine s_as rfl rfl ?_
 refine Reg.nil ?_
 refine cw_seq (cw_regF ?_)
 refine s_mv rfl rfl ?_
 refine s_neq rfl rfl rfl ?_
 refine Reg.nil ?_
 refine cw_cond rfl (fun hc2 => ?_) (fun hc2 => ?_)
 ·replace h := cdT hc2 h
  refine cw_seq (cw_regF ?_)
  refine s_mv rfl rfl ?_
  refine s_as rfl rfl ?_
  refine Reg.nil ?_
  refine cw_ret ?_
  obtain rfl := Option.some.inj h
  refine fin1 Tryz.results24 rfl ?_
  exact ⟨rfl, hn1.2, hI.kp⟩
 ·replace h := cdF hc2 h
  refine cw_skip (cw_seq (cw_regF ?_))
  refine s_mv rfl rfl ?_
  refine s_mv rfl rfl ?_
  obtain ⟨z3, hz4, h⟩ := bnd h
  refine s_call rfl Tryz.call25 rfl ?_
  refine (C_slices_Compare_25 hI.mlt f_a_0 f_b_0 hz4).mono ?_
  rintro _ w5 ⟨rfl, r7, e6⟩
  refine ⟨_, rfl, ?_⟩
  have hI8 := hI.ext e6
  refine s_as rfl rfl ?_
  refine Reg.nil ?_
  refine cw_ret ?_
  obtain rfl := Option.some.inj h
  refine fin1 Tryz.results24 rfl ?_
  exact ⟨rfl, r7, hI8.kp⟩
noncomputable def P.score_works_stand_in1 (n : Int) (s_c : Span) : Option Bool :=
 Option.bind (cond (decide (s_c.lo ≤ n)) (some (decide (n ≤ s_c.hi))) (some false)) fun x2 => some x2
theorem C_score_works_stand_in1 {M : List Nat} {w : World} (hM : MLt M w) {n : Int} (f_n_0 : InK .i64 n) {s_c : Span} (f_s_c_0 : InK .i64 s_c.lo) (f_s_c_1 : InK .i64 s_c.hi) {b_s_c : Nat} (c_s_c : RdC M w b_s_c 0 [Value.int .i64 s_c.lo, Value.int .i64 s_c.hi]) {r0 : Bool} (h : P.score_works_stand_in1 n s_c = some r0) :
  Calls Tryz.prog 44 (List.toArray [Value.int .i64 n, Value.pointer (some ⟨b_s_c, 0, none⟩)]) w fun e w' => e = .returned (Value.bool r0) ∧ Ext w w' := by
 have hI := Hp.start (Mu := []) hM
 refine calls_cw Tryz.func44 rfl Tryz.ntmps44 rfl ?_
 refine cw_seq (cw_regF ?_)
 refine s_as rfl rfl ?_
 refine Reg.nil ?_
 obtain ⟨j1, h2, h⟩ := bnd h
 refine cw_sub (L := [(0, _), (1, _)]) (Sub.cons rfl (Sub.cons rfl (Sub.nil _))) ?_
 refine cw_seqD 2 (ι := Bool) (fun x3 => [(3, Value.bool x3)]) (fun x3 => fun w4 => w = w4 ∧ x3 = j1) ?_ ?_
 ·skip
  refine cw_regF ?_
  refine s_mv rfl rfl ?_
  refine s_fa rfl Tryz.underlying57 rfl Tryz.sizeOf3 rfl ?_
  refine s_ld rfl (c_s_c.cells.at 0 rfl) Tryz.isAgg3 rfl ?_
  refine s_geq rfl rfl rfl ?_
  refine s_mv rfl rfl ?_
  refine Reg.gsplit (t := 8) rfl (fun hg7 => ?_) (fun hg7 => ?_)
  ·replace h2 := cdT hg7 h2
   refine Reg.take rfl rfl ?_
   refine s_mv rfl rfl ?_
   refine Reg.take rfl rfl ?_
   refine s_fa rfl Tryz.underlying57 rfl Tryz.sizeOf3 rfl ?_
   refine Reg.take rfl rfl ?_
   refine s_ld rfl (c_s_c.cells.at 1 rfl) Tryz.isAgg3 rfl ?_
   refine Reg.take rfl rfl ?_
   refine s_leq rfl rfl rfl ?_
   refine s_pkT rfl rfl rfl ?_
   refine s_as rfl rfl ?_
   refine Reg.nil ?_
   obtain rfl := Option.some.inj h2
   refine ⟨rfl, decide (n ≤ s_c.hi), ⟨rfl, rfl⟩, Sub.cons rfl (Sub.nil _)⟩
  ·replace h2 := cdF hg7 h2
   refine Reg.pass rfl rfl rfl rfl ?_
   refine Reg.pass rfl rfl rfl rfl ?_
   refine Reg.pass rfl rfl rfl rfl ?_
   refine Reg.pass rfl rfl rfl rfl ?_
   refine s_pkF rfl rfl rfl ?_
   refine s_as rfl rfl ?_
   refine Reg.nil ?_
   obtain rfl := Option.some.inj h2
   refine ⟨rfl, false, ⟨rfl, rfl⟩, Sub.cons rfl (Sub.nil _)⟩
 ·skip
  rintro x3 _ ⟨rfl, rfl⟩
  refine cw_ret ?_
  obtain rfl := Option.some.inj h
  refine fin1 Tryz.results44 rfl ?_
  exact ⟨rfl, hI.kp⟩
noncomputable def P.cmp_Less_86 (x : Int) (y : Int) : Option Bool :=
 Option.bind (Option.bind (P.cmp_isNaN_63 x) fun z1 => cond z1 (Option.bind (P.cmp_isNaN_63 y) fun z7 => cond (!z7) (some true) (some (decide (x < y)))) (some (decide (x < y)))) fun x13 => some x13
theorem C_cmp_Less_86 {M : List Nat} {w : World} (hM : MLt M w) {x : Int} (f_x_0 : InK .i64 x) {y : Int} (f_y_0 : InK .i64 y) {r0 : Bool} (h : P.cmp_Less_86 x y = some r0) :
  Calls Tryz.prog 86 (List.toArray [Value.int .i64 x, Value.int .i64 y]) w fun e w' => e = .returned (Value.bool r0) ∧ Ext w w' := by
 have hI := Hp.start (Mu := []) hM
 refine calls_cw Tryz.func86 rfl Tryz.ntmps86 rfl ?_
 refine cw_seq (cw_regF ?_)
 refine s_as rfl rfl ?_
 refine Reg.nil ?_
 obtain ⟨j1, h2, h⟩ := bnd h
 refine cw_sub (L := [(0, _), (1, _)]) (Sub.cons rfl (Sub.cons rfl (Sub.nil _))) ?_
 refine cw_seqD 2 (ι := Bool) (fun x3 => [(4, Value.bool x3)]) (fun x3 => fun w4 => Hp w [] M [] w4 ∧ Adv (mm [] M) (mm [] M) w w4 ∧ x3 = j1) ?_ ?_
 ·skip
  refine cw_regF ?_
  refine s_mv rfl rfl ?_
  obtain ⟨z7, hz8, h2⟩ := bnd h2
  refine s_call rfl Tryz.call63 rfl ?_
  refine (C_cmp_isNaN_63 hI.mlt f_x_0 hz8).mono ?_
  rintro _ w9 ⟨rfl, e10⟩
  refine ⟨_, rfl, ?_⟩
  have hI11 := hI.ext e10
  refine s_mv rfl rfl ?_
  refine Reg.gsplit (t := 7) rfl (fun hg12 => ?_) (fun hg12 => ?_)
  ·replace h2 := cdT hg12 h2
   refine Reg.take rfl rfl ?_
   refine s_mv rfl rfl ?_
   refine Reg.take rfl rfl ?_
   obtain ⟨z13, hz14, h2⟩ := bnd h2
   refine s_call rfl Tryz.call63 rfl ?_
   refine (C_cmp_isNaN_63 hI11.mlt f_y_0 hz14).mono ?_
   rintro _ w15 ⟨rfl, e16⟩
   refine ⟨_, rfl, ?_⟩
   have hI17 := hI11.ext e16
   refine Reg.take rfl rfl ?_
   refine s_not rfl rfl ?_
   refine s_pkT rfl rfl rfl ?_
   refine s_mv rfl rfl ?_
   refine Reg.gsplit (t := 12) rfl (fun hg18 => ?_) (fun hg18 => ?_)
   ·replace h2 := cdT hg18 h2
    refine Reg.pass rfl rfl rfl rfl ?_
    refine Reg.pass rfl rfl rfl rfl ?_
    refine Reg.pass rfl rfl rfl rfl ?_
    refine s_pkT rfl rfl rfl ?_
    refine s_as rfl rfl ?_
    refine Reg.nil ?_
    obtain rfl := Option.some.inj h2
    refine ⟨rfl, true, ⟨hI17, hI17.adv, rfl⟩, Sub.cons rfl (Sub.nil _)⟩
   ·replace h2 := cdF hg18 h2
    refine Reg.take rfl rfl ?_
    refine s_mv rfl rfl ?_
    refine Reg.take rfl rfl ?_
    refine s_mv rfl rfl ?_
    refine Reg.take rfl rfl ?_
    refine s_lss rfl rfl rfl ?_
    refine s_pkF rfl rfl rfl ?_
    refine s_as rfl rfl ?_
    refine Reg.nil ?_
    obtain rfl := Option.some.inj h2
    refine ⟨rfl, decide (x < y), ⟨hI17, hI17.adv, rfl⟩, Sub.cons rfl (Sub.nil _)⟩
  ·replace h2 := cdF hg12 h2
   refine Reg.pass rfl rfl rfl rfl ?_
   refine Reg.pass rfl rfl rfl rfl ?_
   refine Reg.pass rfl rfl rfl rfl ?_
   refine s_pkF rfl rfl rfl ?_
   refine s_mv rfl rfl ?_
   refine Reg.take rfl rfl ?_
   refine s_mv rfl rfl ?_
   refine Reg.take rfl rfl ?_
   refine s_mv rfl rfl ?_
   refine Reg.take rfl rfl ?_
   refine s_lss rfl rfl rfl ?_
   refine s_pkF rfl rfl rfl ?_
   refine s_as rfl rfl ?_
   refine Reg.nil ?_
   obtain rfl := Option.some.inj h2
   refine ⟨rfl, decide (x < y), ⟨hI11, hI11.adv, rfl⟩, Sub.cons rfl (Sub.nil _)⟩
 ·skip
  rintro x3 w4 ⟨hI5, hA6, rfl⟩
  refine cw_ret ?_
  obtain rfl := Option.some.inj h
  refine fin1 Tryz.results86 rfl ?_
  exact ⟨rfl, hI5.kp⟩
noncomputable def P.slices_IsSorted_118 (x : (List Int)) : Option Bool :=
 Option.bind (chk .i64 ((x.length : Int) - 1)) fun n1 => Option.bind (loopM (S := Int) (R := (Unit) ⊕ (Bool)) (fun x2 => cond (decide (0 < x2)) (Option.bind (ixo x x2) fun y4 => Option.bind (chk .i64 (x2 - 1)) fun n11 => Option.bind (ixo x n11) fun y12 => Option.bind (P.cmp_Less_86 y4 y12) fun z19 => cond z19 (some (.inr (.inr false))) (Option.bind (chk .i64 (x2 - 1)) fun n27 => some (.inl n27))) (some (.inr (.inl ())))) n1) fun j28 => Sum.elim (fun _ => some true) (fun r29 => some r29)  j28
theorem C_slices_IsSorted_118 {M : List Nat} {w : World} (hM : MLt M w) {x : (List Int)} {v_x_0 : Value} (f_x_0 : RdS (intE .i64) M w v_x_0 x) {r0 : Bool} (h : P.slices_IsSorted_118 x = some r0) :
  Calls Tryz.prog 118 (List.toArray [v_x_0]) w fun e w' => e = .returned (Value.bool r0) ∧ Ext w w' := by
 have hI := Hp.start (Mu := []) hM
 refine calls_cw Tryz.func118 rfl Tryz.ntmps118 rfl ?_
 refine cw_seq (cw_regF ?_)
 refine s_as rfl rfl ?_
 refine Reg.nil ?_
 refine cw_seq (cw_seq (cw_regF ?_))
 refine s_mv rfl rfl ?_
 refine s_len rfl f_x_0 Tryz.underlying26 rfl ?_
 obtain ⟨n1, hn1, h⟩ := bnd h
 replace hn1 := chk_out hn1
 refine p_sub rfl rfl rfl hn1 ?_
 refine s_as rfl rfl ?_
 refine Reg.nil ?_
 obtain ⟨j2, h3, h⟩ := bnd h
 refine cw_sub (L := [(0, _), (3, _)]) (Sub.cons rfl (Sub.cons rfl (Sub.nil _))) ?_
 refine cw_unitD 2 (ι := Unit) (fun _ => []) (fun _ => fun w4 => Hp w [] M [] w4 ∧ Adv (mm [] M) (mm [] M) w w4 ∧ (.inl ()) = j2) ?_ ?_
 ·skip
  refine cw_block ?_
  refine cw_sub (L := [(3, _), (0, _)]) (Sub.cons rfl (Sub.cons rfl (Sub.nil _))) ?_
  refine cw_loopM 1 (ι := Int) _ (fun x7 => [(3, Value.int .i64 x7)]) (fun x7 => x7) (fun x7 => fun w9 => Hp w [] M [] w9 ∧ Adv (mm [] M) (mm [] M) w w9 ∧ InK .i64 x7) n1 h3 ⟨hI, (Adv.refl _ _), hn1.2⟩ (Sub.cons rfl (Sub.cons rfl (Sub.nil _))) ?_
  rintro x7 w9 ⟨hI10, hA11, r8⟩ y12 h13 hR14
  refine cw_seq (cw_seq (cw_regF ?_))
  refine s_mv rfl rfl ?_
  refine s_gtr rfl rfl rfl ?_
  refine Reg.nil ?_
  refine cw_cond rfl (fun hc15 => ?_) (fun hc15 => ?_)
  ·replace h13 := cdT hc15 h13
   refine cw_skip ?_
   refine cw_seq ?_
   refine cw_block ?_
   refine cw_seq ?_
   refine cw_regT fol (by kernel_rfl) ?_
   refine s_mv rfl rfl ?_
   refine s_mv rfl rfl ?_
   obtain ⟨y16, hy16, h13⟩ := bnd h13
   refine p_ia rfl rfl (f_x_0.adv hI10.adv) hy16 Tryz.underlying26 Tryz.sizeOf3 rfl ?_
   intro b17 o18 cs19 hR20 hC21
   obtain ⟨rfl, r22⟩ := hR20
   refine s_ld rfl (hC21.cells.at 0 rfl) Tryz.isAgg3 rfl ?_
   refine s_mv rfl rfl ?_
   refine s_mv rfl rfl ?_
   obtain ⟨n23, hn23, h13⟩ := bnd h13
   replace hn23 := chk_out hn23
   refine p_sub rfl rfl rfl hn23 ?_
   obtain ⟨y24, hy24, h13⟩ := bnd h13
   refine p_ia rfl rfl (f_x_0.adv hI10.adv) hy24 Tryz.underlying26 Tryz.sizeOf3 rfl ?_
   intro b25 o26 cs27 hR28 hC29
   obtain ⟨rfl, r30⟩ := hR28
   refine s_ld rfl (hC29.cells.at 0 rfl) Tryz.isAgg3 rfl ?_
   obtain ⟨z31, hz32, h13⟩ := bnd h13
   refine s_callq rfl rfl Tryz.call86 rfl (fun w33 e34 => (C_cmp_Less_86 (hI10.mlt.ext e34) r22 r30 hz32).mono (fun _ _ hq => ⟨hq.1, hq.2⟩)) ?_
   refine Reg.nilq (fun w35 e36 => ?_)
   have hI37 := hI10.ext e36
   refine cw_cond rfl (fun hc38 => ?_) (fun hc38 => ?_)
   ·replace h13 := cdT hc38 h13
    refine cw_seq (cw_regF ?_)
    refine s_as rfl rfl ?_
    refine Reg.nil ?_
    refine cw_ret ?_
    obtain rfl := Option.some.inj h13
    obtain rfl := hR14 _ rfl
    replace h := elimR h
    obtain rfl := Option.some.inj h
    refine fin1 Tryz.results118 rfl ?_
    exact ⟨rfl, hI37.kp⟩
   ·replace h13 := cdF hc38 h13
    refine cw_skip ?_
    refine cw_regF ?_
    refine s_mv rfl rfl ?_
    obtain ⟨n39, hn39, h13⟩ := bnd h13
    replace hn39 := chk_out hn39
    refine p_sub rfl rfl rfl hn39 ?_
    refine s_as rfl rfl ?_
    refine Reg.nil ?_
    obtain rfl := Option.some.inj h13
    refine ⟨rfl, n39, ⟨⟨hI37, hI37.adv, hn39.2⟩, rfl⟩, Sub.cons rfl (Sub.cons rfl (Sub.nil _))⟩
  ·replace h13 := cdF hc15 h13
   refine cw_exit ?_
   refine exB_same ?_
   obtain rfl := Option.some.inj h13
   obtain rfl := hR14 _ rfl
   refine ⟨rfl, (), ⟨hI10, hI10.adv, rfl⟩, Sub.nil _⟩
 ·skip
  rintro _ w4 ⟨hI5, hA6, rfl⟩
  replace h := elimL h
  refine cw_seq (cw_regF ?_)
  refine s_as rfl rfl ?_
  refine Reg.nil ?_
  refine cw_ret ?_
  obtain rfl := Option.some.inj h
  refine fin1 Tryz.results118 rfl ?_
  exact ⟨rfl, hI5.kp⟩
noncomputable def P.score_tree_points (t : Tree) (x : (List Int)) : Option Int :=
 Option.bind (ixo t.nodes 0) fun y7 => Option.bind (loopM (S := Int × Int × Int × Int × Int) (R := (Int × Int × Int × Int × Int)) (fun (x25, x26, x27, x28, x29) => cond (!decide (x25 = (-1))) (Option.bind (Option.bind (ixo x x25) fun y31 => Option.bind (cond (decide (y31 < x26)) (Option.bind (ixo t.nodes x27) fun y42 => some (y42.trait, y42.cut, y42.low, y42.high, y42.points)) (Option.bind (ixo t.nodes x28) fun y56 => some (y56.trait, y56.cut, y56.low, y56.high, y56.points))) fun (x70, x71, x72, x73, x74) => some (x70, x71, x72, x73, x74)) fun (x75, x76, x77, x78, x79) => some (.inl (x75, x76, x77, x78, x79))) (some (.inr (x25, x26, x27, x28, x29)))) (y7.trait, y7.cut, y7.low, y7.high, y7.points)) fun (x80, x81, x82, x83, x84) => some x84
theorem C_score_tree_points {M : List Nat} {w : World} (hM : MLt M w) {t : Tree} {v_t_1 : Value} (f_t_0 : InK .i64 t.weight) (f_t_1 : RdS NodeE M w v_t_1 t.nodes) {x : (List Int)} {v_x_0 : Value} (f_x_0 : RdS (intE .i64) M w v_x_0 x) {r0 : Int} (h : P.score_tree_points t x = some r0) :
  Calls Tryz.prog 119 (List.toArray [Value.agg (List.toArray [Value.int .i64 t.weight, v_t_1]), v_x_0]) w fun e w' => e = .returned (Value.int .i64 r0) ∧ InK .i64 r0 ∧ Ext w w' := by
 have hI := Hp.start (Mu := []) hM
 refine calls_cw Tryz.func119 rfl Tryz.ntmps119 rfl ?_
 refine cw_seq (cw_regF ?_)
 refine y_box hI rfl rfl rfl ?_
 intro b1 w2 hI3 x4
 have hC6 := hI3.freezeRow 0 rfl
 have hI5 := hI3.erase 0
 refine s_as rfl rfl ?_
 refine Reg.nil ?_
 refine cw_seq (cw_regF ?_)
 refine s_fa rfl Tryz.underlying84 rfl Tryz.sizeOf42 rfl ?_
 refine s_ld rfl (hC6.cells.at 1 rfl) Tryz.isAgg42 rfl ?_
 obtain ⟨y7, hy7, h⟩ := bnd h
 refine p_ia rfl rfl (f_t_1.adv hI5.adv) hy7 Tryz.underlying42 Tryz.sizeOf66 rfl ?_
 intro b8 o9 cs10 hR11 hC12
 obtain ⟨rfl, r13, r14, r15, r16, r17⟩ := NodeE_R.1 hR11
 refine s_lda rfl hC12.cells Tryz.isAgg66 rfl Tryz.sizeOf66 rfl ?_
 refine y_al hI5 Tryz.zeroValue66 rfl rfl ?_
 intro b18 w19 hI20 x21
 refine y_st 0 hI20 rfl rfl rfl rfl Tryz.sizeOf66 rfl rfl (one1 rfl (one1 rfl (one1 rfl (one1 rfl (one1 rfl one0))))) ?_
 intro w22 hI23 x24
 refine Reg.nil ?_
 obtain ⟨j25, h26, h⟩ := bnd h
 refine cw_sub (L := [(1, _), (2, _), (5, _)]) (Sub.cons rfl (Sub.cons rfl (Sub.cons rfl (Sub.nil _)))) ?_
 refine cw_seqD 2 (ι := Int × Int × Int × Int × Int) (fun ⟨x27, x29, x31, x33, x35⟩ => []) (fun ⟨x27, x29, x31, x33, x35⟩ => fun w37 => Hp w [] M [rowR 66 b18 [Value.int .i64 x27, Value.int .i64 x29, Value.int .i64 x31, Value.int .i64 x33, Value.int .i64 x35]] w37 ∧ Adv (mm [rowR 66 b18 [Value.int .i64 y7.trait, Value.int .i64 y7.cut, Value.int .i64 y7.low, Value.int .i64 y7.high, Value.int .i64 y7.points]] M) (mm [rowR 66 b18 [Value.int .i64 x27, Value.int .i64 x29, Value.int .i64 x31, Value.int .i64 x33, Value.int .i64 x35]] M) w22 w37 ∧ InK .i64 x27 ∧ InK .i64 x29 ∧ InK .i64 x31 ∧ InK .i64 x33 ∧ InK .i64 x35 ∧ (x27, x29, x31, x33, x35) = j25) ?_ ?_
 ·skip
  refine cw_block ?_
  refine cw_sub (L := [(1, _), (2, _), (5, _)]) (Sub.cons rfl (Sub.cons rfl (Sub.cons rfl (Sub.nil _)))) ?_
  refine cw_loopM 0 (ι := Int × Int × Int × Int × Int) _ (fun ⟨x40, x42, x44, x46, x48⟩ => []) (fun ⟨x40, x42, x44, x46, x48⟩ => (x40, x42, x44, x46, x48)) (fun ⟨x40, x42, x44, x46, x48⟩ => fun w50 => Hp w [] M [rowR 66 b18 [Value.int .i64 x40, Value.int .i64 x42, Value.int .i64 x44, Value.int .i64 x46, Value.int .i64 x48]] w50 ∧ Adv (mm [rowR 66 b18 [Value.int .i64 y7.trait, Value.int .i64 y7.cut, Value.int .i64 y7.low, Value.int .i64 y7.high, Value.int .i64 y7.points]] M) (mm [rowR 66 b18 [Value.int .i64 x40, Value.int .i64 x42, Value.int .i64 x44, Value.int .i64 x46, Value.int .i64 x48]] M) w22 w50 ∧ InK .i64 x40 ∧ InK .i64 x42 ∧ InK .i64 x44 ∧ InK .i64 x46 ∧ InK .i64 x48) (y7.trait, y7.cut, y7.low, y7.high, y7.points) h26 ⟨hI23, (Adv.refl _ _), r13, r14, r15, r16, r17⟩ (Sub.cons rfl (Sub.cons rfl (Sub.cons rfl (Sub.nil _)))) ?_
  rintro ⟨x40, x42, x44, x46, x48⟩ w50 ⟨hI51, hA52, r41, r43, r45, r47, r49⟩ y53 h54 hR55
  refine cw_seq (cw_seq (cw_regF ?_))
  refine s_fa rfl Tryz.underlying66 rfl Tryz.sizeOf3 rfl ?_
  refine s_ld rfl ((hI51.row 0 rfl).rd.cells.at 0 rfl) Tryz.isAgg3 rfl ?_
  refine s_neq rfl rfl rfl ?_
  refine Reg.nil ?_
  refine cw_cond rfl (fun hc56 => ?_) (fun hc56 => ?_)
  ·replace h54 := cdT hc56 h54
   refine cw_skip ?_
   obtain ⟨j57, h58, h54⟩ := bnd h54
   refine cw_sub (L := [(1, _), (2, _), (5, _)]) (Sub.cons rfl (Sub.cons rfl (Sub.cons rfl (Sub.nil _)))) ?_
   refine cw_unitD 0 (ι := Int × Int × Int × Int × Int) (fun ⟨x59, x61, x63, x65, x67⟩ => []) (fun ⟨x59, x61, x63, x65, x67⟩ => fun w69 => Hp w [] M [rowR 66 b18 [Value.int .i64 x59, Value.int .i64 x61, Value.int .i64 x63, Value.int .i64 x65, Value.int .i64 x67]] w69 ∧ Adv (mm [rowR 66 b18 [Value.int .i64 x40, Value.int .i64 x42, Value.int .i64 x44, Value.int .i64 x46, Value.int .i64 x48]] M) (mm [rowR 66 b18 [Value.int .i64 x59, Value.int .i64 x61, Value.int .i64 x63, Value.int .i64 x65, Value.int .i64 x67]] M) w50 w69 ∧ InK .i64 x59 ∧ InK .i64 x61 ∧ InK .i64 x63 ∧ InK .i64 x65 ∧ InK .i64 x67 ∧ (x59, x61, x63, x65, x67) = j57) ?_ ?_
   ·skip
    refine cw_block ?_
    refine cw_seq (cw_regF ?_)
    refine s_fa rfl Tryz.underlying66 rfl Tryz.sizeOf3 rfl ?_
    refine s_ld rfl ((hI51.row 0 rfl).rd.cells.at 3 rfl) Tryz.isAgg3 rfl ?_
    refine s_as rfl rfl ?_
    refine Reg.nil ?_
    refine cw_seq ?_
    refine cw_regT fol (by kernel_rfl) ?_
    refine s_mv rfl rfl ?_
    refine s_fa rfl Tryz.underlying66 rfl Tryz.sizeOf3 rfl ?_
    refine s_ld rfl ((hI51.row 0 rfl).rd.cells.at 0 rfl) Tryz.isAgg3 rfl ?_
    obtain ⟨y72, hy72, h58⟩ := bnd h58
    refine p_ia rfl rfl (f_x_0.adv hI51.adv) hy72 Tryz.underlying26 Tryz.sizeOf3 rfl ?_
    intro b73 o74 cs75 hR76 hC77
    obtain ⟨rfl, r78⟩ := hR76
    refine s_ld rfl (hC77.cells.at 0 rfl) Tryz.isAgg3 rfl ?_
    refine s_fa rfl Tryz.underlying66 rfl Tryz.sizeOf3 rfl ?_
    refine s_ld rfl ((hI51.row 0 rfl).rd.cells.at 1 rfl) Tryz.isAgg3 rfl ?_
    refine s_lss rfl rfl rfl ?_
    refine Reg.nilq (fun w79 e80 => ?_)
    have hI81 := hI51.ext e80
    obtain ⟨j82, h83, h58⟩ := bnd h58
    refine cw_sub (L := [(6, _), (23, _), (1, _), (2, _), (5, _)]) (Sub.cons rfl (Sub.cons rfl (Sub.cons rfl (Sub.cons rfl (Sub.cons rfl (Sub.nil _)))))) ?_
    refine cw_unitD 2 (ι := Int × Int × Int × Int × Int) (fun ⟨x84, x86, x88, x90, x92⟩ => []) (fun ⟨x84, x86, x88, x90, x92⟩ => fun w94 => Hp w [] M [rowR 66 b18 [Value.int .i64 x84, Value.int .i64 x86, Value.int .i64 x88, Value.int .i64 x90, Value.int .i64 x92]] w94 ∧ Adv (mm [rowR 66 b18 [Value.int .i64 x40, Value.int .i64 x42, Value.int .i64 x44, Value.int .i64 x46, Value.int .i64 x48]] M) (mm [rowR 66 b18 [Value.int .i64 x84, Value.int .i64 x86, Value.int .i64 x88, Value.int .i64 x90, Value.int .i64 x92]] M) w79 w94 ∧ InK .i64 x84 ∧ InK .i64 x86 ∧ InK .i64 x88 ∧ InK .i64 x90 ∧ InK .i64 x92 ∧ (x84, x86, x88, x90, x92) = j82) ?_ ?_
    ·skip
     refine cw_cond rfl (fun hc97 => ?_) (fun hc97 => ?_)
     ·replace h83 := cdT hc97 h83
      refine cw_regF ?_
      refine s_fa rfl Tryz.underlying84 rfl Tryz.sizeOf42 rfl ?_
      refine s_ld rfl ((hC6.adv (x21.trans (x24.trans (hA52.trans (Adv.of_ext e80))))).cells.at 1 rfl) Tryz.isAgg42 rfl ?_
      refine s_fa rfl Tryz.underlying66 rfl Tryz.sizeOf3 rfl ?_
      refine s_ld rfl ((hI81.row 0 rfl).rd.cells.at 2 rfl) Tryz.isAgg3 rfl ?_
      obtain ⟨y98, hy98, h83⟩ := bnd h83
      refine p_ia rfl rfl (f_t_1.adv hI81.adv) hy98 Tryz.underlying42 Tryz.sizeOf66 rfl ?_
      intro b99 o100 cs101 hR102 hC103
      obtain ⟨rfl, r104, r105, r106, r107, r108⟩ := NodeE_R.1 hR102
      refine s_lda rfl hC103.cells Tryz.isAgg66 rfl Tryz.sizeOf66 rfl ?_
      refine y_st 0 hI81 rfl rfl rfl rfl Tryz.sizeOf66 rfl rfl (one1 rfl (one1 rfl (one1 rfl (one1 rfl (one1 rfl one0))))) ?_
      intro w109 hI110 x111
      refine Reg.nil ?_
      obtain rfl := Option.some.inj h83
      refine ⟨rfl, (y98.trait, y98.cut, y98.low, y98.high, y98.points), ⟨hI110, x111, r104, r105, r106, r107, r108, rfl⟩, Sub.cons rfl (Sub.cons rfl (Sub.cons rfl (Sub.nil _)))⟩
     ·replace h83 := cdF hc97 h83
      refine cw_regF ?_
      refine s_fa rfl Tryz.underlying84 rfl Tryz.sizeOf42 rfl ?_
      refine s_ld rfl ((hC6.adv (x21.trans (x24.trans (hA52.trans (Adv.of_ext e80))))).cells.at 1 rfl) Tryz.isAgg42 rfl ?_
      refine s_mv rfl rfl ?_
      obtain ⟨y112, hy112, h83⟩ := bnd h83
      refine p_ia rfl rfl (f_t_1.adv hI81.adv) hy112 Tryz.underlying42 Tryz.sizeOf66 rfl ?_
      intro b113 o114 cs115 hR116 hC117
      obtain ⟨rfl, r118, r119, r120, r121, r122⟩ := NodeE_R.1 hR116
      refine s_lda rfl hC117.cells Tryz.isAgg66 rfl Tryz.sizeOf66 rfl ?_
      refine y_st 0 hI81 rfl rfl rfl rfl Tryz.sizeOf66 rfl rfl (one1 rfl (one1 rfl (one1 rfl (one1 rfl (one1 rfl one0))))) ?_
      intro w123 hI124 x125
      refine Reg.nil ?_
      obtain rfl := Option.some.inj h83
      refine ⟨rfl, (y112.trait, y112.cut, y112.low, y112.high, y112.points), ⟨hI124, x125, r118, r119, r120, r121, r122, rfl⟩, Sub.cons rfl (Sub.cons rfl (Sub.cons rfl (Sub.nil _)))⟩
    ·skip
     rintro ⟨x84, x86, x88, x90, x92⟩ w94 ⟨hI95, hA96, r85, r87, r89, r91, r93, rfl⟩
     obtain rfl := Option.some.inj h58
     refine ⟨rfl, (x84, x86, x88, x90, x92), ⟨hI95, ((Adv.of_ext e80).trans hA96), r85, r87, r89, r91, r93, rfl⟩, Sub.cons rfl (Sub.cons rfl (Sub.cons rfl (Sub.nil _)))⟩
   ·skip
    rintro ⟨x59, x61, x63, x65, x67⟩ w69 ⟨hI70, hA71, r60, r62, r64, r66, r68, rfl⟩
    obtain rfl := Option.some.inj h54
    refine ⟨rfl, (x59, x61, x63, x65, x67), ⟨⟨hI70, (hA52.trans hA71), r60, r62, r64, r66, r68⟩, rfl⟩, Sub.cons rfl (Sub.cons rfl (Sub.cons rfl (Sub.nil _)))⟩
  ·replace h54 := cdF hc56 h54
   refine cw_exit ?_
   refine exB_same ?_
   obtain rfl := Option.some.inj h54
   obtain rfl := hR55 _ rfl
   refine ⟨rfl, (x40, x42, x44, x46, x48), ⟨hI51, hA52, r41, r43, r45, r47, r49, rfl⟩, Sub.cons rfl (Sub.nil _)⟩
 ·skip
  rintro ⟨x27, x29, x31, x33, x35⟩ w37 ⟨hI38, hA39, r28, r30, r32, r34, r36, rfl⟩
  refine cw_seq (cw_regF ?_)
  refine s_fa rfl Tryz.underlying66 rfl Tryz.sizeOf3 rfl ?_
  refine s_ld rfl ((hI38.row 0 rfl).rd.cells.at 4 rfl) Tryz.isAgg3 rfl ?_
  refine s_as rfl rfl ?_
  refine Reg.nil ?_
  refine cw_ret ?_
  obtain rfl := Option.some.inj h
  refine fin1 Tryz.results119 rfl ?_
  exact ⟨rfl, r36, hI38.kp⟩
noncomputable def P.score_card_weight (c : Card) : Option Int :=
 some c.weight
theorem C_score_card_weight {M : List Nat} {w : World} (hM : MLt M w) {c : Card} {v_c_2 : Value} (f_c_0 : InK .i64 c.weight) (f_c_1 : InK .i64 c.base) (f_c_2 : RdS ScaleE M w v_c_2 c.scales) {r0 : Int} (h : P.score_card_weight c = some r0) :
  Calls Tryz.prog 111 (List.toArray [Value.agg (List.toArray [Value.int .i64 c.weight, Value.int .i64 c.base, v_c_2])]) w fun e w' => e = .returned (Value.int .i64 r0) ∧ InK .i64 r0 ∧ Ext w w' := by
 have hI := Hp.start (Mu := []) hM
 refine calls_cw Tryz.func111 rfl Tryz.ntmps111 rfl ?_
 refine cw_seq (cw_regF ?_)
 refine y_box hI rfl rfl rfl ?_
 intro b1 w2 hI3 x4
 have hC6 := hI3.freezeRow 0 rfl
 have hI5 := hI3.erase 0
 refine s_as rfl rfl ?_
 refine Reg.nil ?_
 refine cw_seq (cw_regF ?_)
 refine s_fa rfl Tryz.underlying83 rfl Tryz.sizeOf3 rfl ?_
 refine s_ld rfl (hC6.cells.at 0 rfl) Tryz.isAgg3 rfl ?_
 refine s_as rfl rfl ?_
 refine Reg.nil ?_
 refine cw_ret ?_
 obtain rfl := Option.some.inj h
 refine fin1 Tryz.results111 rfl ?_
 exact ⟨rfl, f_c_0, hI5.kp⟩
noncomputable def P.score_tree_weight (t : Tree) : Option Int :=
 some t.weight
theorem C_score_tree_weight {M : List Nat} {w : World} (hM : MLt M w) {t : Tree} {v_t_1 : Value} (f_t_0 : InK .i64 t.weight) (f_t_1 : RdS NodeE M w v_t_1 t.nodes) {r0 : Int} (h : P.score_tree_weight t = some r0) :
  Calls Tryz.prog 121 (List.toArray [Value.agg (List.toArray [Value.int .i64 t.weight, v_t_1])]) w fun e w' => e = .returned (Value.int .i64 r0) ∧ InK .i64 r0 ∧ Ext w w' := by
 have hI := Hp.start (Mu := []) hM
 refine calls_cw Tryz.func121 rfl Tryz.ntmps121 rfl ?_
 refine cw_seq (cw_regF ?_)
 refine y_box hI rfl rfl rfl ?_
 intro b1 w2 hI3 x4
 have hC6 := hI3.freezeRow 0 rfl
 have hI5 := hI3.erase 0
 refine s_as rfl rfl ?_
 refine Reg.nil ?_
 refine cw_seq (cw_regF ?_)
 refine s_fa rfl Tryz.underlying84 rfl Tryz.sizeOf3 rfl ?_
 refine s_ld rfl (hC6.cells.at 0 rfl) Tryz.isAgg3 rfl ?_
 refine s_as rfl rfl ?_
 refine Reg.nil ?_
 refine cw_ret ?_
 obtain rfl := Option.some.inj h
 refine fin1 Tryz.results121 rfl ?_
 exact ⟨rfl, f_t_0, hI5.kp⟩
noncomputable def P.slices_isNaN_116 (x : Int) : Option Bool :=
 some (!decide (x = x))
theorem C_slices_isNaN_116 {M : List Nat} {w : World} (hM : MLt M w) {x : Int} (f_x_0 : InK .i64 x) {r0 : Bool} (h : P.slices_isNaN_116 x = some r0) :
  Calls Tryz.prog 116 (List.toArray [Value.int .i64 x]) w fun e w' => e = .returned (Value.bool r0) ∧ Ext w w' := by
 have hI := Hp.start (Mu := []) hM
 refine calls_cw Tryz.func116 rfl Tryz.ntmps116 rfl ?_
 refine cw_seq (cw_regF ?_)
 refine s_as rfl rfl ?_
 refine Reg.nil ?_
 refine cw_seq (cw_regF ?_)
 refine s_mv rfl rfl ?_
 refine s_mv rfl rfl ?_
 refine s_neq rfl rfl rfl ?_
 refine s_as rfl rfl ?_
 refine Reg.nil ?_
 refine cw_ret ?_
 obtain rfl := Option.some.inj h
 refine fin1 Tryz.results116 rfl ?_
 exact ⟨rfl, hI.kp⟩
noncomputable def P.slices_IndexFunc_52 (s : (List Int)) (f : Int → Option Bool) : Option Int :=
 Option.bind (loopM (S := Int) (R := (Unit) ⊕ (Int)) (fun x1 => cond (decide (x1 < (s.length : Int))) (Option.bind (ixo s x1) fun y3 => Option.bind (f y3) fun z10 => cond z10 (some (.inr (.inr x1))) (Option.bind (chk .i64 (x1 + 1)) fun n16 => some (.inl n16))) (some (.inr (.inl ())))) 0) fun j17 => Sum.elim (fun _ => some (-1)) (fun r18 => some r18)  j17
theorem C_slices_IndexFunc_52 {M : List Nat} {w : World} (hM : MLt M w) {s : (List Int)} {v_s_0 : Value} (f_s_0 : RdS (intE .i64) M w v_s_0 s) {v_f : Value} {f : Int → Option Bool} (f_f : ∀ (x0 : Int) (r : Bool) (w1 : World), Kp [] w w1 → InK .i64 x0 → f x0 = some r → CallsV Tryz.prog v_f [Value.int .i64 x0] w1 fun e w2 => e = .returned (Value.bool r) ∧ Ext w1 w2) {r0 : Int} (h : P.slices_IndexFunc_52 s f = some r0) :
  Calls Tryz.prog 52 (List.toArray [v_s_0, v_f]) w fun e w' => e = .returned (Value.int .i64 r0) ∧ InK .i64 r0 ∧ Ext w w' := by
 have hI := Hp.start (Mu := []) hM
 refine calls_cw Tryz.func52 rfl Tryz.ntmps52 rfl ?_
 refine cw_seq (cw_regF ?_)
 refine s_as rfl rfl ?_
 refine Reg.nil ?_
 refine cw_seq (cw_seq (cw_regF ?_))
 refine s_mv rfl rfl ?_
 refine s_len rfl f_s_0 Tryz.underlying26 rfl ?_
 refine s_mv rfl rfl ?_
 refine Reg.nil ?_
 obtain ⟨j1, h2, h⟩ := bnd h
 refine cw_sub (L := [(0, _), (1, _), (7, _), (8, _)]) (Sub.cons rfl (Sub.cons rfl (Sub.cons rfl (Sub.cons rfl (Sub.nil _))))) ?_
 refine cw_unitD 4 (ι := Unit) (fun _ => []) (fun _ => fun w3 => Hp w [] M [] w3 ∧ Adv (mm [] M) (mm [] M) w w3 ∧ (.inl ()) = j1) ?_ ?_
 ·skip
  refine cw_block ?_
  refine cw_sub (L := [(8, _), (0, _), (1, _), (7, _)]) (Sub.cons rfl (Sub.cons rfl (Sub.cons rfl (Sub.cons rfl (Sub.nil _))))) ?_
  refine cw_loopM 1 (ι := Int) _ (fun x6 => [(8, Value.int .i64 x6)]) (fun x6 => x6) (fun x6 => fun w8 => Hp w [] M [] w8 ∧ Adv (mm [] M) (mm [] M) w w8 ∧ InK .i64 x6) 0 h2 ⟨hI, (Adv.refl _ _), (by decide)⟩ (Sub.cons rfl (Sub.cons rfl (Sub.cons rfl (Sub.cons rfl (Sub.nil _))))) ?_
  rintro x6 w8 ⟨hI9, hA10, r7⟩ y11 h12 hR13
  refine cw_seq (cw_regF ?_)
  refine s_lss rfl rfl rfl ?_
  refine Reg.nil ?_
  refine cw_seq ?_
  refine cw_cond rfl (fun hc14 => ?_) (fun hc14 => ?_)
  ·replace h12 := cdT hc14 h12
   refine cw_skip ?_
   refine cw_seq ?_
   refine cw_block ?_
   refine cw_seq (cw_regF ?_)
   refine s_mv rfl rfl ?_
   refine s_as rfl rfl ?_
   refine Reg.nil ?_
   refine cw_seq (cw_regF ?_)
   refine s_mv rfl rfl ?_
   refine s_mv rfl rfl ?_
   refine s_mv rfl rfl ?_
   obtain ⟨y15, hy15, h12⟩ := bnd h12
   refine p_ia rfl rfl (f_s_0.adv hI9.adv) hy15 Tryz.underlying26 Tryz.sizeOf3 rfl ?_
   intro b16 o17 cs18 hR19 hC20
   obtain ⟨rfl, r21⟩ := hR19
   refine s_ld rfl (hC20.cells.at 0 rfl) Tryz.isAgg3 rfl ?_
   obtain ⟨z22, hz22, h12⟩ := bnd h12
   refine s_callV rfl rfl rfl ?_
   refine (f_f _ _ _ hI9.kp r21 hz22).mono ?_
   rintro _ w23 ⟨rfl, e24⟩
   refine ⟨_, rfl, ?_⟩
   have hI26 := hI9.ext e24
   refine Reg.nil ?_
   refine cw_cond rfl (fun hc27 => ?_) (fun hc27 => ?_)
   ·replace h12 := cdT hc27 h12
    refine cw_seq (cw_regF ?_)
    refine s_mv rfl rfl ?_
    refine s_as rfl rfl ?_
    refine Reg.nil ?_
    refine cw_ret ?_
    obtain rfl := Option.some.inj h12
    obtain rfl := hR13 _ rfl
    replace h := elimR h
    obtain rfl := Option.some.inj h
    refine fin1 Tryz.results52 rfl ?_
    exact ⟨rfl, r7, hI26.kp⟩
   ·replace h12 := cdF hc27 h12
    refine cw_skip ?_
    refine cw_regF ?_
    obtain ⟨n28, hn28, h12⟩ := bnd h12
    replace hn28 := chk_out hn28
    refine p_add rfl rfl rfl hn28 ?_
    refine s_mv rfl rfl ?_
    refine Reg.nil ?_
    obtain rfl := Option.some.inj h12
    refine ⟨rfl, n28, ⟨⟨hI26, hI26.adv, hn28.2⟩, rfl⟩, Sub.cons rfl (Sub.cons rfl (Sub.cons rfl (Sub.cons rfl (Sub.nil _))))⟩
  ·replace h12 := cdF hc14 h12
   refine cw_exit ?_
   refine exB_same ?_
   obtain rfl := Option.some.inj h12
   obtain rfl := hR13 _ rfl
   refine ⟨rfl, (), ⟨hI9, hI9.adv, rfl⟩, Sub.nil _⟩
 ·skip
  rintro _ w3 ⟨hI4, hA5, rfl⟩
  replace h := elimL h
  refine cw_seq (cw_regF ?_)
  refine s_as rfl rfl ?_
  refine Reg.nil ?_
  refine cw_ret ?_
  obtain rfl := Option.some.inj h
  refine fin1 Tryz.results52 rfl ?_
  exact ⟨rfl, (by decide), hI4.kp⟩
end Go.Proofs.YtecmlmngcnionaaGreat
