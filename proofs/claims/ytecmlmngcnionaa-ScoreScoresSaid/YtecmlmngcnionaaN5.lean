/-
  Plain functions and contracts: printed by gen2.py out of the elaborated program.
-/
import Derived.Test.YtecmlmngcnionaaN4
import Derived.Test.YtecmlmngcnionaaSxOpen
set_option maxRecDepth 20000
namespace Go.Proofs.Ytecmlmngcnionaa
open Go Go.Sx Go.RowKit

noncomputable def P.ref06_Twin (m : Model) : Option Model :=
  Option.bind (appo 40 ([] : List Card) m.cards) fun l13 => Option.bind (loopM (S := Int × (List Card)) (R := ((List Card))) (fun (x21, x22) => cond (decide (x21 < (x22.length : Int))) (Option.bind (ixo x22 x21) fun y25 => Option.bind (appo 56 ([] : List Scale) y25.scales) fun l42 => Option.bind (ixo x22 x21) fun y51 => Option.bind (loopM (S := Int × (List Scale)) (R := ((List Scale))) (fun (x80, x81) => cond (decide (x80 < (x81.length : Int))) (Option.bind (ixo x81 x80) fun y89 => Option.bind (appo 8 ([] : List Int) y89.cuts) fun l109 => Option.bind (appo 8 ([] : List Int) y89.points) fun l121 => Option.bind (seto x81 x80 (Scale.mk l109 y89.points y89.none_)) fun l146 => Option.bind (seto l146 x80 (Scale.mk ((Scale.mk l109 y89.points y89.none_).cuts) l121 ((Scale.mk l109 y89.points y89.none_).none_))) fun l169 => Option.bind (chk .i64 (x80 + 1)) fun n176 => some (.inl (n176, l169))) (some (.inr x81))) (0, l42)) fun x177 => Option.bind (chk .i64 (x21 + 1)) fun n178 => some (.inl (n178, (x22.set x21.toNat (Card.mk y51.weight y51.base x177))))) (some (.inr x22))) (0, l13)) fun x182 => Option.bind (appo 32 ([] : List Tree) m.trees) fun l187 => Option.bind (loopM (S := Int × (List Tree)) (R := ((List Tree))) (fun (x195, x196) => cond (decide (x195 < (x196.length : Int))) (Option.bind (ixo x196 x195) fun y199 => Option.bind (appo 40 ([] : List Node) y199.nodes) fun l215 => Option.bind (ixo x196 x195) fun y224 => Option.bind (seto x196 x195 (Tree.mk y224.weight l215)) fun l247 => Option.bind (chk .i64 (x195 + 1)) fun n254 => some (.inl (n254, l247))) (some (.inr x196))) (0, l187)) fun x255 => some (Model.mk m.traits x182 x255 m.need)

theorem C_ref06_Twin {M : List Nat} {w : World} (hM : MLt M w) {m : Model} {v_m_1 : Value} {v_m_2 : Value} (f_m_0 : InK IntKind.i64 m.traits) (f_m_1 : RdS CardE M w v_m_1 m.cards) (f_m_2 : RdS TreeE M w v_m_2 m.trees) (f_m_3 : InK IntKind.i64 m.need) {r0 : Model} (h : P.ref06_Twin m = some r0) :
    Calls Try.prog 13 (List.toArray [Value.agg (List.toArray [Value.int IntKind.i64 m.traits, v_m_1, v_m_2, Value.int IntKind.i64 m.need])]) w fun e w' => ∃ v0_1 : Value, ∃ v0_2 : Value, e = .returned (Value.agg (List.toArray [Value.int IntKind.i64 r0.traits, v0_1, v0_2, Value.int IntKind.i64 r0.need])) ∧ InK IntKind.i64 r0.traits ∧ RdS CardE M w' v0_1 r0.cards ∧ RdS TreeE M w' v0_2 r0.trees ∧ InK IntKind.i64 r0.need ∧ Ext w w' := by
  have hI := Hp.start (Mu := []) hM
  refine calls_cw Try.func13 rfl Try.ntmps13 rfl ?_
  refine cw_seq ?_
  refine cw_regF ?_
  refine y_box hI rfl rfl rfl ?_
  intro b1 w2 hI3 x4
  refine y_al hI3 Try.zeroValue25 rfl rfl ?_
  intro b5 w6 hI7 x8
  refine Reg.nil ?_
  refine cw_seq ?_
  refine cw_regF ?_
  refine y_bs (E := CardE) (xs := []) sl22 hI7 rfl rfl Cls.nil Chs.nil rfl rfl ?_
  intro v9 w10 hI11 x12
  refine s_fa rfl Try.underlying25 rfl Try.sizeOf22 rfl ?_
  refine s_ld rfl ((hI11.row 2 rfl).rd.cells.at 1 rfl) Try.isAgg22 rfl ?_
  obtain ⟨l13, hl13, h⟩ := bnd h
  obtain ⟨hbl13, el13⟩ := appo_out hl13
  refine y_app 0 sl22 hI11 rfl rfl rfl (f_m_1.adv hI11.adv) hbl13 rfl ?_
  rw [← el13]
  intro v14 w15 hI16 x17
  refine s_fa rfl Try.underlying25 rfl Try.sizeOf22 rfl ?_
  refine y_st 2 hI16 rfl rfl rfl (Own.cells1 (hI16.ownAt 0 rfl)) Try.sizeOf22 rfl rfl (one1 (Own.oneC (hI16.ownAt 0 rfl)) one0) ?_
  intro w18 hI19 x20
  refine Reg.nil ?_
  refine cw_seq ?_
  refine cw_seq ?_
  refine cw_regF ?_
  refine s_as rfl rfl ?_
  refine Reg.nil ?_
  obtain ⟨j21, h22, h⟩ := bnd h
  refine cw_sub (L := [(3, _), (1, _), (2, _)]) (Sub.cons rfl (Sub.cons rfl (Sub.cons rfl (Sub.nil _)))) ?_
  refine cw_unitD 1 (ι := (List Card)) (fun x23 => []) (fun x23 => fun w24 => Hp w [] M [ownR [] CardE 54 v14 x23, rowR 25 b5 [Value.int IntKind.i64 (0), Value.slice none 0 0, Value.slice none 0 0, Value.int IntKind.i64 (0)], rowR 25 b1 [Value.int IntKind.i64 (m.traits), v14, v_m_2, Value.int IntKind.i64 (m.need)]] w24 ∧ Adv (mm [ownR [] CardE 54 v14 l13, rowR 25 b5 [Value.int IntKind.i64 (0), Value.slice none 0 0, Value.slice none 0 0, Value.int IntKind.i64 (0)], rowR 25 b1 [Value.int IntKind.i64 (m.traits), v14, v_m_2, Value.int IntKind.i64 (m.need)]] M) (mm [ownR [] CardE 54 v14 x23, rowR 25 b5 [Value.int IntKind.i64 (0), Value.slice none 0 0, Value.slice none 0 0, Value.int IntKind.i64 (0)], rowR 25 b1 [Value.int IntKind.i64 (m.traits), v14, v_m_2, Value.int IntKind.i64 (m.need)]] M) w18 w24 ∧ x23 = j21) ?_ ?_
  · skip
    refine cw_block ?_
    refine cw_sub (L := [(3, _), (1, _), (2, _)]) (Sub.cons rfl (Sub.cons rfl (Sub.cons rfl (Sub.nil _)))) ?_
    refine cw_loopM 1 (ι := Int × (List Card)) _ (fun ⟨x27, x29⟩ => [(3, Value.int IntKind.i64 (x27))]) (fun ⟨x27, x29⟩ => (x27, x29)) (fun ⟨x27, x29⟩ => fun w30 => Hp w [] M [ownR [] CardE 54 v14 x29, rowR 25 b5 [Value.int IntKind.i64 (0), Value.slice none 0 0, Value.slice none 0 0, Value.int IntKind.i64 (0)], rowR 25 b1 [Value.int IntKind.i64 (m.traits), v14, v_m_2, Value.int IntKind.i64 (m.need)]] w30 ∧ Adv (mm [ownR [] CardE 54 v14 l13, rowR 25 b5 [Value.int IntKind.i64 (0), Value.slice none 0 0, Value.slice none 0 0, Value.int IntKind.i64 (0)], rowR 25 b1 [Value.int IntKind.i64 (m.traits), v14, v_m_2, Value.int IntKind.i64 (m.need)]] M) (mm [ownR [] CardE 54 v14 x29, rowR 25 b5 [Value.int IntKind.i64 (0), Value.slice none 0 0, Value.slice none 0 0, Value.int IntKind.i64 (0)], rowR 25 b1 [Value.int IntKind.i64 (m.traits), v14, v_m_2, Value.int IntKind.i64 (m.need)]] M) w18 w30 ∧ InK IntKind.i64 x27) (0, l13) h22 ⟨hI19, (Adv.refl _ _), (by decide)⟩ (Sub.cons rfl (Sub.cons rfl (Sub.cons rfl (Sub.nil _)))) ?_
    rintro ⟨x27, x29⟩ w30 ⟨hI31, hA32, r28⟩ y33 h34 hR35
    refine cw_seq ?_
    refine cw_seq ?_
    refine cw_regF ?_
    refine s_mv rfl rfl ?_
    refine s_fa rfl Try.underlying25 rfl Try.sizeOf22 rfl ?_
    refine s_ld rfl ((hI31.row 2 rfl).rd.cells.at 1 rfl) Try.isAgg22 rfl ?_
    refine s_lenO rfl (hI31.ownAt 0 rfl) Try.underlying22 rfl ?_
    refine s_lss rfl rfl rfl ?_
    refine Reg.nil ?_
    refine cw_cond rfl (fun hc36 => ?_) (fun hc36 => ?_)
    · replace h34 := cdT hc36 h34
      refine cw_skip ?_
      refine cw_seq ?_
      refine cw_block ?_
      refine cw_seq ?_
      refine cw_regSea [0, 1, 2, 3, 4, 5, 6, 7, 8, 9] [10, 11, 12, 13] [22] [13] [[13, 0], [13, 1], [13, 3], [13, 4], [13, 5], [13, 7], [13, 8], [13, 9]] [(22, .p fun v _ => KLit v)] fol (by kernel_rfl) rfl (by kernel_rfl) rfl rfl ?_
      refine s_fa rfl Try.underlying25 rfl Try.sizeOf22 rfl ?_
      refine s_ld rfl ((hI31.row 2 rfl).rd.cells.at 1 rfl) Try.isAgg22 rfl ?_
      refine s_mv rfl rfl ?_
      refine Reg.relX KLit rfl rfl rfl ?_ ?_
      · intro w37 e37; refine s_bs0 sl52 rfl ?_; intro a37 w37_ x37; exact Reg.nil ⟨rfl, x37, _, rfl, ⟨_, rfl⟩, trivial⟩
      refine s_fa rfl Try.underlying25 rfl Try.sizeOf22 rfl ?_
      refine s_ld rfl ((hI31.row 2 rfl).rd.cells.at 1 rfl) Try.isAgg22 rfl ?_
      refine s_mv rfl rfl ?_
      obtain ⟨y38, hy38, h34⟩ := bnd h34
      refine y_ia 0 hI31 rfl rfl rfl hy38 Try.underlying22 Try.sizeOf54 rfl ?_
      intro g39 cs40 hg41 hR42 hC43
      have khR42 := hR42
      obtain ⟨v46, rfl, r44, r45, hf47⟩ := CardE_R.1 hR42
      refine s_fa rfl Try.underlying54 rfl Try.sizeOf52 rfl ?_
      refine s_ld rfl (hC43.at 2 rfl) Try.isAgg52 rfl ?_
      refine Reg.nilX ⟨rfl, rfl, rfl, ?_⟩
      intro w48 e49
      have hI50 := (Hp.start (Mu := []) hI31.mlt).ext e49
      refine SeaWalk.step [10] (by kernel_rfl) (AllL.cons ?_ (AllL.nil))
      refine ⟨_, [(22, _)], rfl, RSub.cons rfl rfl (RSub.nil), rfl, nodupB_spec rfl, ?_⟩
      simp only [relOut]
      intro u51 k52 s53
      have hI54 := hI50.addLit ScaleE 56 k52
      obtain ⟨l55, hl55, h34⟩ := bnd h34
      obtain ⟨hbl55, el55⟩ := appo_out hl55
      refine y_app 0 sl52 hI54 rfl rfl rfl (hf47.adv ((Adv.of_ext e49).trans (Hp.addLitA (σ := []) ScaleE 56 k52))) hbl55 rfl ?_
      rw [← el55]
      intro v56 w57 hI58 x59
      refine Reg.nilS (L0 := [(1, _), (2, _), (3, _), (20, _), (21, _), (29, _)]) (Sub.cons rfl (Sub.cons rfl (Sub.cons rfl (Sub.cons rfl (Sub.cons rfl (Sub.cons rfl (Sub.nil _))))))) ⟨rfl, .inr hI58.kp, rfl, ?_⟩
      intro w60 e61
      have hI62 := hI58.ext e61
      refine SeaWalk.step [11] (by kernel_rfl) (AllL.cons ?_ (AllL.nil))
      refine ⟨_, [], rfl, RSub.nil, rfl, nodupB_spec rfl, ?_⟩
      simp only [relOut]
      have hI63 := hI31.join hI62
      obtain ⟨y64, hy64, h34⟩ := bnd h34
      refine y_ia 1 hI63 rfl rfl rfl hy64 Try.underlying22 Try.sizeOf54 rfl ?_
      intro g65 cs66 hg67 hR68 hC69
      have khR68 := hR68
      obtain ⟨v72, rfl, r70, r71, hf73⟩ := CardE_R.1 hR68
      refine Reg.nil ⟨rfl, .inr hI62.kp, rfl, ?_⟩
      intro w74 e75
      have hI76 := hI63.ext e75
      refine SeaWalk.step [12] (by kernel_rfl) (AllL.cons ?_ (AllL.nil))
      refine ⟨_, [], rfl, RSub.nil, rfl, nodupB_spec rfl, ?_⟩
      simp only [relOut]
      refine s_fa rfl Try.underlying54 rfl Try.sizeOf52 rfl ?_
      refine Reg.nil ⟨rfl, .inr ((hI62.kp).trans e75), rfl, ?_⟩
      intro w77 e78
      have hI79 := hI76.ext e78
      refine SeaWalk.step [13] (by kernel_rfl) (AllL.cons ?_ (AllL.nil))
      refine ⟨_, [], rfl, RSub.nil, rfl, nodupB_spec rfl, ?_⟩
      simp only [relOut]
      obtain ⟨cs80, hR81, hC82⟩ := (hI79.ownAt 1 rfl).cellsAt hg67 (ixo_out hy64).2.2
      have khR81 := hR81
      obtain ⟨v85, rfl, r83, r84, hf86⟩ := CardE_R.1 hR81
      refine y_stOpen 1 (E := CardE) (o := 2) hI79 rfl rfl rfl (Own.cells1 (hI79.ownAt 0 rfl)) hg67 hy64 ((CardE_R (x := y64)).2 ⟨_, rfl, r83, r84, hf86⟩) hC82 rfl Try.sizeOf52 rfl (one1 (Own.oneC (hI79.ownAt 0 rfl)) one0) ?_
      intro w87 hI88 x89
      refine Reg.nil ⟨rfl, .inl rfl, rfl, ?_⟩
      intro w90 e91
      have hI92 := hI88.ext e91
      refine SeaWalk.done ?_
      refine cw_seq ?_
      refine cw_regF ?_
      refine s_as rfl rfl ?_
      refine Reg.nil ?_
      obtain ⟨j93, h94, h34⟩ := bnd h34
      refine cw_sub (L := [(4, _), (1, _), (2, _), (3, _)]) (Sub.cons rfl (Sub.cons rfl (Sub.cons rfl (Sub.cons rfl (Sub.nil _))))) ?_
      refine cw_unitD 1 (ι := (List Scale)) (fun x95 => []) (fun x95 => fun w96 => Hp w [] M [ownR [] ScaleE 56 v56 x95, ownR [] (openE CardE) 54 v14 (opn x29 x27 [Value.int IntKind.i64 (y64.weight), Value.int IntKind.i64 (y64.base), v56]), rowR 25 b5 [Value.int IntKind.i64 (0), Value.slice none 0 0, Value.slice none 0 0, Value.int IntKind.i64 (0)], rowR 25 b1 [Value.int IntKind.i64 (m.traits), v14, v_m_2, Value.int IntKind.i64 (m.need)]] w96 ∧ Adv (mm [ownR [] ScaleE 56 v56 l55, ownR [] (openE CardE) 54 v14 (opn x29 x27 [Value.int IntKind.i64 (y64.weight), Value.int IntKind.i64 (y64.base), v56]), rowR 25 b5 [Value.int IntKind.i64 (0), Value.slice none 0 0, Value.slice none 0 0, Value.int IntKind.i64 (0)], rowR 25 b1 [Value.int IntKind.i64 (m.traits), v14, v_m_2, Value.int IntKind.i64 (m.need)]] M) (mm [ownR [] ScaleE 56 v56 x95, ownR [] (openE CardE) 54 v14 (opn x29 x27 [Value.int IntKind.i64 (y64.weight), Value.int IntKind.i64 (y64.base), v56]), rowR 25 b5 [Value.int IntKind.i64 (0), Value.slice none 0 0, Value.slice none 0 0, Value.int IntKind.i64 (0)], rowR 25 b1 [Value.int IntKind.i64 (m.traits), v14, v_m_2, Value.int IntKind.i64 (m.need)]] M) w90 w96 ∧ x95 = j93) ?_ ?_
      · skip
        refine cw_block ?_
        refine cw_sub (L := [(4, _), (1, _), (2, _), (3, _)]) (Sub.cons rfl (Sub.cons rfl (Sub.cons rfl (Sub.cons rfl (Sub.nil _))))) ?_
        refine cw_loopM 1 (ι := Int × (List Scale)) _ (fun ⟨x99, x101⟩ => [(4, Value.int IntKind.i64 (x99))]) (fun ⟨x99, x101⟩ => (x99, x101)) (fun ⟨x99, x101⟩ => fun w102 => Hp w [] M [ownR [] ScaleE 56 v56 x101, ownR [] (openE CardE) 54 v14 (opn x29 x27 [Value.int IntKind.i64 (y64.weight), Value.int IntKind.i64 (y64.base), v56]), rowR 25 b5 [Value.int IntKind.i64 (0), Value.slice none 0 0, Value.slice none 0 0, Value.int IntKind.i64 (0)], rowR 25 b1 [Value.int IntKind.i64 (m.traits), v14, v_m_2, Value.int IntKind.i64 (m.need)]] w102 ∧ Adv (mm [ownR [] ScaleE 56 v56 l55, ownR [] (openE CardE) 54 v14 (opn x29 x27 [Value.int IntKind.i64 (y64.weight), Value.int IntKind.i64 (y64.base), v56]), rowR 25 b5 [Value.int IntKind.i64 (0), Value.slice none 0 0, Value.slice none 0 0, Value.int IntKind.i64 (0)], rowR 25 b1 [Value.int IntKind.i64 (m.traits), v14, v_m_2, Value.int IntKind.i64 (m.need)]] M) (mm [ownR [] ScaleE 56 v56 x101, ownR [] (openE CardE) 54 v14 (opn x29 x27 [Value.int IntKind.i64 (y64.weight), Value.int IntKind.i64 (y64.base), v56]), rowR 25 b5 [Value.int IntKind.i64 (0), Value.slice none 0 0, Value.slice none 0 0, Value.int IntKind.i64 (0)], rowR 25 b1 [Value.int IntKind.i64 (m.traits), v14, v_m_2, Value.int IntKind.i64 (m.need)]] M) w90 w102 ∧ InK IntKind.i64 x99) (0, l55) h94 ⟨hI92, (Adv.refl _ _), (by decide)⟩ (Sub.cons rfl (Sub.cons rfl (Sub.cons rfl (Sub.cons rfl (Sub.nil _))))) ?_
        rintro ⟨x99, x101⟩ w102 ⟨hI103, hA104, r100⟩ y105 h106 hR107
        refine cw_seq ?_
        refine cw_seq ?_
        refine cw_regF ?_
        refine s_mv rfl rfl ?_
        refine s_fa rfl Try.underlying25 rfl Try.sizeOf22 rfl ?_
        refine s_ld rfl ((hI103.row 3 rfl).rd.cells.at 1 rfl) Try.isAgg22 rfl ?_
        refine s_mv rfl rfl ?_
        refine y_iaOpen 1 hI103 rfl rfl rfl hy64 Try.underlying22 Try.sizeOf54 rfl ?_
        intro g108 hg109 hC110
        refine s_fa rfl Try.underlying54 rfl Try.sizeOf52 rfl ?_
        refine s_ld rfl (hC110.at 2 rfl) Try.isAgg52 rfl ?_
        refine s_lenO rfl (hI103.ownAt 0 rfl) Try.underlying52 rfl ?_
        refine s_lss rfl rfl rfl ?_
        refine Reg.nil ?_
        refine cw_cond rfl (fun hc111 => ?_) (fun hc111 => ?_)
        · replace h106 := cdT hc111 h106
          refine cw_skip ?_
          refine cw_seq ?_
          refine cw_block ?_
          refine cw_seq ?_
          refine cw_regF ?_
          refine s_fa rfl Try.underlying25 rfl Try.sizeOf22 rfl ?_
          refine s_ld rfl ((hI103.row 3 rfl).rd.cells.at 1 rfl) Try.isAgg22 rfl ?_
          refine s_mv rfl rfl ?_
          refine y_iaOpen 1 hI103 rfl rfl rfl hy64 Try.underlying22 Try.sizeOf54 rfl ?_
          intro g112 hg113 hC114
          refine s_fa rfl Try.underlying54 rfl Try.sizeOf52 rfl ?_
          refine s_ld rfl (hC114.at 2 rfl) Try.isAgg52 rfl ?_
          refine s_mv rfl rfl ?_
          obtain ⟨y115, hy115, h106⟩ := bnd h106
          refine y_ia 0 hI103 rfl rfl rfl hy115 Try.underlying52 Try.sizeOf56 rfl ?_
          intro g116 cs117 hg118 hR119 hC120
          have khR119 := hR119
          obtain ⟨v121, v123, rfl, hf122, hf124, r125⟩ := ScaleE_R.1 hR119
          refine s_as rfl rfl ?_
          refine Reg.nil ?_
          refine cw_regSea [0, 1, 2, 3, 4, 5, 6, 8, 9, 10, 11, 12] [7, 13, 14, 15, 16, 17, 18, 19] [53, 59] [16, 19] [[16, 2], [16, 4], [16, 5], [16, 6], [16, 13, 8], [16, 12, 11, 10], [19, 2], [19, 4], [19, 5], [19, 6], [19, 8], [19, 10], [19, 11], [19, 12]] [(59, .p fun v _ => KLit v), (53, .p fun v _ => KLit v)] fol (by kernel_rfl) rfl (by kernel_rfl) rfl rfl ?_
          refine s_mv rfl rfl ?_
          refine s_mv rfl rfl ?_
          refine Reg.relX KLit rfl rfl rfl ?_ ?_
          · intro w126 e126; refine s_bs0 sl26 rfl ?_; intro a126 w126_ x126; exact Reg.nil ⟨rfl, x126, _, rfl, ⟨_, rfl⟩, trivial⟩
          refine s_mv rfl rfl ?_
          refine s_nc rfl rfl ?_
          refine s_fa rfl Try.underlying56 rfl Try.sizeOf26 rfl ?_
          refine s_ld rfl (hC120.at 0 rfl) Try.isAgg26 rfl ?_
          refine Reg.relX KLit rfl rfl rfl ?_ ?_
          · intro w127 e127; refine s_bs0 sl26 rfl ?_; intro a127 w127_ x127; exact Reg.nil ⟨rfl, x127, _, rfl, ⟨_, rfl⟩, trivial⟩
          refine s_mv rfl rfl ?_
          refine s_nc rfl rfl ?_
          refine s_fa rfl Try.underlying56 rfl Try.sizeOf26 rfl ?_
          refine s_ld rfl (hC120.at 1 rfl) Try.isAgg26 rfl ?_
          refine Reg.nilX ⟨rfl, rfl, rfl, ?_⟩
          intro w128 e129
          have hI130 := (Hp.start (Mu := []) hI103.mlt).ext e129
          refine SeaWalk.step [7] (by kernel_rfl) (AllL.cons ?_ (AllL.nil))
          refine ⟨_, [(53, _)], rfl, RSub.cons rfl rfl (RSub.nil), rfl, nodupB_spec rfl, ?_⟩
          simp only [relOut]
          intro u131 k132 s133
          have hI134 := hI130.addLit (intE .i64) 3 k132
          obtain ⟨l135, hl135, h106⟩ := bnd h106
          obtain ⟨hbl135, el135⟩ := appo_out hl135
          refine y_app 0 sl26 hI134 rfl rfl rfl (hf122.adv ((Adv.of_ext e129).trans (Hp.addLitA (σ := []) (intE .i64) 3 k132))) hbl135 rfl ?_
          rw [← el135]
          intro v136 w137 hI138 x139
          refine Reg.nilS (L0 := [(1, _), (2, _), (3, _), (4, _), (51, _), (52, _), (58, _), (63, _)]) (Sub.cons rfl (Sub.cons rfl (Sub.cons rfl (Sub.cons rfl (Sub.cons rfl (Sub.cons rfl (Sub.cons rfl (Sub.cons rfl (Sub.nil _))))))))) ⟨rfl, .inr hI138.kp, rfl, ?_⟩
          intro w140 e141
          have hI142 := hI138.ext e141
          refine SeaWalk.step [13] (by kernel_rfl) (AllL.cons ?_ (AllL.nil))
          refine ⟨_, [(59, _)], rfl, RSub.cons rfl rfl (RSub.nil), rfl, nodupB_spec rfl, ?_⟩
          simp only [relOut]
          intro u143 k144 s145
          have hI146 := hI142.addLit (intE .i64) 3 k144
          obtain ⟨l147, hl147, h106⟩ := bnd h106
          obtain ⟨hbl147, el147⟩ := appo_out hl147
          refine y_app 0 sl26 hI146 rfl rfl rfl (hf124.adv ((Adv.of_ext e129).trans ((Hp.addLitA (σ := []) (intE .i64) 3 k132).trans (x139.trans ((Adv.of_ext e141).trans (Hp.addLitA (σ := [ownR [] (intE .i64) 3 v136 l135]) (intE .i64) 3 k144)))))) hbl147 rfl ?_
          rw [← el147]
          intro v148 w149 hI150 x151
          refine Reg.nilS (L0 := [(1, _), (2, _), (3, _), (4, _), (51, _), (52, _), (58, _), (64, _)]) (Sub.cons rfl (Sub.cons rfl (Sub.cons rfl (Sub.cons rfl (Sub.cons rfl (Sub.cons rfl (Sub.cons rfl (Sub.cons rfl (Sub.nil _))))))))) ⟨rfl, .inr hI150.kp, rfl, ?_⟩
          intro w152 e153
          have hI154 := hI150.ext e153
          refine SeaWalk.step [14] (by kernel_rfl) (AllL.cons ?_ (AllL.nil))
          refine ⟨_, [], rfl, RSub.nil, rfl, nodupB_spec rfl, ?_⟩
          simp only [relOut]
          have hI155 := hI103.join hI154
          refine s_nc rfl rfl ?_
          refine Reg.nil ⟨rfl, .inr hI154.kp, rfl, ?_⟩
          intro w156 e157
          have hI158 := hI155.ext e157
          refine SeaWalk.step [15] (by kernel_rfl) (AllL.cons ?_ (AllL.nil))
          refine ⟨_, [], rfl, RSub.nil, rfl, nodupB_spec rfl, ?_⟩
          simp only [relOut]
          refine s_fa rfl Try.underlying56 rfl Try.sizeOf26 rfl ?_
          refine Reg.nil ⟨rfl, .inr ((hI154.kp).trans e157), rfl, ?_⟩
          intro w159 e160
          have hI161 := hI158.ext e160
          refine SeaWalk.step [16] (by kernel_rfl) (AllL.cons ?_ (AllL.nil))
          refine ⟨_, [], rfl, RSub.nil, rfl, nodupB_spec rfl, ?_⟩
          simp only [relOut]
          have hf162 := hI161.freeze 1 rfl
          have hI163 := hI161.erase 1
          obtain ⟨cs164, hR165, hC166⟩ := (hI163.ownAt 1 rfl).cellsAt hg118 (ixo_out hy115).2.2
          have khR165 := hR165
          obtain ⟨v167, v169, rfl, hf168, hf170, r171⟩ := ScaleE_R.1 hR165
          obtain ⟨l172, hl172, h106⟩ := bnd h106
          refine y_sto 1 (E := ScaleE) (o := 0) hI163 rfl rfl rfl (RdS.cells1 hf162) hg118 hl172 ((ScaleE_R (x := y115)).2 ⟨_, _, rfl, hf168, hf170, r171⟩) hC166 ((ScaleE_R (x := (Scale.mk l135 y115.points y115.none_))).2 ⟨_, _, rfl, hf162, hf170, r171⟩) rfl Try.sizeOf26 rfl (one1 (RdS.oneC hf162) one0) ?_
          intro w173 hI174 x175
          refine Reg.nil ⟨rfl, .inl rfl, rfl, ?_⟩
          intro w176 e177
          have hI178 := hI174.ext e177
          refine SeaWalk.step [17] (by kernel_rfl) (AllL.cons ?_ (AllL.nil))
          refine ⟨_, [], rfl, RSub.nil, rfl, nodupB_spec rfl, ?_⟩
          simp only [relOut]
          refine s_nc rfl rfl ?_
          refine Reg.nil ⟨rfl, .inl rfl, rfl, ?_⟩
          intro w179 e180
          have hI181 := hI178.ext e180
          refine SeaWalk.step [18] (by kernel_rfl) (AllL.cons ?_ (AllL.nil))
          refine ⟨_, [], rfl, RSub.nil, rfl, nodupB_spec rfl, ?_⟩
          simp only [relOut]
          refine s_fa rfl Try.underlying56 rfl Try.sizeOf26 rfl ?_
          refine Reg.nil ⟨rfl, .inl rfl, rfl, ?_⟩
          intro w182 e183
          have hI184 := hI181.ext e183
          refine SeaWalk.step [19] (by kernel_rfl) (AllL.cons ?_ (AllL.nil))
          refine ⟨_, [], rfl, RSub.nil, rfl, nodupB_spec rfl, ?_⟩
          simp only [relOut]
          have hf185 := hI184.freeze 0 rfl
          have hI186 := hI184.erase 0
          obtain ⟨cs187, hR188, hC189⟩ := (hI186.ownAt 0 rfl).cellsAt hg118 (ixo_out (seto_get hl172)).2.2
          have khR188 := hR188
          obtain ⟨v190, v192, rfl, hf191, hf193, r194⟩ := ScaleE_R.1 hR188
          obtain ⟨l195, hl195, h106⟩ := bnd h106
          refine y_sto 0 (E := ScaleE) (o := 1) hI186 rfl rfl rfl (RdS.cells1 hf185) hg118 hl195 ((ScaleE_R (x := (Scale.mk l135 y115.points y115.none_))).2 ⟨_, _, rfl, hf191, hf193, r194⟩) hC189 ((ScaleE_R (x := (Scale.mk ((Scale.mk l135 y115.points y115.none_).cuts) l147 ((Scale.mk l135 y115.points y115.none_).none_)))).2 ⟨_, _, rfl, hf191, hf185, r194⟩) rfl Try.sizeOf26 rfl (one1 (RdS.oneC hf185) one0) ?_
          intro w196 hI197 x198
          refine Reg.nil ⟨rfl, .inl rfl, rfl, ?_⟩
          intro w199 e200
          have hI201 := hI197.ext e200
          refine SeaWalk.done ?_
          refine cw_regF ?_
          refine s_mv rfl rfl ?_
          obtain ⟨n202, hn202, h106⟩ := bnd h106
          replace hn202 := chk_out hn202
          refine p_add rfl rfl rfl hn202 ?_
          refine s_as rfl rfl ?_
          refine Reg.nil ?_
          obtain rfl := Option.some.inj h106
          refine ⟨rfl, (n202, l195), ⟨⟨hI201, (hA104.trans ((Adv.of_ext e129).trans ((Hp.addLitA (σ := []) (intE .i64) 3 k132).trans (x139.trans ((Adv.of_ext e141).trans ((Hp.addLitA (σ := [ownR [] (intE .i64) 3 v136 l135]) (intE .i64) 3 k144).trans (x151.trans ((Adv.of_ext e153).trans ((Adv.of_ext e157).trans ((Adv.of_ext e160).trans ((Hp.eraseA (σ := [ownR [] (intE .i64) 3 v148 l147, ownR [] (intE .i64) 3 v136 l135, ownR [] ScaleE 56 v56 x101, ownR [] (openE CardE) 54 v14 (opn x29 x27 [Value.int IntKind.i64 (y64.weight), Value.int IntKind.i64 (y64.base), v56]), rowR 25 b5 [Value.int IntKind.i64 (0), Value.slice none 0 0, Value.slice none 0 0, Value.int IntKind.i64 (0)], rowR 25 b1 [Value.int IntKind.i64 (m.traits), v14, v_m_2, Value.int IntKind.i64 (m.need)]]) 1).trans (x175.trans ((Adv.of_ext e177).trans ((Adv.of_ext e180).trans ((Adv.of_ext e183).trans ((Hp.eraseA (σ := [ownR [] (intE .i64) 3 v148 l147, ownR [] ScaleE 56 v56 l172, ownR [] (openE CardE) 54 v14 (opn x29 x27 [Value.int IntKind.i64 (y64.weight), Value.int IntKind.i64 (y64.base), v56]), rowR 25 b5 [Value.int IntKind.i64 (0), Value.slice none 0 0, Value.slice none 0 0, Value.int IntKind.i64 (0)], rowR 25 b1 [Value.int IntKind.i64 (m.traits), v14, v_m_2, Value.int IntKind.i64 (m.need)]]) 0).trans (x198.trans (Adv.of_ext e200)))))))))))))))))), hn202.2⟩, rfl⟩, Sub.cons rfl (Sub.cons rfl (Sub.cons rfl (Sub.cons rfl (Sub.nil _))))⟩
        · replace h106 := cdF hc111 h106
          refine cw_exit ?_
          refine exB_same ?_
          obtain rfl := Option.some.inj h106
          obtain rfl := hR107 _ rfl
          refine ⟨rfl, x101, ⟨hI103, hA104, rfl⟩, Sub.cons rfl (Sub.cons rfl (Sub.cons rfl (Sub.nil _)))⟩
      · skip
        rintro x95 w96 ⟨hI97, hA98, rfl⟩
        refine cw_regF ?_
        refine s_mv rfl rfl ?_
        obtain ⟨n203, hn203, h34⟩ := bnd h34
        replace hn203 := chk_out hn203
        refine p_add rfl rfl rfl hn203 ?_
        refine s_as rfl rfl ?_
        refine Reg.nil ?_
        obtain rfl := Option.some.inj h34
        have hf204 := hI97.freeze 0 rfl
        have hI205 := hI97.erase 0
        have hI206 := hI205.shut 0 (E := CardE) (z := (Card.mk y64.weight y64.base x95)) rfl ((CardE_R (x := (Card.mk y64.weight y64.base x95))).2 ⟨_, rfl, r83, r84, hf204⟩)
        refine ⟨rfl, (n203, (x29.set x27.toNat (Card.mk y64.weight y64.base x95))), ⟨⟨hI206, (hA32.trans ((Adv.of_ext e49).trans ((Hp.addLitA (σ := []) ScaleE 56 k52).trans (x59.trans ((Adv.of_ext e61).trans ((Adv.of_ext e75).trans ((Adv.of_ext e78).trans (x89.trans ((Adv.of_ext e91).trans (hA98.trans ((Hp.eraseA (σ := [ownR [] ScaleE 56 v56 x95, ownR [] (openE CardE) 54 v14 (opn x29 x27 [Value.int IntKind.i64 (y64.weight), Value.int IntKind.i64 (y64.base), v56]), rowR 25 b5 [Value.int IntKind.i64 (0), Value.slice none 0 0, Value.slice none 0 0, Value.int IntKind.i64 (0)], rowR 25 b1 [Value.int IntKind.i64 (m.traits), v14, v_m_2, Value.int IntKind.i64 (m.need)]]) 0).trans (hI205.shutA 0 (E := CardE) (z := (Card.mk y64.weight y64.base x95)) rfl)))))))))))), hn203.2⟩, rfl⟩, Sub.cons rfl (Sub.cons rfl (Sub.cons rfl (Sub.nil _)))⟩
    · replace h34 := cdF hc36 h34
      refine cw_exit ?_
      refine exB_same ?_
      obtain rfl := Option.some.inj h34
      obtain rfl := hR35 _ rfl
      refine ⟨rfl, x29, ⟨hI31, hA32, rfl⟩, Sub.cons rfl (Sub.cons rfl (Sub.nil _))⟩
  · skip
    rintro x23 w24 ⟨hI25, hA26, rfl⟩
    refine cw_seq ?_
    refine cw_regF ?_
    refine y_bs (E := TreeE) (xs := []) sl23 hI25 rfl rfl Cls.nil Chs.nil rfl rfl ?_
    intro v207 w208 hI209 x210
    refine s_fa rfl Try.underlying25 rfl Try.sizeOf23 rfl ?_
    refine s_ld rfl ((hI209.row 3 rfl).rd.cells.at 2 rfl) Try.isAgg23 rfl ?_
    obtain ⟨l211, hl211, h⟩ := bnd h
    obtain ⟨hbl211, el211⟩ := appo_out hl211
    refine y_app 0 sl23 hI209 rfl rfl rfl (f_m_2.adv hI209.adv) hbl211 rfl ?_
    rw [← el211]
    intro v212 w213 hI214 x215
    refine s_fa rfl Try.underlying25 rfl Try.sizeOf23 rfl ?_
    refine y_st 3 hI214 rfl rfl rfl (Own.cells1 (hI214.ownAt 0 rfl)) Try.sizeOf23 rfl rfl (one1 (Own.oneC (hI214.ownAt 0 rfl)) one0) ?_
    intro w216 hI217 x218
    refine Reg.nil ?_
    refine cw_seq ?_
    refine cw_seq ?_
    refine cw_regF ?_
    refine s_as rfl rfl ?_
    refine Reg.nil ?_
    obtain ⟨j219, h220, h⟩ := bnd h
    refine cw_sub (L := [(6, _), (1, _), (2, _)]) (Sub.cons rfl (Sub.cons rfl (Sub.cons rfl (Sub.nil _)))) ?_
    refine cw_unitD 1 (ι := (List Tree)) (fun x221 => []) (fun x221 => fun w222 => Hp w [] M [ownR [] TreeE 59 v212 x221, ownR [] CardE 54 v14 x23, rowR 25 b5 [Value.int IntKind.i64 (0), Value.slice none 0 0, Value.slice none 0 0, Value.int IntKind.i64 (0)], rowR 25 b1 [Value.int IntKind.i64 (m.traits), v14, v212, Value.int IntKind.i64 (m.need)]] w222 ∧ Adv (mm [ownR [] TreeE 59 v212 l211, ownR [] CardE 54 v14 x23, rowR 25 b5 [Value.int IntKind.i64 (0), Value.slice none 0 0, Value.slice none 0 0, Value.int IntKind.i64 (0)], rowR 25 b1 [Value.int IntKind.i64 (m.traits), v14, v212, Value.int IntKind.i64 (m.need)]] M) (mm [ownR [] TreeE 59 v212 x221, ownR [] CardE 54 v14 x23, rowR 25 b5 [Value.int IntKind.i64 (0), Value.slice none 0 0, Value.slice none 0 0, Value.int IntKind.i64 (0)], rowR 25 b1 [Value.int IntKind.i64 (m.traits), v14, v212, Value.int IntKind.i64 (m.need)]] M) w216 w222 ∧ x221 = j219) ?_ ?_
    · skip
      refine cw_block ?_
      refine cw_sub (L := [(6, _), (1, _), (2, _)]) (Sub.cons rfl (Sub.cons rfl (Sub.cons rfl (Sub.nil _)))) ?_
      refine cw_loopM 1 (ι := Int × (List Tree)) _ (fun ⟨x225, x227⟩ => [(6, Value.int IntKind.i64 (x225))]) (fun ⟨x225, x227⟩ => (x225, x227)) (fun ⟨x225, x227⟩ => fun w228 => Hp w [] M [ownR [] TreeE 59 v212 x227, ownR [] CardE 54 v14 x23, rowR 25 b5 [Value.int IntKind.i64 (0), Value.slice none 0 0, Value.slice none 0 0, Value.int IntKind.i64 (0)], rowR 25 b1 [Value.int IntKind.i64 (m.traits), v14, v212, Value.int IntKind.i64 (m.need)]] w228 ∧ Adv (mm [ownR [] TreeE 59 v212 l211, ownR [] CardE 54 v14 x23, rowR 25 b5 [Value.int IntKind.i64 (0), Value.slice none 0 0, Value.slice none 0 0, Value.int IntKind.i64 (0)], rowR 25 b1 [Value.int IntKind.i64 (m.traits), v14, v212, Value.int IntKind.i64 (m.need)]] M) (mm [ownR [] TreeE 59 v212 x227, ownR [] CardE 54 v14 x23, rowR 25 b5 [Value.int IntKind.i64 (0), Value.slice none 0 0, Value.slice none 0 0, Value.int IntKind.i64 (0)], rowR 25 b1 [Value.int IntKind.i64 (m.traits), v14, v212, Value.int IntKind.i64 (m.need)]] M) w216 w228 ∧ InK IntKind.i64 x225) (0, l211) h220 ⟨hI217, (Adv.refl _ _), (by decide)⟩ (Sub.cons rfl (Sub.cons rfl (Sub.cons rfl (Sub.nil _)))) ?_
      rintro ⟨x225, x227⟩ w228 ⟨hI229, hA230, r226⟩ y231 h232 hR233
      refine cw_seq ?_
      refine cw_seq ?_
      refine cw_regF ?_
      refine s_mv rfl rfl ?_
      refine s_fa rfl Try.underlying25 rfl Try.sizeOf23 rfl ?_
      refine s_ld rfl ((hI229.row 3 rfl).rd.cells.at 2 rfl) Try.isAgg23 rfl ?_
      refine s_lenO rfl (hI229.ownAt 0 rfl) Try.underlying23 rfl ?_
      refine s_lss rfl rfl rfl ?_
      refine Reg.nil ?_
      refine cw_cond rfl (fun hc234 => ?_) (fun hc234 => ?_)
      · replace h232 := cdT hc234 h232
        refine cw_skip ?_
        refine cw_seq ?_
        refine cw_block ?_
        refine cw_regSea [0, 1, 2, 3, 4, 5, 6, 7, 8, 9] [10, 11, 12, 13] [84] [13] [[13, 0], [13, 1], [13, 3], [13, 4], [13, 5], [13, 7], [13, 8], [13, 9]] [(84, .p fun v _ => KLit v)] fol (by kernel_rfl) rfl (by kernel_rfl) rfl rfl ?_
        refine s_fa rfl Try.underlying25 rfl Try.sizeOf23 rfl ?_
        refine s_ld rfl ((hI229.row 3 rfl).rd.cells.at 2 rfl) Try.isAgg23 rfl ?_
        refine s_mv rfl rfl ?_
        refine Reg.relX KLit rfl rfl rfl ?_ ?_
        · intro w235 e235; refine s_bs0 sl57 rfl ?_; intro a235 w235_ x235; exact Reg.nil ⟨rfl, x235, _, rfl, ⟨_, rfl⟩, trivial⟩
        refine s_fa rfl Try.underlying25 rfl Try.sizeOf23 rfl ?_
        refine s_ld rfl ((hI229.row 3 rfl).rd.cells.at 2 rfl) Try.isAgg23 rfl ?_
        refine s_mv rfl rfl ?_
        obtain ⟨y236, hy236, h232⟩ := bnd h232
        refine y_ia 0 hI229 rfl rfl rfl hy236 Try.underlying23 Try.sizeOf59 rfl ?_
        intro g237 cs238 hg239 hR240 hC241
        have khR240 := hR240
        obtain ⟨v243, rfl, r242, hf244⟩ := TreeE_R.1 hR240
        refine s_fa rfl Try.underlying59 rfl Try.sizeOf57 rfl ?_
        refine s_ld rfl (hC241.at 1 rfl) Try.isAgg57 rfl ?_
        refine Reg.nilX ⟨rfl, rfl, rfl, ?_⟩
        intro w245 e246
        have hI247 := (Hp.start (Mu := []) hI229.mlt).ext e246
        refine SeaWalk.step [10] (by kernel_rfl) (AllL.cons ?_ (AllL.nil))
        refine ⟨_, [(84, _)], rfl, RSub.cons rfl rfl (RSub.nil), rfl, nodupB_spec rfl, ?_⟩
        simp only [relOut]
        intro u248 k249 s250
        have hI251 := hI247.addLit NodeE 62 k249
        obtain ⟨l252, hl252, h232⟩ := bnd h232
        obtain ⟨hbl252, el252⟩ := appo_out hl252
        refine y_app 0 sl57 hI251 rfl rfl rfl (hf244.adv ((Adv.of_ext e246).trans (Hp.addLitA (σ := []) NodeE 62 k249))) hbl252 rfl ?_
        rw [← el252]
        intro v253 w254 hI255 x256
        refine Reg.nilS (L0 := [(1, _), (2, _), (6, _), (82, _), (83, _), (91, _)]) (Sub.cons rfl (Sub.cons rfl (Sub.cons rfl (Sub.cons rfl (Sub.cons rfl (Sub.cons rfl (Sub.nil _))))))) ⟨rfl, .inr hI255.kp, rfl, ?_⟩
        intro w257 e258
        have hI259 := hI255.ext e258
        refine SeaWalk.step [11] (by kernel_rfl) (AllL.cons ?_ (AllL.nil))
        refine ⟨_, [], rfl, RSub.nil, rfl, nodupB_spec rfl, ?_⟩
        simp only [relOut]
        have hI260 := hI229.join hI259
        obtain ⟨y261, hy261, h232⟩ := bnd h232
        refine y_ia 1 hI260 rfl rfl rfl hy261 Try.underlying23 Try.sizeOf59 rfl ?_
        intro g262 cs263 hg264 hR265 hC266
        have khR265 := hR265
        obtain ⟨v268, rfl, r267, hf269⟩ := TreeE_R.1 hR265
        refine Reg.nil ⟨rfl, .inr hI259.kp, rfl, ?_⟩
        intro w270 e271
        have hI272 := hI260.ext e271
        refine SeaWalk.step [12] (by kernel_rfl) (AllL.cons ?_ (AllL.nil))
        refine ⟨_, [], rfl, RSub.nil, rfl, nodupB_spec rfl, ?_⟩
        simp only [relOut]
        refine s_fa rfl Try.underlying59 rfl Try.sizeOf57 rfl ?_
        refine Reg.nil ⟨rfl, .inr ((hI259.kp).trans e271), rfl, ?_⟩
        intro w273 e274
        have hI275 := hI272.ext e274
        refine SeaWalk.step [13] (by kernel_rfl) (AllL.cons ?_ (AllL.nil))
        refine ⟨_, [], rfl, RSub.nil, rfl, nodupB_spec rfl, ?_⟩
        simp only [relOut]
        have hf276 := hI275.freeze 0 rfl
        have hI277 := hI275.erase 0
        obtain ⟨cs278, hR279, hC280⟩ := (hI277.ownAt 0 rfl).cellsAt hg264 (ixo_out hy261).2.2
        have khR279 := hR279
        obtain ⟨v282, rfl, r281, hf283⟩ := TreeE_R.1 hR279
        obtain ⟨l284, hl284, h232⟩ := bnd h232
        refine y_sto 0 (E := TreeE) (o := 1) hI277 rfl rfl rfl (RdS.cells1 hf276) hg264 hl284 ((TreeE_R (x := y261)).2 ⟨_, rfl, r281, hf283⟩) hC280 ((TreeE_R (x := (Tree.mk y261.weight l252))).2 ⟨_, rfl, r281, hf276⟩) rfl Try.sizeOf57 rfl (one1 (RdS.oneC hf276) one0) ?_
        intro w285 hI286 x287
        refine Reg.nil ⟨rfl, .inl rfl, rfl, ?_⟩
        intro w288 e289
        have hI290 := hI286.ext e289
        refine SeaWalk.done ?_
        refine cw_regF ?_
        refine s_mv rfl rfl ?_
        obtain ⟨n291, hn291, h232⟩ := bnd h232
        replace hn291 := chk_out hn291
        refine p_add rfl rfl rfl hn291 ?_
        refine s_as rfl rfl ?_
        refine Reg.nil ?_
        obtain rfl := Option.some.inj h232
        refine ⟨rfl, (n291, l284), ⟨⟨hI290, (hA230.trans ((Adv.of_ext e246).trans ((Hp.addLitA (σ := []) NodeE 62 k249).trans (x256.trans ((Adv.of_ext e258).trans ((Adv.of_ext e271).trans ((Adv.of_ext e274).trans ((Hp.eraseA (σ := [ownR [] NodeE 62 v253 l252, ownR [] TreeE 59 v212 x227, ownR [] CardE 54 v14 x23, rowR 25 b5 [Value.int IntKind.i64 (0), Value.slice none 0 0, Value.slice none 0 0, Value.int IntKind.i64 (0)], rowR 25 b1 [Value.int IntKind.i64 (m.traits), v14, v212, Value.int IntKind.i64 (m.need)]]) 0).trans (x287.trans (Adv.of_ext e289)))))))))), hn291.2⟩, rfl⟩, Sub.cons rfl (Sub.cons rfl (Sub.cons rfl (Sub.nil _)))⟩
      · replace h232 := cdF hc234 h232
        refine cw_exit ?_
        refine exB_same ?_
        obtain rfl := Option.some.inj h232
        obtain rfl := hR233 _ rfl
        refine ⟨rfl, x227, ⟨hI229, hA230, rfl⟩, Sub.cons rfl (Sub.cons rfl (Sub.nil _))⟩
    · skip
      rintro x221 w222 ⟨hI223, hA224, rfl⟩
      refine cw_seq ?_
      refine cw_regF ?_
      refine s_lda rfl (hI223.row 3 rfl).rd.cells Try.isAgg25 rfl Try.sizeOf25 rfl ?_
      refine y_st 2 hI223 rfl rfl rfl rfl Try.sizeOf25 rfl rfl (one1 rfl (one1 (Own.oneC (hI223.ownAt 1 rfl)) (one1 (Own.oneC (hI223.ownAt 0 rfl)) (one1 rfl one0)))) ?_
      intro w292 hI293 x294
      refine Reg.nil ?_
      refine cw_ret ?_
      obtain rfl := Option.some.inj h
      have hf295 := hI293.freeze 1 rfl
      have hI296 := hI293.erase 1
      have hf297 := hI296.freeze 0 rfl
      have hI298 := hI296.erase 0
      refine fin_any Try.results13 (AllRs.cons (RsOk.agg rfl (hI298.row 0 rfl).rd.cells Try.isAgg25 rfl Try.sizeOf25) (AllRs.nil)) rfl ?_
      exact ⟨_, _, rfl, f_m_0, ((hf295.adv (Hp.eraseA (σ := [ownR [] TreeE 59 v212 x221, rowR 25 b5 [Value.int IntKind.i64 (m.traits), v14, v212, Value.int IntKind.i64 (m.need)], rowR 25 b1 [Value.int IntKind.i64 (m.traits), v14, v212, Value.int IntKind.i64 (m.need)]]) 0)).adv (Hp.baseA (σ := [rowR 25 b5 [Value.int IntKind.i64 (m.traits), v14, v212, Value.int IntKind.i64 (m.need)], rowR 25 b1 [Value.int IntKind.i64 (m.traits), v14, v212, Value.int IntKind.i64 (m.need)]]))), (hf297.adv (Hp.baseA (σ := [rowR 25 b5 [Value.int IntKind.i64 (m.traits), v14, v212, Value.int IntKind.i64 (m.need)], rowR 25 b1 [Value.int IntKind.i64 (m.traits), v14, v212, Value.int IntKind.i64 (m.need)]]))), f_m_3, hI298.kp⟩

noncomputable def P.law06_ScoreScores (m : Model) (x : (List Int)) : Option Bool :=
  Option.bind (Option.bind (P.ref06_Great (Model.mk m.traits m.cards m.trees m.need)) fun z7 => cond z7 (some true) (some (decide (10 < (x.length : Int))))) fun x13 => cond x13 (some true) (Option.bind (P.ref06_Twin (Model.mk m.traits m.cards m.trees m.need)) fun z15 => Option.bind (appo 8 ([] : List Int) x) fun l30 => Option.bind (P.score_Score (Model.mk z15.traits z15.cards z15.trees z15.need) l30) fun (z44, z45, z46) => Option.bind (P.ref06_Score (Model.mk m.traits m.cards m.trees m.need) x) fun (z53, z54, z55) => Option.bind (P.score_Points (Model.mk z15.traits z15.cards z15.trees z15.need) l30) fun (z64, z65) => Option.bind (P.ref06_Points (Model.mk m.traits m.cards m.trees m.need) x) fun (z73, z74) => Option.bind (Option.bind (P.score_Check (Model.mk z15.traits z15.cards z15.trees z15.need)) fun z82 => Option.bind (P.ref06_Check (Model.mk m.traits m.cards m.trees m.need)) fun z87 => cond (decide (z82 = z87)) (cond (decide (z44 = z53)) (cond (z45 == z54) (cond (decide (z46 = z55)) (Option.bind (P.ref01_SameInts z64 z73) fun z96 => cond z96 (cond (decide (z65 = z74)) (Option.bind (P.ref06_Same (Model.mk z15.traits z15.cards z15.trees z15.need) (Model.mk m.traits m.cards m.trees m.need)) fun z102 => cond z102 (Option.bind (P.ref01_SameInts l30 x) fun z107 => some z107) (some false)) (some false)) (some false)) (some false)) (some false)) (some false)) (some false)) fun x135 => some x135)

theorem C_law06_ScoreScores {M : List Nat} {w : World} (hM : MLt M w) {m : Model} {v_m_1 : Value} {v_m_2 : Value} (f_m_0 : InK IntKind.i64 m.traits) (f_m_1 : RdS CardE M w v_m_1 m.cards) (f_m_2 : RdS TreeE M w v_m_2 m.trees) (f_m_3 : InK IntKind.i64 m.need) {x : (List Int)} {v_x_0 : Value} (f_x_0 : RdS (intE .i64) M w v_x_0 x) {r0 : Bool} (h : P.law06_ScoreScores m x = some r0) :
    Calls Try.prog 3 (List.toArray [Value.agg (List.toArray [Value.int IntKind.i64 m.traits, v_m_1, v_m_2, Value.int IntKind.i64 m.need]), v_x_0]) w fun e w' => e = .returned (Value.bool r0) ∧ Ext w w' := by
  have hI := Hp.start (Mu := []) hM
  refine calls_cw Try.func3 rfl Try.ntmps3 rfl ?_
  refine cw_seq ?_
  refine cw_regF ?_
  refine y_box hI rfl rfl rfl ?_
  intro b1 w2 hI3 x4
  have hC6 := hI3.freezeRow 0 rfl
  have hI5 := hI3.erase 0
  refine s_as rfl rfl ?_
  refine Reg.nil ?_
  refine cw_seq ?_
  obtain ⟨j7, h8, h⟩ := bnd h
  refine cw_sub (L := [(1, _), (2, _)]) (Sub.cons rfl (Sub.cons rfl (Sub.nil _))) ?_
  refine cw_seqD 0 (ι := Bool) (fun x9 => [(23, Value.bool x9)]) (fun x9 => fun w10 => Hp w [] M [] w10 ∧ Adv (mm [] M) (mm [] M) w2 w10 ∧ x9 = j7) ?_ ?_
  · skip
    refine cw_regF ?_
    refine s_lda rfl hC6.cells Try.isAgg25 rfl Try.sizeOf25 rfl ?_
    obtain ⟨z13, hz14, h8⟩ := bnd h8
    refine s_call rfl Try.call12 rfl ?_
    refine (C_ref06_Great hI5.mlt f_m_0 (f_m_1.adv hI5.adv) (f_m_2.adv hI5.adv) f_m_3 hz14).mono ?_
    rintro _ w15 ⟨rfl, e16⟩
    refine ⟨_, rfl, ?_⟩
    have hI17 := hI5.ext e16
    refine s_mv rfl rfl ?_
    refine Reg.gsplit (t := 19) rfl (fun hg18 => ?_) (fun hg18 => ?_)
    · replace h8 := cdT hg18 h8
      refine Reg.pass rfl rfl rfl rfl ?_
      refine Reg.pass rfl rfl rfl rfl ?_
      refine Reg.pass rfl rfl rfl rfl ?_
      refine s_pkT rfl rfl rfl ?_
      refine Reg.nil ?_
      obtain rfl := Option.some.inj h8
      refine ⟨rfl, true, ⟨hI17, (Adv.of_ext e16), rfl⟩, Sub.cons rfl (Sub.cons rfl (Sub.cons rfl (Sub.nil _)))⟩
    · replace h8 := cdF hg18 h8
      refine Reg.take rfl rfl ?_
      refine s_mv rfl rfl ?_
      refine Reg.take rfl rfl ?_
      refine s_len rfl (f_x_0.adv hI17.adv) Try.underlying26 rfl ?_
      refine Reg.take rfl rfl ?_
      refine s_gtr rfl rfl rfl ?_
      refine s_pkF rfl rfl rfl ?_
      refine Reg.nil ?_
      obtain rfl := Option.some.inj h8
      refine ⟨rfl, decide (10 < (x.length : Int)), ⟨hI17, (Adv.of_ext e16), rfl⟩, Sub.cons rfl (Sub.cons rfl (Sub.cons rfl (Sub.nil _)))⟩
  · skip
    rintro x9 w10 ⟨hI11, hA12, rfl⟩
    refine cw_cond rfl (fun hc19 => ?_) (fun hc19 => ?_)
    · replace h := cdT hc19 h
      refine cw_seq ?_
      refine cw_regF ?_
      refine s_as rfl rfl ?_
      refine Reg.nil ?_
      refine cw_ret ?_
      obtain rfl := Option.some.inj h
      refine fin1 Try.results3 rfl ?_
      exact ⟨rfl, hI11.kp⟩
    · replace h := cdF hc19 h
      refine cw_skip ?_
      refine cw_seq ?_
      refine cw_regF ?_
      refine s_lda rfl (hC6.adv hA12).cells Try.isAgg25 rfl Try.sizeOf25 rfl ?_
      obtain ⟨z20, hz21, h⟩ := bnd h
      refine s_call rfl Try.call13 rfl ?_
      refine (C_ref06_Twin hI11.mlt f_m_0 (f_m_1.adv hI11.adv) (f_m_2.adv hI11.adv) f_m_3 hz21).mono ?_
      rintro _ w22 ⟨v25, v27, rfl, r24, hf26, hf28, r29, e23⟩
      refine ⟨_, rfl, ?_⟩
      have hI30 := hI11.ext e23
      refine y_bs (E := (intE .i64)) (xs := []) sl26 hI30 rfl rfl Cls.nil Chs.nil rfl rfl ?_
      intro v31 w32 hI33 x34
      refine s_mv rfl rfl ?_
      obtain ⟨l35, hl35, h⟩ := bnd h
      obtain ⟨hbl35, el35⟩ := appo_out hl35
      refine y_app 0 sl26 hI33 rfl rfl rfl (f_x_0.adv hI33.adv) hbl35 rfl ?_
      rw [← el35]
      intro v36 w37 hI38 x39
      refine y_al hI38 Try.zeroValue25 rfl rfl ?_
      intro b40 w41 hI42 x43
      refine y_st 0 hI42 rfl rfl rfl rfl Try.sizeOf25 rfl rfl (one1 rfl (one1 (RdS.oneC hf26) (one1 (RdS.oneC hf28) (one1 rfl one0)))) ?_
      intro w44 hI45 x46
      have hC48 := hI45.freezeRow 0 rfl
      have hI47 := hI45.erase 0
      refine s_as rfl rfl ?_
      refine Reg.nil ?_
      refine cw_seq ?_
      refine cw_regF ?_
      refine s_lda rfl hC48.cells Try.isAgg25 rfl Try.sizeOf25 rfl ?_
      refine s_mv rfl rfl ?_
      obtain ⟨⟨z49, z50, z51⟩, hz52, h⟩ := bnd h
      refine s_call rfl Try.call14 rfl ?_
      refine (C_score_Score (hI47.sel [] rfl).mlt r24 ((hf26.adv (x34.trans (x39.trans (x43.trans (x46.trans (Hp.eraseA (σ := [rowR 25 b40 [Value.int IntKind.i64 (z20.traits), v25, v27, Value.int IntKind.i64 (z20.need)], ownR [] (intE .i64) 3 v36 l35]) 0)))))).adv (Hp.selA (σ := [ownR [] (intE .i64) 3 v36 l35]) [])) ((hf28.adv (x34.trans (x39.trans (x43.trans (x46.trans (Hp.eraseA (σ := [rowR 25 b40 [Value.int IntKind.i64 (z20.traits), v25, v27, Value.int IntKind.i64 (z20.need)], ownR [] (intE .i64) 3 v36 l35]) 0)))))).adv (Hp.selA (σ := [ownR [] (intE .i64) 3 v36 l35]) [])) r29 (hI47.lendRd [] 0 rfl rfl) hz52).mono ?_
      rintro _ w53 ⟨rfl, r55, r56, e54⟩
      refine ⟨_, rfl, ?_⟩
      have hI57 := hI47.ext e54
      refine s_mv rfl rfl ?_
      refine s_xt rfl rfl rfl ?_
      refine s_xt rfl rfl rfl ?_
      refine s_xt rfl rfl rfl ?_
      refine s_as rfl rfl ?_
      refine s_as rfl rfl ?_
      refine s_as rfl rfl ?_
      refine Reg.nil ?_
      refine cw_seq ?_
      refine cw_regF ?_
      refine s_lda rfl (hC6.adv (hA12.trans ((Adv.of_ext e23).trans (x34.trans (x39.trans (x43.trans (x46.trans ((Hp.eraseA (σ := [rowR 25 b40 [Value.int IntKind.i64 (z20.traits), v25, v27, Value.int IntKind.i64 (z20.need)], ownR [] (intE .i64) 3 v36 l35]) 0).trans (Adv.of_ext e54))))))))).cells Try.isAgg25 rfl Try.sizeOf25 rfl ?_
      refine s_mv rfl rfl ?_
      obtain ⟨⟨z58, z59, z60⟩, hz61, h⟩ := bnd h
      refine s_call rfl Try.call15 rfl ?_
      refine (C_ref06_Score hI57.mlt f_m_0 (f_m_1.adv hI57.adv) (f_m_2.adv hI57.adv) f_m_3 (f_x_0.adv hI57.adv) hz61).mono ?_
      rintro _ w62 ⟨rfl, r64, r65, e63⟩
      refine ⟨_, rfl, ?_⟩
      have hI66 := hI57.ext e63
      refine s_mv rfl rfl ?_
      refine s_xt rfl rfl rfl ?_
      refine s_xt rfl rfl rfl ?_
      refine s_xt rfl rfl rfl ?_
      refine s_as rfl rfl ?_
      refine s_as rfl rfl ?_
      refine s_as rfl rfl ?_
      refine Reg.nil ?_
      refine cw_seq ?_
      refine cw_regF ?_
      refine s_lda rfl (hC48.adv ((Adv.of_ext e54).trans (Adv.of_ext e63))).cells Try.isAgg25 rfl Try.sizeOf25 rfl ?_
      refine s_mv rfl rfl ?_
      have hf67 := hI66.freeze 0 rfl
      have hI68 := hI66.erase 0
      obtain ⟨⟨z69, z70⟩, hz71, h⟩ := bnd h
      refine s_call rfl Try.call16 rfl ?_
      refine (C_score_Points hI68.mlt r24 (hf26.adv (x34.trans (x39.trans (x43.trans (x46.trans ((Hp.eraseA (σ := [rowR 25 b40 [Value.int IntKind.i64 (z20.traits), v25, v27, Value.int IntKind.i64 (z20.need)], ownR [] (intE .i64) 3 v36 l35]) 0).trans ((Adv.of_ext e54).trans ((Adv.of_ext e63).trans (Hp.eraseA (σ := [ownR [] (intE .i64) 3 v36 l35]) 0))))))))) (hf28.adv (x34.trans (x39.trans (x43.trans (x46.trans ((Hp.eraseA (σ := [rowR 25 b40 [Value.int IntKind.i64 (z20.traits), v25, v27, Value.int IntKind.i64 (z20.need)], ownR [] (intE .i64) 3 v36 l35]) 0).trans ((Adv.of_ext e54).trans ((Adv.of_ext e63).trans (Hp.eraseA (σ := [ownR [] (intE .i64) 3 v36 l35]) 0))))))))) r29 hf67 hz71).mono ?_
      rintro _ w72 ⟨v74, rfl, hf75, r76, e73⟩
      refine ⟨_, rfl, ?_⟩
      have hI77 := hI68.addOwn e73 hf75
      refine s_mv rfl rfl ?_
      refine s_xt rfl rfl rfl ?_
      refine s_xt rfl rfl rfl ?_
      refine s_as rfl rfl ?_
      refine s_as rfl rfl ?_
      refine Reg.nil ?_
      refine cw_seq ?_
      refine cw_regF ?_
      refine s_lda rfl (hC6.adv (hA12.trans ((Adv.of_ext e23).trans (x34.trans (x39.trans (x43.trans (x46.trans ((Hp.eraseA (σ := [rowR 25 b40 [Value.int IntKind.i64 (z20.traits), v25, v27, Value.int IntKind.i64 (z20.need)], ownR [] (intE .i64) 3 v36 l35]) 0).trans ((Adv.of_ext e54).trans ((Adv.of_ext e63).trans ((Hp.eraseA (σ := [ownR [] (intE .i64) 3 v36 l35]) 0).trans (hI68.addOwnA e73 hf75)))))))))))).cells Try.isAgg25 rfl Try.sizeOf25 rfl ?_
      refine s_mv rfl rfl ?_
      obtain ⟨⟨z78, z79⟩, hz80, h⟩ := bnd h
      refine s_call rfl Try.call17 rfl ?_
      refine (C_ref06_Points hI77.mlt f_m_0 (f_m_1.adv hI77.adv) (f_m_2.adv hI77.adv) f_m_3 (f_x_0.adv hI77.adv) hz80).mono ?_
      rintro _ w81 ⟨v83, rfl, hf84, r85, e82⟩
      refine ⟨_, rfl, ?_⟩
      have hI86 := hI77.addOwn e82 hf84
      refine s_mv rfl rfl ?_
      refine s_xt rfl rfl rfl ?_
      refine s_xt rfl rfl rfl ?_
      refine s_as rfl rfl ?_
      refine s_as rfl rfl ?_
      refine Reg.nil ?_
      obtain ⟨j87, h88, h⟩ := bnd h
      refine cw_sub (L := [(1, _), (2, _), (5, _), (6, _), (7, _), (8, _), (9, _), (10, _), (11, _), (12, _), (13, _), (14, _), (15, _), (16, _)]) (Sub.cons rfl (Sub.cons rfl (Sub.cons rfl (Sub.cons rfl (Sub.cons rfl (Sub.cons rfl (Sub.cons rfl (Sub.cons rfl (Sub.cons rfl (Sub.cons rfl (Sub.cons rfl (Sub.cons rfl (Sub.cons rfl (Sub.cons rfl (Sub.nil _))))))))))))))) ?_
      refine cw_seqD 14 (ι := Bool) (fun x89 => [(4, Value.bool x89)]) (fun x89 => fun w90 => Hp w [] M [ownR [] (intE .i64) 3 v83 z78, ownR [] (intE .i64) 3 v74 z69] w90 ∧ Adv (mm [ownR [] (intE .i64) 3 v83 z78, ownR [] (intE .i64) 3 v74 z69] M) (mm [ownR [] (intE .i64) 3 v83 z78, ownR [] (intE .i64) 3 v74 z69] M) w81 w90 ∧ x89 = j87) ?_ ?_
      · skip
        refine cw_regT fol (by kernel_rfl) ?_
        refine s_lda rfl (hC48.adv ((Adv.of_ext e54).trans ((Adv.of_ext e63).trans ((Hp.eraseA (σ := [ownR [] (intE .i64) 3 v36 l35]) 0).trans ((hI68.addOwnA e73 hf75).trans (hI77.addOwnA e82 hf84)))))).cells Try.isAgg25 rfl Try.sizeOf25 rfl ?_
        obtain ⟨z93, hz94, h88⟩ := bnd h88
        refine s_callq rfl rfl Try.call18 rfl (fun w95 e96 => (C_score_Check (hI86.mlt.ext e96) r24 ((hf26.adv (x34.trans (x39.trans (x43.trans (x46.trans ((Hp.eraseA (σ := [rowR 25 b40 [Value.int IntKind.i64 (z20.traits), v25, v27, Value.int IntKind.i64 (z20.need)], ownR [] (intE .i64) 3 v36 l35]) 0).trans ((Adv.of_ext e54).trans ((Adv.of_ext e63).trans ((Hp.eraseA (σ := [ownR [] (intE .i64) 3 v36 l35]) 0).trans ((hI68.addOwnA e73 hf75).trans (hI77.addOwnA e82 hf84))))))))))).adv (Adv.of_ext e96)) ((hf28.adv (x34.trans (x39.trans (x43.trans (x46.trans ((Hp.eraseA (σ := [rowR 25 b40 [Value.int IntKind.i64 (z20.traits), v25, v27, Value.int IntKind.i64 (z20.need)], ownR [] (intE .i64) 3 v36 l35]) 0).trans ((Adv.of_ext e54).trans ((Adv.of_ext e63).trans ((Hp.eraseA (σ := [ownR [] (intE .i64) 3 v36 l35]) 0).trans ((hI68.addOwnA e73 hf75).trans (hI77.addOwnA e82 hf84))))))))))).adv (Adv.of_ext e96)) r29 hz94).mono (fun _ _ hq => ⟨hq.1, hq.2.2⟩)) ?_
        have r97 := Calls.fact (C_score_Check hI86.mlt r24 (hf26.adv (x34.trans (x39.trans (x43.trans (x46.trans ((Hp.eraseA (σ := [rowR 25 b40 [Value.int IntKind.i64 (z20.traits), v25, v27, Value.int IntKind.i64 (z20.need)], ownR [] (intE .i64) 3 v36 l35]) 0).trans ((Adv.of_ext e54).trans ((Adv.of_ext e63).trans ((Hp.eraseA (σ := [ownR [] (intE .i64) 3 v36 l35]) 0).trans ((hI68.addOwnA e73 hf75).trans (hI77.addOwnA e82 hf84))))))))))) (hf28.adv (x34.trans (x39.trans (x43.trans (x46.trans ((Hp.eraseA (σ := [rowR 25 b40 [Value.int IntKind.i64 (z20.traits), v25, v27, Value.int IntKind.i64 (z20.need)], ownR [] (intE .i64) 3 v36 l35]) 0).trans ((Adv.of_ext e54).trans ((Adv.of_ext e63).trans ((Hp.eraseA (σ := [ownR [] (intE .i64) 3 v36 l35]) 0).trans ((hI68.addOwnA e73 hf75).trans (hI77.addOwnA e82 hf84))))))))))) r29 hz94) (fun _ _ hq => hq.2.1)
        refine s_lda rfl (hC6.adv (hA12.trans ((Adv.of_ext e23).trans (x34.trans (x39.trans (x43.trans (x46.trans ((Hp.eraseA (σ := [rowR 25 b40 [Value.int IntKind.i64 (z20.traits), v25, v27, Value.int IntKind.i64 (z20.need)], ownR [] (intE .i64) 3 v36 l35]) 0).trans ((Adv.of_ext e54).trans ((Adv.of_ext e63).trans ((Hp.eraseA (σ := [ownR [] (intE .i64) 3 v36 l35]) 0).trans ((hI68.addOwnA e73 hf75).trans (hI77.addOwnA e82 hf84))))))))))))).cells Try.isAgg25 rfl Try.sizeOf25 rfl ?_
        obtain ⟨z98, hz99, h88⟩ := bnd h88
        refine s_callq rfl rfl Try.call19 rfl (fun w100 e101 => (C_ref06_Check (hI86.mlt.ext e101) f_m_0 ((f_m_1.adv hI86.adv).adv (Adv.of_ext e101)) ((f_m_2.adv hI86.adv).adv (Adv.of_ext e101)) f_m_3 hz99).mono (fun _ _ hq => ⟨hq.1, hq.2.2⟩)) ?_
        have r102 := Calls.fact (C_ref06_Check hI86.mlt f_m_0 (f_m_1.adv hI86.adv) (f_m_2.adv hI86.adv) f_m_3 hz99) (fun _ _ hq => hq.2.1)
        refine s_eql rfl rfl rfl ?_
        refine s_mv rfl rfl ?_
        refine Reg.gsplit (t := 60) rfl (fun hg103 => ?_) (fun hg103 => ?_)
        · replace h88 := cdT hg103 h88
          refine Reg.take rfl rfl ?_
          refine s_mv rfl rfl ?_
          refine Reg.take rfl rfl ?_
          refine s_mv rfl rfl ?_
          refine Reg.take rfl rfl ?_
          refine s_eql rfl rfl rfl ?_
          refine s_pkT rfl rfl rfl ?_
          refine s_mv rfl rfl ?_
          refine Reg.gsplit (t := 65) rfl (fun hg104 => ?_) (fun hg104 => ?_)
          · replace h88 := cdT hg104 h88
            refine Reg.take rfl rfl ?_
            refine s_mv rfl rfl ?_
            refine Reg.take rfl rfl ?_
            refine s_mv rfl rfl ?_
            refine Reg.take rfl rfl ?_
            refine s_eqB rfl rfl rfl Try.underlying4 ?_
            refine s_pkT rfl rfl rfl ?_
            refine s_mv rfl rfl ?_
            refine Reg.gsplit (t := 70) rfl (fun hg105 => ?_) (fun hg105 => ?_)
            · replace h88 := cdT hg105 h88
              refine Reg.take rfl rfl ?_
              refine s_mv rfl rfl ?_
              refine Reg.take rfl rfl ?_
              refine s_mv rfl rfl ?_
              refine Reg.take rfl rfl ?_
              refine s_eql rfl rfl rfl ?_
              refine s_pkT rfl rfl rfl ?_
              refine s_mv rfl rfl ?_
              refine Reg.gsplit (t := 75) rfl (fun hg106 => ?_) (fun hg106 => ?_)
              · replace h88 := cdT hg106 h88
                refine Reg.take rfl rfl ?_
                refine s_mv rfl rfl ?_
                refine Reg.take rfl rfl ?_
                refine s_mv rfl rfl ?_
                refine Reg.take rfl rfl ?_
                obtain ⟨z107, hz108, h88⟩ := bnd h88
                refine s_callq rfl rfl Try.call20 rfl (fun w109 e110 => (C_ref01_SameInts ((hI86.sel [] rfl).mlt.ext e110) ((hI86.lendRd [] 1 rfl rfl).adv (Adv.of_ext e110)) ((hI86.lendRd [] 0 rfl rfl).adv (Adv.of_ext e110)) hz108).mono (fun _ _ hq => ⟨hq.1, hq.2⟩)) ?_
                refine s_pkT rfl rfl rfl ?_
                refine s_mv rfl rfl ?_
                refine Reg.gsplit (t := 80) rfl (fun hg111 => ?_) (fun hg111 => ?_)
                · replace h88 := cdT hg111 h88
                  refine Reg.take rfl rfl ?_
                  refine s_mv rfl rfl ?_
                  refine Reg.take rfl rfl ?_
                  refine s_mv rfl rfl ?_
                  refine Reg.take rfl rfl ?_
                  refine s_eql rfl rfl rfl ?_
                  refine s_pkT rfl rfl rfl ?_
                  refine s_mv rfl rfl ?_
                  refine Reg.gsplit (t := 85) rfl (fun hg112 => ?_) (fun hg112 => ?_)
                  · replace h88 := cdT hg112 h88
                    refine Reg.take rfl rfl ?_
                    refine s_lda rfl (hC48.adv ((Adv.of_ext e54).trans ((Adv.of_ext e63).trans ((Hp.eraseA (σ := [ownR [] (intE .i64) 3 v36 l35]) 0).trans ((hI68.addOwnA e73 hf75).trans (hI77.addOwnA e82 hf84)))))).cells Try.isAgg25 rfl Try.sizeOf25 rfl ?_
                    refine Reg.take rfl rfl ?_
                    refine s_lda rfl (hC6.adv (hA12.trans ((Adv.of_ext e23).trans (x34.trans (x39.trans (x43.trans (x46.trans ((Hp.eraseA (σ := [rowR 25 b40 [Value.int IntKind.i64 (z20.traits), v25, v27, Value.int IntKind.i64 (z20.need)], ownR [] (intE .i64) 3 v36 l35]) 0).trans ((Adv.of_ext e54).trans ((Adv.of_ext e63).trans ((Hp.eraseA (σ := [ownR [] (intE .i64) 3 v36 l35]) 0).trans ((hI68.addOwnA e73 hf75).trans (hI77.addOwnA e82 hf84))))))))))))).cells Try.isAgg25 rfl Try.sizeOf25 rfl ?_
                    refine Reg.take rfl rfl ?_
                    obtain ⟨z113, hz114, h88⟩ := bnd h88
                    refine s_callq rfl rfl Try.call21 rfl (fun w115 e116 => (C_ref06_Same (hI86.mlt.ext e116) r24 ((hf26.adv (x34.trans (x39.trans (x43.trans (x46.trans ((Hp.eraseA (σ := [rowR 25 b40 [Value.int IntKind.i64 (z20.traits), v25, v27, Value.int IntKind.i64 (z20.need)], ownR [] (intE .i64) 3 v36 l35]) 0).trans ((Adv.of_ext e54).trans ((Adv.of_ext e63).trans ((Hp.eraseA (σ := [ownR [] (intE .i64) 3 v36 l35]) 0).trans ((hI68.addOwnA e73 hf75).trans (hI77.addOwnA e82 hf84))))))))))).adv (Adv.of_ext e116)) ((hf28.adv (x34.trans (x39.trans (x43.trans (x46.trans ((Hp.eraseA (σ := [rowR 25 b40 [Value.int IntKind.i64 (z20.traits), v25, v27, Value.int IntKind.i64 (z20.need)], ownR [] (intE .i64) 3 v36 l35]) 0).trans ((Adv.of_ext e54).trans ((Adv.of_ext e63).trans ((Hp.eraseA (σ := [ownR [] (intE .i64) 3 v36 l35]) 0).trans ((hI68.addOwnA e73 hf75).trans (hI77.addOwnA e82 hf84))))))))))).adv (Adv.of_ext e116)) r29 f_m_0 ((f_m_1.adv hI86.adv).adv (Adv.of_ext e116)) ((f_m_2.adv hI86.adv).adv (Adv.of_ext e116)) f_m_3 hz114).mono (fun _ _ hq => ⟨hq.1, hq.2⟩)) ?_
                    refine s_pkT rfl rfl rfl ?_
                    refine s_mv rfl rfl ?_
                    refine Reg.gsplit (t := 90) rfl (fun hg117 => ?_) (fun hg117 => ?_)
                    · replace h88 := cdT hg117 h88
                      refine Reg.take rfl rfl ?_
                      refine s_mv rfl rfl ?_
                      refine Reg.take rfl rfl ?_
                      refine s_mv rfl rfl ?_
                      refine Reg.take rfl rfl ?_
                      obtain ⟨z118, hz119, h88⟩ := bnd h88
                      refine s_callq rfl rfl Try.call20 rfl (fun w120 e121 => (C_ref01_SameInts (hI86.mlt.ext e121) ((hf67.adv ((hI68.addOwnA e73 hf75).trans (hI77.addOwnA e82 hf84))).adv (Adv.of_ext e121)) ((f_x_0.adv hI86.adv).adv (Adv.of_ext e121)) hz119).mono (fun _ _ hq => ⟨hq.1, hq.2⟩)) ?_
                      refine s_pkT rfl rfl rfl ?_
                      refine s_as rfl rfl ?_
                      refine Reg.nilq (fun w122 e123 => ?_)
                      have hI124 := hI86.ext e123
                      obtain rfl := Option.some.inj h88
                      refine ⟨rfl, z118, ⟨hI124, (Adv.of_ext e123), rfl⟩, Sub.cons rfl (Sub.nil _)⟩
                    · replace h88 := cdF hg117 h88
                      refine Reg.pass rfl rfl rfl rfl ?_
                      refine Reg.pass rfl rfl rfl rfl ?_
                      refine Reg.pass rfl rfl rfl rfl ?_
                      refine s_pkF rfl rfl rfl ?_
                      refine s_as rfl rfl ?_
                      refine Reg.nilq (fun w125 e126 => ?_)
                      have hI127 := hI86.ext e126
                      obtain rfl := Option.some.inj h88
                      refine ⟨rfl, false, ⟨hI127, (Adv.of_ext e126), rfl⟩, Sub.cons rfl (Sub.nil _)⟩
                  · replace h88 := cdF hg112 h88
                    refine Reg.pass rfl rfl rfl rfl ?_
                    refine Reg.pass rfl rfl rfl rfl ?_
                    refine Reg.pass rfl rfl rfl rfl ?_
                    refine s_pkF rfl rfl rfl ?_
                    refine s_mv rfl rfl ?_
                    refine Reg.pass rfl rfl rfl rfl ?_
                    refine Reg.pass rfl rfl rfl rfl ?_
                    refine Reg.pass rfl rfl rfl rfl ?_
                    refine s_pkF rfl rfl rfl ?_
                    refine s_as rfl rfl ?_
                    refine Reg.nilq (fun w128 e129 => ?_)
                    have hI130 := hI86.ext e129
                    obtain rfl := Option.some.inj h88
                    refine ⟨rfl, false, ⟨hI130, (Adv.of_ext e129), rfl⟩, Sub.cons rfl (Sub.nil _)⟩
                · replace h88 := cdF hg111 h88
                  refine Reg.pass rfl rfl rfl rfl ?_
                  refine Reg.pass rfl rfl rfl rfl ?_
                  refine Reg.pass rfl rfl rfl rfl ?_
                  refine s_pkF rfl rfl rfl ?_
                  refine s_mv rfl rfl ?_
                  refine Reg.pass rfl rfl rfl rfl ?_
                  refine Reg.pass rfl rfl rfl rfl ?_
                  refine Reg.pass rfl rfl rfl rfl ?_
                  refine s_pkF rfl rfl rfl ?_
                  refine s_mv rfl rfl ?_
                  refine Reg.pass rfl rfl rfl rfl ?_
                  refine Reg.pass rfl rfl rfl rfl ?_
                  refine Reg.pass rfl rfl rfl rfl ?_
                  refine s_pkF rfl rfl rfl ?_
                  refine s_as rfl rfl ?_
                  refine Reg.nilq (fun w131 e132 => ?_)
                  have hI133 := hI86.ext e132
                  obtain rfl := Option.some.inj h88
                  refine ⟨rfl, false, ⟨hI133, (Adv.of_ext e132), rfl⟩, Sub.cons rfl (Sub.nil _)⟩
              · replace h88 := cdF hg106 h88
                refine Reg.pass rfl rfl rfl rfl ?_
                refine Reg.pass rfl rfl rfl rfl ?_
                refine Reg.pass rfl rfl rfl rfl ?_
                refine s_pkF rfl rfl rfl ?_
                refine s_mv rfl rfl ?_
                refine Reg.pass rfl rfl rfl rfl ?_
                refine Reg.pass rfl rfl rfl rfl ?_
                refine Reg.pass rfl rfl rfl rfl ?_
                refine s_pkF rfl rfl rfl ?_
                refine s_mv rfl rfl ?_
                refine Reg.pass rfl rfl rfl rfl ?_
                refine Reg.pass rfl rfl rfl rfl ?_
                refine Reg.pass rfl rfl rfl rfl ?_
                refine s_pkF rfl rfl rfl ?_
                refine s_mv rfl rfl ?_
                refine Reg.pass rfl rfl rfl rfl ?_
                refine Reg.pass rfl rfl rfl rfl ?_
                refine Reg.pass rfl rfl rfl rfl ?_
                refine s_pkF rfl rfl rfl ?_
                refine s_as rfl rfl ?_
                refine Reg.nilq (fun w134 e135 => ?_)
                have hI136 := hI86.ext e135
                obtain rfl := Option.some.inj h88
                refine ⟨rfl, false, ⟨hI136, (Adv.of_ext e135), rfl⟩, Sub.cons rfl (Sub.nil _)⟩
            · replace h88 := cdF hg105 h88
              refine Reg.pass rfl rfl rfl rfl ?_
              refine Reg.pass rfl rfl rfl rfl ?_
              refine Reg.pass rfl rfl rfl rfl ?_
              refine s_pkF rfl rfl rfl ?_
              refine s_mv rfl rfl ?_
              refine Reg.pass rfl rfl rfl rfl ?_
              refine Reg.pass rfl rfl rfl rfl ?_
              refine Reg.pass rfl rfl rfl rfl ?_
              refine s_pkF rfl rfl rfl ?_
              refine s_mv rfl rfl ?_
              refine Reg.pass rfl rfl rfl rfl ?_
              refine Reg.pass rfl rfl rfl rfl ?_
              refine Reg.pass rfl rfl rfl rfl ?_
              refine s_pkF rfl rfl rfl ?_
              refine s_mv rfl rfl ?_
              refine Reg.pass rfl rfl rfl rfl ?_
              refine Reg.pass rfl rfl rfl rfl ?_
              refine Reg.pass rfl rfl rfl rfl ?_
              refine s_pkF rfl rfl rfl ?_
              refine s_mv rfl rfl ?_
              refine Reg.pass rfl rfl rfl rfl ?_
              refine Reg.pass rfl rfl rfl rfl ?_
              refine Reg.pass rfl rfl rfl rfl ?_
              refine s_pkF rfl rfl rfl ?_
              refine s_as rfl rfl ?_
              refine Reg.nilq (fun w137 e138 => ?_)
              have hI139 := hI86.ext e138
              obtain rfl := Option.some.inj h88
              refine ⟨rfl, false, ⟨hI139, (Adv.of_ext e138), rfl⟩, Sub.cons rfl (Sub.nil _)⟩
          · replace h88 := cdF hg104 h88
            refine Reg.pass rfl rfl rfl rfl ?_
            refine Reg.pass rfl rfl rfl rfl ?_
            refine Reg.pass rfl rfl rfl rfl ?_
            refine s_pkF rfl rfl rfl ?_
            refine s_mv rfl rfl ?_
            refine Reg.pass rfl rfl rfl rfl ?_
            refine Reg.pass rfl rfl rfl rfl ?_
            refine Reg.pass rfl rfl rfl rfl ?_
            refine s_pkF rfl rfl rfl ?_
            refine s_mv rfl rfl ?_
            refine Reg.pass rfl rfl rfl rfl ?_
            refine Reg.pass rfl rfl rfl rfl ?_
            refine Reg.pass rfl rfl rfl rfl ?_
            refine s_pkF rfl rfl rfl ?_
            refine s_mv rfl rfl ?_
            refine Reg.pass rfl rfl rfl rfl ?_
            refine Reg.pass rfl rfl rfl rfl ?_
            refine Reg.pass rfl rfl rfl rfl ?_
            refine s_pkF rfl rfl rfl ?_
            refine s_mv rfl rfl ?_
            refine Reg.pass rfl rfl rfl rfl ?_
            refine Reg.pass rfl rfl rfl rfl ?_
            refine Reg.pass rfl rfl rfl rfl ?_
            refine s_pkF rfl rfl rfl ?_
            refine s_mv rfl rfl ?_
            refine Reg.pass rfl rfl rfl rfl ?_
            refine Reg.pass rfl rfl rfl rfl ?_
            refine Reg.pass rfl rfl rfl rfl ?_
            refine s_pkF rfl rfl rfl ?_
            refine s_as rfl rfl ?_
            refine Reg.nilq (fun w140 e141 => ?_)
            have hI142 := hI86.ext e141
            obtain rfl := Option.some.inj h88
            refine ⟨rfl, false, ⟨hI142, (Adv.of_ext e141), rfl⟩, Sub.cons rfl (Sub.nil _)⟩
        · replace h88 := cdF hg103 h88
          refine Reg.pass rfl rfl rfl rfl ?_
          refine Reg.pass rfl rfl rfl rfl ?_
          refine Reg.pass rfl rfl rfl rfl ?_
          refine s_pkF rfl rfl rfl ?_
          refine s_mv rfl rfl ?_
          refine Reg.pass rfl rfl rfl rfl ?_
          refine Reg.pass rfl rfl rfl rfl ?_
          refine Reg.pass rfl rfl rfl rfl ?_
          refine s_pkF rfl rfl rfl ?_
          refine s_mv rfl rfl ?_
          refine Reg.pass rfl rfl rfl rfl ?_
          refine Reg.pass rfl rfl rfl rfl ?_
          refine Reg.pass rfl rfl rfl rfl ?_
          refine s_pkF rfl rfl rfl ?_
          refine s_mv rfl rfl ?_
          refine Reg.pass rfl rfl rfl rfl ?_
          refine Reg.pass rfl rfl rfl rfl ?_
          refine Reg.pass rfl rfl rfl rfl ?_
          refine s_pkF rfl rfl rfl ?_
          refine s_mv rfl rfl ?_
          refine Reg.pass rfl rfl rfl rfl ?_
          refine Reg.pass rfl rfl rfl rfl ?_
          refine Reg.pass rfl rfl rfl rfl ?_
          refine s_pkF rfl rfl rfl ?_
          refine s_mv rfl rfl ?_
          refine Reg.pass rfl rfl rfl rfl ?_
          refine Reg.pass rfl rfl rfl rfl ?_
          refine Reg.pass rfl rfl rfl rfl ?_
          refine s_pkF rfl rfl rfl ?_
          refine s_mv rfl rfl ?_
          refine Reg.pass rfl rfl rfl rfl ?_
          refine Reg.pass rfl rfl rfl rfl ?_
          refine Reg.pass rfl rfl rfl rfl ?_
          refine s_pkF rfl rfl rfl ?_
          refine s_as rfl rfl ?_
          refine Reg.nilq (fun w143 e144 => ?_)
          have hI145 := hI86.ext e144
          obtain rfl := Option.some.inj h88
          refine ⟨rfl, false, ⟨hI145, (Adv.of_ext e144), rfl⟩, Sub.cons rfl (Sub.nil _)⟩
      · skip
        rintro x89 w90 ⟨hI91, hA92, rfl⟩
        refine cw_ret ?_
        obtain rfl := Option.some.inj h
        refine fin1 Try.results3 rfl ?_
        exact ⟨rfl, hI91.kp⟩

end Go.Proofs.Ytecmlmngcnionaa
