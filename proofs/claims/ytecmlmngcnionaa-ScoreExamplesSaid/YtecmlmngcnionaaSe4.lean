/-
  Part 4 of the texts that the statement's proof stands on: what memory holds, how code is walked, what the functions reckon. In the order in which they build.
-/

import Derived.Test.YtecmlmngcnionaaSe3
set_option linter.unusedVariables false
set_option maxRecDepth 20000
namespace Go.Proofs.Ytecmlmngcnionaa
open Go Go.Sx Go.RowKit
noncomputable def P.slices_Compact_78 (s : (List Int)) : Option (List Int) :=
 cond (decide ((s.length : Int) < 2)) (some s) (Option.bind (loopM (S := Int) (R := (Unit) ⊕ ((List Int))) (fun x2 => cond (decide (x2 < (s.length : Int))) (Option.bind (ixo s x2) fun y4 => Option.bind (chk .i64 (x2 - 1)) fun n11 => Option.bind (ixo s n11) fun y12 => cond (decide (y4 = y12)) (Option.bind (cutLo s x2) fun l23 => Option.bind (loopM (S := Int × Int × (List Int)) (R := (Int × (List Int))) (fun (x26, x27, x28) => Option.bind (cutLo x28 x2) fun l29 => cond (decide (x27 < (l29.length : Int))) (Option.bind (Option.bind (cutLo x28 x2) fun l31 => Option.bind (ixo l31 x27) fun y32 => Option.bind (chk .i64 (x27 - 1)) fun n40 => Option.bind (cutLo x28 x2) fun l41 => Option.bind (ixo l41 n40) fun y42 => Option.bind (cond (!decide (y32 = y42)) (Option.bind (cutLo x28 x2) fun l54 => Option.bind (ixo l54 x27) fun y55 => Option.bind (ixo x28 x26) fun y63 => Option.bind (seto x28 x26 y55) fun l70 => Option.bind (chk .i64 (x26 + 1)) fun n74 => some (n74, l70)) (some (x26, x28))) fun (x75, x76) => some (x75, x76)) fun (x77, x78) => Option.bind (chk .i64 (x27 + 1)) fun n79 => some (.inl (x77, n79, x78))) (some (.inr (x26, x28)))) (x2, 1, s)) fun (x80, x81) => Option.bind (cutLo x81 x80) fun l82 => Option.bind (cutHi (x81.take x80.toNat ++ List.replicate l82.length 0) x80) fun l88 => some (.inr (.inr l88))) (Option.bind (chk .i64 (x2 + 1)) fun n92 => some (.inl n92))) (some (.inr (.inl ())))) 1) fun j93 => Sum.elim (fun _ => some s) (fun r94 => some r94)  j93)
theorem C_slices_Compact_78 {M : List Nat} {w : World} {v_s : Value} (hM : MLt M w) (hd : ∀ b ∈ ob v_s, b ∉ M) {s : (List Int)} (p_s : Own (intE .i64) 3 0 M w v_s s) {r0 : (List Int)} (h : P.slices_Compact_78 s = some r0) :
  Calls Try.prog 78 (List.toArray [v_s]) w fun e w' => ∃ v0_0 : Value, e = .returned (v0_0) ∧ (Own (intE .i64) 3 0 M w' v0_0 r0 ∧ (∀ b ∈ ob v0_0, b ∈ ob v_s ∨ w.heap.size ≤ b) ∧ Kp (ob v_s) w w') := by
 have hI := Hp.startOwn hM hd p_s
 refine calls_cw Try.func78 rfl Try.ntmps78 rfl ?_
 refine cw_seq (cw_regF ?_)
 refine s_as rfl rfl ?_
 refine Reg.nil ?_
 refine cw_seq (cw_seq (cw_regF ?_))
 refine s_mv rfl rfl ?_
 refine s_lenO rfl (hI.ownAt 0 rfl) Try.underlying26 rfl ?_
 refine s_lss rfl rfl rfl ?_
 refine Reg.nil ?_
 refine cw_cond rfl (fun hc1 => ?_) (fun hc1 => ?_)
 ·replace h := cdT hc1 h
  refine cw_seq (cw_regF ?_)
  refine s_mv rfl rfl ?_
  refine s_as rfl rfl ?_
  refine Reg.nil ?_
  refine cw_ret ?_
  obtain rfl := Option.some.inj h
  refine fin1 Try.results78 rfl ?_
  exact ⟨_, rfl, (hI.ownBack 0 rfl)⟩
 ·replace h := cdF hc1 h
  refine cw_skip (cw_seq (cw_seq (cw_regF ?_)))
  refine s_as rfl rfl ?_
  refine Reg.nil ?_
  obtain ⟨j2, h3, h⟩ := bnd h
  refine cw_sub (L := [(3, _), (0, _)]) (Sub.cons rfl (Sub.cons rfl (Sub.nil _))) ?_
  refine cw_unitD 1 (ι := Unit) (fun _ => []) (fun _ => fun w4 => Hp w (ob v_s) M [ownR (ob v_s) (intE .i64) 3 v_s s] w4 ∧ Adv (mm [ownR (ob v_s) (intE .i64) 3 v_s s] M) (mm [ownR (ob v_s) (intE .i64) 3 v_s s] M) w w4 ∧ (.inl ()) = j2) ?_ ?_
  ·skip
   refine cw_block ?_
   refine cw_sub (L := [(3, _), (0, _)]) (Sub.cons rfl (Sub.cons rfl (Sub.nil _))) ?_
   refine cw_loopM 1 (ι := Int) _ (fun x7 => [(3, Value.int .i64 x7)]) (fun x7 => x7) (fun x7 => fun w9 => Hp w (ob v_s) M [ownR (ob v_s) (intE .i64) 3 v_s s] w9 ∧ Adv (mm [ownR (ob v_s) (intE .i64) 3 v_s s] M) (mm [ownR (ob v_s) (intE .i64) 3 v_s s] M) w w9 ∧ InK .i64 x7) 1 h3 ⟨hI, (Adv.refl _ _), (by decide)⟩ (Sub.cons rfl (Sub.cons rfl (Sub.nil _))) ?_
   rintro x7 w9 ⟨hI10, hA11, r8⟩ y12 h13 hR14
   refine cw_seq (cw_seq (cw_regF ?_))
   refine s_mv rfl rfl ?_
   refine s_mv rfl rfl ?_
   refine s_lenO rfl (hI10.ownAt 0 rfl) Try.underlying26 rfl ?_
   refine s_lss rfl rfl rfl ?_
   refine Reg.nil ?_
   refine cw_cond rfl (fun hc15 => ?_) (fun hc15 => ?_)
   ·replace h13 := cdT hc15 h13
    refine cw_skip ?_
    refine cw_seq ?_
    refine cw_block ?_
    refine cw_seq ?_
    refine cw_regT fol (by kernel_rfl) ?_
    refine s_mv rfl rfl ?_
    refine s_mv rfl rfl ?_
    obtain ⟨y16, hy16, h13⟩ := bnd h13
    refine y_ia 0 hI10 rfl rfl rfl hy16 Try.underlying26 Try.sizeOf3 rfl ?_
    intro g17 cs18 hg19 hR20 hC21
    have khR20 := hR20
    obtain ⟨rfl, r22⟩ := hR20
    refine s_ld rfl (hC21.at 0 rfl) Try.isAgg3 rfl ?_
    refine s_mv rfl rfl ?_
    refine s_mv rfl rfl ?_
    obtain ⟨n23, hn23, h13⟩ := bnd h13
    replace hn23 := chk_out hn23
    refine p_sub rfl rfl rfl hn23 ?_
    obtain ⟨y24, hy24, h13⟩ := bnd h13
    refine y_ia 0 hI10 rfl rfl rfl hy24 Try.underlying26 Try.sizeOf3 rfl ?_
    intro g25 cs26 hg27 hR28 hC29
    have khR28 := hR28
    obtain ⟨rfl, r30⟩ := hR28
    refine s_ld rfl (hC29.at 0 rfl) Try.isAgg3 rfl ?_
    refine s_eql rfl rfl rfl ?_
    refine Reg.nilq (fun w31 e32 => ?_)
    have hI33 := hI10.ext e32
    refine cw_cond rfl (fun hc34 => ?_) (fun hc34 => ?_)
    ·replace h13 := cdT hc34 h13
     refine cw_seq (cw_regF ?_)
     refine s_mv rfl rfl ?_
     refine s_mv rfl rfl ?_
     obtain ⟨l35, hl35, h13⟩ := bnd h13
     refine y_vw 0 hI33 rfl rfl rfl hl35 Try.underlying26 Try.sizeOf3 rfl ?_
     intro v36 hv37
     refine s_as rfl rfl ?_
     refine Reg.nil ?_
     refine cw_seq (cw_seq (cw_regF ?_))
     refine s_as rfl rfl ?_
     refine Reg.nil ?_
     obtain ⟨j38, h39, h13⟩ := bnd h13
     refine cw_sub (L := [(3, _), (4, _), (5, _), (0, _)]) (Sub.cons rfl (Sub.cons rfl (Sub.cons rfl (Sub.cons rfl (Sub.nil _))))) ?_
     refine cw_unitD 3 (ι := Int × (List Int)) (fun ⟨x40, x42⟩ => [(3, Value.int .i64 x40)]) (fun ⟨x40, x42⟩ => fun w43 => Hp w (ob v_s) M [ownR (ob v_s) (intE .i64) 3 v_s x42] w43 ∧ Adv (mm [ownR (ob v_s) (intE .i64) 3 v_s s] M) (mm [ownR (ob v_s) (intE .i64) 3 v_s x42] M) w31 w43 ∧ InK .i64 x40 ∧ (x40, x42) = j38) ?_ ?_
     ·skip
      refine cw_block ?_
      refine cw_sub (L := [(3, _), (5, _), (0, _), (4, _)]) (Sub.cons rfl (Sub.cons rfl (Sub.cons rfl (Sub.cons rfl (Sub.nil _))))) ?_
      refine cw_loopM 2 (ι := Int × Int × (List Int)) _ (fun ⟨x46, x48, x50⟩ => [(3, Value.int .i64 x46), (5, Value.int .i64 x48)]) (fun ⟨x46, x48, x50⟩ => (x46, x48, x50)) (fun ⟨x46, x48, x50⟩ => fun w51 => Hp w (ob v_s) M [ownR (ob v_s) (intE .i64) 3 v_s x50] w51 ∧ Adv (mm [ownR (ob v_s) (intE .i64) 3 v_s s] M) (mm [ownR (ob v_s) (intE .i64) 3 v_s x50] M) w31 w51 ∧ InK .i64 x46 ∧ InK .i64 x48) (x7, 1, s) h39 ⟨hI33, (Adv.refl _ _), r8, (by decide)⟩ (Sub.cons rfl (Sub.cons rfl (Sub.cons rfl (Sub.cons rfl (Sub.nil _))))) ?_
      rintro ⟨x46, x48, x50⟩ w51 ⟨hI52, hA53, r47, r49⟩ y54 h55 hR56
      refine cw_seq (cw_seq (cw_regF ?_))
      refine s_mv rfl rfl ?_
      refine s_mv rfl rfl ?_
      obtain ⟨l57, hl57, h55⟩ := bnd h55
      refine y_vlen 0 hI52 rfl hv37 hl57 rfl Try.underlying26 rfl ?_
      refine s_lss rfl rfl rfl ?_
      refine Reg.nil ?_
      refine cw_cond rfl (fun hc58 => ?_) (fun hc58 => ?_)
      ·replace h55 := cdT hc58 h55
       refine cw_skip ?_
       obtain ⟨j59, h60, h55⟩ := bnd h55
       refine cw_sub (L := [(3, _), (0, _), (4, _), (5, _)]) (Sub.cons rfl (Sub.cons rfl (Sub.cons rfl (Sub.cons rfl (Sub.nil _))))) ?_
       refine cw_seqD 1 (ι := Int × (List Int)) (fun ⟨x61, x63⟩ => [(3, Value.int .i64 x61)]) (fun ⟨x61, x63⟩ => fun w64 => Hp w (ob v_s) M [ownR (ob v_s) (intE .i64) 3 v_s x63] w64 ∧ Adv (mm [ownR (ob v_s) (intE .i64) 3 v_s x50] M) (mm [ownR (ob v_s) (intE .i64) 3 v_s x63] M) w51 w64 ∧ InK .i64 x61 ∧ (x61, x63) = j59) ?_ ?_
       ·skip
        refine cw_block ?_
        refine cw_seq ?_
        refine cw_regT fol (by kernel_rfl) ?_
        refine s_mv rfl rfl ?_
        refine s_mv rfl rfl ?_
        obtain ⟨l67, hl67, h60⟩ := bnd h60
        obtain ⟨y68, hy68, h60⟩ := bnd h60
        refine y_iaV 0 hI52 rfl hv37 hl67 rfl rfl hy68 Try.underlying26 Try.sizeOf3 rfl ?_
        intro g69 cs70 hg71 hz72 hR73 hC74
        have khR73 := hR73
        obtain ⟨rfl, r75⟩ := hR73
        refine s_ld rfl (hC74.at 0 rfl) Try.isAgg3 rfl ?_
        refine s_mv rfl rfl ?_
        refine s_mv rfl rfl ?_
        obtain ⟨n76, hn76, h60⟩ := bnd h60
        replace hn76 := chk_out hn76
        refine p_sub rfl rfl rfl hn76 ?_
        obtain ⟨l77, hl77, h60⟩ := bnd h60
        obtain ⟨y78, hy78, h60⟩ := bnd h60
        refine y_iaV 0 hI52 rfl hv37 hl77 rfl rfl hy78 Try.underlying26 Try.sizeOf3 rfl ?_
        intro g79 cs80 hg81 hz82 hR83 hC84
        have khR83 := hR83
        obtain ⟨rfl, r85⟩ := hR83
        refine s_ld rfl (hC84.at 0 rfl) Try.isAgg3 rfl ?_
        refine s_neq rfl rfl rfl ?_
        refine Reg.nilq (fun w86 e87 => ?_)
        have hI88 := hI52.ext e87
        obtain ⟨j89, h90, h60⟩ := bnd h60
        refine cw_sub (L := [(3, _), (44, _), (0, _), (4, _), (5, _)]) (Sub.cons rfl (Sub.cons rfl (Sub.cons rfl (Sub.cons rfl (Sub.cons rfl (Sub.nil _)))))) ?_
        refine cw_unitD 2 (ι := Int × (List Int)) (fun ⟨x91, x93⟩ => [(3, Value.int .i64 x91)]) (fun ⟨x91, x93⟩ => fun w94 => Hp w (ob v_s) M [ownR (ob v_s) (intE .i64) 3 v_s x93] w94 ∧ Adv (mm [ownR (ob v_s) (intE .i64) 3 v_s x50] M) (mm [ownR (ob v_s) (intE .i64) 3 v_s x93] M) w86 w94 ∧ InK .i64 x91 ∧ (x91, x93) = j89) ?_ ?_
        ·skip
         refine cw_cond rfl (fun hc97 => ?_) (fun hc97 => ?_)
         ·replace h90 := cdT hc97 h90
          refine cw_seq (cw_regF ?_)
          refine s_mv rfl rfl ?_
          refine s_mv rfl rfl ?_
          refine s_mv rfl rfl ?_
          refine s_mv rfl rfl ?_
          obtain ⟨l98, hl98, h90⟩ := bnd h90
          obtain ⟨y99, hy99, h90⟩ := bnd h90
          refine y_iaV 0 hI88 rfl hv37 hl98 rfl rfl hy99 Try.underlying26 Try.sizeOf3 rfl ?_
          intro g100 cs101 hg102 hz103 hR104 hC105
          have khR104 := hR104
          obtain ⟨rfl, r106⟩ := hR104
          refine s_ld rfl (hC105.at 0 rfl) Try.isAgg3 rfl ?_
          obtain ⟨y107, hy107, h90⟩ := bnd h90
          refine y_ia 0 hI88 rfl rfl rfl hy107 Try.underlying26 Try.sizeOf3 rfl ?_
          intro g108 cs109 hg110 hR111 hC112
          have khR111 := hR111
          obtain ⟨rfl, r113⟩ := hR111
          obtain ⟨l114, hl114, h90⟩ := bnd h90
          refine y_sto 0 (E := (intE .i64)) (o := 0) hI88 rfl rfl rfl rfl hg110 hl114 ⟨rfl, r113⟩ hC112 ⟨rfl, r106⟩ rfl Try.sizeOf3 rfl (one1 rfl one0) ?_
          intro w115 hI116 x117
          refine Reg.nil ?_
          refine cw_regF ?_
          refine s_mv rfl rfl ?_
          obtain ⟨n118, hn118, h90⟩ := bnd h90
          replace hn118 := chk_out hn118
          refine p_add rfl rfl rfl hn118 ?_
          refine s_as rfl rfl ?_
          refine Reg.nil ?_
          obtain rfl := Option.some.inj h90
          refine ⟨rfl, (n118, l114), ⟨hI116, x117, hn118.2, rfl⟩, Sub.cons rfl (Sub.cons rfl (Sub.cons rfl (Sub.cons rfl (Sub.nil _))))⟩
         ·replace h90 := cdF hc97 h90
          refine cw_skip ?_
          obtain rfl := Option.some.inj h90
          refine ⟨rfl, (x46, x50), ⟨hI88, (Adv.refl _ _), r47, rfl⟩, Sub.cons rfl (Sub.cons rfl (Sub.cons rfl (Sub.cons rfl (Sub.nil _))))⟩
        ·skip
         rintro ⟨x91, x93⟩ w94 ⟨hI95, hA96, r92, rfl⟩
         obtain rfl := Option.some.inj h60
         refine ⟨rfl, (x91, x93), ⟨hI95, ((Adv.of_ext e87).trans hA96), r92, rfl⟩, Sub.cons rfl (Sub.cons rfl (Sub.cons rfl (Sub.cons rfl (Sub.nil _))))⟩
       ·skip
        rintro ⟨x61, x63⟩ w64 ⟨hI65, hA66, r62, rfl⟩
        refine cw_regF ?_
        refine s_mv rfl rfl ?_
        obtain ⟨n119, hn119, h55⟩ := bnd h55
        replace hn119 := chk_out hn119
        refine p_add rfl rfl rfl hn119 ?_
        refine s_as rfl rfl ?_
        refine Reg.nil ?_
        obtain rfl := Option.some.inj h55
        refine ⟨rfl, (x61, n119, x63), ⟨⟨hI65, (hA53.trans hA66), r62, hn119.2⟩, rfl⟩, Sub.cons rfl (Sub.cons rfl (Sub.cons rfl (Sub.cons rfl (Sub.nil _))))⟩
      ·replace h55 := cdF hc58 h55
       refine cw_exit ?_
       refine exB_same ?_
       obtain rfl := Option.some.inj h55
       obtain rfl := hR56 _ rfl
       refine ⟨rfl, (x46, x50), ⟨hI52, hA53, r47, rfl⟩, Sub.cons rfl (Sub.cons rfl (Sub.nil _))⟩
     ·skip
      rintro ⟨x40, x42⟩ w43 ⟨hI44, hA45, r41, rfl⟩
      refine cw_seq (cw_regF ?_)
      refine s_mv rfl rfl ?_
      refine s_mv rfl rfl ?_
      obtain ⟨l120, hl120, h13⟩ := bnd h13
      refine y_vw 0 hI44 rfl rfl rfl hl120 Try.underlying26 Try.sizeOf3 rfl ?_
      intro v121 hv122
      refine y_clear 0 (z0 := 0) hI44 rfl hv122 hl120 rfl Try.underlying26 Try.zeroValue3 rfl (fun _ _ => ⟨rfl, (by decide)⟩) ?_
      intro w123 hI124 x125
      refine Reg.nil ?_
      refine cw_seq (cw_regF ?_)
      refine s_mv rfl rfl ?_
      refine s_mv rfl rfl ?_
      obtain ⟨l126, hl126, h13⟩ := bnd h13
      refine y_tk 0 hI124 rfl rfl rfl hl126 Try.underlying26 Try.sizeOf3 rfl ?_
      intro v127 hI128 x129
      refine s_as rfl rfl ?_
      refine Reg.nil ?_
      refine cw_ret ?_
      obtain rfl := Option.some.inj h13
      obtain rfl := hR14 _ rfl
      replace h := elimR h
      obtain rfl := Option.some.inj h
      refine fin1 Try.results78 rfl ?_
      exact ⟨_, rfl, (hI128.ownBack 0 rfl)⟩
    ·replace h13 := cdF hc34 h13
     refine cw_skip ?_
     refine cw_regF ?_
     refine s_mv rfl rfl ?_
     obtain ⟨n130, hn130, h13⟩ := bnd h13
     replace hn130 := chk_out hn130
     refine p_add rfl rfl rfl hn130 ?_
     refine s_as rfl rfl ?_
     refine Reg.nil ?_
     obtain rfl := Option.some.inj h13
     refine ⟨rfl, n130, ⟨⟨hI33, hI33.adv, hn130.2⟩, rfl⟩, Sub.cons rfl (Sub.cons rfl (Sub.nil _))⟩
   ·replace h13 := cdF hc15 h13
    refine cw_exit ?_
    refine exB_same ?_
    obtain rfl := Option.some.inj h13
    obtain rfl := hR14 _ rfl
    refine ⟨rfl, (), ⟨hI10, hI10.adv, rfl⟩, Sub.cons rfl (Sub.nil _)⟩
  ·skip
   rintro _ w4 ⟨hI5, hA6, rfl⟩
   replace h := elimL h
   refine cw_seq (cw_regF ?_)
   refine s_mv rfl rfl ?_
   refine s_as rfl rfl ?_
   refine Reg.nil ?_
   refine cw_ret ?_
   obtain rfl := Option.some.inj h
   refine fin1 Try.results78 rfl ?_
   exact ⟨_, rfl, (hI5.ownBack 0 rfl)⟩
noncomputable def P.slices_DeleteFunc_75 (s : (List Int)) (del : Int → Option Bool) : Option (List Int) :=
 Option.bind (P.slices_IndexFunc_67 s del) fun z1 => cond (decide (z1 = (-1))) (some s) (Option.bind (chk .i64 (z1 + 1)) fun n8 => Option.bind (loopM (S := Int × Int × (List Int)) (R := (Int × (List Int))) (fun (x9, x10, x11) => cond (decide (x10 < (x11.length : Int))) (Option.bind (Option.bind (ixo x11 x10) fun y13 => Option.bind (del y13) fun z20 => Option.bind (cond (!z20) (Option.bind (ixo x11 x9) fun y26 => Option.bind (seto x11 x9 y13) fun l33 => Option.bind (chk .i64 (x9 + 1)) fun n37 => some (n37, l33)) (some (x9, x11))) fun (x38, x39) => some (x38, x39)) fun (x40, x41) => Option.bind (chk .i64 (x10 + 1)) fun n42 => some (.inl (x40, n42, x41))) (some (.inr (x9, x11)))) (z1, n8, s)) fun (x43, x44) => Option.bind (cutLo x44 x43) fun l45 => Option.bind (cutHi (x44.take x43.toNat ++ List.replicate l45.length 0) x43) fun l51 => some l51)
theorem C_slices_DeleteFunc_75 {M : List Nat} {w : World} {v_s : Value} (hM : MLt M w) (hd : ∀ b ∈ ob v_s, b ∉ M) {s : (List Int)} (p_s : Own (intE .i64) 3 0 M w v_s s) {v_del : Value} {del : Int → Option Bool} (f_del : ∀ (x0 : Int) (r : Bool) (w1 : World), Kp (ob v_s) w w1 → InK .i64 x0 → del x0 = some r → CallsV Try.prog v_del [Value.int .i64 x0] w1 fun e w2 => e = .returned (Value.bool r) ∧ Ext w1 w2) {r0 : (List Int)} (h : P.slices_DeleteFunc_75 s del = some r0) :
  Calls Try.prog 75 (List.toArray [v_s, v_del]) w fun e w' => ∃ v0_0 : Value, e = .returned (v0_0) ∧ (Own (intE .i64) 3 0 M w' v0_0 r0 ∧ (∀ b ∈ ob v0_0, b ∈ ob v_s ∨ w.heap.size ≤ b) ∧ Kp (ob v_s) w w') := by
 have hI := Hp.startOwn hM hd p_s
 refine calls_cw Try.func75 rfl Try.ntmps75 rfl ?_
 refine cw_seq (cw_regF ?_)
 refine s_as rfl rfl ?_
 refine Reg.nil ?_
 refine cw_seq (cw_regF ?_)
 refine s_mv rfl rfl ?_
 refine s_mv rfl rfl ?_
 obtain ⟨z1, hz2, h⟩ := bnd h
 refine s_call rfl Try.call67 rfl ?_
 refine (C_slices_IndexFunc_67 (hI.sel [] rfl).mlt (hI.lendRd [] 0 rfl rfl) (fun a0 r w9 e9 f0 hr => f_del a0 r w9 (hI.kp.trans (Ext.kp e9)) f0 hr) hz2).mono ?_
 rintro _ w3 ⟨rfl, r5, e4⟩
 refine ⟨_, rfl, ?_⟩
 have hI6 := hI.ext e4
 refine s_as rfl rfl ?_
 refine Reg.nil ?_
 refine cw_seq (cw_seq (cw_regF ?_))
 refine s_mv rfl rfl ?_
 refine s_eql rfl rfl rfl ?_
 refine Reg.nil ?_
 refine cw_cond rfl (fun hc7 => ?_) (fun hc7 => ?_)
 ·replace h := cdT hc7 h
  refine cw_seq (cw_regF ?_)
  refine s_mv rfl rfl ?_
  refine s_as rfl rfl ?_
  refine Reg.nil ?_
  refine cw_ret ?_
  obtain rfl := Option.some.inj h
  refine fin1 Try.results75 rfl ?_
  exact ⟨_, rfl, (hI6.ownBack 0 rfl)⟩
 ·replace h := cdF hc7 h
  refine cw_skip (cw_seq (cw_seq (cw_regF ?_)))
  refine s_mv rfl rfl ?_
  obtain ⟨n8, hn8, h⟩ := bnd h
  replace hn8 := chk_out hn8
  refine p_add rfl rfl rfl hn8 ?_
  refine s_as rfl rfl ?_
  refine Reg.nil ?_
  obtain ⟨j9, h10, h⟩ := bnd h
  refine cw_sub (L := [(1, _), (5, _), (6, _), (0, _)]) (Sub.cons rfl (Sub.cons rfl (Sub.cons rfl (Sub.cons rfl (Sub.nil _))))) ?_
  refine cw_unitD 3 (ι := Int × (List Int)) (fun ⟨x11, x13⟩ => [(5, Value.int .i64 x11)]) (fun ⟨x11, x13⟩ => fun w14 => Hp w (ob v_s) M [ownR (ob v_s) (intE .i64) 3 v_s x13] w14 ∧ Adv (mm [ownR (ob v_s) (intE .i64) 3 v_s s] M) (mm [ownR (ob v_s) (intE .i64) 3 v_s x13] M) w3 w14 ∧ InK .i64 x11 ∧ (x11, x13) = j9) ?_ ?_
  ·skip
   refine cw_block ?_
   refine cw_sub (L := [(5, _), (6, _), (0, _), (1, _)]) (Sub.cons rfl (Sub.cons rfl (Sub.cons rfl (Sub.cons rfl (Sub.nil _))))) ?_
   refine cw_loopM 2 (ι := Int × Int × (List Int)) _ (fun ⟨x17, x19, x21⟩ => [(5, Value.int .i64 x17), (6, Value.int .i64 x19)]) (fun ⟨x17, x19, x21⟩ => (x17, x19, x21)) (fun ⟨x17, x19, x21⟩ => fun w22 => Hp w (ob v_s) M [ownR (ob v_s) (intE .i64) 3 v_s x21] w22 ∧ Adv (mm [ownR (ob v_s) (intE .i64) 3 v_s s] M) (mm [ownR (ob v_s) (intE .i64) 3 v_s x21] M) w3 w22 ∧ InK .i64 x17 ∧ InK .i64 x19) (z1, n8, s) h10 ⟨hI6, (Adv.refl _ _), r5, hn8.2⟩ (Sub.cons rfl (Sub.cons rfl (Sub.cons rfl (Sub.cons rfl (Sub.nil _))))) ?_
   rintro ⟨x17, x19, x21⟩ w22 ⟨hI23, hA24, r18, r20⟩ y25 h26 hR27
   refine cw_seq (cw_seq (cw_regF ?_))
   refine s_mv rfl rfl ?_
   refine s_mv rfl rfl ?_
   refine s_lenO rfl (hI23.ownAt 0 rfl) Try.underlying26 rfl ?_
   refine s_lss rfl rfl rfl ?_
   refine Reg.nil ?_
   refine cw_cond rfl (fun hc28 => ?_) (fun hc28 => ?_)
   ·replace h26 := cdT hc28 h26
    refine cw_skip ?_
    obtain ⟨j29, h30, h26⟩ := bnd h26
    refine cw_sub (L := [(5, _), (0, _), (1, _), (6, _)]) (Sub.cons rfl (Sub.cons rfl (Sub.cons rfl (Sub.cons rfl (Sub.nil _))))) ?_
    refine cw_seqD 1 (ι := Int × (List Int)) (fun ⟨x31, x33⟩ => [(5, Value.int .i64 x31)]) (fun ⟨x31, x33⟩ => fun w34 => Hp w (ob v_s) M [ownR (ob v_s) (intE .i64) 3 v_s x33] w34 ∧ Adv (mm [ownR (ob v_s) (intE .i64) 3 v_s x21] M) (mm [ownR (ob v_s) (intE .i64) 3 v_s x33] M) w22 w34 ∧ InK .i64 x31 ∧ (x31, x33) = j29) ?_ ?_
    ·skip
     refine cw_block ?_
     refine cw_seq (cw_regF ?_)
     refine s_mv rfl rfl ?_
     refine s_mv rfl rfl ?_
     obtain ⟨y37, hy37, h30⟩ := bnd h30
     refine y_ia 0 hI23 rfl rfl rfl hy37 Try.underlying26 Try.sizeOf3 rfl ?_
     intro g38 cs39 hg40 hR41 hC42
     have khR41 := hR41
     obtain ⟨rfl, r43⟩ := hR41
     refine s_ld rfl (hC42.at 0 rfl) Try.isAgg3 rfl ?_
     refine s_as rfl rfl ?_
     refine Reg.nil ?_
     refine cw_seq (cw_regF ?_)
     refine s_mv rfl rfl ?_
     refine s_mv rfl rfl ?_
     obtain ⟨z44, hz44, h30⟩ := bnd h30
     refine s_callV rfl rfl rfl ?_
     refine (f_del _ _ _ hI23.kp r43 hz44).mono ?_
     rintro _ w45 ⟨rfl, e46⟩
     refine ⟨_, rfl, ?_⟩
     have hI48 := hI23.ext e46
     refine s_not rfl rfl ?_
     refine Reg.nil ?_
     obtain ⟨j49, h50, h30⟩ := bnd h30
     refine cw_sub (L := [(5, _), (7, _), (29, _), (0, _), (1, _), (6, _)]) (Sub.cons rfl (Sub.cons rfl (Sub.cons rfl (Sub.cons rfl (Sub.cons rfl (Sub.cons rfl (Sub.nil _))))))) ?_
     refine cw_unitD 3 (ι := Int × (List Int)) (fun ⟨x51, x53⟩ => [(5, Value.int .i64 x51)]) (fun ⟨x51, x53⟩ => fun w54 => Hp w (ob v_s) M [ownR (ob v_s) (intE .i64) 3 v_s x53] w54 ∧ Adv (mm [ownR (ob v_s) (intE .i64) 3 v_s x21] M) (mm [ownR (ob v_s) (intE .i64) 3 v_s x53] M) w45 w54 ∧ InK .i64 x51 ∧ (x51, x53) = j49) ?_ ?_
     ·skip
      refine cw_cond rfl (fun hc57 => ?_) (fun hc57 => ?_)
      ·replace h50 := cdT hc57 h50
       refine cw_seq (cw_regF ?_)
       refine s_mv rfl rfl ?_
       refine s_mv rfl rfl ?_
       refine s_mv rfl rfl ?_
       obtain ⟨y58, hy58, h50⟩ := bnd h50
       refine y_ia 0 hI48 rfl rfl rfl hy58 Try.underlying26 Try.sizeOf3 rfl ?_
       intro g59 cs60 hg61 hR62 hC63
       have khR62 := hR62
       obtain ⟨rfl, r64⟩ := hR62
       obtain ⟨l65, hl65, h50⟩ := bnd h50
       refine y_sto 0 (E := (intE .i64)) (o := 0) hI48 rfl rfl rfl rfl hg61 hl65 ⟨rfl, r64⟩ hC63 ⟨rfl, r43⟩ rfl Try.sizeOf3 rfl (one1 rfl one0) ?_
       intro w66 hI67 x68
       refine Reg.nil ?_
       refine cw_regF ?_
       refine s_mv rfl rfl ?_
       obtain ⟨n69, hn69, h50⟩ := bnd h50
       replace hn69 := chk_out hn69
       refine p_add rfl rfl rfl hn69 ?_
       refine s_as rfl rfl ?_
       refine Reg.nil ?_
       obtain rfl := Option.some.inj h50
       refine ⟨rfl, (n69, l65), ⟨hI67, x68, hn69.2, rfl⟩, Sub.cons rfl (Sub.cons rfl (Sub.cons rfl (Sub.cons rfl (Sub.nil _))))⟩
      ·replace h50 := cdF hc57 h50
       refine cw_skip ?_
       obtain rfl := Option.some.inj h50
       refine ⟨rfl, (x17, x21), ⟨hI48, (Adv.refl _ _), r18, rfl⟩, Sub.cons rfl (Sub.cons rfl (Sub.cons rfl (Sub.cons rfl (Sub.nil _))))⟩
     ·skip
      rintro ⟨x51, x53⟩ w54 ⟨hI55, hA56, r52, rfl⟩
      obtain rfl := Option.some.inj h30
      refine ⟨rfl, (x51, x53), ⟨hI55, ((Adv.of_ext e46).trans hA56), r52, rfl⟩, Sub.cons rfl (Sub.cons rfl (Sub.cons rfl (Sub.cons rfl (Sub.nil _))))⟩
    ·skip
     rintro ⟨x31, x33⟩ w34 ⟨hI35, hA36, r32, rfl⟩
     refine cw_regF ?_
     refine s_mv rfl rfl ?_
     obtain ⟨n70, hn70, h26⟩ := bnd h26
     replace hn70 := chk_out hn70
     refine p_add rfl rfl rfl hn70 ?_
     refine s_as rfl rfl ?_
     refine Reg.nil ?_
     obtain rfl := Option.some.inj h26
     refine ⟨rfl, (x31, n70, x33), ⟨⟨hI35, (hA24.trans hA36), r32, hn70.2⟩, rfl⟩, Sub.cons rfl (Sub.cons rfl (Sub.cons rfl (Sub.cons rfl (Sub.nil _))))⟩
   ·replace h26 := cdF hc28 h26
    refine cw_exit ?_
    refine exB_same ?_
    obtain rfl := Option.some.inj h26
    obtain rfl := hR27 _ rfl
    refine ⟨rfl, (x17, x21), ⟨hI23, hA24, r18, rfl⟩, Sub.cons rfl (Sub.cons rfl (Sub.nil _))⟩
  ·skip
   rintro ⟨x11, x13⟩ w14 ⟨hI15, hA16, r12, rfl⟩
   refine cw_seq (cw_regF ?_)
   refine s_mv rfl rfl ?_
   refine s_mv rfl rfl ?_
   obtain ⟨l71, hl71, h⟩ := bnd h
   refine y_vw 0 hI15 rfl rfl rfl hl71 Try.underlying26 Try.sizeOf3 rfl ?_
   intro v72 hv73
   refine y_clear 0 (z0 := 0) hI15 rfl hv73 hl71 rfl Try.underlying26 Try.zeroValue3 rfl (fun _ _ => ⟨rfl, (by decide)⟩) ?_
   intro w74 hI75 x76
   refine Reg.nil ?_
   refine cw_seq (cw_regF ?_)
   refine s_mv rfl rfl ?_
   refine s_mv rfl rfl ?_
   obtain ⟨l77, hl77, h⟩ := bnd h
   refine y_tk 0 hI75 rfl rfl rfl hl77 Try.underlying26 Try.sizeOf3 rfl ?_
   intro v78 hI79 x80
   refine s_as rfl rfl ?_
   refine Reg.nil ?_
   refine cw_ret ?_
   obtain rfl := Option.some.inj h
   refine fin1 Try.results75 rfl ?_
   exact ⟨_, rfl, (hI79.ownBack 0 rfl)⟩
noncomputable def P.score_measured (s : Scale) : Option Bool :=
 Option.bind (cond (decide (3 < (s.cuts.length : Int))) (some true) (Option.bind (chk .i64 ((s.cuts.length : Int) + 1)) fun n8 => cond (!decide ((s.points.length : Int) = n8)) (some true) (Option.bind (P.score_counts ([s.none_] : List Int)) fun z14 => cond (!z14) (some true) (Option.bind (P.score_counts s.points) fun z20 => cond (!z20) (some true) (Option.bind (P.score_within 1 1000000 s.cuts) fun z26 => some (!z26)))))) fun x31 => cond x31 (some false) (Option.bind (Option.bind (P.slices_IsSorted_135 s.cuts) fun z33 => cond z33 (Option.bind (P.slices_Clone_58 s.cuts) fun z41 => Option.bind (P.slices_Compact_78 z41) fun z52 => some (decide ((z52.length : Int) = (s.cuts.length : Int)))) (some false)) fun x114 => some x114)
theorem C_score_measured {M : List Nat} {w : World} (hM : MLt M w) {s : Scale} {v_s_0 : Value} {v_s_1 : Value} (f_s_0 : RdS (intE .i64) M w v_s_0 s.cuts) (f_s_1 : RdS (intE .i64) M w v_s_1 s.points) (f_s_2 : InK .i64 s.none_) {r0 : Bool} (h : P.score_measured s = some r0) :
  Calls Try.prog 132 (List.toArray [Value.agg (List.toArray [v_s_0, v_s_1, Value.int .i64 s.none_])]) w fun e w' => e = .returned (Value.bool r0) ∧ Ext w w' := by
 have hI := Hp.start (Mu := []) hM
 refine calls_cw Try.func132 rfl Try.ntmps132 rfl ?_
 refine cw_seq (cw_regF ?_)
 refine y_box hI rfl rfl rfl ?_
 intro b1 w2 hI3 x4
 have hC6 := hI3.freezeRow 0 rfl
 have hI5 := hI3.erase 0
 refine s_as rfl rfl ?_
 refine Reg.nil ?_
 refine cw_seq ?_
 obtain ⟨j7, h8, h⟩ := bnd h
 refine cw_sub (L := [(1, _)]) (Sub.cons rfl (Sub.nil _)) ?_
 refine cw_seqD 0 (ι := Bool) (fun x9 => [(35, Value.bool x9)]) (fun x9 => fun w10 => Hp w [] M [] w10 ∧ Adv (mm [] M) (mm [] M) w2 w10 ∧ x9 = j7) ?_ ?_
 ·skip
  refine cw_regF ?_
  refine s_fa rfl Try.underlying56 rfl Try.sizeOf26 rfl ?_
  refine s_ld rfl (hC6.cells.at 0 rfl) Try.isAgg26 rfl ?_
  refine s_len rfl (f_s_0.adv hI5.adv) Try.underlying26 rfl ?_
  refine s_gtr rfl rfl rfl ?_
  refine s_mv rfl rfl ?_
  refine Reg.gsplit (t := 7) rfl (fun hg13 => ?_) (fun hg13 => ?_)
  ·replace h8 := cdT hg13 h8
   refine Reg.pass rfl rfl rfl rfl ?_
   refine Reg.pass rfl rfl rfl rfl ?_
   refine Reg.pass rfl rfl rfl rfl ?_
   refine Reg.pass rfl rfl rfl rfl ?_
   refine Reg.pass rfl rfl rfl rfl ?_
   refine Reg.pass rfl rfl rfl rfl ?_
   refine Reg.pass rfl rfl rfl rfl ?_
   refine Reg.pass rfl rfl rfl rfl ?_
   refine s_pkT rfl rfl rfl ?_
   refine s_mv rfl rfl ?_
   refine Reg.pass rfl rfl rfl rfl ?_
   refine Reg.pass rfl rfl rfl rfl ?_
   refine Reg.pass rfl rfl rfl rfl ?_
   refine Reg.pass rfl rfl rfl rfl ?_
   refine Reg.pass rfl rfl rfl rfl ?_
   refine s_pkT rfl rfl rfl ?_
   refine s_mv rfl rfl ?_
   refine Reg.pass rfl rfl rfl rfl ?_
   refine Reg.pass rfl rfl rfl rfl ?_
   refine Reg.pass rfl rfl rfl rfl ?_
   refine Reg.pass rfl rfl rfl rfl ?_
   refine s_pkT rfl rfl rfl ?_
   refine s_mv rfl rfl ?_
   refine Reg.pass rfl rfl rfl rfl ?_
   refine Reg.pass rfl rfl rfl rfl ?_
   refine Reg.pass rfl rfl rfl rfl ?_
   refine Reg.pass rfl rfl rfl rfl ?_
   refine s_pkT rfl rfl rfl ?_
   refine Reg.nil ?_
   obtain rfl := Option.some.inj h8
   refine ⟨rfl, true, ⟨hI5, (Adv.refl _ _), rfl⟩, Sub.cons rfl (Sub.cons rfl (Sub.nil _))⟩
  ·replace h8 := cdF hg13 h8
   refine Reg.take rfl rfl ?_
   refine s_fa rfl Try.underlying56 rfl Try.sizeOf26 rfl ?_
   refine Reg.take rfl rfl ?_
   refine s_ld rfl (hC6.cells.at 1 rfl) Try.isAgg26 rfl ?_
   refine Reg.take rfl rfl ?_
   refine s_len rfl (f_s_1.adv hI5.adv) Try.underlying26 rfl ?_
   refine Reg.take rfl rfl ?_
   refine s_fa rfl Try.underlying56 rfl Try.sizeOf26 rfl ?_
   refine Reg.take rfl rfl ?_
   refine s_ld rfl (hC6.cells.at 0 rfl) Try.isAgg26 rfl ?_
   refine Reg.take rfl rfl ?_
   refine s_len rfl (f_s_0.adv hI5.adv) Try.underlying26 rfl ?_
   refine Reg.take rfl rfl ?_
   obtain ⟨n14, hn14, h8⟩ := bnd h8
   replace hn14 := chk_out hn14
   refine p_add rfl rfl rfl hn14 ?_
   refine Reg.take rfl rfl ?_
   refine s_neq rfl rfl rfl ?_
   refine s_pkF rfl rfl rfl ?_
   refine s_mv rfl rfl ?_
   refine Reg.gsplit (t := 17) rfl (fun hg15 => ?_) (fun hg15 => ?_)
   ·replace h8 := cdT hg15 h8
    refine Reg.pass rfl rfl rfl rfl ?_
    refine Reg.pass rfl rfl rfl rfl ?_
    refine Reg.pass rfl rfl rfl rfl ?_
    refine Reg.pass rfl rfl rfl rfl ?_
    refine Reg.pass rfl rfl rfl rfl ?_
    refine s_pkT rfl rfl rfl ?_
    refine s_mv rfl rfl ?_
    refine Reg.pass rfl rfl rfl rfl ?_
    refine Reg.pass rfl rfl rfl rfl ?_
    refine Reg.pass rfl rfl rfl rfl ?_
    refine Reg.pass rfl rfl rfl rfl ?_
    refine s_pkT rfl rfl rfl ?_
    refine s_mv rfl rfl ?_
    refine Reg.pass rfl rfl rfl rfl ?_
    refine Reg.pass rfl rfl rfl rfl ?_
    refine Reg.pass rfl rfl rfl rfl ?_
    refine Reg.pass rfl rfl rfl rfl ?_
    refine s_pkT rfl rfl rfl ?_
    refine Reg.nil ?_
    obtain rfl := Option.some.inj h8
    refine ⟨rfl, true, ⟨hI5, (Adv.refl _ _), rfl⟩, Sub.cons rfl (Sub.cons rfl (Sub.nil _))⟩
   ·replace h8 := cdF hg15 h8
    refine Reg.take rfl rfl ?_
    refine s_fa rfl Try.underlying56 rfl Try.sizeOf3 rfl ?_
    refine Reg.take rfl rfl ?_
    refine s_ld rfl (hC6.cells.at 2 rfl) Try.isAgg3 rfl ?_
    refine Reg.take rfl rfl ?_
    refine y_bs (E := (intE .i64)) (xs := [s.none_]) sl26 hI5 rfl rfl (Cls.cons rfl Cls.nil) (Chs.cons ⟨rfl, f_s_2⟩ Chs.nil) rfl rfl ?_
    intro v16 w17 hI18 x19
    refine Reg.take rfl rfl ?_
    obtain ⟨z20, hz21, h8⟩ := bnd h8
    refine s_call rfl Try.call53 rfl ?_
    refine (C_score_counts (hI18.sel [] rfl).mlt (hI18.lendRd [] 0 rfl rfl) hz21).mono ?_
    rintro _ w22 ⟨rfl, e23⟩
    refine ⟨_, rfl, ?_⟩
    have hI24 := hI18.ext e23
    refine Reg.take rfl rfl ?_
    refine s_not rfl rfl ?_
    refine s_pkF rfl rfl rfl ?_
    refine s_mv rfl rfl ?_
    refine Reg.gsplit (t := 24) rfl (fun hg25 => ?_) (fun hg25 => ?_)
    ·replace h8 := cdT hg25 h8
     refine Reg.pass rfl rfl rfl rfl ?_
     refine Reg.pass rfl rfl rfl rfl ?_
     refine Reg.pass rfl rfl rfl rfl ?_
     refine Reg.pass rfl rfl rfl rfl ?_
     refine s_pkT rfl rfl rfl ?_
     refine s_mv rfl rfl ?_
     refine Reg.pass rfl rfl rfl rfl ?_
     refine Reg.pass rfl rfl rfl rfl ?_
     refine Reg.pass rfl rfl rfl rfl ?_
     refine Reg.pass rfl rfl rfl rfl ?_
     refine s_pkT rfl rfl rfl ?_
     refine Reg.nil ?_
     obtain rfl := Option.some.inj h8
     refine ⟨rfl, true, ⟨(hI24.sel [] rfl), ((x19.trans (Adv.of_ext e23)).trans (Hp.selA (σ := [ownR [] (intE .i64) 3 v16 ([s.none_] : List Int)]) [])), rfl⟩, Sub.cons rfl (Sub.cons rfl (Sub.nil _))⟩
    ·replace h8 := cdF hg25 h8
     refine Reg.take rfl rfl ?_
     refine s_fa rfl Try.underlying56 rfl Try.sizeOf26 rfl ?_
     refine Reg.take rfl rfl ?_
     refine s_ld rfl ((hC6.adv (x19.trans (Adv.of_ext e23))).cells.at 1 rfl) Try.isAgg26 rfl ?_
     refine Reg.take rfl rfl ?_
     obtain ⟨z26, hz27, h8⟩ := bnd h8
     refine s_call rfl Try.call53 rfl ?_
     refine (C_score_counts hI24.mlt (f_s_1.adv hI24.adv) hz27).mono ?_
     rintro _ w28 ⟨rfl, e29⟩
     refine ⟨_, rfl, ?_⟩
     have hI30 := hI24.ext e29
     refine Reg.take rfl rfl ?_
     refine s_not rfl rfl ?_
     refine s_pkF rfl rfl rfl ?_
     refine s_mv rfl rfl ?_
     refine Reg.gsplit (t := 30) rfl (fun hg31 => ?_) (fun hg31 => ?_)
     ·replace h8 := cdT hg31 h8
      refine Reg.pass rfl rfl rfl rfl ?_
      refine Reg.pass rfl rfl rfl rfl ?_
      refine Reg.pass rfl rfl rfl rfl ?_
      refine Reg.pass rfl rfl rfl rfl ?_
      refine s_pkT rfl rfl rfl ?_
      refine Reg.nil ?_
      obtain rfl := Option.some.inj h8
      refine ⟨rfl, true, ⟨(hI30.sel [] rfl), ((x19.trans ((Adv.of_ext e23).trans (Adv.of_ext e29))).trans (Hp.selA (σ := [ownR [] (intE .i64) 3 v16 ([s.none_] : List Int)]) [])), rfl⟩, Sub.cons rfl (Sub.cons rfl (Sub.nil _))⟩
     ·replace h8 := cdF hg31 h8
      refine Reg.take rfl rfl ?_
      refine s_fa rfl Try.underlying56 rfl Try.sizeOf26 rfl ?_
      refine Reg.take rfl rfl ?_
      refine s_ld rfl ((hC6.adv (x19.trans ((Adv.of_ext e23).trans (Adv.of_ext e29)))).cells.at 0 rfl) Try.isAgg26 rfl ?_
      refine Reg.take rfl rfl ?_
      obtain ⟨z32, hz33, h8⟩ := bnd h8
      refine s_call rfl Try.call43 rfl ?_
      refine (C_score_within hI30.mlt (by decide) (by decide) (f_s_0.adv hI30.adv) hz33).mono ?_
      rintro _ w34 ⟨rfl, e35⟩
      refine ⟨_, rfl, ?_⟩
      have hI36 := hI30.ext e35
      refine Reg.take rfl rfl ?_
      refine s_not rfl rfl ?_
      refine s_pkF rfl rfl rfl ?_
      refine Reg.nil ?_
      obtain rfl := Option.some.inj h8
      refine ⟨rfl, !z32, ⟨(hI36.sel [] rfl), ((x19.trans ((Adv.of_ext e23).trans ((Adv.of_ext e29).trans (Adv.of_ext e35)))).trans (Hp.selA (σ := [ownR [] (intE .i64) 3 v16 ([s.none_] : List Int)]) [])), rfl⟩, Sub.cons rfl (Sub.cons rfl (Sub.nil _))⟩
 ·skip
  rintro x9 w10 ⟨hI11, hA12, rfl⟩
  refine cw_cond rfl (fun hc37 => ?_) (fun hc37 => ?_)
  ·replace h := cdT hc37 h
   refine cw_seq (cw_regF ?_)
   refine s_as rfl rfl ?_
   refine Reg.nil ?_
   refine cw_ret ?_
   obtain rfl := Option.some.inj h
   refine fin1 Try.results132 rfl ?_
   exact ⟨rfl, hI11.kp⟩
  ·replace h := cdF hc37 h
   refine cw_skip ?_
   obtain ⟨j38, h39, h⟩ := bnd h
   refine cw_sub (L := [(1, _)]) (Sub.cons rfl (Sub.nil _)) ?_
   refine cw_seqD 1 (ι := Bool) (fun x40 => [(2, Value.bool x40)]) (fun x40 => fun w41 => Hp w [] M [] w41 ∧ Adv (mm [] M) (mm [] M) w10 w41 ∧ x40 = j38) ?_ ?_
   ·skip
    refine cw_regSea [0, 1, 2, 3, 4, 5] [6, 7, 8, 9, 10, 11, 12, 13, 14] [] [7] [[7, 3, 2, 1, 0], [7, 6, 5, 4]] [] fol (by kernel_rfl) rfl (by kernel_rfl) rfl rfl ?_
    refine s_fa rfl Try.underlying56 rfl Try.sizeOf26 rfl ?_
    refine s_ld rfl ((hC6.adv hA12).cells.at 0 rfl) Try.isAgg26 rfl ?_
    obtain ⟨z44, hz45, h39⟩ := bnd h39
    refine s_callq rfl rfl Try.call135 rfl (fun w46 e47 => (C_slices_IsSorted_135 (hI11.mlt.ext e47) ((f_s_0.adv hI11.adv).adv (Adv.of_ext e47)) hz45).mono (fun _ _ hq => ⟨hq.1, hq.2⟩)) ?_
    refine s_mv rfl rfl ?_
    refine Reg.gsplit (t := 39) rfl (fun hg48 => ?_) (fun hg48 => ?_)
    ·replace h39 := cdT hg48 h39
     refine Reg.take rfl rfl ?_
     refine s_fa rfl Try.underlying56 rfl Try.sizeOf26 rfl ?_
     refine Reg.take rfl rfl ?_
     refine s_ld rfl ((hC6.adv hA12).cells.at 0 rfl) Try.isAgg26 rfl ?_
     refine Reg.nilX ⟨rfl, rfl, rfl, ?_⟩
     intro w49 e50
     have hI51 := (Hp.start (Mu := []) hI11.mlt).ext e50
     refine SeaWalk.step [6, 9] (by kernel_rfl) (AllL.cons ?_ (AllL.cons ?_ (AllL.nil)))
     ·skip
      refine ⟨_, [], rfl, RSub.nil, rfl, nodupB_spec rfl, ?_⟩
      simp only [relOut]
      refine Reg.take rfl rfl ?_
      obtain ⟨z52, hz53, h39⟩ := bnd h39
      refine s_call rfl Try.call58 rfl ?_
      refine (C_slices_Clone_58 hI51.mlt (f_s_0.adv (hI11.adv.trans (Adv.of_ext e50))) hz53).mono ?_
      rintro _ w54 ⟨v56, rfl, hf57, e55⟩
      refine ⟨_, rfl, ?_⟩
      have hI58 := hI51.addOwn e55 hf57
      refine Reg.nil ⟨rfl, .inr hI58.kp, rfl, ?_⟩
      intro w59 e60
      have hI61 := hI58.ext e60
      refine SeaWalk.step [7, 9] (by kernel_rfl) (AllL.cons ?_ (AllL.cons ?_ (AllL.nil)))
      ·skip
       refine ⟨_, [], rfl, RSub.nil, rfl, nodupB_spec rfl, ?_⟩
       simp only [relOut]
       have hI62 := hI11.join hI61
       refine Reg.take rfl rfl ?_
       obtain ⟨z63, hz64, h39⟩ := bnd h39
       refine s_call rfl Try.call78 rfl ?_
       refine (C_slices_Compact_78 (hI62.erase 0).mlt (hI62.apart 0 rfl) (hI62.lendOwn 0 rfl) hz64).mono ?_
       rintro _ w65 ⟨v67, rfl, hf68⟩
       refine ⟨_, rfl, ?_⟩
       have hI69 := hI62.took 0 rfl hf68
       refine Reg.nil ⟨rfl, .inl rfl, rfl, ?_⟩
       intro w70 e71
       have hI72 := hI69.ext e71
       refine SeaWalk.step [8, 9] (by kernel_rfl) (AllL.cons ?_ (AllL.cons ?_ (AllL.nil)))
       ·skip
        refine ⟨_, [], rfl, RSub.nil, rfl, nodupB_spec rfl, ?_⟩
        simp only [relOut]
        refine Reg.take rfl rfl ?_
        refine s_lenO rfl (hI72.ownAt 0 rfl) Try.underlying26 rfl ?_
        refine Reg.nil ⟨rfl, .inl rfl, rfl, ?_⟩
        intro w73 e74
        have hI75 := hI72.ext e74
        refine SeaWalk.step [9] (by kernel_rfl) (AllL.cons ?_ (AllL.nil))
        refine ⟨_, [], rfl, RSub.nil, rfl, nodupB_spec rfl, ?_⟩
        simp only [relOut]
        refine Reg.take rfl rfl ?_
        refine s_fa rfl Try.underlying56 rfl Try.sizeOf26 rfl ?_
        refine Reg.nil ⟨rfl, .inl rfl, rfl, ?_⟩
        intro w76 e77
        have hI78 := hI75.ext e77
        refine SeaWalk.step [10] (by kernel_rfl) (AllL.cons ?_ (AllL.nil))
        refine ⟨_, [], rfl, RSub.nil, rfl, nodupB_spec rfl, ?_⟩
        simp only [relOut]
        refine Reg.take rfl rfl ?_
        refine s_ld rfl ((hC6.adv (hA12.trans ((Adv.of_ext e50).trans ((hI51.addOwnA e55 hf57).trans ((Adv.of_ext e60).trans ((hI62.tookA 0 rfl hf68).trans ((Adv.of_ext e71).trans ((Adv.of_ext e74).trans (Adv.of_ext e77))))))))).cells.at 0 rfl) Try.isAgg26 rfl ?_
        refine Reg.nil ⟨rfl, .inl rfl, rfl, ?_⟩
        intro w79 e80
        have hI81 := hI78.ext e80
        refine SeaWalk.step [11] (by kernel_rfl) (AllL.cons ?_ (AllL.nil))
        refine ⟨_, [], rfl, RSub.nil, rfl, nodupB_spec rfl, ?_⟩
        simp only [relOut]
        refine Reg.take rfl rfl ?_
        refine s_len rfl (f_s_0.adv hI81.adv) Try.underlying26 rfl ?_
        refine Reg.nil ⟨rfl, .inl rfl, rfl, ?_⟩
        intro w82 e83
        have hI84 := hI81.ext e83
        refine SeaWalk.step [12] (by kernel_rfl) (AllL.cons ?_ (AllL.nil))
        refine ⟨_, [], rfl, RSub.nil, rfl, nodupB_spec rfl, ?_⟩
        simp only [relOut]
        refine Reg.take rfl rfl ?_
        refine s_eql rfl rfl rfl ?_
        refine Reg.nil ⟨rfl, .inl rfl, rfl, ?_⟩
        intro w85 e86
        have hI87 := hI84.ext e86
        refine SeaWalk.step [13] (by kernel_rfl) (AllL.cons ?_ (AllL.nil))
        refine ⟨_, [], rfl, RSub.nil, rfl, nodupB_spec rfl, ?_⟩
        simp only [relOut]
        refine s_pkT rfl rfl rfl ?_
        refine Reg.nil ⟨rfl, .inl rfl, rfl, ?_⟩
        intro w88 e89
        have hI90 := hI87.ext e89
        refine SeaWalk.step [14] (by kernel_rfl) (AllL.cons ?_ (AllL.nil))
        refine ⟨_, [], rfl, RSub.nil, rfl, nodupB_spec rfl, ?_⟩
        simp only [relOut]
        refine s_as rfl rfl ?_
        refine Reg.nil ⟨rfl, .inl rfl, rfl, ?_⟩
        intro w91 e92
        have hI93 := hI90.ext e92
        refine SeaWalk.done ?_
        obtain rfl := Option.some.inj h39
        refine ⟨rfl, decide ((z63.length : Int) = (s.cuts.length : Int)), ⟨(hI93.sel [] rfl), (((Adv.of_ext e50).trans ((hI51.addOwnA e55 hf57).trans ((Adv.of_ext e60).trans ((hI62.tookA 0 rfl hf68).trans ((Adv.of_ext e71).trans ((Adv.of_ext e74).trans ((Adv.of_ext e77).trans ((Adv.of_ext e80).trans ((Adv.of_ext e83).trans ((Adv.of_ext e86).trans ((Adv.of_ext e89).trans (Adv.of_ext e92)))))))))))).trans (Hp.selA (σ := [ownR [] (intE .i64) 3 v67 z63]) [])), rfl⟩, Sub.cons rfl (Sub.nil _)⟩
       ·skip
        refine ⟨_, [], rfl, RSub.nil, rfl, nodupB_spec rfl, ?_⟩
        simp only [relOut]
        refine Reg.take rfl rfl ?_
        refine s_fa rfl Try.underlying56 rfl Try.sizeOf26 rfl ?_
        refine Reg.nil ⟨rfl, .inl rfl, rfl, ?_⟩
        intro w94 e95
        have hI96 := hI72.ext e95
        refine SeaWalk.step [8, 10] (by kernel_rfl) (AllL.cons ?_ (AllL.cons ?_ (AllL.nil)))
        ·skip
         refine ⟨_, [], rfl, RSub.nil, rfl, nodupB_spec rfl, ?_⟩
         simp only [relOut]
         refine Reg.take rfl rfl ?_
         refine s_lenO rfl (hI96.ownAt 0 rfl) Try.underlying26 rfl ?_
         refine Reg.nil ⟨rfl, .inl rfl, rfl, ?_⟩
         intro w97 e98
         have hI99 := hI96.ext e98
         refine SeaWalk.step [10] (by kernel_rfl) (AllL.cons ?_ (AllL.nil))
         refine ⟨_, [], rfl, RSub.nil, rfl, nodupB_spec rfl, ?_⟩
         simp only [relOut]
         refine Reg.take rfl rfl ?_
         refine s_ld rfl ((hC6.adv (hA12.trans ((Adv.of_ext e50).trans ((hI51.addOwnA e55 hf57).trans ((Adv.of_ext e60).trans ((hI62.tookA 0 rfl hf68).trans ((Adv.of_ext e71).trans ((Adv.of_ext e95).trans (Adv.of_ext e98))))))))).cells.at 0 rfl) Try.isAgg26 rfl ?_
         refine Reg.nil ⟨rfl, .inl rfl, rfl, ?_⟩
         intro w100 e101
         have hI102 := hI99.ext e101
         refine SeaWalk.step [11] (by kernel_rfl) (AllL.cons ?_ (AllL.nil))
         refine ⟨_, [], rfl, RSub.nil, rfl, nodupB_spec rfl, ?_⟩
         simp only [relOut]
         refine Reg.take rfl rfl ?_
         refine s_len rfl (f_s_0.adv hI102.adv) Try.underlying26 rfl ?_
         refine Reg.nil ⟨rfl, .inl rfl, rfl, ?_⟩
         intro w103 e104
         have hI105 := hI102.ext e104
         refine SeaWalk.step [12] (by kernel_rfl) (AllL.cons ?_ (AllL.nil))
         refine ⟨_, [], rfl, RSub.nil, rfl, nodupB_spec rfl, ?_⟩
         simp only [relOut]
         refine Reg.take rfl rfl ?_
         refine s_eql rfl rfl rfl ?_
         refine Reg.nil ⟨rfl, .inl rfl, rfl, ?_⟩
         intro w106 e107
         have hI108 := hI105.ext e107
         refine SeaWalk.step [13] (by kernel_rfl) (AllL.cons ?_ (AllL.nil))
         refine ⟨_, [], rfl, RSub.nil, rfl, nodupB_spec rfl, ?_⟩
         simp only [relOut]
         refine s_pkT rfl rfl rfl ?_
         refine Reg.nil ⟨rfl, .inl rfl, rfl, ?_⟩
         intro w109 e110
         have hI111 := hI108.ext e110
         refine SeaWalk.step [14] (by kernel_rfl) (AllL.cons ?_ (AllL.nil))
         refine ⟨_, [], rfl, RSub.nil, rfl, nodupB_spec rfl, ?_⟩
         simp only [relOut]
         refine s_as rfl rfl ?_
         refine Reg.nil ⟨rfl, .inl rfl, rfl, ?_⟩
         intro w112 e113
         have hI114 := hI111.ext e113
         refine SeaWalk.done ?_
         obtain rfl := Option.some.inj h39
         refine ⟨rfl, decide ((z63.length : Int) = (s.cuts.length : Int)), ⟨(hI114.sel [] rfl), (((Adv.of_ext e50).trans ((hI51.addOwnA e55 hf57).trans ((Adv.of_ext e60).trans ((hI62.tookA 0 rfl hf68).trans ((Adv.of_ext e71).trans ((Adv.of_ext e95).trans ((Adv.of_ext e98).trans ((Adv.of_ext e101).trans ((Adv.of_ext e104).trans ((Adv.of_ext e107).trans ((Adv.of_ext e110).trans (Adv.of_ext e113)))))))))))).trans (Hp.selA (σ := [ownR [] (intE .i64) 3 v67 z63]) [])), rfl⟩, Sub.cons rfl (Sub.nil _)⟩
        ·skip
         refine ⟨_, [], rfl, RSub.nil, rfl, nodupB_spec rfl, ?_⟩
         simp only [relOut]
         refine Reg.take rfl rfl ?_
         refine s_ld rfl ((hC6.adv (hA12.trans ((Adv.of_ext e50).trans ((hI51.addOwnA e55 hf57).trans ((Adv.of_ext e60).trans ((hI62.tookA 0 rfl hf68).trans ((Adv.of_ext e71).trans (Adv.of_ext e95)))))))).cells.at 0 rfl) Try.isAgg26 rfl ?_
         refine Reg.nil ⟨rfl, .inl rfl, rfl, ?_⟩
         intro w115 e116
         have hI117 := hI96.ext e116
         refine SeaWalk.step [8, 11] (by kernel_rfl) (AllL.cons ?_ (AllL.cons ?_ (AllL.nil)))
         ·skip
          refine ⟨_, [], rfl, RSub.nil, rfl, nodupB_spec rfl, ?_⟩
          simp only [relOut]
          refine Reg.take rfl rfl ?_
          refine s_lenO rfl (hI117.ownAt 0 rfl) Try.underlying26 rfl ?_
          refine Reg.nil ⟨rfl, .inl rfl, rfl, ?_⟩
          intro w118 e119
          have hI120 := hI117.ext e119
          refine SeaWalk.step [11] (by kernel_rfl) (AllL.cons ?_ (AllL.nil))
          refine ⟨_, [], rfl, RSub.nil, rfl, nodupB_spec rfl, ?_⟩
          simp only [relOut]
          refine Reg.take rfl rfl ?_
          refine s_len rfl (f_s_0.adv hI120.adv) Try.underlying26 rfl ?_
          refine Reg.nil ⟨rfl, .inl rfl, rfl, ?_⟩
          intro w121 e122
          have hI123 := hI120.ext e122
          refine SeaWalk.step [12] (by kernel_rfl) (AllL.cons ?_ (AllL.nil))
          refine ⟨_, [], rfl, RSub.nil, rfl, nodupB_spec rfl, ?_⟩
          simp only [relOut]
          refine Reg.take rfl rfl ?_
          refine s_eql rfl rfl rfl ?_
          refine Reg.nil ⟨rfl, .inl rfl, rfl, ?_⟩
          intro w124 e125
          have hI126 := hI123.ext e125
          refine SeaWalk.step [13] (by kernel_rfl) (AllL.cons ?_ (AllL.nil))
          refine ⟨_, [], rfl, RSub.nil, rfl, nodupB_spec rfl, ?_⟩
          simp only [relOut]
          refine s_pkT rfl rfl rfl ?_
          refine Reg.nil ⟨rfl, .inl rfl, rfl, ?_⟩
          intro w127 e128
          have hI129 := hI126.ext e128
          refine SeaWalk.step [14] (by kernel_rfl) (AllL.cons ?_ (AllL.nil))
          refine ⟨_, [], rfl, RSub.nil, rfl, nodupB_spec rfl, ?_⟩
          simp only [relOut]
          refine s_as rfl rfl ?_
          refine Reg.nil ⟨rfl, .inl rfl, rfl, ?_⟩
          intro w130 e131
          have hI132 := hI129.ext e131
          refine SeaWalk.done ?_
          obtain rfl := Option.some.inj h39
          refine ⟨rfl, decide ((z63.length : Int) = (s.cuts.length : Int)), ⟨(hI132.sel [] rfl), (((Adv.of_ext e50).trans ((hI51.addOwnA e55 hf57).trans ((Adv.of_ext e60).trans ((hI62.tookA 0 rfl hf68).trans ((Adv.of_ext e71).trans ((Adv.of_ext e95).trans ((Adv.of_ext e116).trans ((Adv.of_ext e119).trans ((Adv.of_ext e122).trans ((Adv.of_ext e125).trans ((Adv.of_ext e128).trans (Adv.of_ext e131)))))))))))).trans (Hp.selA (σ := [ownR [] (intE .i64) 3 v67 z63]) [])), rfl⟩, Sub.cons rfl (Sub.nil _)⟩
         ·skip
          refine ⟨_, [], rfl, RSub.nil, rfl, nodupB_spec rfl, ?_⟩
          simp only [relOut]
          refine Reg.take rfl rfl ?_
          refine s_len rfl (f_s_0.adv hI117.adv) Try.underlying26 rfl ?_
          refine Reg.nil ⟨rfl, .inl rfl, rfl, ?_⟩
          intro w133 e134
          have hI135 := hI117.ext e134
          refine SeaWalk.step [8] (by kernel_rfl) (AllL.cons ?_ (AllL.nil))
          refine ⟨_, [], rfl, RSub.nil, rfl, nodupB_spec rfl, ?_⟩
          simp only [relOut]
          refine Reg.take rfl rfl ?_
          refine s_lenO rfl (hI135.ownAt 0 rfl) Try.underlying26 rfl ?_
          refine Reg.nil ⟨rfl, .inl rfl, rfl, ?_⟩
          intro w136 e137
          have hI138 := hI135.ext e137
          refine SeaWalk.step [12] (by kernel_rfl) (AllL.cons ?_ (AllL.nil))
          refine ⟨_, [], rfl, RSub.nil, rfl, nodupB_spec rfl, ?_⟩
          simp only [relOut]
          refine Reg.take rfl rfl ?_
          refine s_eql rfl rfl rfl ?_
          refine Reg.nil ⟨rfl, .inl rfl, rfl, ?_⟩
          intro w139 e140
          have hI141 := hI138.ext e140
          refine SeaWalk.step [13] (by kernel_rfl) (AllL.cons ?_ (AllL.nil))
          refine ⟨_, [], rfl, RSub.nil, rfl, nodupB_spec rfl, ?_⟩
          simp only [relOut]
          refine s_pkT rfl rfl rfl ?_
          refine Reg.nil ⟨rfl, .inl rfl, rfl, ?_⟩
          intro w142 e143
          have hI144 := hI141.ext e143
          refine SeaWalk.step [14] (by kernel_rfl) (AllL.cons ?_ (AllL.nil))
          refine ⟨_, [], rfl, RSub.nil, rfl, nodupB_spec rfl, ?_⟩
          simp only [relOut]
          refine s_as rfl rfl ?_
          refine Reg.nil ⟨rfl, .inl rfl, rfl, ?_⟩
          intro w145 e146
          have hI147 := hI144.ext e146
          refine SeaWalk.done ?_
          obtain rfl := Option.some.inj h39
          refine ⟨rfl, decide ((z63.length : Int) = (s.cuts.length : Int)), ⟨(hI147.sel [] rfl), (((Adv.of_ext e50).trans ((hI51.addOwnA e55 hf57).trans ((Adv.of_ext e60).trans ((hI62.tookA 0 rfl hf68).trans ((Adv.of_ext e71).trans ((Adv.of_ext e95).trans ((Adv.of_ext e116).trans ((Adv.of_ext e134).trans ((Adv.of_ext e137).trans ((Adv.of_ext e140).trans ((Adv.of_ext e143).trans (Adv.of_ext e146)))))))))))).trans (Hp.selA (σ := [ownR [] (intE .i64) 3 v67 z63]) [])), rfl⟩, Sub.cons rfl (Sub.nil _)⟩
      ·skip
       refine ⟨_, [], rfl, RSub.nil, rfl, nodupB_spec rfl, ?_⟩
       simp only [relOut]
       refine Reg.take rfl rfl ?_
       refine s_fa rfl Try.underlying56 rfl Try.sizeOf26 rfl ?_
       refine Reg.nil ⟨rfl, .inr hI61.kp, rfl, ?_⟩
       intro w148 e149
       have hI150 := hI61.ext e149
       refine SeaWalk.step [7, 10] (by kernel_rfl) (AllL.cons ?_ (AllL.cons ?_ (AllL.nil)))
       ·skip
        refine ⟨_, [], rfl, RSub.nil, rfl, nodupB_spec rfl, ?_⟩
        simp only [relOut]
        have hI151 := hI11.join hI150
        refine Reg.take rfl rfl ?_
        obtain ⟨z152, hz153, h39⟩ := bnd h39
        refine s_call rfl Try.call78 rfl ?_
        refine (C_slices_Compact_78 (hI151.erase 0).mlt (hI151.apart 0 rfl) (hI151.lendOwn 0 rfl) hz153).mono ?_
        rintro _ w154 ⟨v156, rfl, hf157⟩
        refine ⟨_, rfl, ?_⟩
        have hI158 := hI151.took 0 rfl hf157
        refine Reg.nil ⟨rfl, .inl rfl, rfl, ?_⟩
        intro w159 e160
        have hI161 := hI158.ext e160
        refine SeaWalk.step [8, 10] (by kernel_rfl) (AllL.cons ?_ (AllL.cons ?_ (AllL.nil)))
        ·skip
         refine ⟨_, [], rfl, RSub.nil, rfl, nodupB_spec rfl, ?_⟩
         simp only [relOut]
         refine Reg.take rfl rfl ?_
         refine s_lenO rfl (hI161.ownAt 0 rfl) Try.underlying26 rfl ?_
         refine Reg.nil ⟨rfl, .inl rfl, rfl, ?_⟩
         intro w162 e163
         have hI164 := hI161.ext e163
         refine SeaWalk.step [10] (by kernel_rfl) (AllL.cons ?_ (AllL.nil))
         refine ⟨_, [], rfl, RSub.nil, rfl, nodupB_spec rfl, ?_⟩
         simp only [relOut]
         refine Reg.take rfl rfl ?_
         refine s_ld rfl ((hC6.adv (hA12.trans ((Adv.of_ext e50).trans ((hI51.addOwnA e55 hf57).trans ((Adv.of_ext e60).trans ((Adv.of_ext e149).trans ((hI151.tookA 0 rfl hf157).trans ((Adv.of_ext e160).trans (Adv.of_ext e163))))))))).cells.at 0 rfl) Try.isAgg26 rfl ?_
         refine Reg.nil ⟨rfl, .inl rfl, rfl, ?_⟩
         intro w165 e166
         have hI167 := hI164.ext e166
         refine SeaWalk.step [11] (by kernel_rfl) (AllL.cons ?_ (AllL.nil))
         refine ⟨_, [], rfl, RSub.nil, rfl, nodupB_spec rfl, ?_⟩
         simp only [relOut]
         refine Reg.take rfl rfl ?_
         refine s_len rfl (f_s_0.adv hI167.adv) Try.underlying26 rfl ?_
         refine Reg.nil ⟨rfl, .inl rfl, rfl, ?_⟩
         intro w168 e169
         have hI170 := hI167.ext e169
         refine SeaWalk.step [12] (by kernel_rfl) (AllL.cons ?_ (AllL.nil))
         refine ⟨_, [], rfl, RSub.nil, rfl, nodupB_spec rfl, ?_⟩
         simp only [relOut]
         refine Reg.take rfl rfl ?_
         refine s_eql rfl rfl rfl ?_
         refine Reg.nil ⟨rfl, .inl rfl, rfl, ?_⟩
         intro w171 e172
         have hI173 := hI170.ext e172
         refine SeaWalk.step [13] (by kernel_rfl) (AllL.cons ?_ (AllL.nil))
         refine ⟨_, [], rfl, RSub.nil, rfl, nodupB_spec rfl, ?_⟩
         simp only [relOut]
         refine s_pkT rfl rfl rfl ?_
         refine Reg.nil ⟨rfl, .inl rfl, rfl, ?_⟩
         intro w174 e175
         have hI176 := hI173.ext e175
         refine SeaWalk.step [14] (by kernel_rfl) (AllL.cons ?_ (AllL.nil))
         refine ⟨_, [], rfl, RSub.nil, rfl, nodupB_spec rfl, ?_⟩
         simp only [relOut]
         refine s_as rfl rfl ?_
         refine Reg.nil ⟨rfl, .inl rfl, rfl, ?_⟩
         intro w177 e178
         have hI179 := hI176.ext e178
         refine SeaWalk.done ?_
         obtain rfl := Option.some.inj h39
         refine ⟨rfl, decide ((z152.length : Int) = (s.cuts.length : Int)), ⟨(hI179.sel [] rfl), (((Adv.of_ext e50).trans ((hI51.addOwnA e55 hf57).trans ((Adv.of_ext e60).trans ((Adv.of_ext e149).trans ((hI151.tookA 0 rfl hf157).trans ((Adv.of_ext e160).trans ((Adv.of_ext e163).trans ((Adv.of_ext e166).trans ((Adv.of_ext e169).trans ((Adv.of_ext e172).trans ((Adv.of_ext e175).trans (Adv.of_ext e178)))))))))))).trans (Hp.selA (σ := [ownR [] (intE .i64) 3 v156 z152]) [])), rfl⟩, Sub.cons rfl (Sub.nil _)⟩
        ·skip
         refine ⟨_, [], rfl, RSub.nil, rfl, nodupB_spec rfl, ?_⟩
         simp only [relOut]
         refine Reg.take rfl rfl ?_
         refine s_ld rfl ((hC6.adv (hA12.trans ((Adv.of_ext e50).trans ((hI51.addOwnA e55 hf57).trans ((Adv.of_ext e60).trans ((Adv.of_ext e149).trans ((hI151.tookA 0 rfl hf157).trans (Adv.of_ext e160)))))))).cells.at 0 rfl) Try.isAgg26 rfl ?_
         refine Reg.nil ⟨rfl, .inl rfl, rfl, ?_⟩
         intro w180 e181
         have hI182 := hI161.ext e181
         refine SeaWalk.step [8, 11] (by kernel_rfl) (AllL.cons ?_ (AllL.cons ?_ (AllL.nil)))
         ·skip
          refine ⟨_, [], rfl, RSub.nil, rfl, nodupB_spec rfl, ?_⟩
          simp only [relOut]
          refine Reg.take rfl rfl ?_
          refine s_lenO rfl (hI182.ownAt 0 rfl) Try.underlying26 rfl ?_
          refine Reg.nil ⟨rfl, .inl rfl, rfl, ?_⟩
          intro w183 e184
          have hI185 := hI182.ext e184
          refine SeaWalk.step [11] (by kernel_rfl) (AllL.cons ?_ (AllL.nil))
          refine ⟨_, [], rfl, RSub.nil, rfl, nodupB_spec rfl, ?_⟩
          simp only [relOut]
          refine Reg.take rfl rfl ?_
          refine s_len rfl (f_s_0.adv hI185.adv) Try.underlying26 rfl ?_
          refine Reg.nil ⟨rfl, .inl rfl, rfl, ?_⟩
          intro w186 e187
          have hI188 := hI185.ext e187
          refine SeaWalk.step [12] (by kernel_rfl) (AllL.cons ?_ (AllL.nil))
          refine ⟨_, [], rfl, RSub.nil, rfl, nodupB_spec rfl, ?_⟩
          simp only [relOut]
          refine Reg.take rfl rfl ?_
          refine s_eql rfl rfl rfl ?_
          refine Reg.nil ⟨rfl, .inl rfl, rfl, ?_⟩
          intro w189 e190
          have hI191 := hI188.ext e190
          refine SeaWalk.step [13] (by kernel_rfl) (AllL.cons ?_ (AllL.nil))
          refine ⟨_, [], rfl, RSub.nil, rfl, nodupB_spec rfl, ?_⟩
          simp only [relOut]
          refine s_pkT rfl rfl rfl ?_
          refine Reg.nil ⟨rfl, .inl rfl, rfl, ?_⟩
          intro w192 e193
          have hI194 := hI191.ext e193
          refine SeaWalk.step [14] (by kernel_rfl) (AllL.cons ?_ (AllL.nil))
          refine ⟨_, [], rfl, RSub.nil, rfl, nodupB_spec rfl, ?_⟩
          simp only [relOut]
          refine s_as rfl rfl ?_
          refine Reg.nil ⟨rfl, .inl rfl, rfl, ?_⟩
          intro w195 e196
          have hI197 := hI194.ext e196
          refine SeaWalk.done ?_
          obtain rfl := Option.some.inj h39
          refine ⟨rfl, decide ((z152.length : Int) = (s.cuts.length : Int)), ⟨(hI197.sel [] rfl), (((Adv.of_ext e50).trans ((hI51.addOwnA e55 hf57).trans ((Adv.of_ext e60).trans ((Adv.of_ext e149).trans ((hI151.tookA 0 rfl hf157).trans ((Adv.of_ext e160).trans ((Adv.of_ext e181).trans ((Adv.of_ext e184).trans ((Adv.of_ext e187).trans ((Adv.of_ext e190).trans ((Adv.of_ext e193).trans (Adv.of_ext e196)))))))))))).trans (Hp.selA (σ := [ownR [] (intE .i64) 3 v156 z152]) [])), rfl⟩, Sub.cons rfl (Sub.nil _)⟩
         ·skip
          refine ⟨_, [], rfl, RSub.nil, rfl, nodupB_spec rfl, ?_⟩
          simp only [relOut]
          refine Reg.take rfl rfl ?_
          refine s_len rfl (f_s_0.adv hI182.adv) Try.underlying26 rfl ?_
          refine Reg.nil ⟨rfl, .inl rfl, rfl, ?_⟩
          intro w198 e199
          have hI200 := hI182.ext e199
          refine SeaWalk.step [8] (by kernel_rfl) (AllL.cons ?_ (AllL.nil))
          refine ⟨_, [], rfl, RSub.nil, rfl, nodupB_spec rfl, ?_⟩
          simp only [relOut]
          refine Reg.take rfl rfl ?_
          refine s_lenO rfl (hI200.ownAt 0 rfl) Try.underlying26 rfl ?_
          refine Reg.nil ⟨rfl, .inl rfl, rfl, ?_⟩
          intro w201 e202
          have hI203 := hI200.ext e202
          refine SeaWalk.step [12] (by kernel_rfl) (AllL.cons ?_ (AllL.nil))
          refine ⟨_, [], rfl, RSub.nil, rfl, nodupB_spec rfl, ?_⟩
          simp only [relOut]
          refine Reg.take rfl rfl ?_
          refine s_eql rfl rfl rfl ?_
          refine Reg.nil ⟨rfl, .inl rfl, rfl, ?_⟩
          intro w204 e205
          have hI206 := hI203.ext e205
          refine SeaWalk.step [13] (by kernel_rfl) (AllL.cons ?_ (AllL.nil))
          refine ⟨_, [], rfl, RSub.nil, rfl, nodupB_spec rfl, ?_⟩
          simp only [relOut]
          refine s_pkT rfl rfl rfl ?_
          refine Reg.nil ⟨rfl, .inl rfl, rfl, ?_⟩
          intro w207 e208
          have hI209 := hI206.ext e208
          refine SeaWalk.step [14] (by kernel_rfl) (AllL.cons ?_ (AllL.nil))
          refine ⟨_, [], rfl, RSub.nil, rfl, nodupB_spec rfl, ?_⟩
          simp only [relOut]
          refine s_as rfl rfl ?_
          refine Reg.nil ⟨rfl, .inl rfl, rfl, ?_⟩
          intro w210 e211
          have hI212 := hI209.ext e211
          refine SeaWalk.done ?_
          obtain rfl := Option.some.inj h39
          refine ⟨rfl, decide ((z152.length : Int) = (s.cuts.length : Int)), ⟨(hI212.sel [] rfl), (((Adv.of_ext e50).trans ((hI51.addOwnA e55 hf57).trans ((Adv.of_ext e60).trans ((Adv.of_ext e149).trans ((hI151.tookA 0 rfl hf157).trans ((Adv.of_ext e160).trans ((Adv.of_ext e181).trans ((Adv.of_ext e199).trans ((Adv.of_ext e202).trans ((Adv.of_ext e205).trans ((Adv.of_ext e208).trans (Adv.of_ext e211)))))))))))).trans (Hp.selA (σ := [ownR [] (intE .i64) 3 v156 z152]) [])), rfl⟩, Sub.cons rfl (Sub.nil _)⟩
       ·skip
        refine ⟨_, [], rfl, RSub.nil, rfl, nodupB_spec rfl, ?_⟩
        simp only [relOut]
        refine Reg.take rfl rfl ?_
        refine s_ld rfl ((hC6.adv (hA12.trans ((Adv.of_ext e50).trans ((hI51.addOwnA e55 hf57).trans ((Adv.of_ext e60).trans (Adv.of_ext e149)))))).cells.at 0 rfl) Try.isAgg26 rfl ?_
        refine Reg.nil ⟨rfl, .inr hI150.kp, rfl, ?_⟩
        intro w213 e214
        have hI215 := hI150.ext e214
        refine SeaWalk.step [7, 11] (by kernel_rfl) (AllL.cons ?_ (AllL.cons ?_ (AllL.nil)))
        ·skip
         refine ⟨_, [], rfl, RSub.nil, rfl, nodupB_spec rfl, ?_⟩
         simp only [relOut]
         have hI216 := hI11.join hI215
         refine Reg.take rfl rfl ?_
         obtain ⟨z217, hz218, h39⟩ := bnd h39
         refine s_call rfl Try.call78 rfl ?_
         refine (C_slices_Compact_78 (hI216.erase 0).mlt (hI216.apart 0 rfl) (hI216.lendOwn 0 rfl) hz218).mono ?_
         rintro _ w219 ⟨v221, rfl, hf222⟩
         refine ⟨_, rfl, ?_⟩
         have hI223 := hI216.took 0 rfl hf222
         refine Reg.nil ⟨rfl, .inl rfl, rfl, ?_⟩
         intro w224 e225
         have hI226 := hI223.ext e225
         refine SeaWalk.step [8, 11] (by kernel_rfl) (AllL.cons ?_ (AllL.cons ?_ (AllL.nil)))
         ·skip
          refine ⟨_, [], rfl, RSub.nil, rfl, nodupB_spec rfl, ?_⟩
          simp only [relOut]
          refine Reg.take rfl rfl ?_
          refine s_lenO rfl (hI226.ownAt 0 rfl) Try.underlying26 rfl ?_
          refine Reg.nil ⟨rfl, .inl rfl, rfl, ?_⟩
          intro w227 e228
          have hI229 := hI226.ext e228
          refine SeaWalk.step [11] (by kernel_rfl) (AllL.cons ?_ (AllL.nil))
          refine ⟨_, [], rfl, RSub.nil, rfl, nodupB_spec rfl, ?_⟩
          simp only [relOut]
          refine Reg.take rfl rfl ?_
          refine s_len rfl (f_s_0.adv hI229.adv) Try.underlying26 rfl ?_
          refine Reg.nil ⟨rfl, .inl rfl, rfl, ?_⟩
          intro w230 e231
          have hI232 := hI229.ext e231
          refine SeaWalk.step [12] (by kernel_rfl) (AllL.cons ?_ (AllL.nil))
          refine ⟨_, [], rfl, RSub.nil, rfl, nodupB_spec rfl, ?_⟩
          simp only [relOut]
          refine Reg.take rfl rfl ?_
          refine s_eql rfl rfl rfl ?_
          refine Reg.nil ⟨rfl, .inl rfl, rfl, ?_⟩
          intro w233 e234
          have hI235 := hI232.ext e234
          refine SeaWalk.step [13] (by kernel_rfl) (AllL.cons ?_ (AllL.nil))
          refine ⟨_, [], rfl, RSub.nil, rfl, nodupB_spec rfl, ?_⟩
          simp only [relOut]
          refine s_pkT rfl rfl rfl ?_
          refine Reg.nil ⟨rfl, .inl rfl, rfl, ?_⟩
          intro w236 e237
          have hI238 := hI235.ext e237
          refine SeaWalk.step [14] (by kernel_rfl) (AllL.cons ?_ (AllL.nil))
          refine ⟨_, [], rfl, RSub.nil, rfl, nodupB_spec rfl, ?_⟩
          simp only [relOut]
          refine s_as rfl rfl ?_
          refine Reg.nil ⟨rfl, .inl rfl, rfl, ?_⟩
          intro w239 e240
          have hI241 := hI238.ext e240
          refine SeaWalk.done ?_
          obtain rfl := Option.some.inj h39
          refine ⟨rfl, decide ((z217.length : Int) = (s.cuts.length : Int)), ⟨(hI241.sel [] rfl), (((Adv.of_ext e50).trans ((hI51.addOwnA e55 hf57).trans ((Adv.of_ext e60).trans ((Adv.of_ext e149).trans ((Adv.of_ext e214).trans ((hI216.tookA 0 rfl hf222).trans ((Adv.of_ext e225).trans ((Adv.of_ext e228).trans ((Adv.of_ext e231).trans ((Adv.of_ext e234).trans ((Adv.of_ext e237).trans (Adv.of_ext e240)))))))))))).trans (Hp.selA (σ := [ownR [] (intE .i64) 3 v221 z217]) [])), rfl⟩, Sub.cons rfl (Sub.nil _)⟩
         ·skip
          refine ⟨_, [], rfl, RSub.nil, rfl, nodupB_spec rfl, ?_⟩
          simp only [relOut]
          refine Reg.take rfl rfl ?_
          refine s_len rfl (f_s_0.adv hI226.adv) Try.underlying26 rfl ?_
          refine Reg.nil ⟨rfl, .inl rfl, rfl, ?_⟩
          intro w242 e243
          have hI244 := hI226.ext e243
          refine SeaWalk.step [8] (by kernel_rfl) (AllL.cons ?_ (AllL.nil))
          refine ⟨_, [], rfl, RSub.nil, rfl, nodupB_spec rfl, ?_⟩
          simp only [relOut]
          refine Reg.take rfl rfl ?_
          refine s_lenO rfl (hI244.ownAt 0 rfl) Try.underlying26 rfl ?_
          refine Reg.nil ⟨rfl, .inl rfl, rfl, ?_⟩
          intro w245 e246
          have hI247 := hI244.ext e246
          refine SeaWalk.step [12] (by kernel_rfl) (AllL.cons ?_ (AllL.nil))
          refine ⟨_, [], rfl, RSub.nil, rfl, nodupB_spec rfl, ?_⟩
          simp only [relOut]
          refine Reg.take rfl rfl ?_
          refine s_eql rfl rfl rfl ?_
          refine Reg.nil ⟨rfl, .inl rfl, rfl, ?_⟩
          intro w248 e249
          have hI250 := hI247.ext e249
          refine SeaWalk.step [13] (by kernel_rfl) (AllL.cons ?_ (AllL.nil))
          refine ⟨_, [], rfl, RSub.nil, rfl, nodupB_spec rfl, ?_⟩
          simp only [relOut]
          refine s_pkT rfl rfl rfl ?_
          refine Reg.nil ⟨rfl, .inl rfl, rfl, ?_⟩
          intro w251 e252
          have hI253 := hI250.ext e252
          refine SeaWalk.step [14] (by kernel_rfl) (AllL.cons ?_ (AllL.nil))
          refine ⟨_, [], rfl, RSub.nil, rfl, nodupB_spec rfl, ?_⟩
          simp only [relOut]
          refine s_as rfl rfl ?_
          refine Reg.nil ⟨rfl, .inl rfl, rfl, ?_⟩
          intro w254 e255
          have hI256 := hI253.ext e255
          refine SeaWalk.done ?_
          obtain rfl := Option.some.inj h39
          refine ⟨rfl, decide ((z217.length : Int) = (s.cuts.length : Int)), ⟨(hI256.sel [] rfl), (((Adv.of_ext e50).trans ((hI51.addOwnA e55 hf57).trans ((Adv.of_ext e60).trans ((Adv.of_ext e149).trans ((Adv.of_ext e214).trans ((hI216.tookA 0 rfl hf222).trans ((Adv.of_ext e225).trans ((Adv.of_ext e243).trans ((Adv.of_ext e246).trans ((Adv.of_ext e249).trans ((Adv.of_ext e252).trans (Adv.of_ext e255)))))))))))).trans (Hp.selA (σ := [ownR [] (intE .i64) 3 v221 z217]) [])), rfl⟩, Sub.cons rfl (Sub.nil _)⟩
        ·skip
         refine ⟨_, [], rfl, RSub.nil, rfl, nodupB_spec rfl, ?_⟩
         simp only [relOut]
         refine Reg.take rfl rfl ?_
         refine s_len rfl (f_s_0.adv (hI11.adv.trans ((Adv.of_ext e50).trans ((hI51.addOwnA e55 hf57).trans ((Adv.of_ext e60).trans ((Adv.of_ext e149).trans (Adv.of_ext e214))))))) Try.underlying26 rfl ?_
         refine Reg.nil ⟨rfl, .inr hI215.kp, rfl, ?_⟩
         intro w257 e258
         have hI259 := hI215.ext e258
         refine SeaWalk.step [7] (by kernel_rfl) (AllL.cons ?_ (AllL.nil))
         refine ⟨_, [], rfl, RSub.nil, rfl, nodupB_spec rfl, ?_⟩
         simp only [relOut]
         have hI260 := hI11.join hI259
         refine Reg.take rfl rfl ?_
         obtain ⟨z261, hz262, h39⟩ := bnd h39
         refine s_call rfl Try.call78 rfl ?_
         refine (C_slices_Compact_78 (hI260.erase 0).mlt (hI260.apart 0 rfl) (hI260.lendOwn 0 rfl) hz262).mono ?_
         rintro _ w263 ⟨v265, rfl, hf266⟩
         refine ⟨_, rfl, ?_⟩
         have hI267 := hI260.took 0 rfl hf266
         refine Reg.nil ⟨rfl, .inl rfl, rfl, ?_⟩
         intro w268 e269
         have hI270 := hI267.ext e269
         refine SeaWalk.step [8] (by kernel_rfl) (AllL.cons ?_ (AllL.nil))
         refine ⟨_, [], rfl, RSub.nil, rfl, nodupB_spec rfl, ?_⟩
         simp only [relOut]
         refine Reg.take rfl rfl ?_
         refine s_lenO rfl (hI270.ownAt 0 rfl) Try.underlying26 rfl ?_
         refine Reg.nil ⟨rfl, .inl rfl, rfl, ?_⟩
         intro w271 e272
         have hI273 := hI270.ext e272
         refine SeaWalk.step [12] (by kernel_rfl) (AllL.cons ?_ (AllL.nil))
         refine ⟨_, [], rfl, RSub.nil, rfl, nodupB_spec rfl, ?_⟩
         simp only [relOut]
         refine Reg.take rfl rfl ?_
         refine s_eql rfl rfl rfl ?_
         refine Reg.nil ⟨rfl, .inl rfl, rfl, ?_⟩
         intro w274 e275
         have hI276 := hI273.ext e275
         refine SeaWalk.step [13] (by kernel_rfl) (AllL.cons ?_ (AllL.nil))
         refine ⟨_, [], rfl, RSub.nil, rfl, nodupB_spec rfl, ?_⟩
         simp only [relOut]
         refine s_pkT rfl rfl rfl ?_
         refine Reg.nil ⟨rfl, .inl rfl, rfl, ?_⟩
         intro w277 e278
         have hI279 := hI276.ext e278
         refine SeaWalk.step [14] (by kernel_rfl) (AllL.cons ?_ (AllL.nil))
         refine ⟨_, [], rfl, RSub.nil, rfl, nodupB_spec rfl, ?_⟩
         simp only [relOut]
         refine s_as rfl rfl ?_
         refine Reg.nil ⟨rfl, .inl rfl, rfl, ?_⟩
         intro w280 e281
         have hI282 := hI279.ext e281
         refine SeaWalk.done ?_
         obtain rfl := Option.some.inj h39
         refine ⟨rfl, decide ((z261.length : Int) = (s.cuts.length : Int)), ⟨(hI282.sel [] rfl), (((Adv.of_ext e50).trans ((hI51.addOwnA e55 hf57).trans ((Adv.of_ext e60).trans ((Adv.of_ext e149).trans ((Adv.of_ext e214).trans ((Adv.of_ext e258).trans ((hI260.tookA 0 rfl hf266).trans ((Adv.of_ext e269).trans ((Adv.of_ext e272).trans ((Adv.of_ext e275).trans ((Adv.of_ext e278).trans (Adv.of_ext e281)))))))))))).trans (Hp.selA (σ := [ownR [] (intE .i64) 3 v265 z261]) [])), rfl⟩, Sub.cons rfl (Sub.nil _)⟩
     ·skip
      refine ⟨_, [], rfl, RSub.nil, rfl, nodupB_spec rfl, ?_⟩
      simp only [relOut]
      refine Reg.take rfl rfl ?_
      refine s_fa rfl Try.underlying56 rfl Try.sizeOf26 rfl ?_
      refine Reg.nil ⟨rfl, .inr hI51.kp, rfl, ?_⟩
      intro w283 e284
      have hI285 := hI51.ext e284
      refine SeaWalk.step [6, 10] (by kernel_rfl) (AllL.cons ?_ (AllL.cons ?_ (AllL.nil)))
      ·skip
       refine ⟨_, [], rfl, RSub.nil, rfl, nodupB_spec rfl, ?_⟩
       simp only [relOut]
       refine Reg.take rfl rfl ?_
       obtain ⟨z286, hz287, h39⟩ := bnd h39
       refine s_call rfl Try.call58 rfl ?_
       refine (C_slices_Clone_58 hI285.mlt (f_s_0.adv (hI11.adv.trans ((Adv.of_ext e50).trans (Adv.of_ext e284)))) hz287).mono ?_
       rintro _ w288 ⟨v290, rfl, hf291, e289⟩
       refine ⟨_, rfl, ?_⟩
       have hI292 := hI285.addOwn e289 hf291
       refine Reg.nil ⟨rfl, .inr hI292.kp, rfl, ?_⟩
       intro w293 e294
       have hI295 := hI292.ext e294
       refine SeaWalk.step [7, 10] (by kernel_rfl) (AllL.cons ?_ (AllL.cons ?_ (AllL.nil)))
       ·skip
        refine ⟨_, [], rfl, RSub.nil, rfl, nodupB_spec rfl, ?_⟩
        simp only [relOut]
        have hI296 := hI11.join hI295
        refine Reg.take rfl rfl ?_
        obtain ⟨z297, hz298, h39⟩ := bnd h39
        refine s_call rfl Try.call78 rfl ?_
        refine (C_slices_Compact_78 (hI296.erase 0).mlt (hI296.apart 0 rfl) (hI296.lendOwn 0 rfl) hz298).mono ?_
        rintro _ w299 ⟨v301, rfl, hf302⟩
        refine ⟨_, rfl, ?_⟩
        have hI303 := hI296.took 0 rfl hf302
        refine Reg.nil ⟨rfl, .inl rfl, rfl, ?_⟩
        intro w304 e305
        have hI306 := hI303.ext e305
        refine SeaWalk.step [8, 10] (by kernel_rfl) (AllL.cons ?_ (AllL.cons ?_ (AllL.nil)))
        ·skip
         refine ⟨_, [], rfl, RSub.nil, rfl, nodupB_spec rfl, ?_⟩
         simp only [relOut]
         refine Reg.take rfl rfl ?_
         refine s_lenO rfl (hI306.ownAt 0 rfl) Try.underlying26 rfl ?_
         refine Reg.nil ⟨rfl, .inl rfl, rfl, ?_⟩
         intro w307 e308
         have hI309 := hI306.ext e308
         refine SeaWalk.step [10] (by kernel_rfl) (AllL.cons ?_ (AllL.nil))
         refine ⟨_, [], rfl, RSub.nil, rfl, nodupB_spec rfl, ?_⟩
         simp only [relOut]
         refine Reg.take rfl rfl ?_
         refine s_ld rfl ((hC6.adv (hA12.trans ((Adv.of_ext e50).trans ((Adv.of_ext e284).trans ((hI285.addOwnA e289 hf291).trans ((Adv.of_ext e294).trans ((hI296.tookA 0 rfl hf302).trans ((Adv.of_ext e305).trans (Adv.of_ext e308))))))))).cells.at 0 rfl) Try.isAgg26 rfl ?_
         refine Reg.nil ⟨rfl, .inl rfl, rfl, ?_⟩
         intro w310 e311
         have hI312 := hI309.ext e311
         refine SeaWalk.step [11] (by kernel_rfl) (AllL.cons ?_ (AllL.nil))
         refine ⟨_, [], rfl, RSub.nil, rfl, nodupB_spec rfl, ?_⟩
         simp only [relOut]
         refine Reg.take rfl rfl ?_
         refine s_len rfl (f_s_0.adv hI312.adv) Try.underlying26 rfl ?_
         refine Reg.nil ⟨rfl, .inl rfl, rfl, ?_⟩
         intro w313 e314
         have hI315 := hI312.ext e314
         refine SeaWalk.step [12] (by kernel_rfl) (AllL.cons ?_ (AllL.nil))
         refine ⟨_, [], rfl, RSub.nil, rfl, nodupB_spec rfl, ?_⟩
         simp only [relOut]
         refine Reg.take rfl rfl ?_
         refine s_eql rfl rfl rfl ?_
         refine Reg.nil ⟨rfl, .inl rfl, rfl, ?_⟩
         intro w316 e317
         have hI318 := hI315.ext e317
         refine SeaWalk.step [13] (by kernel_rfl) (AllL.cons ?_ (AllL.nil))
         refine ⟨_, [], rfl, RSub.nil, rfl, nodupB_spec rfl, ?_⟩
         simp only [relOut]
         refine s_pkT rfl rfl rfl ?_
         refine Reg.nil ⟨rfl, .inl rfl, rfl, ?_⟩
         intro w319 e320
         have hI321 := hI318.ext e320
         refine SeaWalk.step [14] (by kernel_rfl) (AllL.cons ?_ (AllL.nil))
         refine ⟨_, [], rfl, RSub.nil, rfl, nodupB_spec rfl, ?_⟩
         simp only [relOut]
         refine s_as rfl rfl ?_
         refine Reg.nil ⟨rfl, .inl rfl, rfl, ?_⟩
         intro w322 e323
         have hI324 := hI321.ext e323
         refine SeaWalk.done ?_
         obtain rfl := Option.some.inj h39
         refine ⟨rfl, decide ((z297.length : Int) = (s.cuts.length : Int)), ⟨(hI324.sel [] rfl), (((Adv.of_ext e50).trans ((Adv.of_ext e284).trans ((hI285.addOwnA e289 hf291).trans ((Adv.of_ext e294).trans ((hI296.tookA 0 rfl hf302).trans ((Adv.of_ext e305).trans ((Adv.of_ext e308).trans ((Adv.of_ext e311).trans ((Adv.of_ext e314).trans ((Adv.of_ext e317).trans ((Adv.of_ext e320).trans (Adv.of_ext e323)))))))))))).trans (Hp.selA (σ := [ownR [] (intE .i64) 3 v301 z297]) [])), rfl⟩, Sub.cons rfl (Sub.nil _)⟩
        ·skip
         refine ⟨_, [], rfl, RSub.nil, rfl, nodupB_spec rfl, ?_⟩
         simp only [relOut]
         refine Reg.take rfl rfl ?_
         refine s_ld rfl ((hC6.adv (hA12.trans ((Adv.of_ext e50).trans ((Adv.of_ext e284).trans ((hI285.addOwnA e289 hf291).trans ((Adv.of_ext e294).trans ((hI296.tookA 0 rfl hf302).trans (Adv.of_ext e305)))))))).cells.at 0 rfl) Try.isAgg26 rfl ?_
         refine Reg.nil ⟨rfl, .inl rfl, rfl, ?_⟩
         intro w325 e326
         have hI327 := hI306.ext e326
         refine SeaWalk.step [8, 11] (by kernel_rfl) (AllL.cons ?_ (AllL.cons ?_ (AllL.nil)))
         ·skip
          refine ⟨_, [], rfl, RSub.nil, rfl, nodupB_spec rfl, ?_⟩
          simp only [relOut]
          refine Reg.take rfl rfl ?_
          refine s_lenO rfl (hI327.ownAt 0 rfl) Try.underlying26 rfl ?_
          refine Reg.nil ⟨rfl, .inl rfl, rfl, ?_⟩
          intro w328 e329
          have hI330 := hI327.ext e329
          refine SeaWalk.step [11] (by kernel_rfl) (AllL.cons ?_ (AllL.nil))
          refine ⟨_, [], rfl, RSub.nil, rfl, nodupB_spec rfl, ?_⟩
          simp only [relOut]
          refine Reg.take rfl rfl ?_
          refine s_len rfl (f_s_0.adv hI330.adv) Try.underlying26 rfl ?_
          refine Reg.nil ⟨rfl, .inl rfl, rfl, ?_⟩
          intro w331 e332
          have hI333 := hI330.ext e332
          refine SeaWalk.step [12] (by kernel_rfl) (AllL.cons ?_ (AllL.nil))
          refine ⟨_, [], rfl, RSub.nil, rfl, nodupB_spec rfl, ?_⟩
          simp only [relOut]
          refine Reg.take rfl rfl ?_
          refine s_eql rfl rfl rfl ?_
          refine Reg.nil ⟨rfl, .inl rfl, rfl, ?_⟩
          intro w334 e335
          have hI336 := hI333.ext e335
          refine SeaWalk.step [13] (by kernel_rfl) (AllL.cons ?_ (AllL.nil))
          refine ⟨_, [], rfl, RSub.nil, rfl, nodupB_spec rfl, ?_⟩
          simp only [relOut]
          refine s_pkT rfl rfl rfl ?_
          refine Reg.nil ⟨rfl, .inl rfl, rfl, ?_⟩
          intro w337 e338
          have hI339 := hI336.ext e338
          refine SeaWalk.step [14] (by kernel_rfl) (AllL.cons ?_ (AllL.nil))
          refine ⟨_, [], rfl, RSub.nil, rfl, nodupB_spec rfl, ?_⟩
          simp only [relOut]
          refine s_as rfl rfl ?_
          refine Reg.nil ⟨rfl, .inl rfl, rfl, ?_⟩
          intro w340 e341
          have hI342 := hI339.ext e341
          refine SeaWalk.done ?_
          obtain rfl := Option.some.inj h39
          refine ⟨rfl, decide ((z297.length : Int) = (s.cuts.length : Int)), ⟨(hI342.sel [] rfl), (((Adv.of_ext e50).trans ((Adv.of_ext e284).trans ((hI285.addOwnA e289 hf291).trans ((Adv.of_ext e294).trans ((hI296.tookA 0 rfl hf302).trans ((Adv.of_ext e305).trans ((Adv.of_ext e326).trans ((Adv.of_ext e329).trans ((Adv.of_ext e332).trans ((Adv.of_ext e335).trans ((Adv.of_ext e338).trans (Adv.of_ext e341)))))))))))).trans (Hp.selA (σ := [ownR [] (intE .i64) 3 v301 z297]) [])), rfl⟩, Sub.cons rfl (Sub.nil _)⟩
         ·skip
          refine ⟨_, [], rfl, RSub.nil, rfl, nodupB_spec rfl, ?_⟩
          simp only [relOut]
          refine Reg.take rfl rfl ?_
          refine s_len rfl (f_s_0.adv hI327.adv) Try.underlying26 rfl ?_
          refine Reg.nil ⟨rfl, .inl rfl, rfl, ?_⟩
          intro w343 e344
          have hI345 := hI327.ext e344
          refine SeaWalk.step [8] (by kernel_rfl) (AllL.cons ?_ (AllL.nil))
          refine ⟨_, [], rfl, RSub.nil, rfl, nodupB_spec rfl, ?_⟩
          simp only [relOut]
          refine Reg.take rfl rfl ?_
          refine s_lenO rfl (hI345.ownAt 0 rfl) Try.underlying26 rfl ?_
          refine Reg.nil ⟨rfl, .inl rfl, rfl, ?_⟩
          intro w346 e347
          have hI348 := hI345.ext e347
          refine SeaWalk.step [12] (by kernel_rfl) (AllL.cons ?_ (AllL.nil))
          refine ⟨_, [], rfl, RSub.nil, rfl, nodupB_spec rfl, ?_⟩
          simp only [relOut]
          refine Reg.take rfl rfl ?_
          refine s_eql rfl rfl rfl ?_
          refine Reg.nil ⟨rfl, .inl rfl, rfl, ?_⟩
          intro w349 e350
          have hI351 := hI348.ext e350
          refine SeaWalk.step [13] (by kernel_rfl) (AllL.cons ?_ (AllL.nil))
          refine ⟨_, [], rfl, RSub.nil, rfl, nodupB_spec rfl, ?_⟩
          simp only [relOut]
          refine s_pkT rfl rfl rfl ?_
          refine Reg.nil ⟨rfl, .inl rfl, rfl, ?_⟩
          intro w352 e353
          have hI354 := hI351.ext e353
          refine SeaWalk.step [14] (by kernel_rfl) (AllL.cons ?_ (AllL.nil))
          refine ⟨_, [], rfl, RSub.nil, rfl, nodupB_spec rfl, ?_⟩
          simp only [relOut]
          refine s_as rfl rfl ?_
          refine Reg.nil ⟨rfl, .inl rfl, rfl, ?_⟩
          intro w355 e356
          have hI357 := hI354.ext e356
          refine SeaWalk.done ?_
          obtain rfl := Option.some.inj h39
          refine ⟨rfl, decide ((z297.length : Int) = (s.cuts.length : Int)), ⟨(hI357.sel [] rfl), (((Adv.of_ext e50).trans ((Adv.of_ext e284).trans ((hI285.addOwnA e289 hf291).trans ((Adv.of_ext e294).trans ((hI296.tookA 0 rfl hf302).trans ((Adv.of_ext e305).trans ((Adv.of_ext e326).trans ((Adv.of_ext e344).trans ((Adv.of_ext e347).trans ((Adv.of_ext e350).trans ((Adv.of_ext e353).trans (Adv.of_ext e356)))))))))))).trans (Hp.selA (σ := [ownR [] (intE .i64) 3 v301 z297]) [])), rfl⟩, Sub.cons rfl (Sub.nil _)⟩
       ·skip
        refine ⟨_, [], rfl, RSub.nil, rfl, nodupB_spec rfl, ?_⟩
        simp only [relOut]
        refine Reg.take rfl rfl ?_
        refine s_ld rfl ((hC6.adv (hA12.trans ((Adv.of_ext e50).trans ((Adv.of_ext e284).trans ((hI285.addOwnA e289 hf291).trans (Adv.of_ext e294)))))).cells.at 0 rfl) Try.isAgg26 rfl ?_
        refine Reg.nil ⟨rfl, .inr hI295.kp, rfl, ?_⟩
        intro w358 e359
        have hI360 := hI295.ext e359
        refine SeaWalk.step [7, 11] (by kernel_rfl) (AllL.cons ?_ (AllL.cons ?_ (AllL.nil)))
        ·skip
         refine ⟨_, [], rfl, RSub.nil, rfl, nodupB_spec rfl, ?_⟩
         simp only [relOut]
         have hI361 := hI11.join hI360
         refine Reg.take rfl rfl ?_
         obtain ⟨z362, hz363, h39⟩ := bnd h39
         refine s_call rfl Try.call78 rfl ?_
         refine (C_slices_Compact_78 (hI361.erase 0).mlt (hI361.apart 0 rfl) (hI361.lendOwn 0 rfl) hz363).mono ?_
         rintro _ w364 ⟨v366, rfl, hf367⟩
         refine ⟨_, rfl, ?_⟩
         have hI368 := hI361.took 0 rfl hf367
         refine Reg.nil ⟨rfl, .inl rfl, rfl, ?_⟩
         intro w369 e370
         have hI371 := hI368.ext e370
         refine SeaWalk.step [8, 11] (by kernel_rfl) (AllL.cons ?_ (AllL.cons ?_ (AllL.nil)))
         ·skip
          refine ⟨_, [], rfl, RSub.nil, rfl, nodupB_spec rfl, ?_⟩
          simp only [relOut]
          refine Reg.take rfl rfl ?_
          refine s_lenO rfl (hI371.ownAt 0 rfl) Try.underlying26 rfl ?_
          refine Reg.nil ⟨rfl, .inl rfl, rfl, ?_⟩
          intro w372 e373
          have hI374 := hI371.ext e373
          refine SeaWalk.step [11] (by kernel_rfl) (AllL.cons ?_ (AllL.nil))
          refine ⟨_, [], rfl, RSub.nil, rfl, nodupB_spec rfl, ?_⟩
          simp only [relOut]
          refine Reg.take rfl rfl ?_
          refine s_len rfl (f_s_0.adv hI374.adv) Try.underlying26 rfl ?_
          refine Reg.nil ⟨rfl, .inl rfl, rfl, ?_⟩
          intro w375 e376
          have hI377 := hI374.ext e376
          refine SeaWalk.step [12] (by kernel_rfl) (AllL.cons ?_ (AllL.nil))
          refine ⟨_, [], rfl, RSub.nil, rfl, nodupB_spec rfl, ?_⟩
          simp only [relOut]
          refine Reg.take rfl rfl ?_
          refine s_eql rfl rfl rfl ?_
          refine Reg.nil ⟨rfl, .inl rfl, rfl, ?_⟩
          intro w378 e379
          have hI380 := hI377.ext e379
          refine SeaWalk.step [13] (by kernel_rfl) (AllL.cons ?_ (AllL.nil))
          refine ⟨_, [], rfl, RSub.nil, rfl, nodupB_spec rfl, ?_⟩
          simp only [relOut]
          refine s_pkT rfl rfl rfl ?_
          refine Reg.nil ⟨rfl, .inl rfl, rfl, ?_⟩
          intro w381 e382
          have hI383 := hI380.ext e382
          refine SeaWalk.step [14] (by kernel_rfl) (AllL.cons ?_ (AllL.nil))
          refine ⟨_, [], rfl, RSub.nil, rfl, nodupB_spec rfl, ?_⟩
          simp only [relOut]
          refine s_as rfl rfl ?_
          refine Reg.nil ⟨rfl, .inl rfl, rfl, ?_⟩
          intro w384 e385
          have hI386 := hI383.ext e385
          refine SeaWalk.done ?_
          obtain rfl := Option.some.inj h39
          refine ⟨rfl, decide ((z362.length : Int) = (s.cuts.length : Int)), ⟨(hI386.sel [] rfl), (((Adv.of_ext e50).trans ((Adv.of_ext e284).trans ((hI285.addOwnA e289 hf291).trans ((Adv.of_ext e294).trans ((Adv.of_ext e359).trans ((hI361.tookA 0 rfl hf367).trans ((Adv.of_ext e370).trans ((Adv.of_ext e373).trans ((Adv.of_ext e376).trans ((Adv.of_ext e379).trans ((Adv.of_ext e382).trans (Adv.of_ext e385)))))))))))).trans (Hp.selA (σ := [ownR [] (intE .i64) 3 v366 z362]) [])), rfl⟩, Sub.cons rfl (Sub.nil _)⟩
         ·skip
          refine ⟨_, [], rfl, RSub.nil, rfl, nodupB_spec rfl, ?_⟩
          simp only [relOut]
          refine Reg.take rfl rfl ?_
          refine s_len rfl (f_s_0.adv hI371.adv) Try.underlying26 rfl ?_
          refine Reg.nil ⟨rfl, .inl rfl, rfl, ?_⟩
          intro w387 e388
          have hI389 := hI371.ext e388
          refine SeaWalk.step [8] (by kernel_rfl) (AllL.cons ?_ (AllL.nil))
          refine ⟨_, [], rfl, RSub.nil, rfl, nodupB_spec rfl, ?_⟩
          simp only [relOut]
          refine Reg.take rfl rfl ?_
          refine s_lenO rfl (hI389.ownAt 0 rfl) Try.underlying26 rfl ?_
          refine Reg.nil ⟨rfl, .inl rfl, rfl, ?_⟩
          intro w390 e391
          have hI392 := hI389.ext e391
          refine SeaWalk.step [12] (by kernel_rfl) (AllL.cons ?_ (AllL.nil))
          refine ⟨_, [], rfl, RSub.nil, rfl, nodupB_spec rfl, ?_⟩
          simp only [relOut]
          refine Reg.take rfl rfl ?_
          refine s_eql rfl rfl rfl ?_
          refine Reg.nil ⟨rfl, .inl rfl, rfl, ?_⟩
          intro w393 e394
          have hI395 := hI392.ext e394
          refine SeaWalk.step [13] (by kernel_rfl) (AllL.cons ?_ (AllL.nil))
          refine ⟨_, [], rfl, RSub.nil, rfl, nodupB_spec rfl, ?_⟩
          simp only [relOut]
          refine s_pkT rfl rfl rfl ?_
          refine Reg.nil ⟨rfl, .inl rfl, rfl, ?_⟩
          intro w396 e397
          have hI398 := hI395.ext e397
          refine SeaWalk.step [14] (by kernel_rfl) (AllL.cons ?_ (AllL.nil))
          refine ⟨_, [], rfl, RSub.nil, rfl, nodupB_spec rfl, ?_⟩
          simp only [relOut]
          refine s_as rfl rfl ?_
          refine Reg.nil ⟨rfl, .inl rfl, rfl, ?_⟩
          intro w399 e400
          have hI401 := hI398.ext e400
          refine SeaWalk.done ?_
          obtain rfl := Option.some.inj h39
          refine ⟨rfl, decide ((z362.length : Int) = (s.cuts.length : Int)), ⟨(hI401.sel [] rfl), (((Adv.of_ext e50).trans ((Adv.of_ext e284).trans ((hI285.addOwnA e289 hf291).trans ((Adv.of_ext e294).trans ((Adv.of_ext e359).trans ((hI361.tookA 0 rfl hf367).trans ((Adv.of_ext e370).trans ((Adv.of_ext e388).trans ((Adv.of_ext e391).trans ((Adv.of_ext e394).trans ((Adv.of_ext e397).trans (Adv.of_ext e400)))))))))))).trans (Hp.selA (σ := [ownR [] (intE .i64) 3 v366 z362]) [])), rfl⟩, Sub.cons rfl (Sub.nil _)⟩
        ·skip
         refine ⟨_, [], rfl, RSub.nil, rfl, nodupB_spec rfl, ?_⟩
         simp only [relOut]
         refine Reg.take rfl rfl ?_
         refine s_len rfl (f_s_0.adv (hI11.adv.trans ((Adv.of_ext e50).trans ((Adv.of_ext e284).trans ((hI285.addOwnA e289 hf291).trans ((Adv.of_ext e294).trans (Adv.of_ext e359))))))) Try.underlying26 rfl ?_
         refine Reg.nil ⟨rfl, .inr hI360.kp, rfl, ?_⟩
         intro w402 e403
         have hI404 := hI360.ext e403
         refine SeaWalk.step [7] (by kernel_rfl) (AllL.cons ?_ (AllL.nil))
         refine ⟨_, [], rfl, RSub.nil, rfl, nodupB_spec rfl, ?_⟩
         simp only [relOut]
         have hI405 := hI11.join hI404
         refine Reg.take rfl rfl ?_
         obtain ⟨z406, hz407, h39⟩ := bnd h39
         refine s_call rfl Try.call78 rfl ?_
         refine (C_slices_Compact_78 (hI405.erase 0).mlt (hI405.apart 0 rfl) (hI405.lendOwn 0 rfl) hz407).mono ?_
         rintro _ w408 ⟨v410, rfl, hf411⟩
         refine ⟨_, rfl, ?_⟩
         have hI412 := hI405.took 0 rfl hf411
         refine Reg.nil ⟨rfl, .inl rfl, rfl, ?_⟩
         intro w413 e414
         have hI415 := hI412.ext e414
         refine SeaWalk.step [8] (by kernel_rfl) (AllL.cons ?_ (AllL.nil))
         refine ⟨_, [], rfl, RSub.nil, rfl, nodupB_spec rfl, ?_⟩
         simp only [relOut]
         refine Reg.take rfl rfl ?_
         refine s_lenO rfl (hI415.ownAt 0 rfl) Try.underlying26 rfl ?_
         refine Reg.nil ⟨rfl, .inl rfl, rfl, ?_⟩
         intro w416 e417
         have hI418 := hI415.ext e417
         refine SeaWalk.step [12] (by kernel_rfl) (AllL.cons ?_ (AllL.nil))
         refine ⟨_, [], rfl, RSub.nil, rfl, nodupB_spec rfl, ?_⟩
         simp only [relOut]
         refine Reg.take rfl rfl ?_
         refine s_eql rfl rfl rfl ?_
         refine Reg.nil ⟨rfl, .inl rfl, rfl, ?_⟩
         intro w419 e420
         have hI421 := hI418.ext e420
         refine SeaWalk.step [13] (by kernel_rfl) (AllL.cons ?_ (AllL.nil))
         refine ⟨_, [], rfl, RSub.nil, rfl, nodupB_spec rfl, ?_⟩
         simp only [relOut]
         refine s_pkT rfl rfl rfl ?_
         refine Reg.nil ⟨rfl, .inl rfl, rfl, ?_⟩
         intro w422 e423
         have hI424 := hI421.ext e423
         refine SeaWalk.step [14] (by kernel_rfl) (AllL.cons ?_ (AllL.nil))
         refine ⟨_, [], rfl, RSub.nil, rfl, nodupB_spec rfl, ?_⟩
         simp only [relOut]
         refine s_as rfl rfl ?_
         refine Reg.nil ⟨rfl, .inl rfl, rfl, ?_⟩
         intro w425 e426
         have hI427 := hI424.ext e426
         refine SeaWalk.done ?_
         obtain rfl := Option.some.inj h39
         refine ⟨rfl, decide ((z406.length : Int) = (s.cuts.length : Int)), ⟨(hI427.sel [] rfl), (((Adv.of_ext e50).trans ((Adv.of_ext e284).trans ((hI285.addOwnA e289 hf291).trans ((Adv.of_ext e294).trans ((Adv.of_ext e359).trans ((Adv.of_ext e403).trans ((hI405.tookA 0 rfl hf411).trans ((Adv.of_ext e414).trans ((Adv.of_ext e417).trans ((Adv.of_ext e420).trans ((Adv.of_ext e423).trans (Adv.of_ext e426)))))))))))).trans (Hp.selA (σ := [ownR [] (intE .i64) 3 v410 z406]) [])), rfl⟩, Sub.cons rfl (Sub.nil _)⟩
      ·skip
       refine ⟨_, [], rfl, RSub.nil, rfl, nodupB_spec rfl, ?_⟩
       simp only [relOut]
       refine Reg.take rfl rfl ?_
       refine s_ld rfl ((hC6.adv (hA12.trans ((Adv.of_ext e50).trans (Adv.of_ext e284)))).cells.at 0 rfl) Try.isAgg26 rfl ?_
       refine Reg.nil ⟨rfl, .inr hI285.kp, rfl, ?_⟩
       intro w428 e429
       have hI430 := hI285.ext e429
       refine SeaWalk.step [6, 11] (by kernel_rfl) (AllL.cons ?_ (AllL.cons ?_ (AllL.nil)))
       ·skip
        refine ⟨_, [], rfl, RSub.nil, rfl, nodupB_spec rfl, ?_⟩
        simp only [relOut]
        refine Reg.take rfl rfl ?_
        obtain ⟨z431, hz432, h39⟩ := bnd h39
        refine s_call rfl Try.call58 rfl ?_
        refine (C_slices_Clone_58 hI430.mlt (f_s_0.adv (hI11.adv.trans ((Adv.of_ext e50).trans ((Adv.of_ext e284).trans (Adv.of_ext e429))))) hz432).mono ?_
        rintro _ w433 ⟨v435, rfl, hf436, e434⟩
        refine ⟨_, rfl, ?_⟩
        have hI437 := hI430.addOwn e434 hf436
        refine Reg.nil ⟨rfl, .inr hI437.kp, rfl, ?_⟩
        intro w438 e439
        have hI440 := hI437.ext e439
        refine SeaWalk.step [7, 11] (by kernel_rfl) (AllL.cons ?_ (AllL.cons ?_ (AllL.nil)))
        ·skip
         refine ⟨_, [], rfl, RSub.nil, rfl, nodupB_spec rfl, ?_⟩
         simp only [relOut]
         have hI441 := hI11.join hI440
         refine Reg.take rfl rfl ?_
         obtain ⟨z442, hz443, h39⟩ := bnd h39
         refine s_call rfl Try.call78 rfl ?_
         refine (C_slices_Compact_78 (hI441.erase 0).mlt (hI441.apart 0 rfl) (hI441.lendOwn 0 rfl) hz443).mono ?_
         rintro _ w444 ⟨v446, rfl, hf447⟩
         refine ⟨_, rfl, ?_⟩
         have hI448 := hI441.took 0 rfl hf447
         refine Reg.nil ⟨rfl, .inl rfl, rfl, ?_⟩
         intro w449 e450
         have hI451 := hI448.ext e450
         refine SeaWalk.step [8, 11] (by kernel_rfl) (AllL.cons ?_ (AllL.cons ?_ (AllL.nil)))
         ·skip
          refine ⟨_, [], rfl, RSub.nil, rfl, nodupB_spec rfl, ?_⟩
          simp only [relOut]
          refine Reg.take rfl rfl ?_
          refine s_lenO rfl (hI451.ownAt 0 rfl) Try.underlying26 rfl ?_
          refine Reg.nil ⟨rfl, .inl rfl, rfl, ?_⟩
          intro w452 e453
          have hI454 := hI451.ext e453
          refine SeaWalk.step [11] (by kernel_rfl) (AllL.cons ?_ (AllL.nil))
          refine ⟨_, [], rfl, RSub.nil, rfl, nodupB_spec rfl, ?_⟩
          simp only [relOut]
          refine Reg.take rfl rfl ?_
          refine s_len rfl (f_s_0.adv hI454.adv) Try.underlying26 rfl ?_
          refine Reg.nil ⟨rfl, .inl rfl, rfl, ?_⟩
          intro w455 e456
          have hI457 := hI454.ext e456
          refine SeaWalk.step [12] (by kernel_rfl) (AllL.cons ?_ (AllL.nil))
          refine ⟨_, [], rfl, RSub.nil, rfl, nodupB_spec rfl, ?_⟩
          simp only [relOut]
          refine Reg.take rfl rfl ?_
          refine s_eql rfl rfl rfl ?_
          refine Reg.nil ⟨rfl, .inl rfl, rfl, ?_⟩
          intro w458 e459
          have hI460 := hI457.ext e459
          refine SeaWalk.step [13] (by kernel_rfl) (AllL.cons ?_ (AllL.nil))
          refine ⟨_, [], rfl, RSub.nil, rfl, nodupB_spec rfl, ?_⟩
          simp only [relOut]
          refine s_pkT rfl rfl rfl ?_
          refine Reg.nil ⟨rfl, .inl rfl, rfl, ?_⟩
          intro w461 e462
          have hI463 := hI460.ext e462
          refine SeaWalk.step [14] (by kernel_rfl) (AllL.cons ?_ (AllL.nil))
          refine ⟨_, [], rfl, RSub.nil, rfl, nodupB_spec rfl, ?_⟩
          simp only [relOut]
          refine s_as rfl rfl ?_
          refine Reg.nil ⟨rfl, .inl rfl, rfl, ?_⟩
          intro w464 e465
          have hI466 := hI463.ext e465
          refine SeaWalk.done ?_
          obtain rfl := Option.some.inj h39
          refine ⟨rfl, decide ((z442.length : Int) = (s.cuts.length : Int)), ⟨(hI466.sel [] rfl), (((Adv.of_ext e50).trans ((Adv.of_ext e284).trans ((Adv.of_ext e429).trans ((hI430.addOwnA e434 hf436).trans ((Adv.of_ext e439).trans ((hI441.tookA 0 rfl hf447).trans ((Adv.of_ext e450).trans ((Adv.of_ext e453).trans ((Adv.of_ext e456).trans ((Adv.of_ext e459).trans ((Adv.of_ext e462).trans (Adv.of_ext e465)))))))))))).trans (Hp.selA (σ := [ownR [] (intE .i64) 3 v446 z442]) [])), rfl⟩, Sub.cons rfl (Sub.nil _)⟩
         ·skip
          refine ⟨_, [], rfl, RSub.nil, rfl, nodupB_spec rfl, ?_⟩
          simp only [relOut]
          refine Reg.take rfl rfl ?_
          refine s_len rfl (f_s_0.adv hI451.adv) Try.underlying26 rfl ?_
          refine Reg.nil ⟨rfl, .inl rfl, rfl, ?_⟩
          intro w467 e468
          have hI469 := hI451.ext e468
          refine SeaWalk.step [8] (by kernel_rfl) (AllL.cons ?_ (AllL.nil))
          refine ⟨_, [], rfl, RSub.nil, rfl, nodupB_spec rfl, ?_⟩
          simp only [relOut]
          refine Reg.take rfl rfl ?_
          refine s_lenO rfl (hI469.ownAt 0 rfl) Try.underlying26 rfl ?_
          refine Reg.nil ⟨rfl, .inl rfl, rfl, ?_⟩
          intro w470 e471
          have hI472 := hI469.ext e471
          refine SeaWalk.step [12] (by kernel_rfl) (AllL.cons ?_ (AllL.nil))
          refine ⟨_, [], rfl, RSub.nil, rfl, nodupB_spec rfl, ?_⟩
          simp only [relOut]
          refine Reg.take rfl rfl ?_
          refine s_eql rfl rfl rfl ?_
          refine Reg.nil ⟨rfl, .inl rfl, rfl, ?_⟩
          intro w473 e474
          have hI475 := hI472.ext e474
          refine SeaWalk.step [13] (by kernel_rfl) (AllL.cons ?_ (AllL.nil))
          refine ⟨_, [], rfl, RSub.nil, rfl, nodupB_spec rfl, ?_⟩
          simp only [relOut]
          refine s_pkT rfl rfl rfl ?_
          refine Reg.nil ⟨rfl, .inl rfl, rfl, ?_⟩
          intro w476 e477
          have hI478 := hI475.ext e477
          refine SeaWalk.step [14] (by kernel_rfl) (AllL.cons ?_ (AllL.nil))
          refine ⟨_, [], rfl, RSub.nil, rfl, nodupB_spec rfl, ?_⟩
          simp only [relOut]
          refine s_as rfl rfl ?_
          refine Reg.nil ⟨rfl, .inl rfl, rfl, ?_⟩
          intro w479 e480
          have hI481 := hI478.ext e480
          refine SeaWalk.done ?_
          obtain rfl := Option.some.inj h39
          refine ⟨rfl, decide ((z442.length : Int) = (s.cuts.length : Int)), ⟨(hI481.sel [] rfl), (((Adv.of_ext e50).trans ((Adv.of_ext e284).trans ((Adv.of_ext e429).trans ((hI430.addOwnA e434 hf436).trans ((Adv.of_ext e439).trans ((hI441.tookA 0 rfl hf447).trans ((Adv.of_ext e450).trans ((Adv.of_ext e468).trans ((Adv.of_ext e471).trans ((Adv.of_ext e474).trans ((Adv.of_ext e477).trans (Adv.of_ext e480)))))))))))).trans (Hp.selA (σ := [ownR [] (intE .i64) 3 v446 z442]) [])), rfl⟩, Sub.cons rfl (Sub.nil _)⟩
        ·skip
         refine ⟨_, [], rfl, RSub.nil, rfl, nodupB_spec rfl, ?_⟩
         simp only [relOut]
         refine Reg.take rfl rfl ?_
         refine s_len rfl (f_s_0.adv (hI11.adv.trans ((Adv.of_ext e50).trans ((Adv.of_ext e284).trans ((Adv.of_ext e429).trans ((hI430.addOwnA e434 hf436).trans (Adv.of_ext e439))))))) Try.underlying26 rfl ?_
         refine Reg.nil ⟨rfl, .inr hI440.kp, rfl, ?_⟩
         intro w482 e483
         have hI484 := hI440.ext e483
         refine SeaWalk.step [7] (by kernel_rfl) (AllL.cons ?_ (AllL.nil))
         refine ⟨_, [], rfl, RSub.nil, rfl, nodupB_spec rfl, ?_⟩
         simp only [relOut]
         have hI485 := hI11.join hI484
         refine Reg.take rfl rfl ?_
         obtain ⟨z486, hz487, h39⟩ := bnd h39
         refine s_call rfl Try.call78 rfl ?_
         refine (C_slices_Compact_78 (hI485.erase 0).mlt (hI485.apart 0 rfl) (hI485.lendOwn 0 rfl) hz487).mono ?_
         rintro _ w488 ⟨v490, rfl, hf491⟩
         refine ⟨_, rfl, ?_⟩
         have hI492 := hI485.took 0 rfl hf491
         refine Reg.nil ⟨rfl, .inl rfl, rfl, ?_⟩
         intro w493 e494
         have hI495 := hI492.ext e494
         refine SeaWalk.step [8] (by kernel_rfl) (AllL.cons ?_ (AllL.nil))
         refine ⟨_, [], rfl, RSub.nil, rfl, nodupB_spec rfl, ?_⟩
         simp only [relOut]
         refine Reg.take rfl rfl ?_
         refine s_lenO rfl (hI495.ownAt 0 rfl) Try.underlying26 rfl ?_
         refine Reg.nil ⟨rfl, .inl rfl, rfl, ?_⟩
         intro w496 e497
         have hI498 := hI495.ext e497
         refine SeaWalk.step [12] (by kernel_rfl) (AllL.cons ?_ (AllL.nil))
         refine ⟨_, [], rfl, RSub.nil, rfl, nodupB_spec rfl, ?_⟩
         simp only [relOut]
         refine Reg.take rfl rfl ?_
         refine s_eql rfl rfl rfl ?_
         refine Reg.nil ⟨rfl, .inl rfl, rfl, ?_⟩
         intro w499 e500
         have hI501 := hI498.ext e500
         refine SeaWalk.step [13] (by kernel_rfl) (AllL.cons ?_ (AllL.nil))
         refine ⟨_, [], rfl, RSub.nil, rfl, nodupB_spec rfl, ?_⟩
         simp only [relOut]
         refine s_pkT rfl rfl rfl ?_
         refine Reg.nil ⟨rfl, .inl rfl, rfl, ?_⟩
         intro w502 e503
         have hI504 := hI501.ext e503
         refine SeaWalk.step [14] (by kernel_rfl) (AllL.cons ?_ (AllL.nil))
         refine ⟨_, [], rfl, RSub.nil, rfl, nodupB_spec rfl, ?_⟩
         simp only [relOut]
         refine s_as rfl rfl ?_
         refine Reg.nil ⟨rfl, .inl rfl, rfl, ?_⟩
         intro w505 e506
         have hI507 := hI504.ext e506
         refine SeaWalk.done ?_
         obtain rfl := Option.some.inj h39
         refine ⟨rfl, decide ((z486.length : Int) = (s.cuts.length : Int)), ⟨(hI507.sel [] rfl), (((Adv.of_ext e50).trans ((Adv.of_ext e284).trans ((Adv.of_ext e429).trans ((hI430.addOwnA e434 hf436).trans ((Adv.of_ext e439).trans ((Adv.of_ext e483).trans ((hI485.tookA 0 rfl hf491).trans ((Adv.of_ext e494).trans ((Adv.of_ext e497).trans ((Adv.of_ext e500).trans ((Adv.of_ext e503).trans (Adv.of_ext e506)))))))))))).trans (Hp.selA (σ := [ownR [] (intE .i64) 3 v490 z486]) [])), rfl⟩, Sub.cons rfl (Sub.nil _)⟩
       ·skip
        refine ⟨_, [], rfl, RSub.nil, rfl, nodupB_spec rfl, ?_⟩
        simp only [relOut]
        refine Reg.take rfl rfl ?_
        refine s_len rfl (f_s_0.adv (hI11.adv.trans ((Adv.of_ext e50).trans ((Adv.of_ext e284).trans (Adv.of_ext e429))))) Try.underlying26 rfl ?_
        refine Reg.nil ⟨rfl, .inr hI430.kp, rfl, ?_⟩
        intro w508 e509
        have hI510 := hI430.ext e509
        refine SeaWalk.step [6] (by kernel_rfl) (AllL.cons ?_ (AllL.nil))
        refine ⟨_, [], rfl, RSub.nil, rfl, nodupB_spec rfl, ?_⟩
        simp only [relOut]
        refine Reg.take rfl rfl ?_
        obtain ⟨z511, hz512, h39⟩ := bnd h39
        refine s_call rfl Try.call58 rfl ?_
        refine (C_slices_Clone_58 hI510.mlt (f_s_0.adv (hI11.adv.trans ((Adv.of_ext e50).trans ((Adv.of_ext e284).trans ((Adv.of_ext e429).trans (Adv.of_ext e509)))))) hz512).mono ?_
        rintro _ w513 ⟨v515, rfl, hf516, e514⟩
        refine ⟨_, rfl, ?_⟩
        have hI517 := hI510.addOwn e514 hf516
        refine Reg.nil ⟨rfl, .inr hI517.kp, rfl, ?_⟩
        intro w518 e519
        have hI520 := hI517.ext e519
        refine SeaWalk.step [7] (by kernel_rfl) (AllL.cons ?_ (AllL.nil))
        refine ⟨_, [], rfl, RSub.nil, rfl, nodupB_spec rfl, ?_⟩
        simp only [relOut]
        have hI521 := hI11.join hI520
        refine Reg.take rfl rfl ?_
        obtain ⟨z522, hz523, h39⟩ := bnd h39
        refine s_call rfl Try.call78 rfl ?_
        refine (C_slices_Compact_78 (hI521.erase 0).mlt (hI521.apart 0 rfl) (hI521.lendOwn 0 rfl) hz523).mono ?_
        rintro _ w524 ⟨v526, rfl, hf527⟩
        refine ⟨_, rfl, ?_⟩
        have hI528 := hI521.took 0 rfl hf527
        refine Reg.nil ⟨rfl, .inl rfl, rfl, ?_⟩
        intro w529 e530
        have hI531 := hI528.ext e530
        refine SeaWalk.step [8] (by kernel_rfl) (AllL.cons ?_ (AllL.nil))
        refine ⟨_, [], rfl, RSub.nil, rfl, nodupB_spec rfl, ?_⟩
        simp only [relOut]
        refine Reg.take rfl rfl ?_
        refine s_lenO rfl (hI531.ownAt 0 rfl) Try.underlying26 rfl ?_
        refine Reg.nil ⟨rfl, .inl rfl, rfl, ?_⟩
        intro w532 e533
        have hI534 := hI531.ext e533
        refine SeaWalk.step [12] (by kernel_rfl) (AllL.cons ?_ (AllL.nil))
        refine ⟨_, [], rfl, RSub.nil, rfl, nodupB_spec rfl, ?_⟩
        simp only [relOut]
        refine Reg.take rfl rfl ?_
        refine s_eql rfl rfl rfl ?_
        refine Reg.nil ⟨rfl, .inl rfl, rfl, ?_⟩
        intro w535 e536
        have hI537 := hI534.ext e536
        refine SeaWalk.step [13] (by kernel_rfl) (AllL.cons ?_ (AllL.nil))
        refine ⟨_, [], rfl, RSub.nil, rfl, nodupB_spec rfl, ?_⟩
        simp only [relOut]
        refine s_pkT rfl rfl rfl ?_
        refine Reg.nil ⟨rfl, .inl rfl, rfl, ?_⟩
        intro w538 e539
        have hI540 := hI537.ext e539
        refine SeaWalk.step [14] (by kernel_rfl) (AllL.cons ?_ (AllL.nil))
        refine ⟨_, [], rfl, RSub.nil, rfl, nodupB_spec rfl, ?_⟩
        simp only [relOut]
        refine s_as rfl rfl ?_
        refine Reg.nil ⟨rfl, .inl rfl, rfl, ?_⟩
        intro w541 e542
        have hI543 := hI540.ext e542
        refine SeaWalk.done ?_
        obtain rfl := Option.some.inj h39
        refine ⟨rfl, decide ((z522.length : Int) = (s.cuts.length : Int)), ⟨(hI543.sel [] rfl), (((Adv.of_ext e50).trans ((Adv.of_ext e284).trans ((Adv.of_ext e429).trans ((Adv.of_ext e509).trans ((hI510.addOwnA e514 hf516).trans ((Adv.of_ext e519).trans ((hI521.tookA 0 rfl hf527).trans ((Adv.of_ext e530).trans ((Adv.of_ext e533).trans ((Adv.of_ext e536).trans ((Adv.of_ext e539).trans (Adv.of_ext e542)))))))))))).trans (Hp.selA (σ := [ownR [] (intE .i64) 3 v526 z522]) [])), rfl⟩, Sub.cons rfl (Sub.nil _)⟩
    ·replace h39 := cdF hg48 h39
     refine Reg.pass rfl rfl rfl rfl ?_
     refine Reg.pass rfl rfl rfl rfl ?_
     refine Reg.nilX ⟨rfl, rfl, rfl, ?_⟩
     intro w544 e545
     have hI546 := (Hp.start (Mu := []) hI11.mlt).ext e545
     refine SeaWalk.step [6, 9] (by kernel_rfl) (AllL.cons ?_ (AllL.cons ?_ (AllL.nil)))
     ·skip
      refine ⟨_, [], rfl, RSub.nil, rfl, nodupB_spec rfl, ?_⟩
      simp only [relOut]
      refine Reg.pass rfl rfl rfl rfl ?_
      refine Reg.nil ⟨rfl, .inr hI546.kp, rfl, ?_⟩
      intro w547 e548
      have hI549 := hI546.ext e548
      refine SeaWalk.step [7, 9] (by kernel_rfl) (AllL.cons ?_ (AllL.cons ?_ (AllL.nil)))
      ·skip
       refine ⟨_, [], rfl, RSub.nil, rfl, nodupB_spec rfl, ?_⟩
       simp only [relOut]
       have hI550 := hI11.join hI549
       refine Reg.pass rfl rfl rfl rfl ?_
       refine Reg.nil ⟨rfl, .inl rfl, rfl, ?_⟩
       intro w551 e552
       have hI553 := hI550.ext e552
       refine SeaWalk.step [8, 9] (by kernel_rfl) (AllL.cons ?_ (AllL.cons ?_ (AllL.nil)))
       ·skip
        refine ⟨_, [], rfl, RSub.nil, rfl, nodupB_spec rfl, ?_⟩
        simp only [relOut]
        refine Reg.pass rfl rfl rfl rfl ?_
        refine Reg.nil ⟨rfl, .inl rfl, rfl, ?_⟩
        intro w554 e555
        have hI556 := hI553.ext e555
        refine SeaWalk.step [9] (by kernel_rfl) (AllL.cons ?_ (AllL.nil))
        refine ⟨_, [], rfl, RSub.nil, rfl, nodupB_spec rfl, ?_⟩
        simp only [relOut]
        refine Reg.pass rfl rfl rfl rfl ?_
        refine Reg.nil ⟨rfl, .inl rfl, rfl, ?_⟩
        intro w557 e558
        have hI559 := hI556.ext e558
        refine SeaWalk.step [10] (by kernel_rfl) (AllL.cons ?_ (AllL.nil))
        refine ⟨_, [], rfl, RSub.nil, rfl, nodupB_spec rfl, ?_⟩
        simp only [relOut]
        refine Reg.pass rfl rfl rfl rfl ?_
        refine Reg.nil ⟨rfl, .inl rfl, rfl, ?_⟩
        intro w560 e561
        have hI562 := hI559.ext e561
        refine SeaWalk.step [11] (by kernel_rfl) (AllL.cons ?_ (AllL.nil))
        refine ⟨_, [], rfl, RSub.nil, rfl, nodupB_spec rfl, ?_⟩
        simp only [relOut]
        refine Reg.pass rfl rfl rfl rfl ?_
        refine Reg.nil ⟨rfl, .inl rfl, rfl, ?_⟩
        intro w563 e564
        have hI565 := hI562.ext e564
        refine SeaWalk.step [12] (by kernel_rfl) (AllL.cons ?_ (AllL.nil))
        refine ⟨_, [], rfl, RSub.nil, rfl, nodupB_spec rfl, ?_⟩
        simp only [relOut]
        refine Reg.pass rfl rfl rfl rfl ?_
        refine Reg.nil ⟨rfl, .inl rfl, rfl, ?_⟩
        intro w566 e567
        have hI568 := hI565.ext e567
        refine SeaWalk.step [13] (by kernel_rfl) (AllL.cons ?_ (AllL.nil))
        refine ⟨_, [], rfl, RSub.nil, rfl, nodupB_spec rfl, ?_⟩
        simp only [relOut]
        refine s_pkF rfl rfl rfl ?_
        refine Reg.nil ⟨rfl, .inl rfl, rfl, ?_⟩
        intro w569 e570
        have hI571 := hI568.ext e570
        refine SeaWalk.step [14] (by kernel_rfl) (AllL.cons ?_ (AllL.nil))
        refine ⟨_, [], rfl, RSub.nil, rfl, nodupB_spec rfl, ?_⟩
        simp only [relOut]
        refine s_as rfl rfl ?_
        refine Reg.nil ⟨rfl, .inl rfl, rfl, ?_⟩
        intro w572 e573
        have hI574 := hI571.ext e573
        refine SeaWalk.done ?_
        obtain rfl := Option.some.inj h39
        refine ⟨rfl, false, ⟨hI574, ((Adv.of_ext e545).trans ((Adv.of_ext e548).trans ((Adv.of_ext e552).trans ((Adv.of_ext e555).trans ((Adv.of_ext e558).trans ((Adv.of_ext e561).trans ((Adv.of_ext e564).trans ((Adv.of_ext e567).trans ((Adv.of_ext e570).trans (Adv.of_ext e573)))))))))), rfl⟩, Sub.cons rfl (Sub.nil _)⟩
       ·skip
        refine ⟨_, [], rfl, RSub.nil, rfl, nodupB_spec rfl, ?_⟩
        simp only [relOut]
        refine Reg.pass rfl rfl rfl rfl ?_
        refine Reg.nil ⟨rfl, .inl rfl, rfl, ?_⟩
        intro w575 e576
        have hI577 := hI553.ext e576
        refine SeaWalk.step [8, 10] (by kernel_rfl) (AllL.cons ?_ (AllL.cons ?_ (AllL.nil)))
        ·skip
         refine ⟨_, [], rfl, RSub.nil, rfl, nodupB_spec rfl, ?_⟩
         simp only [relOut]
         refine Reg.pass rfl rfl rfl rfl ?_
         refine Reg.nil ⟨rfl, .inl rfl, rfl, ?_⟩
         intro w578 e579
         have hI580 := hI577.ext e579
         refine SeaWalk.step [10] (by kernel_rfl) (AllL.cons ?_ (AllL.nil))
         refine ⟨_, [], rfl, RSub.nil, rfl, nodupB_spec rfl, ?_⟩
         simp only [relOut]
         refine Reg.pass rfl rfl rfl rfl ?_
         refine Reg.nil ⟨rfl, .inl rfl, rfl, ?_⟩
         intro w581 e582
         have hI583 := hI580.ext e582
         refine SeaWalk.step [11] (by kernel_rfl) (AllL.cons ?_ (AllL.nil))
         refine ⟨_, [], rfl, RSub.nil, rfl, nodupB_spec rfl, ?_⟩
         simp only [relOut]
         refine Reg.pass rfl rfl rfl rfl ?_
         refine Reg.nil ⟨rfl, .inl rfl, rfl, ?_⟩
         intro w584 e585
         have hI586 := hI583.ext e585
         refine SeaWalk.step [12] (by kernel_rfl) (AllL.cons ?_ (AllL.nil))
         refine ⟨_, [], rfl, RSub.nil, rfl, nodupB_spec rfl, ?_⟩
         simp only [relOut]
         refine Reg.pass rfl rfl rfl rfl ?_
         refine Reg.nil ⟨rfl, .inl rfl, rfl, ?_⟩
         intro w587 e588
         have hI589 := hI586.ext e588
         refine SeaWalk.step [13] (by kernel_rfl) (AllL.cons ?_ (AllL.nil))
         refine ⟨_, [], rfl, RSub.nil, rfl, nodupB_spec rfl, ?_⟩
         simp only [relOut]
         refine s_pkF rfl rfl rfl ?_
         refine Reg.nil ⟨rfl, .inl rfl, rfl, ?_⟩
         intro w590 e591
         have hI592 := hI589.ext e591
         refine SeaWalk.step [14] (by kernel_rfl) (AllL.cons ?_ (AllL.nil))
         refine ⟨_, [], rfl, RSub.nil, rfl, nodupB_spec rfl, ?_⟩
         simp only [relOut]
         refine s_as rfl rfl ?_
         refine Reg.nil ⟨rfl, .inl rfl, rfl, ?_⟩
         intro w593 e594
         have hI595 := hI592.ext e594
         refine SeaWalk.done ?_
         obtain rfl := Option.some.inj h39
         refine ⟨rfl, false, ⟨hI595, ((Adv.of_ext e545).trans ((Adv.of_ext e548).trans ((Adv.of_ext e552).trans ((Adv.of_ext e576).trans ((Adv.of_ext e579).trans ((Adv.of_ext e582).trans ((Adv.of_ext e585).trans ((Adv.of_ext e588).trans ((Adv.of_ext e591).trans (Adv.of_ext e594)))))))))), rfl⟩, Sub.cons rfl (Sub.nil _)⟩
        ·skip
         refine ⟨_, [], rfl, RSub.nil, rfl, nodupB_spec rfl, ?_⟩
         simp only [relOut]
         refine Reg.pass rfl rfl rfl rfl ?_
         refine Reg.nil ⟨rfl, .inl rfl, rfl, ?_⟩
         intro w596 e597
         have hI598 := hI577.ext e597
         refine SeaWalk.step [8, 11] (by kernel_rfl) (AllL.cons ?_ (AllL.cons ?_ (AllL.nil)))
         ·skip
          refine ⟨_, [], rfl, RSub.nil, rfl, nodupB_spec rfl, ?_⟩
          simp only [relOut]
          refine Reg.pass rfl rfl rfl rfl ?_
          refine Reg.nil ⟨rfl, .inl rfl, rfl, ?_⟩
          intro w599 e600
          have hI601 := hI598.ext e600
          refine SeaWalk.step [11] (by kernel_rfl) (AllL.cons ?_ (AllL.nil))
          refine ⟨_, [], rfl, RSub.nil, rfl, nodupB_spec rfl, ?_⟩
          simp only [relOut]
          refine Reg.pass rfl rfl rfl rfl ?_
          refine Reg.nil ⟨rfl, .inl rfl, rfl, ?_⟩
          intro w602 e603
          have hI604 := hI601.ext e603
          refine SeaWalk.step [12] (by kernel_rfl) (AllL.cons ?_ (AllL.nil))
          refine ⟨_, [], rfl, RSub.nil, rfl, nodupB_spec rfl, ?_⟩
          simp only [relOut]
          refine Reg.pass rfl rfl rfl rfl ?_
          refine Reg.nil ⟨rfl, .inl rfl, rfl, ?_⟩
          intro w605 e606
          have hI607 := hI604.ext e606
          refine SeaWalk.step [13] (by kernel_rfl) (AllL.cons ?_ (AllL.nil))
          refine ⟨_, [], rfl, RSub.nil, rfl, nodupB_spec rfl, ?_⟩
          simp only [relOut]
          refine s_pkF rfl rfl rfl ?_
          refine Reg.nil ⟨rfl, .inl rfl, rfl, ?_⟩
          intro w608 e609
          have hI610 := hI607.ext e609
          refine SeaWalk.step [14] (by kernel_rfl) (AllL.cons ?_ (AllL.nil))
          refine ⟨_, [], rfl, RSub.nil, rfl, nodupB_spec rfl, ?_⟩
          simp only [relOut]
          refine s_as rfl rfl ?_
          refine Reg.nil ⟨rfl, .inl rfl, rfl, ?_⟩
          intro w611 e612
          have hI613 := hI610.ext e612
          refine SeaWalk.done ?_
          obtain rfl := Option.some.inj h39
          refine ⟨rfl, false, ⟨hI613, ((Adv.of_ext e545).trans ((Adv.of_ext e548).trans ((Adv.of_ext e552).trans ((Adv.of_ext e576).trans ((Adv.of_ext e597).trans ((Adv.of_ext e600).trans ((Adv.of_ext e603).trans ((Adv.of_ext e606).trans ((Adv.of_ext e609).trans (Adv.of_ext e612)))))))))), rfl⟩, Sub.cons rfl (Sub.nil _)⟩
         ·skip
          refine ⟨_, [], rfl, RSub.nil, rfl, nodupB_spec rfl, ?_⟩
          simp only [relOut]
          refine Reg.pass rfl rfl rfl rfl ?_
          refine Reg.nil ⟨rfl, .inl rfl, rfl, ?_⟩
          intro w614 e615
          have hI616 := hI598.ext e615
          refine SeaWalk.step [8] (by kernel_rfl) (AllL.cons ?_ (AllL.nil))
          refine ⟨_, [], rfl, RSub.nil, rfl, nodupB_spec rfl, ?_⟩
          simp only [relOut]
          refine Reg.pass rfl rfl rfl rfl ?_
          refine Reg.nil ⟨rfl, .inl rfl, rfl, ?_⟩
          intro w617 e618
          have hI619 := hI616.ext e618
          refine SeaWalk.step [12] (by kernel_rfl) (AllL.cons ?_ (AllL.nil))
          refine ⟨_, [], rfl, RSub.nil, rfl, nodupB_spec rfl, ?_⟩
          simp only [relOut]
          refine Reg.pass rfl rfl rfl rfl ?_
          refine Reg.nil ⟨rfl, .inl rfl, rfl, ?_⟩
          intro w620 e621
          have hI622 := hI619.ext e621
          refine SeaWalk.step [13] (by kernel_rfl) (AllL.cons ?_ (AllL.nil))
          refine ⟨_, [], rfl, RSub.nil, rfl, nodupB_spec rfl, ?_⟩
          simp only [relOut]
          refine s_pkF rfl rfl rfl ?_
          refine Reg.nil ⟨rfl, .inl rfl, rfl, ?_⟩
          intro w623 e624
          have hI625 := hI622.ext e624
          refine SeaWalk.step [14] (by kernel_rfl) (AllL.cons ?_ (AllL.nil))
          refine ⟨_, [], rfl, RSub.nil, rfl, nodupB_spec rfl, ?_⟩
          simp only [relOut]
          refine s_as rfl rfl ?_
          refine Reg.nil ⟨rfl, .inl rfl, rfl, ?_⟩
          intro w626 e627
          have hI628 := hI625.ext e627
          refine SeaWalk.done ?_
          obtain rfl := Option.some.inj h39
          refine ⟨rfl, false, ⟨hI628, ((Adv.of_ext e545).trans ((Adv.of_ext e548).trans ((Adv.of_ext e552).trans ((Adv.of_ext e576).trans ((Adv.of_ext e597).trans ((Adv.of_ext e615).trans ((Adv.of_ext e618).trans ((Adv.of_ext e621).trans ((Adv.of_ext e624).trans (Adv.of_ext e627)))))))))), rfl⟩, Sub.cons rfl (Sub.nil _)⟩
      ·skip
       refine ⟨_, [], rfl, RSub.nil, rfl, nodupB_spec rfl, ?_⟩
       simp only [relOut]
       refine Reg.pass rfl rfl rfl rfl ?_
       refine Reg.nil ⟨rfl, .inr hI549.kp, rfl, ?_⟩
       intro w629 e630
       have hI631 := hI549.ext e630
       refine SeaWalk.step [7, 10] (by kernel_rfl) (AllL.cons ?_ (AllL.cons ?_ (AllL.nil)))
       ·skip
        refine ⟨_, [], rfl, RSub.nil, rfl, nodupB_spec rfl, ?_⟩
        simp only [relOut]
        have hI632 := hI11.join hI631
        refine Reg.pass rfl rfl rfl rfl ?_
        refine Reg.nil ⟨rfl, .inl rfl, rfl, ?_⟩
        intro w633 e634
        have hI635 := hI632.ext e634
        refine SeaWalk.step [8, 10] (by kernel_rfl) (AllL.cons ?_ (AllL.cons ?_ (AllL.nil)))
        ·skip
         refine ⟨_, [], rfl, RSub.nil, rfl, nodupB_spec rfl, ?_⟩
         simp only [relOut]
         refine Reg.pass rfl rfl rfl rfl ?_
         refine Reg.nil ⟨rfl, .inl rfl, rfl, ?_⟩
         intro w636 e637
         have hI638 := hI635.ext e637
         refine SeaWalk.step [10] (by kernel_rfl) (AllL.cons ?_ (AllL.nil))
         refine ⟨_, [], rfl, RSub.nil, rfl, nodupB_spec rfl, ?_⟩
         simp only [relOut]
         refine Reg.pass rfl rfl rfl rfl ?_
         refine Reg.nil ⟨rfl, .inl rfl, rfl, ?_⟩
         intro w639 e640
         have hI641 := hI638.ext e640
         refine SeaWalk.step [11] (by kernel_rfl) (AllL.cons ?_ (AllL.nil))
         refine ⟨_, [], rfl, RSub.nil, rfl, nodupB_spec rfl, ?_⟩
         simp only [relOut]
         refine Reg.pass rfl rfl rfl rfl ?_
         refine Reg.nil ⟨rfl, .inl rfl, rfl, ?_⟩
         intro w642 e643
         have hI644 := hI641.ext e643
         refine SeaWalk.step [12] (by kernel_rfl) (AllL.cons ?_ (AllL.nil))
         refine ⟨_, [], rfl, RSub.nil, rfl, nodupB_spec rfl, ?_⟩
         simp only [relOut]
         refine Reg.pass rfl rfl rfl rfl ?_
         refine Reg.nil ⟨rfl, .inl rfl, rfl, ?_⟩
         intro w645 e646
         have hI647 := hI644.ext e646
         refine SeaWalk.step [13] (by kernel_rfl) (AllL.cons ?_ (AllL.nil))
         refine ⟨_, [], rfl, RSub.nil, rfl, nodupB_spec rfl, ?_⟩
         simp only [relOut]
         refine s_pkF rfl rfl rfl ?_
         refine Reg.nil ⟨rfl, .inl rfl, rfl, ?_⟩
         intro w648 e649
         have hI650 := hI647.ext e649
         refine SeaWalk.step [14] (by kernel_rfl) (AllL.cons ?_ (AllL.nil))
         refine ⟨_, [], rfl, RSub.nil, rfl, nodupB_spec rfl, ?_⟩
         simp only [relOut]
         refine s_as rfl rfl ?_
         refine Reg.nil ⟨rfl, .inl rfl, rfl, ?_⟩
         intro w651 e652
         have hI653 := hI650.ext e652
         refine SeaWalk.done ?_
         obtain rfl := Option.some.inj h39
         refine ⟨rfl, false, ⟨hI653, ((Adv.of_ext e545).trans ((Adv.of_ext e548).trans ((Adv.of_ext e630).trans ((Adv.of_ext e634).trans ((Adv.of_ext e637).trans ((Adv.of_ext e640).trans ((Adv.of_ext e643).trans ((Adv.of_ext e646).trans ((Adv.of_ext e649).trans (Adv.of_ext e652)))))))))), rfl⟩, Sub.cons rfl (Sub.nil _)⟩
        ·skip
         refine ⟨_, [], rfl, RSub.nil, rfl, nodupB_spec rfl, ?_⟩
         simp only [relOut]
         refine Reg.pass rfl rfl rfl rfl ?_
         refine Reg.nil ⟨rfl, .inl rfl, rfl, ?_⟩
         intro w654 e655
         have hI656 := hI635.ext e655
         refine SeaWalk.step [8, 11] (by kernel_rfl) (AllL.cons ?_ (AllL.cons ?_ (AllL.nil)))
         ·skip
          refine ⟨_, [], rfl, RSub.nil, rfl, nodupB_spec rfl, ?_⟩
          simp only [relOut]
          refine Reg.pass rfl rfl rfl rfl ?_
          refine Reg.nil ⟨rfl, .inl rfl, rfl, ?_⟩
          intro w657 e658
          have hI659 := hI656.ext e658
          refine SeaWalk.step [11] (by kernel_rfl) (AllL.cons ?_ (AllL.nil))
          refine ⟨_, [], rfl, RSub.nil, rfl, nodupB_spec rfl, ?_⟩
          simp only [relOut]
          refine Reg.pass rfl rfl rfl rfl ?_
          refine Reg.nil ⟨rfl, .inl rfl, rfl, ?_⟩
          intro w660 e661
          have hI662 := hI659.ext e661
          refine SeaWalk.step [12] (by kernel_rfl) (AllL.cons ?_ (AllL.nil))
          refine ⟨_, [], rfl, RSub.nil, rfl, nodupB_spec rfl, ?_⟩
          simp only [relOut]
          refine Reg.pass rfl rfl rfl rfl ?_
          refine Reg.nil ⟨rfl, .inl rfl, rfl, ?_⟩
          intro w663 e664
          have hI665 := hI662.ext e664
          refine SeaWalk.step [13] (by kernel_rfl) (AllL.cons ?_ (AllL.nil))
          refine ⟨_, [], rfl, RSub.nil, rfl, nodupB_spec rfl, ?_⟩
          simp only [relOut]
          refine s_pkF rfl rfl rfl ?_
          refine Reg.nil ⟨rfl, .inl rfl, rfl, ?_⟩
          intro w666 e667
          have hI668 := hI665.ext e667
          refine SeaWalk.step [14] (by kernel_rfl) (AllL.cons ?_ (AllL.nil))
          refine ⟨_, [], rfl, RSub.nil, rfl, nodupB_spec rfl, ?_⟩
          simp only [relOut]
          refine s_as rfl rfl ?_
          refine Reg.nil ⟨rfl, .inl rfl, rfl, ?_⟩
          intro w669 e670
          have hI671 := hI668.ext e670
          refine SeaWalk.done ?_
          obtain rfl := Option.some.inj h39
          refine ⟨rfl, false, ⟨hI671, ((Adv.of_ext e545).trans ((Adv.of_ext e548).trans ((Adv.of_ext e630).trans ((Adv.of_ext e634).trans ((Adv.of_ext e655).trans ((Adv.of_ext e658).trans ((Adv.of_ext e661).trans ((Adv.of_ext e664).trans ((Adv.of_ext e667).trans (Adv.of_ext e670)))))))))), rfl⟩, Sub.cons rfl (Sub.nil _)⟩
         ·skip
          refine ⟨_, [], rfl, RSub.nil, rfl, nodupB_spec rfl, ?_⟩
          simp only [relOut]
          refine Reg.pass rfl rfl rfl rfl ?_
          refine Reg.nil ⟨rfl, .inl rfl, rfl, ?_⟩
          intro w672 e673
          have hI674 := hI656.ext e673
          refine SeaWalk.step [8] (by kernel_rfl) (AllL.cons ?_ (AllL.nil))
          refine ⟨_, [], rfl, RSub.nil, rfl, nodupB_spec rfl, ?_⟩
          simp only [relOut]
          refine Reg.pass rfl rfl rfl rfl ?_
          refine Reg.nil ⟨rfl, .inl rfl, rfl, ?_⟩
          intro w675 e676
          have hI677 := hI674.ext e676
          refine SeaWalk.step [12] (by kernel_rfl) (AllL.cons ?_ (AllL.nil))
          refine ⟨_, [], rfl, RSub.nil, rfl, nodupB_spec rfl, ?_⟩
          simp only [relOut]
          refine Reg.pass rfl rfl rfl rfl ?_
          refine Reg.nil ⟨rfl, .inl rfl, rfl, ?_⟩
          intro w678 e679
          have hI680 := hI677.ext e679
          refine SeaWalk.step [13] (by kernel_rfl) (AllL.cons ?_ (AllL.nil))
          refine ⟨_, [], rfl, RSub.nil, rfl, nodupB_spec rfl, ?_⟩
          simp only [relOut]
          refine s_pkF rfl rfl rfl ?_
          refine Reg.nil ⟨rfl, .inl rfl, rfl, ?_⟩
          intro w681 e682
          have hI683 := hI680.ext e682
          refine SeaWalk.step [14] (by kernel_rfl) (AllL.cons ?_ (AllL.nil))
          refine ⟨_, [], rfl, RSub.nil, rfl, nodupB_spec rfl, ?_⟩
          simp only [relOut]
          refine s_as rfl rfl ?_
          refine Reg.nil ⟨rfl, .inl rfl, rfl, ?_⟩
          intro w684 e685
          have hI686 := hI683.ext e685
          refine SeaWalk.done ?_
          obtain rfl := Option.some.inj h39
          refine ⟨rfl, false, ⟨hI686, ((Adv.of_ext e545).trans ((Adv.of_ext e548).trans ((Adv.of_ext e630).trans ((Adv.of_ext e634).trans ((Adv.of_ext e655).trans ((Adv.of_ext e673).trans ((Adv.of_ext e676).trans ((Adv.of_ext e679).trans ((Adv.of_ext e682).trans (Adv.of_ext e685)))))))))), rfl⟩, Sub.cons rfl (Sub.nil _)⟩
       ·skip
        refine ⟨_, [], rfl, RSub.nil, rfl, nodupB_spec rfl, ?_⟩
        simp only [relOut]
        refine Reg.pass rfl rfl rfl rfl ?_
        refine Reg.nil ⟨rfl, .inr hI631.kp, rfl, ?_⟩
        intro w687 e688
        have hI689 := hI631.ext e688
        refine SeaWalk.step [7, 11] (by kernel_rfl) (AllL.cons ?_ (AllL.cons ?_ (AllL.nil)))
        ·skip
         refine ⟨_, [], rfl, RSub.nil, rfl, nodupB_spec rfl, ?_⟩
         simp only [relOut]
         have hI690 := hI11.join hI689
         refine Reg.pass rfl rfl rfl rfl ?_
         refine Reg.nil ⟨rfl, .inl rfl, rfl, ?_⟩
         intro w691 e692
         have hI693 := hI690.ext e692
         refine SeaWalk.step [8, 11] (by kernel_rfl) (AllL.cons ?_ (AllL.cons ?_ (AllL.nil)))
         ·skip
          refine ⟨_, [], rfl, RSub.nil, rfl, nodupB_spec rfl, ?_⟩
          simp only [relOut]
          refine Reg.pass rfl rfl rfl rfl ?_
          refine Reg.nil ⟨rfl, .inl rfl, rfl, ?_⟩
          intro w694 e695
          have hI696 := hI693.ext e695
          refine SeaWalk.step [11] (by kernel_rfl) (AllL.cons ?_ (AllL.nil))
          refine ⟨_, [], rfl, RSub.nil, rfl, nodupB_spec rfl, ?_⟩
          simp only [relOut]
          refine Reg.pass rfl rfl rfl rfl ?_
          refine Reg.nil ⟨rfl, .inl rfl, rfl, ?_⟩
          intro w697 e698
          have hI699 := hI696.ext e698
          refine SeaWalk.step [12] (by kernel_rfl) (AllL.cons ?_ (AllL.nil))
          refine ⟨_, [], rfl, RSub.nil, rfl, nodupB_spec rfl, ?_⟩
          simp only [relOut]
          refine Reg.pass rfl rfl rfl rfl ?_
          refine Reg.nil ⟨rfl, .inl rfl, rfl, ?_⟩
          intro w700 e701
          have hI702 := hI699.ext e701
          refine SeaWalk.step [13] (by kernel_rfl) (AllL.cons ?_ (AllL.nil))
          refine ⟨_, [], rfl, RSub.nil, rfl, nodupB_spec rfl, ?_⟩
          simp only [relOut]
          refine s_pkF rfl rfl rfl ?_
          refine Reg.nil ⟨rfl, .inl rfl, rfl, ?_⟩
          intro w703 e704
          have hI705 := hI702.ext e704
          refine SeaWalk.step [14] (by kernel_rfl) (AllL.cons ?_ (AllL.nil))
          refine ⟨_, [], rfl, RSub.nil, rfl, nodupB_spec rfl, ?_⟩
          simp only [relOut]
          refine s_as rfl rfl ?_
          refine Reg.nil ⟨rfl, .inl rfl, rfl, ?_⟩
          intro w706 e707
          have hI708 := hI705.ext e707
          refine SeaWalk.done ?_
          obtain rfl := Option.some.inj h39
          refine ⟨rfl, false, ⟨hI708, ((Adv.of_ext e545).trans ((Adv.of_ext e548).trans ((Adv.of_ext e630).trans ((Adv.of_ext e688).trans ((Adv.of_ext e692).trans ((Adv.of_ext e695).trans ((Adv.of_ext e698).trans ((Adv.of_ext e701).trans ((Adv.of_ext e704).trans (Adv.of_ext e707)))))))))), rfl⟩, Sub.cons rfl (Sub.nil _)⟩
         ·skip
          refine ⟨_, [], rfl, RSub.nil, rfl, nodupB_spec rfl, ?_⟩
          simp only [relOut]
          refine Reg.pass rfl rfl rfl rfl ?_
          refine Reg.nil ⟨rfl, .inl rfl, rfl, ?_⟩
          intro w709 e710
          have hI711 := hI693.ext e710
          refine SeaWalk.step [8] (by kernel_rfl) (AllL.cons ?_ (AllL.nil))
          refine ⟨_, [], rfl, RSub.nil, rfl, nodupB_spec rfl, ?_⟩
          simp only [relOut]
          refine Reg.pass rfl rfl rfl rfl ?_
          refine Reg.nil ⟨rfl, .inl rfl, rfl, ?_⟩
          intro w712 e713
          have hI714 := hI711.ext e713
          refine SeaWalk.step [12] (by kernel_rfl) (AllL.cons ?_ (AllL.nil))
          refine ⟨_, [], rfl, RSub.nil, rfl, nodupB_spec rfl, ?_⟩
          simp only [relOut]
          refine Reg.pass rfl rfl rfl rfl ?_
          refine Reg.nil ⟨rfl, .inl rfl, rfl, ?_⟩
          intro w715 e716
          have hI717 := hI714.ext e716
          refine SeaWalk.step [13] (by kernel_rfl) (AllL.cons ?_ (AllL.nil))
          refine ⟨_, [], rfl, RSub.nil, rfl, nodupB_spec rfl, ?_⟩
          simp only [relOut]
          refine s_pkF rfl rfl rfl ?_
          refine Reg.nil ⟨rfl, .inl rfl, rfl, ?_⟩
          intro w718 e719
          have hI720 := hI717.ext e719
          refine SeaWalk.step [14] (by kernel_rfl) (AllL.cons ?_ (AllL.nil))
          refine ⟨_, [], rfl, RSub.nil, rfl, nodupB_spec rfl, ?_⟩
          simp only [relOut]
          refine s_as rfl rfl ?_
          refine Reg.nil ⟨rfl, .inl rfl, rfl, ?_⟩
          intro w721 e722
          have hI723 := hI720.ext e722
          refine SeaWalk.done ?_
          obtain rfl := Option.some.inj h39
          refine ⟨rfl, false, ⟨hI723, ((Adv.of_ext e545).trans ((Adv.of_ext e548).trans ((Adv.of_ext e630).trans ((Adv.of_ext e688).trans ((Adv.of_ext e692).trans ((Adv.of_ext e710).trans ((Adv.of_ext e713).trans ((Adv.of_ext e716).trans ((Adv.of_ext e719).trans (Adv.of_ext e722)))))))))), rfl⟩, Sub.cons rfl (Sub.nil _)⟩
        ·skip
         refine ⟨_, [], rfl, RSub.nil, rfl, nodupB_spec rfl, ?_⟩
         simp only [relOut]
         refine Reg.pass rfl rfl rfl rfl ?_
         refine Reg.nil ⟨rfl, .inr hI689.kp, rfl, ?_⟩
         intro w724 e725
         have hI726 := hI689.ext e725
         refine SeaWalk.step [7] (by kernel_rfl) (AllL.cons ?_ (AllL.nil))
         refine ⟨_, [], rfl, RSub.nil, rfl, nodupB_spec rfl, ?_⟩
         simp only [relOut]
         have hI727 := hI11.join hI726
         refine Reg.pass rfl rfl rfl rfl ?_
         refine Reg.nil ⟨rfl, .inl rfl, rfl, ?_⟩
         intro w728 e729
         have hI730 := hI727.ext e729
         refine SeaWalk.step [8] (by kernel_rfl) (AllL.cons ?_ (AllL.nil))
         refine ⟨_, [], rfl, RSub.nil, rfl, nodupB_spec rfl, ?_⟩
         simp only [relOut]
         refine Reg.pass rfl rfl rfl rfl ?_
         refine Reg.nil ⟨rfl, .inl rfl, rfl, ?_⟩
         intro w731 e732
         have hI733 := hI730.ext e732
         refine SeaWalk.step [12] (by kernel_rfl) (AllL.cons ?_ (AllL.nil))
         refine ⟨_, [], rfl, RSub.nil, rfl, nodupB_spec rfl, ?_⟩
         simp only [relOut]
         refine Reg.pass rfl rfl rfl rfl ?_
         refine Reg.nil ⟨rfl, .inl rfl, rfl, ?_⟩
         intro w734 e735
         have hI736 := hI733.ext e735
         refine SeaWalk.step [13] (by kernel_rfl) (AllL.cons ?_ (AllL.nil))
         refine ⟨_, [], rfl, RSub.nil, rfl, nodupB_spec rfl, ?_⟩
         simp only [relOut]
         refine s_pkF rfl rfl rfl ?_
         refine Reg.nil ⟨rfl, .inl rfl, rfl, ?_⟩
         intro w737 e738
         have hI739 := hI736.ext e738
         refine SeaWalk.step [14] (by kernel_rfl) (AllL.cons ?_ (AllL.nil))
         refine ⟨_, [], rfl, RSub.nil, rfl, nodupB_spec rfl, ?_⟩
         simp only [relOut]
         refine s_as rfl rfl ?_
         refine Reg.nil ⟨rfl, .inl rfl, rfl, ?_⟩
         intro w740 e741
         have hI742 := hI739.ext e741
         refine SeaWalk.done ?_
         obtain rfl := Option.some.inj h39
         refine ⟨rfl, false, ⟨hI742, ((Adv.of_ext e545).trans ((Adv.of_ext e548).trans ((Adv.of_ext e630).trans ((Adv.of_ext e688).trans ((Adv.of_ext e725).trans ((Adv.of_ext e729).trans ((Adv.of_ext e732).trans ((Adv.of_ext e735).trans ((Adv.of_ext e738).trans (Adv.of_ext e741)))))))))), rfl⟩, Sub.cons rfl (Sub.nil _)⟩
     ·skip
      refine ⟨_, [], rfl, RSub.nil, rfl, nodupB_spec rfl, ?_⟩
      simp only [relOut]
      refine Reg.pass rfl rfl rfl rfl ?_
      refine Reg.nil ⟨rfl, .inr hI546.kp, rfl, ?_⟩
      intro w743 e744
      have hI745 := hI546.ext e744
      refine SeaWalk.step [6, 10] (by kernel_rfl) (AllL.cons ?_ (AllL.cons ?_ (AllL.nil)))
      ·skip
       refine ⟨_, [], rfl, RSub.nil, rfl, nodupB_spec rfl, ?_⟩
       simp only [relOut]
       refine Reg.pass rfl rfl rfl rfl ?_
       refine Reg.nil ⟨rfl, .inr hI745.kp, rfl, ?_⟩
       intro w746 e747
       have hI748 := hI745.ext e747
       refine SeaWalk.step [7, 10] (by kernel_rfl) (AllL.cons ?_ (AllL.cons ?_ (AllL.nil)))
       ·skip
        refine ⟨_, [], rfl, RSub.nil, rfl, nodupB_spec rfl, ?_⟩
        simp only [relOut]
        have hI749 := hI11.join hI748
        refine Reg.pass rfl rfl rfl rfl ?_
        refine Reg.nil ⟨rfl, .inl rfl, rfl, ?_⟩
        intro w750 e751
        have hI752 := hI749.ext e751
        refine SeaWalk.step [8, 10] (by kernel_rfl) (AllL.cons ?_ (AllL.cons ?_ (AllL.nil)))
        ·skip
         refine ⟨_, [], rfl, RSub.nil, rfl, nodupB_spec rfl, ?_⟩
         simp only [relOut]
         refine Reg.pass rfl rfl rfl rfl ?_
         refine Reg.nil ⟨rfl, .inl rfl, rfl, ?_⟩
         intro w753 e754
         have hI755 := hI752.ext e754
         refine SeaWalk.step [10] (by kernel_rfl) (AllL.cons ?_ (AllL.nil))
         refine ⟨_, [], rfl, RSub.nil, rfl, nodupB_spec rfl, ?_⟩
         simp only [relOut]
         refine Reg.pass rfl rfl rfl rfl ?_
         refine Reg.nil ⟨rfl, .inl rfl, rfl, ?_⟩
         intro w756 e757
         have hI758 := hI755.ext e757
         refine SeaWalk.step [11] (by kernel_rfl) (AllL.cons ?_ (AllL.nil))
         refine ⟨_, [], rfl, RSub.nil, rfl, nodupB_spec rfl, ?_⟩
         simp only [relOut]
         refine Reg.pass rfl rfl rfl rfl ?_
         refine Reg.nil ⟨rfl, .inl rfl, rfl, ?_⟩
         intro w759 e760
         have hI761 := hI758.ext e760
         refine SeaWalk.step [12] (by kernel_rfl) (AllL.cons ?_ (AllL.nil))
         refine ⟨_, [], rfl, RSub.nil, rfl, nodupB_spec rfl, ?_⟩
         simp only [relOut]
         refine Reg.pass rfl rfl rfl rfl ?_
         refine Reg.nil ⟨rfl, .inl rfl, rfl, ?_⟩
         intro w762 e763
         have hI764 := hI761.ext e763
         refine SeaWalk.step [13] (by kernel_rfl) (AllL.cons ?_ (AllL.nil))
         refine ⟨_, [], rfl, RSub.nil, rfl, nodupB_spec rfl, ?_⟩
         simp only [relOut]
         refine s_pkF rfl rfl rfl ?_
         refine Reg.nil ⟨rfl, .inl rfl, rfl, ?_⟩
         intro w765 e766
         have hI767 := hI764.ext e766
         refine SeaWalk.step [14] (by kernel_rfl) (AllL.cons ?_ (AllL.nil))
         refine ⟨_, [], rfl, RSub.nil, rfl, nodupB_spec rfl, ?_⟩
         simp only [relOut]
         refine s_as rfl rfl ?_
         refine Reg.nil ⟨rfl, .inl rfl, rfl, ?_⟩
         intro w768 e769
         have hI770 := hI767.ext e769
         refine SeaWalk.done ?_
         obtain rfl := Option.some.inj h39
         refine ⟨rfl, false, ⟨hI770, ((Adv.of_ext e545).trans ((Adv.of_ext e744).trans ((Adv.of_ext e747).trans ((Adv.of_ext e751).trans ((Adv.of_ext e754).trans ((Adv.of_ext e757).trans ((Adv.of_ext e760).trans ((Adv.of_ext e763).trans ((Adv.of_ext e766).trans (Adv.of_ext e769)))))))))), rfl⟩, Sub.cons rfl (Sub.nil _)⟩
        ·skip
         refine ⟨_, [], rfl, RSub.nil, rfl, nodupB_spec rfl, ?_⟩
         simp only [relOut]
         refine Reg.pass rfl rfl rfl rfl ?_
         refine Reg.nil ⟨rfl, .inl rfl, rfl, ?_⟩
         intro w771 e772
         have hI773 := hI752.ext e772
         refine SeaWalk.step [8, 11] (by kernel_rfl) (AllL.cons ?_ (AllL.cons ?_ (AllL.nil)))
         ·skip
          refine ⟨_, [], rfl, RSub.nil, rfl, nodupB_spec rfl, ?_⟩
          simp only [relOut]
          refine Reg.pass rfl rfl rfl rfl ?_
          refine Reg.nil ⟨rfl, .inl rfl, rfl, ?_⟩
          intro w774 e775
          have hI776 := hI773.ext e775
          refine SeaWalk.step [11] (by kernel_rfl) (AllL.cons ?_ (AllL.nil))
          refine ⟨_, [], rfl, RSub.nil, rfl, nodupB_spec rfl, ?_⟩
          simp only [relOut]
          refine Reg.pass rfl rfl rfl rfl ?_
          refine Reg.nil ⟨rfl, .inl rfl, rfl, ?_⟩
          intro w777 e778
          have hI779 := hI776.ext e778
          refine SeaWalk.step [12] (by kernel_rfl) (AllL.cons ?_ (AllL.nil))
          refine ⟨_, [], rfl, RSub.nil, rfl, nodupB_spec rfl, ?_⟩
          simp only [relOut]
          refine Reg.pass rfl rfl rfl rfl ?_
          refine Reg.nil ⟨rfl, .inl rfl, rfl, ?_⟩
          intro w780 e781
          have hI782 := hI779.ext e781
          refine SeaWalk.step [13] (by kernel_rfl) (AllL.cons ?_ (AllL.nil))
          refine ⟨_, [], rfl, RSub.nil, rfl, nodupB_spec rfl, ?_⟩
          simp only [relOut]
          refine s_pkF rfl rfl rfl ?_
          refine Reg.nil ⟨rfl, .inl rfl, rfl, ?_⟩
          intro w783 e784
          have hI785 := hI782.ext e784
          refine SeaWalk.step [14] (by kernel_rfl) (AllL.cons ?_ (AllL.nil))
          refine ⟨_, [], rfl, RSub.nil, rfl, nodupB_spec rfl, ?_⟩
          simp only [relOut]
          refine s_as rfl rfl ?_
          refine Reg.nil ⟨rfl, .inl rfl, rfl, ?_⟩
          intro w786 e787
          have hI788 := hI785.ext e787
          refine SeaWalk.done ?_
          obtain rfl := Option.some.inj h39
          refine ⟨rfl, false, ⟨hI788, ((Adv.of_ext e545).trans ((Adv.of_ext e744).trans ((Adv.of_ext e747).trans ((Adv.of_ext e751).trans ((Adv.of_ext e772).trans ((Adv.of_ext e775).trans ((Adv.of_ext e778).trans ((Adv.of_ext e781).trans ((Adv.of_ext e784).trans (Adv.of_ext e787)))))))))), rfl⟩, Sub.cons rfl (Sub.nil _)⟩
         ·skip
          refine ⟨_, [], rfl, RSub.nil, rfl, nodupB_spec rfl, ?_⟩
          simp only [relOut]
          refine Reg.pass rfl rfl rfl rfl ?_
          refine Reg.nil ⟨rfl, .inl rfl, rfl, ?_⟩
          intro w789 e790
          have hI791 := hI773.ext e790
          refine SeaWalk.step [8] (by kernel_rfl) (AllL.cons ?_ (AllL.nil))
          refine ⟨_, [], rfl, RSub.nil, rfl, nodupB_spec rfl, ?_⟩
          simp only [relOut]
          refine Reg.pass rfl rfl rfl rfl ?_
          refine Reg.nil ⟨rfl, .inl rfl, rfl, ?_⟩
          intro w792 e793
          have hI794 := hI791.ext e793
          refine SeaWalk.step [12] (by kernel_rfl) (AllL.cons ?_ (AllL.nil))
          refine ⟨_, [], rfl, RSub.nil, rfl, nodupB_spec rfl, ?_⟩
          simp only [relOut]
          refine Reg.pass rfl rfl rfl rfl ?_
          refine Reg.nil ⟨rfl, .inl rfl, rfl, ?_⟩
          intro w795 e796
          have hI797 := hI794.ext e796
          refine SeaWalk.step [13] (by kernel_rfl) (AllL.cons ?_ (AllL.nil))
          refine ⟨_, [], rfl, RSub.nil, rfl, nodupB_spec rfl, ?_⟩
          simp only [relOut]
          refine s_pkF rfl rfl rfl ?_
          refine Reg.nil ⟨rfl, .inl rfl, rfl, ?_⟩
          intro w798 e799
          have hI800 := hI797.ext e799
          refine SeaWalk.step [14] (by kernel_rfl) (AllL.cons ?_ (AllL.nil))
          refine ⟨_, [], rfl, RSub.nil, rfl, nodupB_spec rfl, ?_⟩
          simp only [relOut]
          refine s_as rfl rfl ?_
          refine Reg.nil ⟨rfl, .inl rfl, rfl, ?_⟩
          intro w801 e802
          have hI803 := hI800.ext e802
          refine SeaWalk.done ?_
          obtain rfl := Option.some.inj h39
          refine ⟨rfl, false, ⟨hI803, ((Adv.of_ext e545).trans ((Adv.of_ext e744).trans ((Adv.of_ext e747).trans ((Adv.of_ext e751).trans ((Adv.of_ext e772).trans ((Adv.of_ext e790).trans ((Adv.of_ext e793).trans ((Adv.of_ext e796).trans ((Adv.of_ext e799).trans (Adv.of_ext e802)))))))))), rfl⟩, Sub.cons rfl (Sub.nil _)⟩
       ·skip
        refine ⟨_, [], rfl, RSub.nil, rfl, nodupB_spec rfl, ?_⟩
        simp only [relOut]
        refine Reg.pass rfl rfl rfl rfl ?_
        refine Reg.nil ⟨rfl, .inr hI748.kp, rfl, ?_⟩
        intro w804 e805
        have hI806 := hI748.ext e805
        refine SeaWalk.step [7, 11] (by kernel_rfl) (AllL.cons ?_ (AllL.cons ?_ (AllL.nil)))
        ·skip
         refine ⟨_, [], rfl, RSub.nil, rfl, nodupB_spec rfl, ?_⟩
         simp only [relOut]
         have hI807 := hI11.join hI806
         refine Reg.pass rfl rfl rfl rfl ?_
         refine Reg.nil ⟨rfl, .inl rfl, rfl, ?_⟩
         intro w808 e809
         have hI810 := hI807.ext e809
         refine SeaWalk.step [8, 11] (by kernel_rfl) (AllL.cons ?_ (AllL.cons ?_ (AllL.nil)))
         ·skip
          refine ⟨_, [], rfl, RSub.nil, rfl, nodupB_spec rfl, ?_⟩
          simp only [relOut]
          refine Reg.pass rfl rfl rfl rfl ?_
          refine Reg.nil ⟨rfl, .inl rfl, rfl, ?_⟩
          intro w811 e812
          have hI813 := hI810.ext e812
          refine SeaWalk.step [11] (by kernel_rfl) (AllL.cons ?_ (AllL.nil))
          refine ⟨_, [], rfl, RSub.nil, rfl, nodupB_spec rfl, ?_⟩
          simp only [relOut]
          refine Reg.pass rfl rfl rfl rfl ?_
          refine Reg.nil ⟨rfl, .inl rfl, rfl, ?_⟩
          intro w814 e815
          have hI816 := hI813.ext e815
          refine SeaWalk.step [12] (by kernel_rfl) (AllL.cons ?_ (AllL.nil))
          refine ⟨_, [], rfl, RSub.nil, rfl, nodupB_spec rfl, ?_⟩
          simp only [relOut]
          refine Reg.pass rfl rfl rfl rfl ?_
          refine Reg.nil ⟨rfl, .inl rfl, rfl, ?_⟩
          intro w817 e818
          have hI819 := hI816.ext e818
          refine SeaWalk.step [13] (by kernel_rfl) (AllL.cons ?_ (AllL.nil))
          refine ⟨_, [], rfl, RSub.nil, rfl, nodupB_spec rfl, ?_⟩
          simp only [relOut]
          refine s_pkF rfl rfl rfl ?_
          refine Reg.nil ⟨rfl, .inl rfl, rfl, ?_⟩
          intro w820 e821
          have hI822 := hI819.ext e821
          refine SeaWalk.step [14] (by kernel_rfl) (AllL.cons ?_ (AllL.nil))
          refine ⟨_, [], rfl, RSub.nil, rfl, nodupB_spec rfl, ?_⟩
          simp only [relOut]
          refine s_as rfl rfl ?_
          refine Reg.nil ⟨rfl, .inl rfl, rfl, ?_⟩
          intro w823 e824
          have hI825 := hI822.ext e824
          refine SeaWalk.done ?_
          obtain rfl := Option.some.inj h39
          refine ⟨rfl, false, ⟨hI825, ((Adv.of_ext e545).trans ((Adv.of_ext e744).trans ((Adv.of_ext e747).trans ((Adv.of_ext e805).trans ((Adv.of_ext e809).trans ((Adv.of_ext e812).trans ((Adv.of_ext e815).trans ((Adv.of_ext e818).trans ((Adv.of_ext e821).trans (Adv.of_ext e824)))))))))), rfl⟩, Sub.cons rfl (Sub.nil _)⟩
         ·skip
          refine ⟨_, [], rfl, RSub.nil, rfl, nodupB_spec rfl, ?_⟩
          simp only [relOut]
          refine Reg.pass rfl rfl rfl rfl ?_
          refine Reg.nil ⟨rfl, .inl rfl, rfl, ?_⟩
          intro w826 e827
          have hI828 := hI810.ext e827
          refine SeaWalk.step [8] (by kernel_rfl) (AllL.cons ?_ (AllL.nil))
          refine ⟨_, [], rfl, RSub.nil, rfl, nodupB_spec rfl, ?_⟩
          simp only [relOut]
          refine Reg.pass rfl rfl rfl rfl ?_
          refine Reg.nil ⟨rfl, .inl rfl, rfl, ?_⟩
          intro w829 e830
          have hI831 := hI828.ext e830
          refine SeaWalk.step [12] (by kernel_rfl) (AllL.cons ?_ (AllL.nil))
          refine ⟨_, [], rfl, RSub.nil, rfl, nodupB_spec rfl, ?_⟩
          simp only [relOut]
          refine Reg.pass rfl rfl rfl rfl ?_
          refine Reg.nil ⟨rfl, .inl rfl, rfl, ?_⟩
          intro w832 e833
          have hI834 := hI831.ext e833
          refine SeaWalk.step [13] (by kernel_rfl) (AllL.cons ?_ (AllL.nil))
          refine ⟨_, [], rfl, RSub.nil, rfl, nodupB_spec rfl, ?_⟩
          simp only [relOut]
          refine s_pkF rfl rfl rfl ?_
          refine Reg.nil ⟨rfl, .inl rfl, rfl, ?_⟩
          intro w835 e836
          have hI837 := hI834.ext e836
          refine SeaWalk.step [14] (by kernel_rfl) (AllL.cons ?_ (AllL.nil))
          refine ⟨_, [], rfl, RSub.nil, rfl, nodupB_spec rfl, ?_⟩
          simp only [relOut]
          refine s_as rfl rfl ?_
          refine Reg.nil ⟨rfl, .inl rfl, rfl, ?_⟩
          intro w838 e839
          have hI840 := hI837.ext e839
          refine SeaWalk.done ?_
          obtain rfl := Option.some.inj h39
          refine ⟨rfl, false, ⟨hI840, ((Adv.of_ext e545).trans ((Adv.of_ext e744).trans ((Adv.of_ext e747).trans ((Adv.of_ext e805).trans ((Adv.of_ext e809).trans ((Adv.of_ext e827).trans ((Adv.of_ext e830).trans ((Adv.of_ext e833).trans ((Adv.of_ext e836).trans (Adv.of_ext e839)))))))))), rfl⟩, Sub.cons rfl (Sub.nil _)⟩
        ·skip
         refine ⟨_, [], rfl, RSub.nil, rfl, nodupB_spec rfl, ?_⟩
         simp only [relOut]
         refine Reg.pass rfl rfl rfl rfl ?_
         refine Reg.nil ⟨rfl, .inr hI806.kp, rfl, ?_⟩
         intro w841 e842
         have hI843 := hI806.ext e842
         refine SeaWalk.step [7] (by kernel_rfl) (AllL.cons ?_ (AllL.nil))
         refine ⟨_, [], rfl, RSub.nil, rfl, nodupB_spec rfl, ?_⟩
         simp only [relOut]
         have hI844 := hI11.join hI843
         refine Reg.pass rfl rfl rfl rfl ?_
         refine Reg.nil ⟨rfl, .inl rfl, rfl, ?_⟩
         intro w845 e846
         have hI847 := hI844.ext e846
         refine SeaWalk.step [8] (by kernel_rfl) (AllL.cons ?_ (AllL.nil))
         refine ⟨_, [], rfl, RSub.nil, rfl, nodupB_spec rfl, ?_⟩
         simp only [relOut]
         refine Reg.pass rfl rfl rfl rfl ?_
         refine Reg.nil ⟨rfl, .inl rfl, rfl, ?_⟩
         intro w848 e849
         have hI850 := hI847.ext e849
         refine SeaWalk.step [12] (by kernel_rfl) (AllL.cons ?_ (AllL.nil))
         refine ⟨_, [], rfl, RSub.nil, rfl, nodupB_spec rfl, ?_⟩
         simp only [relOut]
         refine Reg.pass rfl rfl rfl rfl ?_
         refine Reg.nil ⟨rfl, .inl rfl, rfl, ?_⟩
         intro w851 e852
         have hI853 := hI850.ext e852
         refine SeaWalk.step [13] (by kernel_rfl) (AllL.cons ?_ (AllL.nil))
         refine ⟨_, [], rfl, RSub.nil, rfl, nodupB_spec rfl, ?_⟩
         simp only [relOut]
         refine s_pkF rfl rfl rfl ?_
         refine Reg.nil ⟨rfl, .inl rfl, rfl, ?_⟩
         intro w854 e855
         have hI856 := hI853.ext e855
         refine SeaWalk.step [14] (by kernel_rfl) (AllL.cons ?_ (AllL.nil))
         refine ⟨_, [], rfl, RSub.nil, rfl, nodupB_spec rfl, ?_⟩
         simp only [relOut]
         refine s_as rfl rfl ?_
         refine Reg.nil ⟨rfl, .inl rfl, rfl, ?_⟩
         intro w857 e858
         have hI859 := hI856.ext e858
         refine SeaWalk.done ?_
         obtain rfl := Option.some.inj h39
         refine ⟨rfl, false, ⟨hI859, ((Adv.of_ext e545).trans ((Adv.of_ext e744).trans ((Adv.of_ext e747).trans ((Adv.of_ext e805).trans ((Adv.of_ext e842).trans ((Adv.of_ext e846).trans ((Adv.of_ext e849).trans ((Adv.of_ext e852).trans ((Adv.of_ext e855).trans (Adv.of_ext e858)))))))))), rfl⟩, Sub.cons rfl (Sub.nil _)⟩
      ·skip
       refine ⟨_, [], rfl, RSub.nil, rfl, nodupB_spec rfl, ?_⟩
       simp only [relOut]
       refine Reg.pass rfl rfl rfl rfl ?_
       refine Reg.nil ⟨rfl, .inr hI745.kp, rfl, ?_⟩
       intro w860 e861
       have hI862 := hI745.ext e861
       refine SeaWalk.step [6, 11] (by kernel_rfl) (AllL.cons ?_ (AllL.cons ?_ (AllL.nil)))
       ·skip
        refine ⟨_, [], rfl, RSub.nil, rfl, nodupB_spec rfl, ?_⟩
        simp only [relOut]
        refine Reg.pass rfl rfl rfl rfl ?_
        refine Reg.nil ⟨rfl, .inr hI862.kp, rfl, ?_⟩
        intro w863 e864
        have hI865 := hI862.ext e864
        refine SeaWalk.step [7, 11] (by kernel_rfl) (AllL.cons ?_ (AllL.cons ?_ (AllL.nil)))
        ·skip
         refine ⟨_, [], rfl, RSub.nil, rfl, nodupB_spec rfl, ?_⟩
         simp only [relOut]
         have hI866 := hI11.join hI865
         refine Reg.pass rfl rfl rfl rfl ?_
         refine Reg.nil ⟨rfl, .inl rfl, rfl, ?_⟩
         intro w867 e868
         have hI869 := hI866.ext e868
         refine SeaWalk.step [8, 11] (by kernel_rfl) (AllL.cons ?_ (AllL.cons ?_ (AllL.nil)))
         ·skip
          refine ⟨_, [], rfl, RSub.nil, rfl, nodupB_spec rfl, ?_⟩
          simp only [relOut]
          refine Reg.pass rfl rfl rfl rfl ?_
          refine Reg.nil ⟨rfl, .inl rfl, rfl, ?_⟩
          intro w870 e871
          have hI872 := hI869.ext e871
          refine SeaWalk.step [11] (by kernel_rfl) (AllL.cons ?_ (AllL.nil))
          refine ⟨_, [], rfl, RSub.nil, rfl, nodupB_spec rfl, ?_⟩
          simp only [relOut]
          refine Reg.pass rfl rfl rfl rfl ?_
          refine Reg.nil ⟨rfl, .inl rfl, rfl, ?_⟩
          intro w873 e874
          have hI875 := hI872.ext e874
          refine SeaWalk.step [12] (by kernel_rfl) (AllL.cons ?_ (AllL.nil))
          refine ⟨_, [], rfl, RSub.nil, rfl, nodupB_spec rfl, ?_⟩
          simp only [relOut]
          refine Reg.pass rfl rfl rfl rfl ?_
          refine Reg.nil ⟨rfl, .inl rfl, rfl, ?_⟩
          intro w876 e877
          have hI878 := hI875.ext e877
          refine SeaWalk.step [13] (by kernel_rfl) (AllL.cons ?_ (AllL.nil))
          refine ⟨_, [], rfl, RSub.nil, rfl, nodupB_spec rfl, ?_⟩
          simp only [relOut]
          refine s_pkF rfl rfl rfl ?_
          refine Reg.nil ⟨rfl, .inl rfl, rfl, ?_⟩
          intro w879 e880
          have hI881 := hI878.ext e880
          refine SeaWalk.step [14] (by kernel_rfl) (AllL.cons ?_ (AllL.nil))
          refine ⟨_, [], rfl, RSub.nil, rfl, nodupB_spec rfl, ?_⟩
          simp only [relOut]
          refine s_as rfl rfl ?_
          refine Reg.nil ⟨rfl, .inl rfl, rfl, ?_⟩
          intro w882 e883
          have hI884 := hI881.ext e883
          refine SeaWalk.done ?_
          obtain rfl := Option.some.inj h39
          refine ⟨rfl, false, ⟨hI884, ((Adv.of_ext e545).trans ((Adv.of_ext e744).trans ((Adv.of_ext e861).trans ((Adv.of_ext e864).trans ((Adv.of_ext e868).trans ((Adv.of_ext e871).trans ((Adv.of_ext e874).trans ((Adv.of_ext e877).trans ((Adv.of_ext e880).trans (Adv.of_ext e883)))))))))), rfl⟩, Sub.cons rfl (Sub.nil _)⟩
         ·skip
          refine ⟨_, [], rfl, RSub.nil, rfl, nodupB_spec rfl, ?_⟩
          simp only [relOut]
          refine Reg.pass rfl rfl rfl rfl ?_
          refine Reg.nil ⟨rfl, .inl rfl, rfl, ?_⟩
          intro w885 e886
          have hI887 := hI869.ext e886
          refine SeaWalk.step [8] (by kernel_rfl) (AllL.cons ?_ (AllL.nil))
          refine ⟨_, [], rfl, RSub.nil, rfl, nodupB_spec rfl, ?_⟩
          simp only [relOut]
          refine Reg.pass rfl rfl rfl rfl ?_
          refine Reg.nil ⟨rfl, .inl rfl, rfl, ?_⟩
          intro w888 e889
          have hI890 := hI887.ext e889
          refine SeaWalk.step [12] (by kernel_rfl) (AllL.cons ?_ (AllL.nil))
          refine ⟨_, [], rfl, RSub.nil, rfl, nodupB_spec rfl, ?_⟩
          simp only [relOut]
          refine Reg.pass rfl rfl rfl rfl ?_
          refine Reg.nil ⟨rfl, .inl rfl, rfl, ?_⟩
          intro w891 e892
          have hI893 := hI890.ext e892
          refine SeaWalk.step [13] (by kernel_rfl) (AllL.cons ?_ (AllL.nil))
          refine ⟨_, [], rfl, RSub.nil, rfl, nodupB_spec rfl, ?_⟩
          simp only [relOut]
          refine s_pkF rfl rfl rfl ?_
          refine Reg.nil ⟨rfl, .inl rfl, rfl, ?_⟩
          intro w894 e895
          have hI896 := hI893.ext e895
          refine SeaWalk.step [14] (by kernel_rfl) (AllL.cons ?_ (AllL.nil))
          refine ⟨_, [], rfl, RSub.nil, rfl, nodupB_spec rfl, ?_⟩
          simp only [relOut]
          refine s_as rfl rfl ?_
          refine Reg.nil ⟨rfl, .inl rfl, rfl, ?_⟩
          intro w897 e898
          have hI899 := hI896.ext e898
          refine SeaWalk.done ?_
          obtain rfl := Option.some.inj h39
          refine ⟨rfl, false, ⟨hI899, ((Adv.of_ext e545).trans ((Adv.of_ext e744).trans ((Adv.of_ext e861).trans ((Adv.of_ext e864).trans ((Adv.of_ext e868).trans ((Adv.of_ext e886).trans ((Adv.of_ext e889).trans ((Adv.of_ext e892).trans ((Adv.of_ext e895).trans (Adv.of_ext e898)))))))))), rfl⟩, Sub.cons rfl (Sub.nil _)⟩
        ·skip
         refine ⟨_, [], rfl, RSub.nil, rfl, nodupB_spec rfl, ?_⟩
         simp only [relOut]
         refine Reg.pass rfl rfl rfl rfl ?_
         refine Reg.nil ⟨rfl, .inr hI865.kp, rfl, ?_⟩
         intro w900 e901
         have hI902 := hI865.ext e901
         refine SeaWalk.step [7] (by kernel_rfl) (AllL.cons ?_ (AllL.nil))
         refine ⟨_, [], rfl, RSub.nil, rfl, nodupB_spec rfl, ?_⟩
         simp only [relOut]
         have hI903 := hI11.join hI902
         refine Reg.pass rfl rfl rfl rfl ?_
         refine Reg.nil ⟨rfl, .inl rfl, rfl, ?_⟩
         intro w904 e905
         have hI906 := hI903.ext e905
         refine SeaWalk.step [8] (by kernel_rfl) (AllL.cons ?_ (AllL.nil))
         refine ⟨_, [], rfl, RSub.nil, rfl, nodupB_spec rfl, ?_⟩
         simp only [relOut]
         refine Reg.pass rfl rfl rfl rfl ?_
         refine Reg.nil ⟨rfl, .inl rfl, rfl, ?_⟩
         intro w907 e908
         have hI909 := hI906.ext e908
         refine SeaWalk.step [12] (by kernel_rfl) (AllL.cons ?_ (AllL.nil))
         refine ⟨_, [], rfl, RSub.nil, rfl, nodupB_spec rfl, ?_⟩
         simp only [relOut]
         refine Reg.pass rfl rfl rfl rfl ?_
         refine Reg.nil ⟨rfl, .inl rfl, rfl, ?_⟩
         intro w910 e911
         have hI912 := hI909.ext e911
         refine SeaWalk.step [13] (by kernel_rfl) (AllL.cons ?_ (AllL.nil))
         refine ⟨_, [], rfl, RSub.nil, rfl, nodupB_spec rfl, ?_⟩
         simp only [relOut]
         refine s_pkF rfl rfl rfl ?_
         refine Reg.nil ⟨rfl, .inl rfl, rfl, ?_⟩
         intro w913 e914
         have hI915 := hI912.ext e914
         refine SeaWalk.step [14] (by kernel_rfl) (AllL.cons ?_ (AllL.nil))
         refine ⟨_, [], rfl, RSub.nil, rfl, nodupB_spec rfl, ?_⟩
         simp only [relOut]
         refine s_as rfl rfl ?_
         refine Reg.nil ⟨rfl, .inl rfl, rfl, ?_⟩
         intro w916 e917
         have hI918 := hI915.ext e917
         refine SeaWalk.done ?_
         obtain rfl := Option.some.inj h39
         refine ⟨rfl, false, ⟨hI918, ((Adv.of_ext e545).trans ((Adv.of_ext e744).trans ((Adv.of_ext e861).trans ((Adv.of_ext e864).trans ((Adv.of_ext e901).trans ((Adv.of_ext e905).trans ((Adv.of_ext e908).trans ((Adv.of_ext e911).trans ((Adv.of_ext e914).trans (Adv.of_ext e917)))))))))), rfl⟩, Sub.cons rfl (Sub.nil _)⟩
       ·skip
        refine ⟨_, [], rfl, RSub.nil, rfl, nodupB_spec rfl, ?_⟩
        simp only [relOut]
        refine Reg.pass rfl rfl rfl rfl ?_
        refine Reg.nil ⟨rfl, .inr hI862.kp, rfl, ?_⟩
        intro w919 e920
        have hI921 := hI862.ext e920
        refine SeaWalk.step [6] (by kernel_rfl) (AllL.cons ?_ (AllL.nil))
        refine ⟨_, [], rfl, RSub.nil, rfl, nodupB_spec rfl, ?_⟩
        simp only [relOut]
        refine Reg.pass rfl rfl rfl rfl ?_
        refine Reg.nil ⟨rfl, .inr hI921.kp, rfl, ?_⟩
        intro w922 e923
        have hI924 := hI921.ext e923
        refine SeaWalk.step [7] (by kernel_rfl) (AllL.cons ?_ (AllL.nil))
        refine ⟨_, [], rfl, RSub.nil, rfl, nodupB_spec rfl, ?_⟩
        simp only [relOut]
        have hI925 := hI11.join hI924
        refine Reg.pass rfl rfl rfl rfl ?_
        refine Reg.nil ⟨rfl, .inl rfl, rfl, ?_⟩
        intro w926 e927
        have hI928 := hI925.ext e927
        refine SeaWalk.step [8] (by kernel_rfl) (AllL.cons ?_ (AllL.nil))
        refine ⟨_, [], rfl, RSub.nil, rfl, nodupB_spec rfl, ?_⟩
        simp only [relOut]
        refine Reg.pass rfl rfl rfl rfl ?_
        refine Reg.nil ⟨rfl, .inl rfl, rfl, ?_⟩
        intro w929 e930
        have hI931 := hI928.ext e930
        refine SeaWalk.step [12] (by kernel_rfl) (AllL.cons ?_ (AllL.nil))
        refine ⟨_, [], rfl, RSub.nil, rfl, nodupB_spec rfl, ?_⟩
        simp only [relOut]
        refine Reg.pass rfl rfl rfl rfl ?_
        refine Reg.nil ⟨rfl, .inl rfl, rfl, ?_⟩
        intro w932 e933
        have hI934 := hI931.ext e933
        refine SeaWalk.step [13] (by kernel_rfl) (AllL.cons ?_ (AllL.nil))
        refine ⟨_, [], rfl, RSub.nil, rfl, nodupB_spec rfl, ?_⟩
        simp only [relOut]
        refine s_pkF rfl rfl rfl ?_
        refine Reg.nil ⟨rfl, .inl rfl, rfl, ?_⟩
        intro w935 e936
        have hI937 := hI934.ext e936
        refine SeaWalk.step [14] (by kernel_rfl) (AllL.cons ?_ (AllL.nil))
        refine ⟨_, [], rfl, RSub.nil, rfl, nodupB_spec rfl, ?_⟩
        simp only [relOut]
        refine s_as rfl rfl ?_
        refine Reg.nil ⟨rfl, .inl rfl, rfl, ?_⟩
        intro w938 e939
        have hI940 := hI937.ext e939
        refine SeaWalk.done ?_
        obtain rfl := Option.some.inj h39
        refine ⟨rfl, false, ⟨hI940, ((Adv.of_ext e545).trans ((Adv.of_ext e744).trans ((Adv.of_ext e861).trans ((Adv.of_ext e920).trans ((Adv.of_ext e923).trans ((Adv.of_ext e927).trans ((Adv.of_ext e930).trans ((Adv.of_ext e933).trans ((Adv.of_ext e936).trans (Adv.of_ext e939)))))))))), rfl⟩, Sub.cons rfl (Sub.nil _)⟩
   ·skip
    rintro x40 w41 ⟨hI42, hA43, rfl⟩
    refine cw_ret ?_
    obtain rfl := Option.some.inj h
    refine fin1 Try.results132 rfl ?_
    exact ⟨rfl, hI42.kp⟩
noncomputable def P.slices_IndexFunc_134 (s : (List Scale)) (f : Scale → Option Bool) : Option Int :=
 Option.bind (loopM (S := Int) (R := (Unit) ⊕ (Int)) (fun x1 => cond (decide (x1 < (s.length : Int))) (Option.bind (ixo s x1) fun y3 => Option.bind (f y3) fun z14 => cond z14 (some (.inr (.inr x1))) (Option.bind (chk .i64 (x1 + 1)) fun n20 => some (.inl n20))) (some (.inr (.inl ())))) 0) fun j21 => Sum.elim (fun _ => some (-1)) (fun r22 => some r22)  j21
theorem C_slices_IndexFunc_134 {M : List Nat} {w : World} (hM : MLt M w) {s : (List Scale)} {v_s_0 : Value} (f_s_0 : RdS ScaleE M w v_s_0 s) {v_f : Value} {f : Scale → Option Bool} (f_f : ∀ (x0 : Scale) (vx0_0 : Value) (vx0_1 : Value) (r : Bool) (w1 : World), Kp [] w w1 → RdS (intE .i64) M w1 vx0_0 x0.cuts → RdS (intE .i64) M w1 vx0_1 x0.points → InK .i64 x0.none_ → f x0 = some r → CallsV Try.prog v_f [Value.agg (List.toArray [vx0_0, vx0_1, Value.int .i64 x0.none_])] w1 fun e w2 => e = .returned (Value.bool r) ∧ Ext w1 w2) {r0 : Int} (h : P.slices_IndexFunc_134 s f = some r0) :
  Calls Try.prog 134 (List.toArray [v_s_0, v_f]) w fun e w' => e = .returned (Value.int .i64 r0) ∧ InK .i64 r0 ∧ Ext w w' := by
 have hI := Hp.start (Mu := []) hM
 refine calls_cw Try.func134 rfl Try.ntmps134 rfl ?_
 refine cw_seq (cw_regF ?_)
 refine s_as rfl rfl ?_
 refine Reg.nil ?_
 refine cw_seq (cw_seq (cw_regF ?_))
 refine s_mv rfl rfl ?_
 refine s_len rfl f_s_0 Try.underlying52 rfl ?_
 refine s_mv rfl rfl ?_
 refine Reg.nil ?_
 obtain ⟨j1, h2, h⟩ := bnd h
 refine cw_sub (L := [(0, _), (1, _), (7, _), (8, _)]) (Sub.cons rfl (Sub.cons rfl (Sub.cons rfl (Sub.cons rfl (Sub.nil _))))) ?_
 refine cw_unitD 4 (ι := Unit) (fun _ => []) (fun _ => fun w3 => Hp w [] M [] w3 ∧ Adv (mm [] M) (mm [] M) w w3 ∧ (.inl ()) = j1) ?_ ?_
 ·skip
  refine cw_block ?_
  refine cw_sub (L := [(8, _), (0, _), (1, _), (7, _)]) (Sub.cons rfl (Sub.cons rfl (Sub.cons rfl (Sub.cons rfl (Sub.nil _))))) ?_
  refine cw_loopM 1 (ι := Int) _ (fun x6 => [(8, Value.int .i64 x6)]) (fun x6 => x6) (fun x6 => fun w8 => Hp w [] M [] w8 ∧ Adv (mm [] M) (mm [] M) w w8 ∧ InK .i64 x6) 0 h2 ⟨hI, (Adv.refl _ _), (by decide)⟩ (Sub.cons rfl (Sub.cons rfl (Sub.cons rfl (Sub.cons rfl (Sub.nil _))))) ?_
  rintro x6 w8 ⟨hI9, hA10, r7⟩ y11 h12 hR13
  refine cw_seq (cw_regF ?_)
  refine s_lss rfl rfl rfl ?_
  refine Reg.nil ?_
  refine cw_seq ?_
  refine cw_cond rfl (fun hc14 => ?_) (fun hc14 => ?_)
  ·replace h12 := cdT hc14 h12
   refine cw_skip ?_
   refine cw_seq ?_
   refine cw_block ?_
   refine cw_seq (cw_regF ?_)
   refine s_mv rfl rfl ?_
   refine s_as rfl rfl ?_
   refine Reg.nil ?_
   refine cw_seq (cw_regF ?_)
   refine s_mv rfl rfl ?_
   refine s_mv rfl rfl ?_
   refine s_mv rfl rfl ?_
   obtain ⟨y15, hy15, h12⟩ := bnd h12
   refine p_ia rfl rfl (f_s_0.adv hI9.adv) hy15 Try.underlying52 Try.sizeOf56 rfl ?_
   intro b16 o17 cs18 hR19 hC20
   obtain ⟨v21, v23, rfl, hf22, hf24, r25⟩ := ScaleE_R.1 hR19
   refine s_lda rfl hC20.cells Try.isAgg56 rfl Try.sizeOf56 rfl ?_
   obtain ⟨z26, hz26, h12⟩ := bnd h12
   refine s_callV rfl rfl rfl ?_
   refine (f_f _ _ _ _ _ hI9.kp hf22 hf24 r25 hz26).mono ?_
   rintro _ w27 ⟨rfl, e28⟩
   refine ⟨_, rfl, ?_⟩
   have hI30 := hI9.ext e28
   refine Reg.nil ?_
   refine cw_cond rfl (fun hc31 => ?_) (fun hc31 => ?_)
   ·replace h12 := cdT hc31 h12
    refine cw_seq (cw_regF ?_)
    refine s_mv rfl rfl ?_
    refine s_as rfl rfl ?_
    refine Reg.nil ?_
    refine cw_ret ?_
    obtain rfl := Option.some.inj h12
    obtain rfl := hR13 _ rfl
    replace h := elimR h
    obtain rfl := Option.some.inj h
    refine fin1 Try.results134 rfl ?_
    exact ⟨rfl, r7, hI30.kp⟩
   ·replace h12 := cdF hc31 h12
    refine cw_skip ?_
    refine cw_regF ?_
    obtain ⟨n32, hn32, h12⟩ := bnd h12
    replace hn32 := chk_out hn32
    refine p_add rfl rfl rfl hn32 ?_
    refine s_mv rfl rfl ?_
    refine Reg.nil ?_
    obtain rfl := Option.some.inj h12
    refine ⟨rfl, n32, ⟨⟨hI30, hI30.adv, hn32.2⟩, rfl⟩, Sub.cons rfl (Sub.cons rfl (Sub.cons rfl (Sub.cons rfl (Sub.nil _))))⟩
  ·replace h12 := cdF hc14 h12
   refine cw_exit ?_
   refine exB_same ?_
   obtain rfl := Option.some.inj h12
   obtain rfl := hR13 _ rfl
   refine ⟨rfl, (), ⟨hI9, hI9.adv, rfl⟩, Sub.nil _⟩
 ·skip
  rintro _ w3 ⟨hI4, hA5, rfl⟩
  replace h := elimL h
  refine cw_seq (cw_regF ?_)
  refine s_as rfl rfl ?_
  refine Reg.nil ?_
  refine cw_ret ?_
  obtain rfl := Option.some.inj h
  refine fin1 Try.results134 rfl ?_
  exact ⟨rfl, (by decide), hI4.kp⟩
noncomputable def P.slices_ContainsFunc_130 (s : (List Scale)) (f : Scale → Option Bool) : Option Bool :=
 Option.bind (P.slices_IndexFunc_134 s f) fun z1 => some (decide (0 ≤ z1))
theorem C_slices_ContainsFunc_130 {M : List Nat} {w : World} (hM : MLt M w) {s : (List Scale)} {v_s_0 : Value} (f_s_0 : RdS ScaleE M w v_s_0 s) {v_f : Value} {f : Scale → Option Bool} (f_f : ∀ (x0 : Scale) (vx0_0 : Value) (vx0_1 : Value) (r : Bool) (w1 : World), Kp [] w w1 → RdS (intE .i64) M w1 vx0_0 x0.cuts → RdS (intE .i64) M w1 vx0_1 x0.points → InK .i64 x0.none_ → f x0 = some r → CallsV Try.prog v_f [Value.agg (List.toArray [vx0_0, vx0_1, Value.int .i64 x0.none_])] w1 fun e w2 => e = .returned (Value.bool r) ∧ Ext w1 w2) {r0 : Bool} (h : P.slices_ContainsFunc_130 s f = some r0) :
  Calls Try.prog 130 (List.toArray [v_s_0, v_f]) w fun e w' => e = .returned (Value.bool r0) ∧ Ext w w' := by
 have hI := Hp.start (Mu := []) hM
 refine calls_cw Try.func130 rfl Try.ntmps130 rfl ?_
 refine cw_seq (cw_regF ?_)
 refine s_as rfl rfl ?_
 refine Reg.nil ?_
 refine cw_seq (cw_regF ?_)
 refine s_mv rfl rfl ?_
 refine s_mv rfl rfl ?_
 obtain ⟨z1, hz2, h⟩ := bnd h
 refine s_call rfl Try.call134 rfl ?_
 refine (C_slices_IndexFunc_134 hI.mlt f_s_0 (fun a0 a1 a2 r w9 e9 f0 f1 f2 hr => f_f a0 a1 a2 r w9 (hI.kp.trans (Ext.kp e9)) (f0.adv Hp.baseA) (f1.adv Hp.baseA) f2 hr) hz2).mono ?_
 rintro _ w3 ⟨rfl, r5, e4⟩
 refine ⟨_, rfl, ?_⟩
 have hI6 := hI.ext e4
 refine s_geq rfl rfl rfl ?_
 refine s_as rfl rfl ?_
 refine Reg.nil ?_
 refine cw_ret ?_
 obtain rfl := Option.some.inj h
 refine fin1 Try.results130 rfl ?_
 exact ⟨rfl, hI6.kp⟩
noncomputable def P.score_card_right_in1 (s : Scale) : Option Bool :=
 Option.bind (P.score_measured (Scale.mk s.cuts s.points s.none_)) fun z7 => some (!z7)
theorem C_score_card_right_in1 {M : List Nat} {w : World} (hM : MLt M w) {s : Scale} {v_s_0 : Value} {v_s_1 : Value} (f_s_0 : RdS (intE .i64) M w v_s_0 s.cuts) (f_s_1 : RdS (intE .i64) M w v_s_1 s.points) (f_s_2 : InK .i64 s.none_) {r0 : Bool} (h : P.score_card_right_in1 s = some r0) :
  Calls Try.prog 131 (List.toArray [Value.agg (List.toArray [v_s_0, v_s_1, Value.int .i64 s.none_])]) w fun e w' => e = .returned (Value.bool r0) ∧ Ext w w' := by
 have hI := Hp.start (Mu := []) hM
 refine calls_cw Try.func131 rfl Try.ntmps131 rfl ?_
 refine cw_seq (cw_regF ?_)
 refine y_box hI rfl rfl rfl ?_
 intro b1 w2 hI3 x4
 have hC6 := hI3.freezeRow 0 rfl
 have hI5 := hI3.erase 0
 refine s_as rfl rfl ?_
 refine Reg.nil ?_
 refine cw_seq (cw_regF ?_)
 refine s_lda rfl hC6.cells Try.isAgg56 rfl Try.sizeOf56 rfl ?_
 obtain ⟨z7, hz8, h⟩ := bnd h
 refine s_call rfl Try.call132 rfl ?_
 refine (C_score_measured hI5.mlt (f_s_0.adv hI5.adv) (f_s_1.adv hI5.adv) f_s_2 hz8).mono ?_
 rintro _ w9 ⟨rfl, e10⟩
 refine ⟨_, rfl, ?_⟩
 have hI11 := hI5.ext e10
 refine s_not rfl rfl ?_
 refine s_as rfl rfl ?_
 refine Reg.nil ?_
 refine cw_ret ?_
 obtain rfl := Option.some.inj h
 refine fin1 Try.results131 rfl ?_
 exact ⟨rfl, hI11.kp⟩
noncomputable def P.score_card_right (c : Card) (traits : Int) : Option Bool :=
 Option.bind (Option.bind (P.score_counts ([c.base] : List Int)) fun z11 => cond z11 (cond (decide ((c.scales.length : Int) = traits)) (Option.bind (P.slices_ContainsFunc_130 c.scales (fun x0_ => P.score_card_right_in1 x0_)) fun z18 => some (!z18)) (some false)) (some false)) fun x23 => some x23
theorem C_score_card_right {M : List Nat} {w : World} (hM : MLt M w) {c : Card} {v_c_2 : Value} (f_c_0 : InK .i64 c.weight) (f_c_1 : InK .i64 c.base) (f_c_2 : RdS ScaleE M w v_c_2 c.scales) {traits : Int} (f_traits_0 : InK .i64 traits) {r0 : Bool} (h : P.score_card_right c traits = some r0) :
  Calls Try.prog 127 (List.toArray [Value.agg (List.toArray [Value.int .i64 c.weight, Value.int .i64 c.base, v_c_2]), Value.int .i64 traits]) w fun e w' => e = .returned (Value.bool r0) ∧ Ext w w' := by
 have hI := Hp.start (Mu := []) hM
 refine calls_cw Try.func127 rfl Try.ntmps127 rfl ?_
 refine cw_seq (cw_regF ?_)
 refine y_box hI rfl rfl rfl ?_
 intro b1 w2 hI3 x4
 have hC6 := hI3.freezeRow 0 rfl
 have hI5 := hI3.erase 0
 refine s_as rfl rfl ?_
 refine Reg.nil ?_
 obtain ⟨j7, h8, h⟩ := bnd h
 refine cw_sub (L := [(1, _), (2, _)]) (Sub.cons rfl (Sub.cons rfl (Sub.nil _))) ?_
 refine cw_seqD 2 (ι := Bool) (fun x9 => [(4, Value.bool x9)]) (fun x9 => fun w10 => Hp w [] M [] w10 ∧ Adv (mm [] M) (mm [] M) w2 w10 ∧ x9 = j7) ?_ ?_
 ·skip
  refine cw_regF ?_
  refine s_fa rfl Try.underlying105 rfl Try.sizeOf3 rfl ?_
  refine s_ld rfl (hC6.cells.at 1 rfl) Try.isAgg3 rfl ?_
  refine y_bs (E := (intE .i64)) (xs := [c.base]) sl26 hI5 rfl rfl (Cls.cons rfl Cls.nil) (Chs.cons ⟨rfl, f_c_1⟩ Chs.nil) rfl rfl ?_
  intro v13 w14 hI15 x16
  obtain ⟨z17, hz18, h8⟩ := bnd h8
  refine s_call rfl Try.call53 rfl ?_
  refine (C_score_counts (hI15.sel [] rfl).mlt (hI15.lendRd [] 0 rfl rfl) hz18).mono ?_
  rintro _ w19 ⟨rfl, e20⟩
  refine ⟨_, rfl, ?_⟩
  have hI21 := hI15.ext e20
  refine s_mv rfl rfl ?_
  refine Reg.gsplit (t := 9) rfl (fun hg22 => ?_) (fun hg22 => ?_)
  ·replace h8 := cdT hg22 h8
   refine Reg.take rfl rfl ?_
   refine s_fa rfl Try.underlying105 rfl Try.sizeOf52 rfl ?_
   refine Reg.take rfl rfl ?_
   refine s_ld rfl ((hC6.adv (x16.trans (Adv.of_ext e20))).cells.at 2 rfl) Try.isAgg52 rfl ?_
   refine Reg.take rfl rfl ?_
   refine s_len rfl (f_c_2.adv hI21.adv) Try.underlying52 rfl ?_
   refine Reg.take rfl rfl ?_
   refine s_mv rfl rfl ?_
   refine Reg.take rfl rfl ?_
   refine s_eql rfl rfl rfl ?_
   refine s_pkT rfl rfl rfl ?_
   refine s_mv rfl rfl ?_
   refine Reg.gsplit (t := 16) rfl (fun hg23 => ?_) (fun hg23 => ?_)
   ·replace h8 := cdT hg23 h8
    refine Reg.take rfl rfl ?_
    refine s_fa rfl Try.underlying105 rfl Try.sizeOf52 rfl ?_
    refine Reg.take rfl rfl ?_
    refine s_ld rfl ((hC6.adv (x16.trans (Adv.of_ext e20))).cells.at 2 rfl) Try.isAgg52 rfl ?_
    refine Reg.take rfl rfl ?_
    obtain ⟨z24, hz25, h8⟩ := bnd h8
    refine s_call rfl Try.call130 rfl ?_
    refine (C_slices_ContainsFunc_130 hI21.mlt (f_c_2.adv hI21.adv) (fun a0 a1 a2 r w9 e9 f0 f1 f2 hr => CallsV.ofL Try.call131 rfl (C_score_card_right_in1 (hI21.mlt.ext e9) f0 f1 f2 hr)) hz25).mono ?_
    rintro _ w26 ⟨rfl, e27⟩
    refine ⟨_, rfl, ?_⟩
    have hI28 := hI21.ext e27
    refine Reg.take rfl rfl ?_
    refine s_not rfl rfl ?_
    refine s_pkT rfl rfl rfl ?_
    refine s_as rfl rfl ?_
    refine Reg.nil ?_
    obtain rfl := Option.some.inj h8
    refine ⟨rfl, !z24, ⟨(hI28.sel [] rfl), ((x16.trans ((Adv.of_ext e20).trans (Adv.of_ext e27))).trans (Hp.selA (σ := [ownR [] (intE .i64) 3 v13 ([c.base] : List Int)]) [])), rfl⟩, Sub.cons rfl (Sub.nil _)⟩
   ·replace h8 := cdF hg23 h8
    refine Reg.pass rfl rfl rfl rfl ?_
    refine Reg.pass rfl rfl rfl rfl ?_
    refine Reg.pass rfl rfl rfl rfl ?_
    refine Reg.pass rfl rfl rfl rfl ?_
    refine s_pkF rfl rfl rfl ?_
    refine s_as rfl rfl ?_
    refine Reg.nil ?_
    obtain rfl := Option.some.inj h8
    refine ⟨rfl, false, ⟨(hI21.sel [] rfl), ((x16.trans (Adv.of_ext e20)).trans (Hp.selA (σ := [ownR [] (intE .i64) 3 v13 ([c.base] : List Int)]) [])), rfl⟩, Sub.cons rfl (Sub.nil _)⟩
  ·replace h8 := cdF hg22 h8
   refine Reg.pass rfl rfl rfl rfl ?_
   refine Reg.pass rfl rfl rfl rfl ?_
   refine Reg.pass rfl rfl rfl rfl ?_
   refine Reg.pass rfl rfl rfl rfl ?_
   refine Reg.pass rfl rfl rfl rfl ?_
   refine s_pkF rfl rfl rfl ?_
   refine s_mv rfl rfl ?_
   refine Reg.pass rfl rfl rfl rfl ?_
   refine Reg.pass rfl rfl rfl rfl ?_
   refine Reg.pass rfl rfl rfl rfl ?_
   refine Reg.pass rfl rfl rfl rfl ?_
   refine s_pkF rfl rfl rfl ?_
   refine s_as rfl rfl ?_
   refine Reg.nil ?_
   obtain rfl := Option.some.inj h8
   refine ⟨rfl, false, ⟨(hI21.sel [] rfl), ((x16.trans (Adv.of_ext e20)).trans (Hp.selA (σ := [ownR [] (intE .i64) 3 v13 ([c.base] : List Int)]) [])), rfl⟩, Sub.cons rfl (Sub.nil _)⟩
 ·skip
  rintro x9 w10 ⟨hI11, hA12, rfl⟩
  refine cw_ret ?_
  obtain rfl := Option.some.inj h
  refine fin1 Try.results127 rfl ?_
  exact ⟨rfl, hI11.kp⟩
end Go.Proofs.Ytecmlmngcnionaa
