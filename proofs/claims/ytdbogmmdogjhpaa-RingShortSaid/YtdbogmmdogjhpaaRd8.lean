/-
  Part 8 of the texts that the statement's proof stands on: what memory holds, how code is walked, what the functions reckon. In the order in which they build.
-/

import Derived.Test.YtdbogmmdogjhpaaRd7
set_option linter.unusedVariables false
set_option linter.unusedSectionVars false
set_option maxRecDepth 20000
set_option maxHeartbeats 4000000
namespace Go.Rx
open Go Go.Sx Go.RowKit
section
variable [Trk] [Sg] [Sf] {P : Program} [Se P]
theorem Holds.start [Anch] {M : List Nat} {w : World} {env : List (Nat × SV)} {L : Env} (hM : MLt M w) (hE : ∀ t s, fnd env t = some s → ∃ v, Sx.look L t = some v ∧ Ok (P := P) (fun _ => undef) (fun _ => none) M w s v) (hA : AnOk M w) : Holds (P := P) w [] M ⟨env, [], [], []⟩ L w :=
  ⟨[], fun _ => undef, fun _ => [], fun _ => [], fun _ => 0, ⟨Hp.start hM, (fun i a h => by cases h), (fun i j a b h => by cases h), (fun i a h => by cases h), hE, hA⟩⟩
theorem Holds.ends [Anch] {M : List Nat} {w w' : World} {Mu : List Nat} {σ : AS} {L : Env} (h : Holds (P := P) w Mu M σ L w') : Kp Mu w w' := by
  obtain ⟨S, ρ, γ, μ, ι, hS⟩ := h
  exact hS.hp.kp
end
section
variable {P : Program}
theorem Holds.regH [Trk] [Sg] [Sf] [Se P] [Sl (P := P)] [Anch] {w0 w : World} {Mu M : List Nat} {L : Env} {G : Gx} {N : Nat} {ds : List Deferred} {A B : Out} {X : Nat → Out} {Z : List PanicEntry → Out} {id : Nat} {ops : List Oper} {σ σ' : AS} {Y : Type} {o : Option Y} {x : Y} {K : Y → Option AS} (hG : GxOk P G) (hH : Holds (P := P) w0 Mu M σ L w) (hb : o = some x) (h : runOps G N ops some ops σ = Option.bind o K) (hk : K x = some σ') (hA : ∀ L' w', EnvS (wrOps ops) L L' → Holds (P := P) w0 Mu M σ' L' w' → A ds L' w') : CW P N (.region id (List.toArray ops) false) ds L w A B X Z :=
  Holds.regB hG hb h hk hH hA
theorem Holds.tidy [Trk] [Sg] [Sf] [Se P] [Anch] {w0 w : World} {Mu M : List Nat} {L : Env} {σ : AS} {env' : List (Nat × SV)} {res' : List (Nat × AR)} (h : Holds (P := P) w0 Mu M σ L w) (hE : AllE σ.env env') (hr : ∀ j, fnd res' j = fnd σ.res j) (kl' : List Nat := []) (ch' : List (Nat × Nat) := []) : Holds (P := P) w0 Mu M ⟨env', res', kl', ch'⟩ L w := by
  obtain ⟨e, r, kl, ch⟩ := σ
  exact Holds.res (kl := kl') (ch := ch') (h.fewer hE) hr
theorem fin_ok [Trk] [Sg] [Sf] [Se P] [Sl (P := P)] [Anch] {G : Gx} (hG : GxOk P G) {f : Func} {cs : List Ck} {M : List Nat} {w : World} {r : denK cs} (hn : Nat.ble cs.length 4 = true) {σ' : AS} {L' : Env} {w' : World} (h1 : retS G cs f.results.toList σ' = some r) (hH : Holds (P := P) w [] M σ' L' w') : FinR P f (fun e w' => ∃ vs, e = .returned (tupV vs) ∧ KsOk (P := P) M (obK cs vs ++ M) w w' cs r vs ∧ Ext w w') [] L' w' := by
  obtain ⟨S, ρ, γ, μ, ι, hS⟩ := hH
  unfold retS at h1
  cases hk : okK (retM G σ' cs f.results.toList) (retR G σ' cs f.results.toList) && npK cs (retM G σ' cs f.results.toList) with
  | false => rw [hk] at h1; exact (noS h1).elim
  | true =>
    rw [hk] at h1
    simp only [Bool.and_eq_true] at hk
    obtain ⟨vs, h2, h3, h4, h5⟩ := retL_ok hS hG (mv := retM G σ' cs f.results.toList) (retM_dom h1) cs f.results.toList (fun _ h => h) (okK_out hk.1) hk.2 h1
    refine fin_any (by simp) h2 (by rw [h3]; exact hn) ⟨vs, by rw [tup_pack], h4 _ (fun b hb => ?_), ?_⟩
    · exact (List.mem_append.1 hb).elim (h5 b) fun h => mem_mm.2 (.inr h)
    · exact hS.hp.kp
end
theorem pickT {α : Type} {b : Bool} {x y z : α} (hb : b = true) (h : cond b x y = z) : x = z := by subst hb; exact h
theorem pickF {α : Type} {b : Bool} {x y z : α} (hb : b = false) (h : cond b x y = z) : y = z := by subst hb; exact h
end Go.Rx
namespace Go.Proofs.Ytdbogmmdogjhpaa
open Go Go.Sx Go.Rx Go.RowKit
noncomputable def stepA (x : Hunt_94) (i n o : Int) : Option Int := Option.bind (ixA 24 i) fun a => Option.bind (ixA 24 o) fun b => Option.bind (ixo x.weights (a * 24 + b * 1)) fun y => Option.bind (P.ring_greatest n [y]) fun r => some r
noncomputable def farA (x : Hunt_94) (left : FMap Int Bool) (i n : Int) : Option Int := anyM (fun n (y : Int × Bool) => stepA x i n y.1) left n
noncomputable def c25i : Code := match Try.f25.body with
  | some (.seq _ (.seq _ (.seq _ (.seq _ (.seq _ (.seq _ (.seq _ (.seq _ (.seq (.seq _ (.block _ (.loop (.seq _ (.seq _ (.seq (.block _ (.seq _ ci)) _)))))) _))))))))) => ci
  | _ => .skip
noncomputable def c25r : Code := match c25i with
  | .seq _ (.block _ (.loop (.seq _ (.seq _ (.block _ (.seq _ r)))))) => r
  | _ => .skip
def sh25 : Sh := ⟨[(.slot 9, .d (.int .i64))], []⟩
theorem gxA : GxOk Try.prog { gxb with fs := [(55, ctr55)] } := gx_ok ⟨⟨ok55, Try.call55⟩, trivial⟩
def env25 (x : Hunt_94) (n i o : Int) : List (Nat × SV) := [(9, .int .i64 n), (11, .np (.st 3) (some x)), (16, .int .i64 i), (17, .int .i64 o)]
def dom25 : List Nat := [52, 53, 54, 55, 56, 57, 17, 58, 59, 60, 61, 62, 63, 64, 65, 66, 67, 68, 9]
theorem inner25 {M : List Nat} {w : World} {L : Env} {x : Hunt_94} {n n' i : Int} {f : FMap Int Bool} {vp vm : Value} {A B : Out} {X : Nat → Out} {Z : List PanicEntry → Out} (hM : MLt M w) (hx : NpOk (P := Try.prog) M w (.st 3) (some x) vp) (l11 : Sx.look L 11 = some vp) (l16 : Sx.look L 16 = some (.int .i64 i)) (hi : InK .i64 i) (l9 : Sx.look L 9 = some (.int .i64 n)) (hn : InK .i64 n)
    (l13 : Sx.look L 13 = some vm) (hm : OkD (P := Try.prog) M w (.mp 3 (.int .i64) .bool) f vm) (hr : farA x f i n = some n')
    (hA : ∀ L' w', Ext w w' → (∀ t, t ∉ dom25 → Sx.look L' t = Sx.look L t) → Sx.look L' 9 = some (.int .i64 n') → InK .i64 n' → A [] L' w') : CW Try.prog 74 c25i [] L w A B X Z := by
  obtain ⟨cs, ⟨v', K, h1, hK, hR⟩, h5⟩ := hm
  obtain ⟨rfl⟩ : vm = v' := by
    rcases h5 with ⟨h5, _⟩ | ⟨_, h5⟩
    · cases h5
    · rw [h1] at h5; cases h5; rfl
  cases hK
  refine cw_seq ?_
  refine cw_regF ?_
  refine s_mv (v := vm) l13 rfl ?_
  refine y_rg (Hp.start (Mu := []) hM) hR (by show Sx.look ((52, vm) :: L) 52 = _; rw [look_cons, if_pos rfl]) Try.underlying69 rfl ?_
  intro r b c es xs w1 hX hL hI hA1
  refine Reg.nil ?_
  refine cw_block ?_
  refine cw_loop (ι := Env × Int × List (Int × Bool)) (fun q => q.1) (fun q w' => RdX (intKy .i64 Try.underlying3) (enc (P := Try.prog) .bool) false (mm [itR r b c es xs none q.2.2] M) w' b es c xs ∧ Hp w [] M [itR r b c es xs none q.2.2] w' ∧ Adv M (r :: M) w w' ∧ (∀ t, t ∉ dom25 → Sx.look q.1 t = Sx.look L t) ∧ Sx.look q.1 9 = some (.int .i64 q.2.1) ∧ InK .i64 q.2.1 ∧ Sx.look q.1 53 = some (.pointer (some ⟨r, 0, none⟩)) ∧ AnyR (fun n (y : Int × Bool) => stepA x i n y.1) q.2.2 q.2.1 n') (fun q => q.2.2.length) (_, n, xs) ⟨hX.adv hA1, hI, hA1, fun t ht => ?_, ?_, hn, ?_, anyM_out hr hL⟩ (Sub.refl _) ?_
  · show Sx.look ((53, _) :: (52, vm) :: L) t = _
    rw [look_cons, if_neg (fun e => ht (by subst e; decide)), look_cons, if_neg (fun e => ht (by subst e; decide))]
  · show Sx.look ((53, _) :: (52, vm) :: L) 9 = _
    rw [look_cons, if_neg (by decide), look_cons, if_neg (by decide), l9]
  · show Sx.look ((53, _) :: (52, vm) :: L) 53 = _
    rw [look_cons, if_pos rfl]
  rintro ⟨L1, m, l⟩ w2 ⟨gX, gI, gA, gL, g9, gm, g53, gR⟩
  dsimp only at gX gI gL g9 gm g53 gR ⊢
  refine cw_seq ?_
  refine cw_regF ?_
  refine y_nx 0 gI gX rfl g53 rfl (fun hl => ?_) (fun y l' k v w3 hp kI kA => ?_)
  · refine s_xt (vs := [.bool false]) (by show Sx.look ((54, _) :: L1) 54 = _; rw [look_cons, if_pos rfl]) rfl rfl ?_
    refine Reg.nil ?_
    refine cw_seq ?_
    refine cw_condF (by show Sx.look ((55, _) :: _) 55 = _; rw [look_cons, if_pos rfl]) ?_
    refine cw_exit (exB_same ?_)
    subst hl
    have e := gR.nil
    subst e
    refine hA _ _ gI.kp (fun t ht => ?_) ?_ gm
    · rw [look_cons, if_neg (fun e => ht (by subst e; decide)), look_cons, if_neg (fun e => ht (by subst e; decide)), gL t ht]
    · rw [look_cons, if_neg (by decide), look_cons, if_neg (by decide), g9]
  · refine s_xt (vs := [.bool true, k, v]) (by show Sx.look ((54, _) :: L1) 54 = _; rw [look_cons, if_pos rfl]) rfl rfl ?_
    refine Reg.nil ?_
    refine cw_seq ?_
    refine cw_condT (by show Sx.look ((55, _) :: _) 55 = _; rw [look_cons, if_pos rfl]) ?_
    refine cw_skip ?_
    refine cw_block ?_
    refine cw_seq ?_
    refine cw_regF ?_
    refine y_en 0 kI (gX.adv kA) rfl (by show Sx.look ((55, _) :: (54, _) :: L1) 53 = _; rw [look_cons, if_neg (by decide), look_cons, if_neg (by decide), g53]) rfl fun v2 hok hv2 => ?_
    have hok : InK .i64 y.1 := hok
    refine s_xt (vs := [.int .i64 y.1, v2]) (v := .int .i64 y.1) (by show Sx.look ((56, _) :: _) 56 = _; rw [look_cons, if_pos rfl]; rfl) rfl rfl ?_
    refine s_as (v := .int .i64 y.1) (by show Sx.look ((57, _) :: _) 57 = _; rw [look_cons, if_pos rfl]) rfl ?_
    refine Reg.nil ?_
    obtain ⟨n1, hs1, hs2⟩ := gR.step hp
    have l2 : ∀ t, t ∉ dom25 → Sx.look ((17, Value.int .i64 y.1) :: (57, .int .i64 y.1) :: (56, .tuple #[(intKy .i64 Try.underlying3).val y.1, v2]) :: (55, .bool true) :: (54, .tuple #[.bool true, k, v]) :: L1) t = Sx.look L t := fun t ht => by
      rw [look_cons, if_neg (fun e => ht (by subst e; decide)), look_cons, if_neg (fun e => ht (by subst e; decide)), look_cons, if_neg (fun e => ht (by subst e; decide)), look_cons, if_neg (fun e => ht (by subst e; decide)), look_cons, if_neg (fun e => ht (by subst e; decide)), gL t ht]
    have l29 : Sx.look ((17, Value.int .i64 y.1) :: (57, .int .i64 y.1) :: (56, .tuple #[(intKy .i64 Try.underlying3).val y.1, v2]) :: (55, .bool true) :: (54, .tuple #[.bool true, k, v]) :: L1) 9 = some (.int .i64 m) := by
      rw [look_cons, if_neg (by decide), look_cons, if_neg (by decide), look_cons, if_neg (by decide), look_cons, if_neg (by decide), look_cons, if_neg (by decide), g9]
    have l253 : Sx.look ((17, Value.int .i64 y.1) :: (57, .int .i64 y.1) :: (56, .tuple #[(intKy .i64 Try.underlying3).val y.1, v2]) :: (55, .bool true) :: (54, .tuple #[.bool true, k, v]) :: L1) 53 = some (.pointer (some ⟨r, 0, none⟩)) := by
      rw [look_cons, if_neg (by decide), look_cons, if_neg (by decide), look_cons, if_neg (by decide), look_cons, if_neg (by decide), look_cons, if_neg (by decide), g53]
    have l217 : Sx.look ((17, Value.int .i64 y.1) :: (57, .int .i64 y.1) :: (56, .tuple #[(intKy .i64 Try.underlying3).val y.1, v2]) :: (55, .bool true) :: (54, .tuple #[.bool true, k, v]) :: L1) 17 = some (.int .i64 y.1) := by
      rw [look_cons, if_pos rfl]
    have hst : Holds (P := Try.prog) w3 [] (mm [itR r b c es xs (some y) l'] M) ⟨env25 x m i y.1, [], [], []⟩ ((17, Value.int .i64 y.1) :: (57, .int .i64 y.1) :: (56, .tuple #[(intKy .i64 Try.underlying3).val y.1, v2]) :: (55, .bool true) :: (54, .tuple #[.bool true, k, v]) :: L1) w3 := by
      refine Holds.start kI.mlt (fun t s ht => ?_) trivial
      unfold env25 at ht
      rw [fnd_cons] at ht
      split at ht
      · rename_i e; subst e; cases ht; exact ⟨_, l29, rfl, gm⟩
      rw [fnd_cons] at ht
      split at ht
      · rename_i e; subst e; cases ht
        refine ⟨vp, (l2 11 (by decide)).trans l11, NpOk.adv hx ?_⟩
        exact gA.trans kA
      rw [fnd_cons] at ht
      split at ht
      · rename_i e; subst e; cases ht; exact ⟨_, (l2 16 (by decide)).trans l16, rfl, hi⟩
      rw [fnd_cons] at ht
      split at ht
      · rename_i e; subst e; cases ht; exact ⟨_, l217, rfl, hok⟩
      cases ht
    generalize ((17, Value.int .i64 y.1) :: (57, .int .i64 y.1) :: (56, .tuple #[(intKy .i64 Try.underlying3).val y.1, v2]) :: (55, .bool true) :: (54, .tuple #[.bool true, k, v]) :: L1) = L3 at l2 l29 l253 l217 hst
    have he : exec { gxb with fs := [(55, ctr55)] } 74 (fun _ => (none : Option Unit)) c25r (.jn [.norm sh25] .x) some (fun _ _ => none) (fun _ => none) ⟨env25 x m i y.1, [], [], []⟩ = Option.bind (stepA x i m y.1) fun b => some (unpack (wrOf c25r ++ (slotsK [.norm sh25] ++ wrAn .x)) sh25 ⟨env25 x m i y.1, [], [], []⟩ b) := by kernel_rfl
    rw [hs1, Sx.bindS] at he
    refine Holds.code (c := c25r) gxA he hst fun L4 w4 hE4 h4 => ?_
    have h9 := h4.slotI (t := 9) rfl
    have hex : Ext w3 w4 := h4.ends
    have hsub : ∀ t ∈ wrOf c25r ++ wrAn (.jn [.norm sh25] .x), t ∈ dom25 := by decide
    refine ⟨rfl, (L4, n1, l'), ⟨?_, ?_, ?_, fun t ht => ?_, h9.1, h9.2, ?_, hs2⟩, Sub.refl _, ?_⟩
    · exact (gX.adv kA).adv (Adv.of_ext hex)
    · exact (kI.ext hex).itOff 0 rfl
    · exact (gA.trans kA).trans (Adv.of_ext hex)
    · rw [hE4 t (fun hm => ht (hsub t hm)), l2 t ht]
    · rw [hE4 53 (by decide), l253]
    · exact Nat.lt_of_lt_of_eq (Nat.lt_succ_self _) hp.length_eq.symm
noncomputable def apartN (x : Hunt_94) (left : FMap Int Bool) (g : List Int) : Option Int := loopM (S := Int × Int) (R := Int) (fun q => cond (decide (q.1 < (g.length : Int))) (Option.bind (ixo g q.1) fun i => Option.bind (farA x left i q.2) fun n => Option.bind (chk .i64 (q.1 + 1)) fun t => some (Sum.inl (t, n))) (some (Sum.inr q.2))) (0, 0)
noncomputable def P.ring_Apart (h : Hunt) (l : List Filing) (i s : Int) : Option (List Int × Int × Int) :=
  Option.bind (P.ring_open h l) fun r => cond (!decide (r.2 = 0)) (some ([], 0, r.2)) (Option.bind r.1 fun x => Option.bind (P.slices_Index_52 x.ids i) fun k => cond (decide (k < 0)) (some ([], 0, 6)) (Option.bind (P.ring_in 1 6001 [s]) fun b => cond (!b) (some ([], 0, 2)) (Option.bind (P.ring_hunt_everyone x) fun f => Option.bind (P.ring_hunt_group x k s f) fun g => Option.bind (apartN x g.2 g.1) fun n => Option.bind (P.ring_hunt_named x g.1) fun ys => some (ys, n, 0))))
noncomputable def ctr25 : Ctr := ⟨[.d (.st 0), .d (.sl (.st 1)), .d (.int .i64), .d (.int .i64)], [.own (.sl 3 (.int .i64)), .d (.int .i64), .d (.int .i64)], fun a => P.ring_Apart a.1 a.2.1 a.2.2.1 a.2.2.2.1⟩
noncomputable def gx25 : Gx := { gxb with fs := [(40, ctr40), (47, ctr47), (52, ctr52), (53, ctr53), (56, ctr56)], pf := [], fm := [(54, ctrm54)] }
theorem gxB : GxOk Try.prog gx25 := gx_okm ⟨⟨ok40, Try.call40⟩, ⟨ok47, Try.call47⟩, ⟨ok52, Try.call52⟩, ⟨ok53, Try.call53⟩, ⟨ok56, Try.call56⟩, trivial⟩ trivial ⟨⟨okm54, Try.call54⟩, trivial⟩
noncomputable def c25g : Code := match Try.f25.body with
  | some (.seq _ (.seq _ (.seq _ (.seq _ (.seq _ (.seq _ (.seq _ (.seq c _)))))))) => c
  | _ => .skip
def rs25 (h : Hunt) (s : Int) (f : FMap Int Bool) : List (Nat × AR) := [(40, .own false (.mp 3 (.int .i64) .bool) f), (36, .own false (.sl 3 (.int .i64)) [s]), (4, .row 23 [.int .i64 h.window, .int .i64 h.common, .int .i64 h.size])]
def e25a (x : Hunt_94) (k s : Int) : List (Nat × SV) := [(11, .np (.st 3) (some x)), (12, .int .i64 k), (3, .int .i64 s), (13, .own 40), (9, .int .i64 0)]
def e25b (g : List Int) (x : Hunt_94) : List (Nat × SV) := [(9, .int .i64 0), (14, .dat (.sl (.int .i64)) g), (11, .np (.st 3) (some x)), (13, .own 40)]
def e25c (g : List Int) (x : Hunt_94) (t n : Int) : List (Nat × SV) := [(48, .int .i64 t), (47, .int .i64 (g.length : Int)), (46, .dat (.sl (.int .i64)) g), (9, .int .i64 n), (14, .dat (.sl (.int .i64)) g), (11, .np (.st 3) (some x)), (13, .own 40)]
theorem put25 {w0 w w' : World} {Mu M : List Nat} {h : Hunt} {s : Int} {f : FMap Int Bool} {g : List Int} {x : Hunt_94} {t n n' i : Int} {L L' : Env} (hH : Holds (P := Try.prog) w0 Mu M ⟨(16, .int .i64 i) :: e25c g x t n, rs25 h s f, [], []⟩ L w) (hE : Ext w w') (hL : ∀ t, t ∉ dom25 → Sx.look L' t = Sx.look L t) (h9 : Sx.look L' 9 = some (.int .i64 n')) (hn : InK .i64 n') : Holds (P := Try.prog) w0 Mu M ⟨e25c g x t n', rs25 h s f, [], []⟩ L' w' := by
  obtain ⟨S, ρ, γ, μ, ι, hS⟩ := hH
  have hS := hS.ext hE
  refine ⟨S, ρ, γ, μ, ι, hS.hp, hS.res, hS.inj, hS.row, fun u a hu => ?_, hS.anch⟩
  have go : ∀ u a, fnd ((16, SV.int .i64 i) :: e25c g x t n) u = some a → u ∉ dom25 → ∃ v, Sx.look L' u = some v ∧ Ok ρ (fnd (rs25 h s f)) (mm S M) w' a v := fun u a hu hd => by
    obtain ⟨v, h1, h2⟩ := hS.env u a hu
    exact ⟨v, (hL u hd).trans h1, h2⟩
  have hu : fnd (e25c g x t n') u = some a := hu
  unfold e25c at hu
  rw [fnd_cons] at hu
  split at hu
  · rename_i e; subst e; cases hu; exact go 48 _ rfl (by decide)
  rw [fnd_cons] at hu
  split at hu
  · rename_i e; subst e; cases hu; exact go 47 _ rfl (by decide)
  rw [fnd_cons] at hu
  split at hu
  · rename_i e; subst e; cases hu; exact go 46 _ rfl (by decide)
  rw [fnd_cons] at hu
  split at hu
  · rename_i e; subst e; cases hu; exact ⟨_, h9, rfl, hn⟩
  rw [fnd_cons] at hu
  split at hu
  · rename_i e; subst e; cases hu; exact go 14 _ rfl (by decide)
  rw [fnd_cons] at hu
  split at hu
  · rename_i e; subst e; cases hu; exact go 11 _ rfl (by decide)
  rw [fnd_cons] at hu
  split at hu
  · rename_i e; subst e; cases hu; exact go 13 _ rfl (by decide)
  cases hu
theorem mid25 {w0 w : World} {Mu M : List Nat} {h : Hunt} {s : Int} {f : FMap Int Bool} {g : List Int} {x : Hunt_94} {t n n' i : Int} {L : Env} {A B : Out} {X : Nat → Out} {Z : List PanicEntry → Out} (hH : Holds (P := Try.prog) w0 Mu M ⟨(16, .int .i64 i) :: e25c g x t n, rs25 h s f, [], []⟩ L w) (hr : farA x f i n = some n')
    (hA : ∀ L' w', Holds (P := Try.prog) w0 Mu M ⟨e25c g x t n', rs25 h s f, [], []⟩ L' w' → A [] L' w') : CW Try.prog 74 c25i [] L w A B X Z := by
  have hH' := hH
  obtain ⟨S, ρ, γ, μ, ι, hS⟩ := hH
  have hs : ∀ b ∈ mm (S.eraseIdx (ι 40)) M, b ∈ mm S M := fun b hb => mm_sub (List.eraseIdx_sublist S (ι 40)) hb
  obtain ⟨vp, l11, hx⟩ := hS.env 11 (.np (.st 3) (some x)) rfl
  obtain ⟨_, l16, rfl, hi⟩ := hS.env 16 (.int .i64 i) rfl
  obtain ⟨_, l9, rfl, hn⟩ := hS.env 9 (.int .i64 n) rfl
  obtain ⟨_, l13, rfl, _⟩ := hS.env 13 (.own 40) rfl
  have hm : OkD (P := Try.prog) (mm (S.eraseIdx (ι 40)) M) w (.mp 3 (.int .i64) .bool) f (ρ 40) := oc_frz (c := .mp 3 (.int .i64) .bool) hS.hp (ι 40) (hS.row 40 _ rfl) (hS.res 40 _ rfl)
  exact inner25 (fun b hb => hS.hp.mlt b (hs b hb)) (NpOk.mon hs hx) l11 l16 hi l9 hn l13 hm hr fun L' w' hE hL h9 hn' => hA L' w' (put25 hH' hE hL h9 hn')
theorem ok25 : Ctr.ok Try.prog 25 ctr25 := by
  refine ⟨by decide, fun M w a vals r hM ha hr => ?_⟩
  obtain ⟨h, l, i, s, u⟩ := a
  have h0 : Holds (P := Try.prog) w [] M ⟨argS 0 ctr25.ps (h, l, i, s, u), [], [], []⟩ (argEnv 0 vals) w := Holds.start hM (argS_ok ctr25.ps 0 ha) trivial
  have hlen : vals.length = 4 := by
    obtain ⟨v1, r1, rfl, _, v2, r2, rfl, _, v3, r3, rfl, _, v4, r4, rfl, _, h9⟩ := ha
    have h9 : r4 = [] := h9
    rw [h9]; rfl
  refine calls_cw Try.func25 rfl rfl (by rw [hlen]; rfl) ?_
  generalize argEnv 0 vals = L at h0
  have hr : P.ring_Apart h l i s = some r := hr
  obtain ⟨⟨ro, re⟩, hr1, hr⟩ := bnd (show Option.bind (P.ring_open h l) _ = some r from hr)
  refine cw_seq ?_
  refine Holds.reg (G := gx25) gxB rfl h0 fun L1 w1 _ h1 => ?_
  refine cw_seq ?_
  apply Holds.regH (G := gx25) gxB h1 hr1
  · exact rfl
  · exact rfl
  intro L2 w2 _ h2
  refine cw_seq ?_
  refine cw_seq ?_
  refine Holds.reg (G := gx25) gxB rfl h2 fun L3 w3 _ h3 => ?_
  clear h0 h1 h2
  refine cw_cond (h3.slotB (t := 25) rfl) (fun hb => ?_) (fun hb => ?_)
  · have hr := pickT hb hr
    refine cw_seq ?_
    refine Holds.reg (G := gx25) gxB rfl h3 fun L4 w4 _ h4 => ?_
    refine cw_ret (fin_ok (cs := ctr25.rs) gxB rfl ?_ h4); exact hr
  · have hr := pickF hb hr
    obtain ⟨x, hro, hq⟩ := bnd hr
    clear hr
    have hro : ro = some x := hro
    subst hro
    obtain ⟨k, hr2, hr⟩ := bnd hq
    clear hq
    refine cw_skip ?_
    refine cw_seq ?_
    apply Holds.regH (G := gx25) gxB h3 hr2
    · exact rfl
    · exact rfl
    intro L4 w4 _ h4
    refine cw_seq ?_
    refine cw_seq ?_
    refine Holds.reg (G := gx25) gxB rfl h4 fun L5 w5 _ h5 => ?_
    refine cw_cond (h5.slotB (t := 34) rfl) (fun hb2 => ?_) (fun hb2 => ?_)
    · have hr := pickT hb2 hr
      refine cw_seq ?_
      refine Holds.reg (G := gx25) gxB rfl h5 fun L6 w6 _ h6 => ?_
      refine cw_ret (fin_ok (cs := ctr25.rs) gxB rfl ?_ h6); exact hr
    · have hr := pickF hb2 hr
      obtain ⟨b, hr3, hr⟩ := bnd hr
      refine cw_skip ?_
      refine cw_seq ?_
      refine cw_seq ?_
      apply Holds.regH (G := gx25) gxB h5 hr3
      · exact rfl
      · exact rfl
      intro L6 w6 _ h6
      refine cw_cond (h6.slotB (t := 38) rfl) (fun hb3 => ?_) (fun hb3 => ?_)
      · have hr := pickT hb3 hr
        refine cw_seq ?_
        refine Holds.reg (G := gx25) gxB rfl h6 fun L7 w7 _ h7 => ?_
        refine cw_ret (fin_ok (cs := ctr25.rs) gxB rfl ?_ h7); exact hr
      · have hr := pickF hb3 hr
        obtain ⟨f, hr4, hr⟩ := bnd hr
        obtain ⟨⟨g, f'⟩, hr5, hr⟩ := bnd hr
        obtain ⟨n, hr6, hr⟩ := bnd hr
        obtain ⟨ys, hr7, hr⟩ := bnd hr
        refine cw_skip ?_
        refine cw_seq ?_
        apply Holds.regH (G := gx25) gxB h6 hr4
        · exact rfl
        · exact rfl
        intro L7 w7 _ h7
        refine cw_seq ?_
        have h7 : Holds (P := Try.prog) w [] M ⟨e25a x k s, rs25 h s f, [], []⟩ L7 w7 := Holds.tidy (env' := e25a x k s) (res' := rs25 h s f) h7 ⟨rfl, rfl, rfl, rfl, rfl, trivial⟩ fun _ => rfl
        have he : exec gx25 74 (fun _ => (none : Option Unit)) c25g .x some (fun _ _ => none) (fun _ => none) ⟨e25a x k s, rs25 h s f, [], []⟩ = Option.bind (P.ring_hunt_group x k s f) fun g => some ⟨[(14, .dat (.sl (.int .i64)) g.1), (45, .dat (.sl (.int .i64)) g.1), (44, .own 40), (43, .int .i64 s), (42, .int .i64 k), (41, .np (.st 3) (some x)), (11, .np (.st 3) (some x)), (12, .int .i64 k), (3, .int .i64 s), (13, .own 40), (9, .int .i64 0)], rs25 h s g.2, [], [(40, 0)]⟩ := by kernel_rfl
        refine Holds.codeB (c := c25g) gxB hr5 he rfl h7 fun L8 w8 _ h8 => ?_
        have h8 : Holds (P := Try.prog) w [] M ⟨e25b g x, rs25 h s f', [], []⟩ L8 w8 := Holds.tidy (env' := e25b g x) (res' := rs25 h s f') h8 ⟨rfl, rfl, rfl, rfl, trivial⟩ fun _ => rfl
        clear h3 h4 h5 h6 h7 he
        refine cw_seq ?_
        refine cw_seq ?_
        refine Holds.reg (G := gx25) gxB rfl h8 fun L9 w9 _ h9 => ?_
        have h9 : Holds (P := Try.prog) w [] M ⟨e25c g x 0 0, rs25 h s f', [], []⟩ L9 w9 := Holds.tidy (env' := e25c g x 0 0) (res' := rs25 h s f') h9 ⟨rfl, rfl, rfl, rfl, rfl, rfl, rfl, trivial⟩ fun _ => rfl
        clear h8
        refine cw_block ?_
        have hr6 : apartN x f' g = some n := hr6
        unfold apartN at hr6
        generalize hbd : (fun q : Int × Int => cond (decide (q.1 < (g.length : Int))) (Option.bind (ixo g q.1) fun i => Option.bind (farA x f' i q.2) fun n => Option.bind (chk .i64 (q.1 + 1)) fun t => some (Sum.inl (β := Int) (t, n))) (some (Sum.inr q.2))) = body at hr6
        refine cw_loop (ι := Env × Int × Int) (fun q => q.1) (fun q w' => Holds (P := Try.prog) w [] M ⟨e25c g x q.2.1 q.2.2, rs25 h s f', [], []⟩ q.1 w' ∧ loopM body q.2 = some n ∧ 0 ≤ q.2.1) (fun q => ((g.length : Int) - q.2.1).toNat) (L9, 0, 0) ⟨h9, hr6, Int.le_refl _⟩ (Sub.refl _) ?_
        clear h9 hr6
        rintro ⟨L, t, m⟩ w1 ⟨hH, hlm, ht0⟩
        dsimp only at hH hlm ht0 ⊢
        refine cw_seq ?_
        refine Holds.reg (G := gx25) gxB rfl hH fun L2 w2 _ h2 => ?_
        have h2 : Holds (P := Try.prog) w [] M ⟨(49, .bool (decide (t < (g.length : Int)))) :: e25c g x t m, rs25 h s f', [], []⟩ L2 w2 := Holds.tidy (env' := (49, .bool (decide (t < (g.length : Int)))) :: e25c g x t m) (res' := rs25 h s f') h2 ⟨rfl, rfl, rfl, rfl, rfl, rfl, rfl, rfl, trivial⟩ fun _ => rfl
        refine cw_seq ?_
        refine cw_cond (h2.slotB (t := 49) rfl) (fun hlt => ?_) (fun hge => ?_)
        · have hlt := of_decide_eq_true hlt
          have hb1 : body (t, m) = Option.bind (ixo g t) fun i => Option.bind (farA x f' i m) fun n => Option.bind (chk .i64 (t + 1)) fun t => some (Sum.inl (β := Int) (t, n)) := by
            rw [← hbd]
            show cond (decide (t < (g.length : Int))) _ _ = _
            rw [decide_eq_true hlt, condT]
          obtain ⟨i, n1, t1, hv, hc, hk, hnx⟩ : ∃ i n1 t1, ixo g t = some i ∧ farA x f' i m = some n1 ∧ chk .i64 (t + 1) = some t1 ∧ loopM body (t1, n1) = some n := by
            rcases loopM_step hlm with ⟨s', h5, h6⟩ | h5
            · rw [hb1] at h5
              obtain ⟨i, a1, h5⟩ := bnd h5
              obtain ⟨n1, a2, h5⟩ := bnd h5
              obtain ⟨t1, a3, h5⟩ := bnd h5
              cases h5
              exact ⟨i, n1, t1, a1, a2, a3, h6⟩
            · rw [hb1] at h5
              obtain ⟨i, a1, h5⟩ := bnd h5
              obtain ⟨n1, a2, h5⟩ := bnd h5
              obtain ⟨t1, a3, h5⟩ := bnd h5
              cases h5
          obtain ⟨rfl, hk1⟩ := chk_out hk
          refine cw_skip ?_
          refine cw_seq ?_
          refine cw_block ?_
          refine cw_seq ?_
          apply Holds.regH (G := gx25) gxB h2 hv
          · exact rfl
          · exact rfl
          intro L3 w3 _ h3
          have h3 : Holds (P := Try.prog) w [] M ⟨(16, .int .i64 i) :: e25c g x t m, rs25 h s f', [], []⟩ L3 w3 := Holds.tidy (env' := (16, .int .i64 i) :: e25c g x t m) (res' := rs25 h s f') h3 ⟨rfl, rfl, rfl, rfl, rfl, rfl, rfl, rfl, trivial⟩ fun _ => rfl
          refine mid25 h3 hc fun L4 w4 h4 => ?_
          apply Holds.regH (G := gx25) gxB h4 hk
          · exact rfl
          · exact rfl
          intro L5 w5 _ h5
          refine ⟨rfl, (L5, t + 1, n1), ⟨Holds.tidy (env' := e25c g x (t + 1) n1) (res' := rs25 h s f') h5 ⟨rfl, rfl, rfl, rfl, rfl, rfl, rfl, trivial⟩ fun _ => rfl, hnx, by dsimp only; omega⟩, Sub.refl _, ?_⟩
          show ((g.length : Int) - (t + 1)).toNat < ((g.length : Int) - t).toNat
          omega
        · have hge := of_decide_eq_false hge
          have hs1 := loopM_end (R := Int) (body := body) (s := (t, m)) (r := m) (by
            rw [← hbd]
            show cond (decide (t < (g.length : Int))) _ _ = _
            rw [decide_eq_false hge]; rfl)
          rw [hs1] at hlm
          obtain rfl := Option.some.inj hlm
          refine cw_exit (exB_same ?_)
          refine cw_seq ?_
          apply Holds.regH (G := gx25) gxB h2 hr7
          · exact rfl
          · exact rfl
          intro L3 w3 _ h3
          refine cw_ret (fin_ok (cs := ctr25.rs) gxB rfl ?_ h3)
          exact hr
end Go.Proofs.Ytdbogmmdogjhpaa
set_option maxRecDepth 20000
set_option maxHeartbeats 4000000
namespace Go.Proofs.Ytdbogmmdogjhpaa
open Go Go.Sx Go.Rx Go.RowKit
noncomputable def P.ring_hunt_rings (h_ : Hunt_94) (strength : Int) : Option (List (List Int)) := Option.bind (P.ring_hunt_everyone h_) fun r1 => Option.bind (loopM (S := (Int × (List (List Int)) × (FMap Int Bool))) (R := ((List (List Int)))) (fun (x37, x38, x39) => cond (decide (x37 < (h_.ids.length : Int))) (Option.bind (α := ((List (List Int)) × (FMap Int Bool))) (cond ((!((x39 x37).getD false))) (some (x38, x39)) (Option.bind (P.ring_hunt_group h_ x37 strength x39) fun (r40, m41) => Option.bind (α := ((List (List Int)))) (cond (decide (h_.hunt.size ≤ (r40.length : Int))) (Option.bind (P.ring_hunt_named h_ r40) fun r42 => Option.bind (appo 24 x38 ([r42])) fun l43 => some l43) (some x38)) ((fun x44 => some (x44, m41))))) ((fun (x45, x46) => Option.bind (chk .i64 (x37 + 1)) fun n47 => some (Sum.inl (n47, x45, x46))))) (some (Sum.inr x38))) ((0 : Int), ([] : (List (List Int))), r1)) ((fun x48 => some x48))
def an50 : An := .nd (.x) (.nd (.x) (.nd (.x) (.nd (.nd (.x) (.lp ⟨[(.slot 16, .d (.int .i64)), (.slot 5, .own (.sl 42 (.sl (.int .i64)))), (.cont 10, .own (.mp 3 (.int .i64) .bool))], [10]⟩ [.exit 0 ⟨[(.slot 5, .own (.sl 42 (.sl (.int .i64))))], []⟩] (.nd (.x) (.nd (.x) (.nd (.jn [.norm ⟨[(.slot 5, .own (.sl 42 (.sl (.int .i64)))), (.cont 10, .own (.mp 3 (.int .i64) .bool))], [10]⟩] (.nd (.x) (.nd (.x) (.nd (.x) (.nd (.x) (.jn [.norm ⟨[(.slot 5, .own (.sl 42 (.sl (.int .i64))))], [10]⟩] (.x))))))) (.x)))))) (.x))))
noncomputable def ctr50 : Ctr := ⟨[.pt (.st 3), .d (.int .i64)], [.own (.sl 42 (.sl (.int .i64)))], fun a => P.ring_hunt_rings a.1 a.2.1⟩
theorem ok50 : Ctr.ok Try.prog 50 ctr50 := fun_ok (G := { gxb with fs := [(53, ctr53), (56, ctr56)], fm := [(54, ctrm54)] }) (an := an50) (gx_okm ⟨⟨ok53, Try.call53⟩, ⟨⟨ok56, Try.call56⟩, trivial⟩⟩ trivial ⟨⟨okm54, Try.call54⟩, trivial⟩) Try.func50 rfl rfl rfl rfl (fun a => by kernel_rfl)
noncomputable def P.ring_Rings (h_ : Hunt) (l : (List Filing)) (strength : Int) : Option ((List (List Int)) × Int) := Option.bind (P.ring_open h_ l) fun (r1, r2) => cond ((!decide (r2 = 0))) (some (([] : (List (List Int))), r2)) (Option.bind (P.ring_in (1 : Int) (6001 : Int) ([strength])) fun r3 => cond ((!r3)) (some (([] : (List (List Int))), (2 : Int))) (Option.bind (r1) fun x4 => Option.bind (P.ring_hunt_rings x4 strength) fun r5 => some (r5, (0 : Int))))
def an23 : An := .x
noncomputable def ctr23 : Ctr := ⟨[.d (.st 0), .d (.sl (.st 1)), .d (.int .i64)], [.own (.sl 42 (.sl (.int .i64))), .d (.int .i64)], fun a => P.ring_Rings a.1 a.2.1 a.2.2.1⟩
theorem ok23 : Ctr.ok Try.prog 23 ctr23 := fun_ok (G := { gxb with fs := [(40, ctr40), (47, ctr47), (50, ctr50)] }) (an := an23) (gx_ok ⟨⟨ok40, Try.call40⟩, ⟨⟨ok47, Try.call47⟩, ⟨⟨ok50, Try.call50⟩, trivial⟩⟩⟩) Try.func23 rfl rfl rfl rfl (fun a => by kernel_rfl)
noncomputable def P.ref08_group (h_ : Hunt) (l : (List Filing)) (from_ : Int) (strength : Int) : Option (List Int) := Option.bind (P.ref08_steps h_ l from_ strength) fun r1 => Option.bind (loopM (S := ((List Int) × Int)) (R := ((List Int))) (fun (x9, x10) => cond (decide (x10 < (l.length : Int))) (Option.bind (ixo r1 x10) fun y11 => Option.bind (α := ((List Int))) (cond (decide (0 ≤ y11)) (Option.bind (ixo l x10) fun y12 => Option.bind (appo 8 x9 ([y12.id])) fun l13 => some l13) (some x9)) ((fun x14 => Option.bind (chk .i64 (x10 + 1)) fun n15 => some (Sum.inl (x14, n15))))) (some (Sum.inr x9))) (([] : (List Int)), (0 : Int))) ((fun x16 => some x16))
noncomputable def P.ref08_rings (h_ : Hunt) (l : (List Filing)) (strength : Int) : Option (List (List Int)) := Option.bind (loopM (S := ((List (List Int)) × Int)) (R := ((List (List Int)))) (fun (x10, x11) => cond (decide (x11 < (l.length : Int))) (Option.bind (P.ref08_group h_ l x11 strength) fun r12 => Option.bind (α := (Bool)) (Option.bind (ixo r12 0) fun y13 => Option.bind (ixo l x11) fun y14 => cond (decide (y13 = y14.id)) (some (decide (h_.size ≤ (r12.length : Int)))) (some false)) ((fun x15 => Option.bind (α := ((List (List Int)))) (cond (x15) (Option.bind (appo 24 x10 ([r12])) fun l16 => some l16) (some x10)) ((fun x17 => Option.bind (chk .i64 (x11 + 1)) fun n18 => some (Sum.inl (x17, n18))))))) (some (Sum.inr x10))) (([] : (List (List Int))), (0 : Int))) ((fun x19 => some x19))
noncomputable def P.ref08_Rings (h_ : Hunt) (l : (List Filing)) (strength : Int) : Option ((List (List Int)) × Int) := Option.bind (P.ref08_Check h_ l) fun r1 => cond ((!decide (r1 = 0))) (some (([] : (List (List Int))), r1)) (Option.bind (P.ref08_within strength (1 : Int) (6001 : Int)) fun r2 => cond ((!r2)) (some (([] : (List (List Int))), (2 : Int))) (Option.bind (P.ref08_rings h_ l strength) fun r3 => some (r3, (0 : Int))))
noncomputable def P.ref08_Apart (h_ : Hunt) (l : (List Filing)) (id : Int) (strength : Int) : Option ((List Int) × Int × Int) := Option.bind (P.ref08_Check h_ l) fun r1 => cond ((!decide (r1 = 0))) (some (([] : (List Int)), (0 : Int), r1)) (Option.bind (P.ref08_At l id) fun r2 => cond (decide (r2 < 0)) (some (([] : (List Int)), (0 : Int), (6 : Int))) (Option.bind (P.ref08_within strength (1 : Int) (6001 : Int)) fun r3 => cond ((!r3)) (some (([] : (List Int)), (0 : Int), (2 : Int))) (Option.bind (P.ref08_group h_ l r2 strength) fun r4 => Option.bind (loopM (S := (Int × Int)) (R := (Int)) (fun (x19, x20) => cond (decide (x20 < (l.length : Int))) (Option.bind (loopM (S := (Int × Int)) (R := (Int)) (fun (x21, x22) => cond (decide (x22 < (l.length : Int))) (Option.bind (α := (Bool)) (Option.bind (ixo l x20) fun y23 => Option.bind (P.ref08_has r4 y23.id) fun r24 => cond (r24) (Option.bind (ixo l x22) fun y25 => Option.bind (P.ref08_has r4 y25.id) fun r26 => some (!r26)) (some false)) ((fun x27 => Option.bind (α := (Int)) (cond (x27) (Option.bind (P.ref08_weight h_ l x20 x22) fun r28 => some (max x21 r28)) (some x21)) ((fun x29 => Option.bind (chk .i64 (x22 + 1)) fun n30 => some (Sum.inl (x29, n30))))))) (some (Sum.inr x21))) (x19, (0 : Int))) ((fun x31 => Option.bind (chk .i64 (x20 + 1)) fun n32 => some (Sum.inl (x31, n32))))) (some (Sum.inr x19))) ((0 : Int), (0 : Int))) ((fun x33 => some (r4, x33, (0 : Int)))))))
noncomputable def P.ring_Tune_in1 (id : Int) (a1_ : (Option Hunt_94)) : Option Bool := Option.bind (a1_) fun x1 => Option.bind (P.slices_Contains_61 x1.ids id) fun r2 => some (!r2)
def an60 : An := .x
noncomputable def ctr60 : Ctr := ⟨[.d (.int .i64), .pp (.st 3)], [.d .bool], fun a => P.ring_Tune_in1 a.1 a.2.1⟩
theorem ok60 : Ctr.ok Try.prog 60 ctr60 := fun_ok (G := { gxb with fs := [(61, ctr61)] }) (an := an60) (gx_ok ⟨⟨ok61, Try.call61⟩, trivial⟩) Try.func60 rfl rfl rfl rfl (fun a => by kernel_rfl)
noncomputable def P.slices_Concat_63 (slices : (List (List Int))) : Option (List Int) := Option.bind (loopM (S := (Int × Int)) (R := (Int)) (fun (x6, x7) => cond (decide (x6 < (slices.length : Int))) (Option.bind (ixo slices x6) fun y8 => Option.bind (chk .i64 (x7 + (y8.length : Int))) fun n9 => cond (decide (n9 < 0)) (none) (Option.bind (chk .i64 (x6 + 1)) fun n10 => some (Sum.inl (n10, n9)))) (some (Sum.inr x7))) ((0 : Int), (0 : Int))) ((fun x11 => Option.bind (P.slices_Grow_74 () x11) fun r12 => Option.bind (loopM (S := (Int × (List Int))) (R := ((List Int))) (fun (x18, x19) => cond (decide (x18 < (slices.length : Int))) (Option.bind (ixo slices x18) fun y20 => Option.bind (appo 8 x19 y20) fun l21 => Option.bind (chk .i64 (x18 + 1)) fun n22 => some (Sum.inl (n22, l21))) (some (Sum.inr x19))) ((0 : Int), r12)) ((fun x23 => some x23))))
def an63 : An := .nd (.x) (.nd (.x) (.nd (.nd (.x) (.lp ⟨[(.slot 11, .d (.int .i64)), (.slot 3, .d (.int .i64))], []⟩ [.exit 0 ⟨[(.slot 3, .d (.int .i64))], []⟩] (.x))) (.nd (.x) (.nd (.nd (.x) (.lp ⟨[(.slot 27, .d (.int .i64)), (.slot 6, .own (.sl 3 (.int .i64)))], []⟩ [.exit 2 ⟨[(.slot 6, .own (.sl 3 (.int .i64)))], []⟩] (.x))) (.x)))))
noncomputable def ctr63 : Ctr := ⟨[.d (.sl (.sl (.int .i64)))], [.own (.sl 3 (.int .i64))], fun a => P.slices_Concat_63 a.1⟩
theorem ok63 : Ctr.ok Try.prog 63 ctr63 := fun_ok (G := { gxb with fs := [(74, ctr74)] }) (an := an63) (gx_ok ⟨⟨ok74, Try.call74⟩, trivial⟩) Try.func63 rfl rfl rfl rfl (fun a => by kernel_rfl)
noncomputable def P.ring_Tune_in2 (strength : Int) (a1_ : (Option Hunt_94)) (a2_ : (List Int)) : Option (Int × Int) := Option.bind (a1_) fun x1 => Option.bind (P.ring_hunt_rings x1 strength) fun r2 => Option.bind (P.slices_Concat_63 r2) fun r3 => Option.bind (loopM (S := (Int × Int × Int)) (R := (Int × Int)) (fun (x13, x14, x15) => cond (decide (x13 < (r3.length : Int))) (Option.bind (ixo r3 x13) fun y16 => Option.bind (chk .i64 (x14 + 1)) fun n17 => Option.bind (P.slices_Contains_61 a2_ y16) fun r18 => Option.bind (α := (Int)) (cond (r18) (Option.bind (chk .i64 (x15 + 1)) fun n19 => some n19) (some x15)) ((fun x20 => Option.bind (chk .i64 (x13 + 1)) fun n21 => some (Sum.inl (n21, n17, x20))))) (some (Sum.inr (x14, x15)))) ((0 : Int), (0 : Int), (0 : Int))) ((fun (x22, x23) => some (x22, x23)))
def an62 : An := .nd (.x) (.nd (.nd (.x) (.lp ⟨[(.slot 13, .d (.int .i64)), (.slot 4, .d (.int .i64)), (.slot 5, .d (.int .i64))], [11]⟩ [.exit 0 ⟨[(.slot 4, .d (.int .i64)), (.slot 5, .d (.int .i64))], []⟩] (.nd (.x) (.nd (.x) (.nd (.nd (.x) (.nd (.x) (.nd (.x) (.jn [.norm ⟨[(.slot 5, .d (.int .i64))], [11]⟩] (.x))))) (.x)))))) (.x))
noncomputable def ctr62 : Ctr := ⟨[.d (.int .i64), .pp (.st 3), .pt (.sl (.int .i64))], [.d (.int .i64), .d (.int .i64)], fun a => P.ring_Tune_in2 a.1 a.2.1 a.2.2.1⟩
theorem ok62 : Ctr.ok Try.prog 62 ctr62 := fun_ok (G := { gxb with fs := [(50, ctr50), (61, ctr61), (63, ctr63)] }) (an := an62) (gx_ok ⟨⟨ok50, Try.call50⟩, ⟨⟨ok61, Try.call61⟩, ⟨⟨ok63, Try.call63⟩, trivial⟩⟩⟩) Try.func62 rfl rfl rfl rfl (fun a => by kernel_rfl)
noncomputable def P.ring_least_64 (lo : Int) (hi : Int) (so : Int → Option Bool) : Option Int := Option.bind (loopM (S := (Int × Int)) (R := (Int)) (fun (x10, x11) => cond (decide (x10 < x11)) (Option.bind (chk .i64 (x11 - x10)) fun n12 => Option.bind (quoO .i64 n12 2) fun n13 => Option.bind (chk .i64 (x10 + n13)) fun n14 => Option.bind (so n14) fun y15 => Option.bind (α := (Int × Int)) (cond (y15) (some (x10, n14)) (Option.bind (chk .i64 (n14 + 1)) fun n16 => some (n16, x11))) ((fun (x17, x18) => some (Sum.inl (x17, x18))))) (some (Sum.inr x10))) (lo, hi)) ((fun x19 => some x19))
def an64 : An := .nd (.x) (.nd (.lp ⟨[(.slot 0, .d (.int .i64)), (.slot 1, .d (.int .i64))], []⟩ [.exit 0 ⟨[(.slot 0, .d (.int .i64))], []⟩] (.nd (.x) (.nd (.x) (.nd (.x) (.jn [.norm ⟨[(.slot 0, .d (.int .i64)), (.slot 1, .d (.int .i64))], []⟩] (.x)))))) (.x))
noncomputable def ctr64 : Ctr := ⟨[.d (.int .i64), .d (.int .i64), .fn [(.int .i64)] .bool], [.d (.int .i64)], fun a => P.ring_least_64 a.1 a.2.1 a.2.2.1⟩
theorem ok64 : Ctr.ok Try.prog 64 ctr64 := fun_ok (G := { gxb with fs := [] }) (an := an64) (gx_ok trivial) Try.func64 rfl rfl rfl rfl (fun a => by kernel_rfl)
noncomputable def P.ring_Tune_in3 (s : Int) (a1_ : (Option Hunt_94 × (List Int) × Unit)) (a2_ : Int) : Option Bool := Option.bind (P.ring_Tune_in2 s a1_.1 a1_.2.1) fun (r1, r2) => some (decide (r2 ≤ a2_))
def an65 : An := .x
noncomputable def ctr65 : Ctr := ⟨[.d (.int .i64), .cl 62 [(true, (.st 3)), (false, (.sl (.int .i64)))], .pt (.int .i64)], [.d .bool], fun a => P.ring_Tune_in3 a.1 a.2.1 a.2.2.1⟩
theorem ok65 : Ctr.ok Try.prog 65 ctr65 := fun_ok (G := { gxb with fs := [(62, ctr62)] }) (an := an65) (gx_ok ⟨⟨ok62, Try.call62⟩, trivial⟩) Try.func65 rfl rfl rfl rfl (fun a => by kernel_rfl)
noncomputable def P.ring_Tune (h_ : Hunt) (l : (List Filing)) (good : (List Int)) (most : Int) : Option (Int × Int × Int × Int) := Option.bind (P.ring_open h_ l) fun (r1, r2) => cond ((!decide (r2 = 0))) (some ((0 : Int), (0 : Int), (0 : Int), r2)) (Option.bind (α := (Bool)) (Option.bind (P.ring_rising good) fun r7 => cond ((!r7)) (some true) (Option.bind (P.ring_in (0 : Int) (24 : Int) ([most])) fun r8 => cond ((!r8)) (some true) (Option.bind (P.slices_ContainsFunc_59 good (fun a9 => P.ring_Tune_in1 a9 r1)) fun r10 => some r10))) ((fun x11 => cond (x11) (some ((0 : Int), (0 : Int), (0 : Int), (2 : Int))) (Option.bind (P.ring_least_64 (1 : Int) (6001 : Int) (fun a12 => P.ring_Tune_in3 a12 (r1, good, ()) most)) fun r13 => Option.bind (P.ring_Tune_in2 r13 r1 good) fun (r14, r15) => some (r13, r14, r15, (0 : Int))))))
def an27 : An := .nd (.x) (.nd (.x) (.nd (.x) (.nd (.nd (.jn [.norm ⟨[(.slot 36, .d .bool)], [12, 7, 6]⟩] (.x)) (.x)) (.x))))
noncomputable def ctr27 : Ctr := ⟨[.d (.st 0), .d (.sl (.st 1)), .d (.sl (.int .i64)), .d (.int .i64)], [.d (.int .i64), .d (.int .i64), .d (.int .i64), .d (.int .i64)], fun a => P.ring_Tune a.1 a.2.1 a.2.2.1 a.2.2.2.1⟩
theorem ok27 : Ctr.ok Try.prog 27 ctr27 := fun_ok (G := { gxb with fs := [(40, ctr40), (47, ctr47), (48, ctr48), (59, ctr59), (60, ctr60), (62, ctr62), (64, ctr64), (65, ctr65)] }) (an := an27) (gx_ok ⟨⟨ok40, Try.call40⟩, ⟨⟨ok47, Try.call47⟩, ⟨⟨ok48, Try.call48⟩, ⟨⟨ok59, Try.call59⟩, ⟨⟨ok60, Try.call60⟩, ⟨⟨ok62, Try.call62⟩, ⟨⟨ok64, Try.call64⟩, ⟨⟨ok65, Try.call65⟩, trivial⟩⟩⟩⟩⟩⟩⟩⟩) Try.func27 rfl rfl rfl rfl (fun a => by kernel_rfl)
noncomputable def P.ref08_Good (l : (List Filing)) (good : (List Int)) : Option Bool := Option.bind (loopM (S := (Int)) (R := (Unit ⊕ Bool)) (fun x9 => cond (decide (x9 < (good.length : Int))) (Option.bind (α := (Bool)) (Option.bind (ixo good x9) fun y10 => Option.bind (P.ref08_At l y10) fun r11 => cond (decide (r11 < 0)) (some true) (cond (decide (0 < x9)) (Option.bind (ixo good x9) fun y12 => Option.bind (chk .i64 (x9 - 1)) fun n13 => Option.bind (ixo good n13) fun y14 => some (decide (y12 ≤ y14))) (some false))) ((fun x15 => cond (x15) (some (Sum.inr (Sum.inr false))) (Option.bind (chk .i64 (x9 + 1)) fun n16 => some (Sum.inl n16))))) (some (Sum.inr (Sum.inl ())))) (0 : Int)) ((Sum.elim (fun _ => some true) (fun r17 => some r17)))
noncomputable def P.ref08_Tune (h_ : Hunt) (l : (List Filing)) (good : (List Int)) (most : Int) : Option (Int × Int × Int × Int) := Option.bind (P.ref08_Check h_ l) fun r1 => cond ((!decide (r1 = 0))) (some ((0 : Int), (0 : Int), (0 : Int), r1)) (Option.bind (α := (Bool)) (Option.bind (P.ref08_Good l good) fun r4 => cond ((!r4)) (some true) (Option.bind (P.ref08_within most (0 : Int) (24 : Int)) fun r5 => some (!r5))) ((fun x6 => cond (x6) (some ((0 : Int), (0 : Int), (0 : Int), (2 : Int))) (Option.bind (loopM (S := (Int × Int × Int × Int)) (R := (Int × Int × Int)) (fun (x49, x50, x51, x52) => cond (decide (x52 < (l.length : Int))) (Option.bind (loopM (S := (Int × Int × Int × Int)) (R := (Int × Int × Int)) (fun (x53, x54, x55, x56) => cond (decide (x56 ≤ x52)) (Option.bind (α := (Int × Int × Int)) (Option.bind (α := (Int)) (cond ((!decide (x52 = x56))) (Option.bind (P.ref08_weight h_ l x52 x56) fun r57 => Option.bind (chk .i64 (r57 + 1)) fun n58 => some n58) (some (1 : Int))) ((fun x59 => cond (decide (x53 ≤ x59)) (some (x53, x54, x55)) (Option.bind (P.ref08_rings h_ l x59) fun r60 => Option.bind (loopM (S := (Int × Int × Int)) (R := (Int × Int)) (fun (x61, x62, x63) => cond (decide (x63 < (r60.length : Int))) (Option.bind (loopM (S := (Int × Int × Int)) (R := (Int × Int)) (fun (x64, x65, x66) => Option.bind (ixo r60 x63) fun y67 => cond (decide (x66 < (y67.length : Int))) (Option.bind (chk .i64 (x64 + 1)) fun n68 => Option.bind (ixo r60 x63) fun y69 => Option.bind (ixo y69 x66) fun y70 => Option.bind (P.ref08_has good y70) fun r71 => Option.bind (α := (Int)) (cond (r71) (Option.bind (chk .i64 (x65 + 1)) fun n72 => some n72) (some x65)) ((fun x73 => Option.bind (chk .i64 (x66 + 1)) fun n74 => some (Sum.inl (n68, x73, n74))))) (some (Sum.inr (x64, x65)))) (x61, x62, (0 : Int))) ((fun (x75, x76) => Option.bind (chk .i64 (x63 + 1)) fun n77 => some (Sum.inl (x75, x76, n77))))) (some (Sum.inr (x61, x62)))) ((0 : Int), (0 : Int), (0 : Int))) ((fun (x78, x79) => Option.bind (α := (Int × Int × Int)) (cond (decide (x79 ≤ most)) (some (x59, x78, x79)) (some (x53, x54, x55))) ((fun (x80, x81, x82) => some (x80, x81, x82))))))))) ((fun (x83, x84, x85) => Option.bind (chk .i64 (x56 + 1)) fun n86 => some (Sum.inl (x83, x84, x85, n86))))) (some (Sum.inr (x53, x54, x55)))) (x49, x50, x51, (0 : Int))) ((fun (x87, x88, x89) => Option.bind (chk .i64 (x52 + 1)) fun n90 => some (Sum.inl (x87, x88, x89, n90))))) (some (Sum.inr (x49, x50, x51)))) ((6002 : Int), (0 : Int), (0 : Int), (0 : Int))) ((fun (x91, x92, x93) => cond (decide ((l.length : Int) = 0)) (some ((1 : Int), (0 : Int), (0 : Int), (0 : Int))) (some (x91, x92, x93, (0 : Int)))))))))
noncomputable def P.ref08_SameLists (a : (List (List Int))) (b : (List (List Int))) : Option Bool := cond ((!decide ((a.length : Int) = (b.length : Int)))) (some false) (Option.bind (loopM (S := (Int)) (R := (Unit ⊕ Bool)) (fun x6 => cond (decide (x6 < (a.length : Int))) (Option.bind (ixo a x6) fun y7 => Option.bind (ixo b x6) fun y8 => Option.bind (P.ref08_SameInts y7 y8) fun r9 => cond ((!r9)) (some (Sum.inr (Sum.inr false))) (Option.bind (chk .i64 (x6 + 1)) fun n10 => some (Sum.inl n10))) (some (Sum.inr (Sum.inl ())))) (0 : Int)) ((Sum.elim (fun _ => some true) (fun r11 => some r11))))
def an29 : An := .nd (.x) (.nd (.x) (.nd (.nd (.x) (.lp ⟨[(.slot 5, .d (.int .i64))], []⟩ [.exit 0 ⟨[], []⟩, .ret] (.x))) (.x)))
noncomputable def ctr29 : Ctr := ⟨[.d (.sl (.sl (.int .i64))), .d (.sl (.sl (.int .i64)))], [.d .bool], fun a => P.ref08_SameLists a.1 a.2.1⟩
theorem ok29 : Ctr.ok Try.prog 29 ctr29 := fun_ok (G := { gxb with fs := [(30, ctr30)] }) (an := an29) (gx_ok ⟨⟨ok30, Try.call30⟩, trivial⟩) Try.func29 rfl rfl rfl rfl (fun a => by kernel_rfl)
noncomputable def P.law08_RingGroups (h_ : Hunt) (l : (List Filing)) (id : Int) (strength : Int) (good : (List Int)) (most : Int) : Option Bool := Option.bind (α := (Bool)) (Option.bind (P.ref08_Great l) fun r2 => cond (r2) (some true) (some (decide (40 < (good.length : Int))))) ((fun x3 => cond (x3) (some true) (Option.bind (P.ref08_Twin l) fun r4 => Option.bind (appo 8 ([] : (List Int)) good) fun l5 => Option.bind (P.ring_Rings h_ r4 strength) fun (r6, r7) => Option.bind (P.ref08_Rings h_ l strength) fun (r8, r9) => Option.bind (P.ring_Apart h_ r4 id strength) fun (r10, r11, r12) => Option.bind (P.ref08_Apart h_ l id strength) fun (r13, r14, r15) => Option.bind (P.ring_Tune h_ r4 l5 most) fun (r16, r17, r18, r19) => Option.bind (P.ref08_Tune h_ l good most) fun (r20, r21, r22, r23) => Option.bind (α := (Bool)) (Option.bind (P.ref08_SameLists r6 r8) fun r28 => cond (r28) (cond (decide (r7 = r9)) (Option.bind (P.ref08_SameInts r10 r13) fun r29 => cond (r29) (cond (decide (r11 = r14)) (cond (decide (r12 = r15)) (cond (decide (r16 = r20)) (cond (decide (r17 = r21)) (cond (decide (r18 = r22)) (cond (decide (r19 = r23)) (Option.bind (P.ref08_Same r4 l) fun r30 => cond (r30) (Option.bind (P.ref08_SameInts l5 good) fun r31 => some r31) (some false)) (some false)) (some false)) (some false)) (some false)) (some false)) (some false)) (some false)) (some false)) (some false)) ((fun x32 => some x32)))))
noncomputable def P.law08_hunt  : Option Hunt := some (Hunt.mk 30 4 3)
def an34 : An := .x
noncomputable def ctr34 : Ctr := ⟨[], [.d (.st 0)], fun a => P.law08_hunt ⟩
theorem ok34 : Ctr.ok Try.prog 34 ctr34 := fun_ok (G := { gxb with fs := [] }) (an := an34) (gx_ok trivial) Try.func34 rfl rfl rfl rfl (fun a => by kernel_rfl)
noncomputable def P.law08_filings  : Option (List Filing) := some ([(Filing.mk 1 10 ([(100 : Int), (200 : Int), (900 : Int)])), (Filing.mk 2 20 ([(100 : Int), (300 : Int), (900 : Int)])), (Filing.mk 3 25 ([(200 : Int), (300 : Int), (900 : Int)])), (Filing.mk 4 30 ([(300 : Int), (400 : Int), (500 : Int), (900 : Int)])), (Filing.mk 5 50 ([(500 : Int)])), (Filing.mk 6 99 ([(400 : Int), (900 : Int)]))])
def an35 : An := .x
noncomputable def ctr35 : Ctr := ⟨[], [.own (.sl 65 (.st 1))], fun a => P.law08_filings ⟩
theorem ok35 : Ctr.ok Try.prog 35 ctr35 := fun_ok (G := { gxb with fs := [] }) (an := an35) (gx_ok trivial) Try.func35 rfl rfl rfl rfl (fun a => by kernel_rfl)
noncomputable def P.law08_weighs (a : Int) (b : Int) (want : Int) : Option Bool := Option.bind (P.law08_hunt) fun r1 => Option.bind (P.law08_filings) fun r2 => Option.bind (P.ring_Weight r1 r2 a b) fun (r3, r4) => Option.bind (α := (Bool)) (cond (decide (r4 = 0)) (some (decide (r3 = want))) (some false)) ((fun x5 => some x5))
def an32 : An := .nd (.x) (.nd (.x) (.nd (.jn [.norm ⟨[(.slot 6, .d .bool)], []⟩] (.x)) (.x)))
noncomputable def ctr32 : Ctr := ⟨[.d (.int .i64), .d (.int .i64), .d (.int .i64)], [.d .bool], fun a => P.law08_weighs a.1 a.2.1 a.2.2.1⟩
theorem ok32 : Ctr.ok Try.prog 32 ctr32 := fun_ok (G := { gxb with fs := [(15, ctr15), (34, ctr34), (35, ctr35)] }) (an := an32) (gx_ok ⟨⟨ok15, Try.call15⟩, ⟨⟨ok34, Try.call34⟩, ⟨⟨ok35, Try.call35⟩, trivial⟩⟩⟩) Try.func32 rfl rfl rfl rfl (fun a => by kernel_rfl)
noncomputable def P.law08_rings (strength : Int) (want : (List (List Int))) : Option Bool := Option.bind (P.law08_hunt) fun r1 => Option.bind (P.law08_filings) fun r2 => Option.bind (P.ring_Rings r1 r2 strength) fun (r3, r4) => Option.bind (α := (Bool)) (cond (decide (r4 = 0)) (Option.bind (P.ref08_SameLists r3 want) fun r6 => some r6) (some false)) ((fun x7 => some x7))
def an33 : An := .nd (.x) (.nd (.x) (.nd (.jn [.norm ⟨[(.slot 4, .d .bool)], []⟩] (.x)) (.x)))
noncomputable def ctr33 : Ctr := ⟨[.d (.int .i64), .d (.sl (.sl (.int .i64)))], [.d .bool], fun a => P.law08_rings a.1 a.2.1⟩
theorem ok33 : Ctr.ok Try.prog 33 ctr33 := fun_ok (G := { gxb with fs := [(23, ctr23), (29, ctr29), (34, ctr34), (35, ctr35)] }) (an := an33) (gx_ok ⟨⟨ok23, Try.call23⟩, ⟨⟨ok29, Try.call29⟩, ⟨⟨ok34, Try.call34⟩, ⟨⟨ok35, Try.call35⟩, trivial⟩⟩⟩⟩) Try.func33 rfl rfl rfl rfl (fun a => by kernel_rfl)
noncomputable def P.law08_alive  : Option Bool := Option.bind (P.law08_hunt) fun r1 => Option.bind (P.law08_filings) fun r2 => Option.bind (P.ring_Why r1 r2 (2 : Int) (5 : Int)) fun (r3, r4) => Option.bind (P.law08_hunt) fun r5 => Option.bind (P.law08_filings) fun r6 => Option.bind (P.ring_Apart r5 r6 (1 : Int) (501 : Int)) fun (r7, r8, r9) => Option.bind (P.law08_hunt) fun r10 => Option.bind (P.law08_filings) fun r11 => Option.bind (P.ring_Tune r10 r11 ([(4 : Int), (5 : Int)]) (0 : Int)) fun (r12, r13, r14, r15) => Option.bind (α := (Bool)) (Option.bind (P.law08_weighs (1 : Int) (2 : Int) (1000 : Int)) fun r23 => cond (r23) (Option.bind (P.law08_weighs (2 : Int) (3 : Int) (500 : Int)) fun r24 => cond (r24) (Option.bind (P.law08_weighs (4 : Int) (6 : Int) (0 : Int)) fun r25 => cond (r25) (Option.bind (P.law08_rings (500 : Int) ([[(1 : Int), (2 : Int), (3 : Int), (4 : Int), (5 : Int)]])) fun r26 => cond (r26) (Option.bind (P.law08_rings (501 : Int) ([[(1 : Int), (2 : Int), (3 : Int)]])) fun r27 => cond (r27) (cond (decide (r4 = 0)) (Option.bind (P.ref08_SameTies r3 ([(Tie.mk 2 4 500), (Tie.mk 4 5 1000)])) fun r28 => cond (r28) (cond (decide (r9 = 0)) (Option.bind (P.ref08_SameInts r7 ([(1 : Int), (2 : Int), (3 : Int)])) fun r29 => cond (r29) (cond (decide (r8 = 500)) (cond (decide (r15 = 0)) (cond (decide (r12 = 501)) (cond (decide (r13 = 3)) (some (decide (r14 = 0))) (some false)) (some false)) (some false)) (some false)) (some false)) (some false)) (some false)) (some false)) (some false)) (some false)) (some false)) (some false)) (some false)) ((fun x30 => some x30))
def an31 : An := .nd (.x) (.nd (.x) (.nd (.x) (.nd (.x) (.nd (.jn [.norm ⟨[(.slot 0, .d .bool)], []⟩] (.x)) (.x)))))
noncomputable def ctr31 : Ctr := ⟨[], [.d .bool], fun a => P.law08_alive ⟩
theorem ok31 : Ctr.ok Try.prog 31 ctr31 := fun_ok (G := { gxb with fs := [(17, ctr17), (21, ctr21), (25, ctr25), (27, ctr27), (30, ctr30), (32, ctr32), (33, ctr33), (34, ctr34), (35, ctr35)] }) (an := an31) (gx_ok ⟨⟨ok17, Try.call17⟩, ⟨⟨ok21, Try.call21⟩, ⟨⟨ok25, Try.call25⟩, ⟨⟨ok27, Try.call27⟩, ⟨⟨ok30, Try.call30⟩, ⟨⟨ok32, Try.call32⟩, ⟨⟨ok33, Try.call33⟩, ⟨⟨ok34, Try.call34⟩, ⟨⟨ok35, Try.call35⟩, trivial⟩⟩⟩⟩⟩⟩⟩⟩⟩) Try.func31 rfl rfl rfl rfl (fun a => by kernel_rfl)
noncomputable def P.law08_ready (h_ : Hunt) (l : (List Filing)) (strength : Int) : Option Bool := Option.bind (α := (Bool)) (Option.bind (P.ref08_Great l) fun r3 => cond ((!r3)) (Option.bind (P.ref08_Check h_ l) fun r4 => cond (decide (r4 = 0)) (cond (decide (1 ≤ strength)) (some (decide (strength ≤ 6001))) (some false)) (some false)) (some false)) ((fun x5 => some x5))
def an36 : An := .nd (.x) (.nd (.jn [.norm ⟨[(.slot 6, .d .bool)], []⟩] (.x)) (.x))
noncomputable def ctr36 : Ctr := ⟨[.d (.st 0), .d (.sl (.st 1)), .d (.int .i64)], [.d .bool], fun a => P.law08_ready a.1 a.2.1 a.2.2.1⟩
theorem ok36 : Ctr.ok Try.prog 36 ctr36 := fun_ok (G := { gxb with fs := [(13, ctr13), (20, ctr20)] }) (an := an36) (gx_ok ⟨⟨ok13, Try.call13⟩, ⟨⟨ok20, Try.call20⟩, trivial⟩⟩) Try.func36 rfl rfl rfl rfl (fun a => by kernel_rfl)
noncomputable def P.law08_member (l : (List (List Int))) (n : Int) : Option (Int × Bool) := Option.bind (loopM (S := (Int)) (R := (Unit ⊕ (Int × Bool))) (fun x8 => cond (decide (x8 < (l.length : Int))) (Option.bind (ixo l x8) fun y9 => Option.bind (loopM (S := (Int)) (R := (Unit ⊕ (Int × Bool))) (fun x10 => cond (decide (x10 < (y9.length : Int))) (Option.bind (ixo y9 x10) fun y11 => cond (decide (y11 = n)) (some (Sum.inr (Sum.inr (x8, true)))) (Option.bind (chk .i64 (x10 + 1)) fun n12 => some (Sum.inl n12))) (some (Sum.inr (Sum.inl ())))) (0 : Int)) ((Sum.elim (fun _ => Option.bind (chk .i64 (x8 + 1)) fun n13 => some (Sum.inl n13)) (fun r14 => some (Sum.inr (Sum.inr r14)))))) (some (Sum.inr (Sum.inl ())))) (0 : Int)) ((Sum.elim (fun _ => some ((0 : Int), false)) (fun r15 => some r15)))
def an37 : An := .nd (.x) (.nd (.nd (.x) (.lp ⟨[(.slot 12, .d (.int .i64))], []⟩ [.exit 0 ⟨[], []⟩, .ret] (.nd (.x) (.nd (.x) (.nd (.nd (.x) (.nd (.x) (.lp ⟨[(.slot 19, .d (.int .i64))], []⟩ [.exit 2 ⟨[], []⟩, .ret] (.x)))) (.x)))))) (.x))
noncomputable def ctr37 : Ctr := ⟨[.d (.sl (.sl (.int .i64))), .d (.int .i64)], [.d (.int .i64), .d .bool], fun a => P.law08_member a.1 a.2.1⟩
theorem ok37 : Ctr.ok Try.prog 37 ctr37 := fun_ok (G := { gxb with fs := [] }) (an := an37) (gx_ok trivial) Try.func37 rfl rfl rfl rfl (fun a => by kernel_rfl)
noncomputable def P.law08_RingProved (h_ : Hunt) (l : (List Filing)) (strength : Int) (one : Int) (two : Int) : Option Bool := Option.bind (P.law08_alive) fun r1 => Option.bind (α := (Bool)) (Option.bind (P.law08_ready h_ l strength) fun r3 => cond ((!r3)) (some true) (cond (decide ((l.length : Int) < 2)) (some true) (some (!r1)))) ((fun x4 => cond (x4) (some r1) (Option.bind (chk .i64 one) fun n5 => Option.bind (remO n5 (l.length : Int)) fun n6 => Option.bind (ixo l n6) fun y7 => Option.bind (chk .i64 two) fun n8 => Option.bind (remO n8 (l.length : Int)) fun n9 => Option.bind (ixo l n9) fun y10 => cond (decide (y7.id = y10.id)) (some r1) (Option.bind (P.ring_Rings h_ l strength) fun (r11, r12) => Option.bind (P.ring_Apart h_ l y7.id strength) fun (r13, r14, r15) => Option.bind (P.ring_Why h_ l y7.id y10.id) fun (r16, r17) => Option.bind (α := (Bool)) (cond ((!decide (r12 = 0))) (some true) (some (!decide (r15 = 0)))) ((fun x18 => cond (x18) (some false) (Option.bind (P.law08_member r11 y7.id) fun (r19, r20) => Option.bind (P.law08_member r11 y10.id) fun (r21, r22) => Option.bind (α := (Bool)) (cond (r20) (cond (r22) (some (decide (r19 = r21))) (some false)) (some false)) ((fun x23 => Option.bind (P.law08_member ([r13]) y10.id) fun (r24, r25) => Option.bind (α := (Bool)) (cond ((!(r20 == (decide (h_.size ≤ (r13.length : Int)))))) (some true) (cond (r20) (Option.bind (ixo r11 r19) fun y28 => Option.bind (P.ref08_SameInts y28 r13) fun r29 => cond ((!r29)) (some true) (cond (x23) (some (!(r25 == true))) (cond (r25) (some (!(r25 == (decide ((r13.length : Int) < h_.size))))) (some (!(r25 == false)))))) (cond (x23) (some (!(r25 == true))) (cond (r25) (some (!(r25 == (decide ((r13.length : Int) < h_.size))))) (some (!(r25 == false))))))) ((fun x30 => cond (x30) (some false) (cond ((!decide (r17 = 0))) (Option.bind (P.ring_Apart h_ l y7.id (1 : Int)) fun (r31, r32, r33) => Option.bind (P.law08_member ([r31]) y10.id) fun (r34, r35) => Option.bind (α := (Bool)) (cond (r1) (cond (decide (r17 = 6)) (cond (decide (r33 = 0)) (cond ((!r35)) (cond ((!r25)) (some (decide ((r16.length : Int) = 0))) (some false)) (some false)) (some false)) (some false)) (some false)) ((fun x36 => some x36))) (Option.bind (loopM (S := (Int × Int × Int × (FMap Int Bool))) (R := ((Int × Int) ⊕ Bool)) (fun (x54, x55, x56, x57) => cond (decide (x54 < (r16.length : Int))) (Option.bind (ixo r16 x54) fun y58 => Option.bind (P.ring_Weight h_ l y58.from_ y58.to_) fun (r59, r60) => Option.bind (α := (Bool)) (cond ((!decide (r60 = 0))) (some true) (cond ((!decide (y58.from_ = x56))) (some true) (cond ((!decide (y58.weight = r59))) (some true) (cond (decide (r59 < 1)) (some true) (some ((x57 y58.to_).getD false)))))) ((fun x61 => cond (x61) (some (Sum.inr (Sum.inr false))) (Option.bind (chk .i64 (x54 + 1)) fun n62 => some (Sum.inl (n62, (min x55 r59), y58.to_, (fput x57 y58.to_ true))))))) (some (Sum.inr (Sum.inl (x55, x56))))) ((0 : Int), (6001 : Int), y7.id, (fput (fnone : (FMap Int Bool)) y7.id true))) ((Sum.elim (fun (x63, x64) => Option.bind (α := (Bool)) (cond ((!decide (x64 = y10.id))) (some true) (cond (decide ((r16.length : Int) = 0)) (some true) (some (!(r25 == (decide (strength ≤ x63))))))) ((fun x65 => cond (x65) (some false) (Option.bind (P.ring_Apart h_ l y7.id x63) fun (r66, r67, r68) => Option.bind (chk .i64 (x63 + 1)) fun n69 => Option.bind (P.ring_Apart h_ l y7.id n69) fun (r70, r71, r72) => Option.bind (P.law08_member ([r66]) y10.id) fun (r73, r74) => Option.bind (P.law08_member ([r70]) y10.id) fun (r75, r76) => Option.bind (α := (Bool)) (cond (r1) (cond (decide (r68 = 0)) (cond (r74) (cond (decide (6001 ≤ x63)) (some true) (cond (decide (r72 = 0)) (some (!r76)) (some false))) (some false)) (some false)) (some false)) ((fun x77 => some x77)))))) (fun r78 => some r78))))))))))))))))
def an6 : An := .nd (.x) (.nd (.x) (.nd (.nd (.jn [.norm ⟨[(.slot 64, .d .bool)], [5]⟩] (.x)) (.x)) (.nd (.x) (.nd (.x) (.nd (.x) (.nd (.x) (.nd (.x) (.nd (.nd (.jn [.norm ⟨[(.slot 117, .d .bool)], [109, 100, 92, 5]⟩] (.x)) (.x)) (.nd (.x) (.nd (.x) (.nd (.jn [.norm ⟨[(.slot 25, .d .bool)], [109, 100, 92, 5]⟩] (.x)) (.nd (.x) (.nd (.nd (.jn [.norm ⟨[(.slot 179, .d .bool)], [109, 5]⟩] (.x)) (.x)) (.nd (.nd (.x) (.nd (.nd (.x) (.nd (.x) (.nd (.jn [.norm ⟨[(.slot 10, .d .bool)], []⟩] (.x)) (.x)))) (.x))) (.nd (.x) (.nd (.x) (.nd (.x) (.nd (.nd (.x) (.lp ⟨[(.slot 225, .d (.int .i64)), (.slot 33, .d (.int .i64)), (.slot 34, .d (.int .i64)), (.cont 220, .own (.mp 3 (.int .i64) .bool))], [220, 109, 5]⟩ [.exit 0 ⟨[(.slot 33, .d (.int .i64)), (.slot 34, .d (.int .i64))], [109, 5]⟩, .ret] (.nd (.x) (.nd (.x) (.nd (.nd (.x) (.nd (.x) (.nd (.nd (.jn [.norm ⟨[(.slot 262, .d .bool)], [37, 220, 109, 5]⟩] (.x)) (.x)) (.x)))) (.x)))))) (.nd (.nd (.jn [.norm ⟨[(.slot 285, .d .bool)], [5]⟩] (.x)) (.x)) (.nd (.x) (.nd (.x) (.nd (.x) (.nd (.x) (.nd (.jn [.norm ⟨[(.slot 10, .d .bool)], []⟩] (.x)) (.x)))))))))))))))))))))))))
noncomputable def ctr6 : Ctr := ⟨[.d (.st 0), .d (.sl (.st 1)), .d (.int .i64), .d (.int .u8), .d (.int .u8)], [.d .bool], fun a => P.law08_RingProved a.1 a.2.1 a.2.2.1 a.2.2.2.1 a.2.2.2.2.1⟩
theorem ok6 : Ctr.ok Try.prog 6 ctr6 := fun_ok (G := { gxb with fs := [(15, ctr15), (17, ctr17), (23, ctr23), (25, ctr25), (30, ctr30), (31, ctr31), (36, ctr36), (37, ctr37)] }) (an := an6) (gx_ok ⟨⟨ok15, Try.call15⟩, ⟨⟨ok17, Try.call17⟩, ⟨⟨ok23, Try.call23⟩, ⟨⟨ok25, Try.call25⟩, ⟨⟨ok30, Try.call30⟩, ⟨⟨ok31, Try.call31⟩, ⟨⟨ok36, Try.call36⟩, ⟨⟨ok37, Try.call37⟩, trivial⟩⟩⟩⟩⟩⟩⟩⟩) Try.func6 rfl rfl rfl rfl (fun a => by kernel_rfl)
noncomputable def P.law08_RingShort (h_ : Hunt) (l : (List Filing)) (one : Int) (two : Int) (by_ : (List Int)) : Option Bool := Option.bind (P.law08_alive) fun r1 => Option.bind (α := (Bool)) (Option.bind (P.law08_ready h_ l (1 : Int)) fun r3 => cond ((!r3)) (some true) (cond (decide ((l.length : Int) < 2)) (some true) (some (!r1)))) ((fun x4 => cond (x4) (some r1) (Option.bind (chk .i64 one) fun n5 => Option.bind (remO n5 (l.length : Int)) fun n6 => Option.bind (ixo l n6) fun y7 => Option.bind (chk .i64 two) fun n8 => Option.bind (remO n8 (l.length : Int)) fun n9 => Option.bind (ixo l n9) fun y10 => Option.bind (P.ring_Why h_ l y7.id y10.id) fun (r11, r12) => cond ((!decide (r12 = 0))) (Option.bind (α := (Bool)) (cond (r1) (cond (decide (r12 = 2)) (cond (decide (y7.id = y10.id)) (some true) (some (decide (r12 = 6)))) (some (decide (r12 = 6)))) (some false)) ((fun x13 => some x13))) (Option.bind (loopM (S := (Int × (List Int) × Int)) (R := (Int × (List Int))) (fun (x20, x21, x22) => cond (decide (x22 < (r11.length : Int))) (Option.bind (ixo r11 x22) fun y23 => Option.bind (appo 8 x21 ([y23.to_])) fun l24 => Option.bind (chk .i64 (x22 + 1)) fun n25 => some (Sum.inl ((min x20 y23.weight), l24, n25))) (some (Sum.inr (x20, x21)))) ((6001 : Int), ([] : (List Int)), (0 : Int))) ((fun (x26, x27) => Option.bind (loopM (S := (Int × (List Int))) (R := ((List Int))) (fun (x38, x39) => cond (decide (x38 < (by_.length : Int))) (Option.bind (ixo by_ x38) fun y40 => cond (decide (24 ≤ (x39.length : Int))) (some (Sum.inr x39)) (Option.bind (chk .i64 y40) fun n41 => Option.bind (remO n41 (l.length : Int)) fun n42 => Option.bind (ixo l n42) fun y43 => Option.bind (α := (Bool)) (cond ((!decide (y43.id = y7.id))) (some (!decide (y43.id = y10.id))) (some false)) ((fun x44 => Option.bind (α := ((List Int))) (cond (x44) (Option.bind (appo 8 x39 ([y43.id])) fun l45 => some l45) (some x39)) ((fun x46 => Option.bind (chk .i64 (x38 + 1)) fun n47 => some (Sum.inl (n47, x46)))))))) (some (Sum.inr x39))) ((0 : Int), ([] : (List Int)))) ((fun x48 => Option.bind (appo 8 x48 ([y10.id])) fun l49 => Option.bind (loopM (S := (Int × Int × Int)) (R := ((Int) ⊕ Bool)) (fun (x58, x59, x60) => cond (decide (x58 < (l49.length : Int))) (Option.bind (ixo l49 x58) fun y61 => Option.bind (P.ring_Weight h_ l x60 y61) fun (r62, r63) => cond ((!decide (r63 = 0))) (Option.bind (α := (Bool)) (cond (r1) (cond (decide (r63 = 2)) (some (decide (x60 = y61))) (some false)) (some false)) ((fun x64 => some (Sum.inr (Sum.inr x64))))) (Option.bind (chk .i64 (x58 + 1)) fun n65 => some (Sum.inl (n65, (min x59 r62), y61)))) (some (Sum.inr (Sum.inl x59)))) ((0 : Int), (6001 : Int), y7.id)) ((Sum.elim (fun x66 => cond (decide (x26 < x66)) (some false) (Option.bind (α := (Bool)) (cond (decide (x66 < x26)) (some true) (some (decide ((x27.length : Int) < (l49.length : Int))))) ((fun x67 => cond (x67) (some r1) (cond (decide ((l49.length : Int) < (x27.length : Int))) (some false) (Option.bind (loopM (S := (Int)) (R := (Unit ⊕ Bool)) (fun x75 => cond (decide (x75 < (x27.length : Int))) (Option.bind (ixo x27 x75) fun y76 => Option.bind (ixo l49 x75) fun y77 => cond ((!decide (y76 = y77))) (Option.bind (α := (Bool)) (cond (r1) (Option.bind (ixo x27 x75) fun y78 => Option.bind (ixo l49 x75) fun y79 => some (decide (y78 < y79))) (some false)) ((fun x80 => some (Sum.inr (Sum.inr x80))))) (Option.bind (chk .i64 (x75 + 1)) fun n81 => some (Sum.inl n81))) (some (Sum.inr (Sum.inl ())))) (0 : Int)) ((Sum.elim (fun _ => some r1) (fun r82 => some r82))))))))) (fun r83 => some r83)))))))))))
def an7 : An := .nd (.x) (.nd (.x) (.nd (.nd (.jn [.norm ⟨[(.slot 44, .d .bool)], [5]⟩] (.x)) (.x)) (.nd (.x) (.nd (.x) (.nd (.nd (.x) (.nd (.nd (.jn [.norm ⟨[(.slot 10, .d .bool)], []⟩] (.x)) (.x)) (.x))) (.nd (.x) (.nd (.x) (.nd (.nd (.x) (.lp ⟨[(.slot 16, .d (.int .i64)), (.slot 17, .own (.sl 3 (.int .i64))), (.slot 90, .d (.int .i64))], [69, 5]⟩ [.exit 0 ⟨[(.slot 16, .d (.int .i64)), (.slot 17, .own (.sl 3 (.int .i64)))], [5]⟩] (.x))) (.nd (.x) (.nd (.nd (.x) (.lp ⟨[(.slot 106, .d (.int .i64)), (.slot 20, .own (.sl 3 (.int .i64)))], [17, 5]⟩ [.exit 2 ⟨[(.slot 20, .own (.sl 3 (.int .i64)))], [17, 5]⟩] (.nd (.x) (.nd (.x) (.nd (.nd (.x) (.nd (.x) (.nd (.x) (.nd (.jn [.norm ⟨[(.slot 129, .d .bool)], [20, 17, 5]⟩] (.x)) (.jn [.norm ⟨[(.slot 20, .own (.sl 3 (.int .i64)))], [17, 5]⟩] (.x)))))) (.x)))))) (.nd (.x) (.nd (.x) (.nd (.nd (.x) (.lp ⟨[(.slot 142, .d (.int .i64)), (.slot 24, .d (.int .i64)), (.slot 25, .d (.int .i64))], [20, 17, 5]⟩ [.exit 4 ⟨[(.slot 24, .d (.int .i64))], [20, 17]⟩, .ret] (.nd (.x) (.nd (.x) (.nd (.nd (.x) (.nd (.x) (.nd (.nd (.x) (.nd (.nd (.jn [.norm ⟨[(.slot 10, .d .bool)], []⟩] (.x)) (.x)) (.x))) (.x)))) (.x)))))) (.nd (.x) (.nd (.nd (.jn [.norm ⟨[(.slot 183, .d .bool)], [20, 17]⟩] (.x)) (.x)) (.nd (.x) (.nd (.nd (.x) (.lp ⟨[(.slot 192, .d (.int .i64))], [20, 17]⟩ [.exit 6 ⟨[], []⟩, .ret] (.nd (.x) (.nd (.x) (.nd (.nd (.x) (.nd (.x) (.nd (.nd (.jn [.norm ⟨[(.slot 10, .d .bool)], []⟩] (.x)) (.x)) (.x)))) (.x)))))) (.x))))))))))))))))))
noncomputable def ctr7 : Ctr := ⟨[.d (.st 0), .d (.sl (.st 1)), .d (.int .u8), .d (.int .u8), .d (.sl (.int .u8))], [.d .bool], fun a => P.law08_RingShort a.1 a.2.1 a.2.2.1 a.2.2.2.1 a.2.2.2.2.1⟩
theorem ok7 : Ctr.ok Try.prog 7 ctr7 := fun_ok (G := { gxb with fs := [(15, ctr15), (17, ctr17), (31, ctr31), (36, ctr36)] }) (an := an7) (gx_ok ⟨⟨ok15, Try.call15⟩, ⟨⟨ok17, Try.call17⟩, ⟨⟨ok31, Try.call31⟩, ⟨⟨ok36, Try.call36⟩, trivial⟩⟩⟩⟩) Try.func7 rfl rfl rfl rfl (fun a => by kernel_rfl)
noncomputable def P.law08_RingTuned_in1 (s : Int) (a1_ : Hunt) (a2_ : (List Filing)) (a3_ : (List Int)) : Option (Int × Int) := Option.bind (P.ring_Rings a1_ a2_ s) fun (r1, r2) => cond ((!decide (r2 = 0))) (some (((-1) : Int), ((-1) : Int))) (Option.bind (loopM (S := (Int × Int × Int)) (R := (Int × Int)) (fun (x20, x21, x22) => cond (decide (x21 < (r1.length : Int))) (Option.bind (ixo r1 x21) fun y23 => Option.bind (loopM (S := (Int × Int × Int)) (R := (Int × Int)) (fun (x24, x25, x26) => cond (decide (x25 < (y23.length : Int))) (Option.bind (ixo y23 x25) fun y27 => Option.bind (chk .i64 (x26 + 1)) fun n28 => Option.bind (P.law08_member ([a3_]) y27) fun (r29, r30) => Option.bind (α := (Int)) (cond (r30) (Option.bind (chk .i64 (x24 + 1)) fun n31 => some n31) (some x24)) ((fun x32 => Option.bind (chk .i64 (x25 + 1)) fun n33 => some (Sum.inl (x32, n33, n28))))) (some (Sum.inr (x26, x24)))) (x20, (0 : Int), x22)) ((fun (x34, x35) => Option.bind (chk .i64 (x21 + 1)) fun n36 => some (Sum.inl (x35, n36, x34))))) (some (Sum.inr (x22, x20)))) ((0 : Int), (0 : Int), (0 : Int))) ((fun (x37, x38) => some (x37, x38))))
def an39 : An := .nd (.x) (.nd (.x) (.nd (.x) (.nd (.x) (.nd (.nd (.x) (.lp ⟨[(.slot 10, .d (.int .i64)), (.slot 28, .d (.int .i64)), (.slot 9, .d (.int .i64))], [21]⟩ [.exit 0 ⟨[(.slot 9, .d (.int .i64)), (.slot 10, .d (.int .i64))], []⟩] (.nd (.x) (.nd (.x) (.nd (.nd (.x) (.nd (.x) (.lp ⟨[(.slot 10, .d (.int .i64)), (.slot 34, .d (.int .i64)), (.slot 9, .d (.int .i64))], [21]⟩ [.exit 2 ⟨[(.slot 9, .d (.int .i64)), (.slot 10, .d (.int .i64))], [21]⟩] (.nd (.x) (.nd (.x) (.nd (.nd (.x) (.nd (.x) (.nd (.x) (.nd (.x) (.jn [.norm ⟨[(.slot 10, .d (.int .i64))], [21]⟩] (.x)))))) (.x))))))) (.x)))))) (.x)))))
noncomputable def ctr39 : Ctr := ⟨[.d (.int .i64), .pt (.st 0), .pt (.sl (.st 1)), .pt (.sl (.int .i64))], [.d (.int .i64), .d (.int .i64)], fun a => P.law08_RingTuned_in1 a.1 a.2.1 a.2.2.1 a.2.2.2.1⟩
theorem ok39 : Ctr.ok Try.prog 39 ctr39 := fun_ok (G := { gxb with fs := [(23, ctr23), (37, ctr37)] }) (an := an39) (gx_ok ⟨⟨ok23, Try.call23⟩, ⟨⟨ok37, Try.call37⟩, trivial⟩⟩) Try.func39 rfl rfl rfl rfl (fun a => by kernel_rfl)
noncomputable def P.law08_RingTuned (h_ : Hunt) (l : (List Filing)) (set : Int) (most : Int) (other : Int) : Option Bool := Option.bind (P.law08_alive) fun r1 => Option.bind (α := (Bool)) (Option.bind (P.law08_ready h_ l (1 : Int)) fun r3 => cond ((!r3)) (some true) (cond (decide (24 < most)) (some true) (some (!r1)))) ((fun x4 => cond (x4) (some r1) (Option.bind (loopM (S := (Int × (List Int))) (R := ((List Int))) (fun (x18, x19) => cond (decide (x18 < (l.length : Int))) (Option.bind (ixo l x18) fun y20 => Option.bind (shrO set x18 (IntKind.bits .u32)) fun n21 => Option.bind (α := ((List Int))) (cond (decide ((andI .u32 n21 1) = 1)) (Option.bind (appo 8 x19 ([y20.id])) fun l22 => some l22) (some x19)) ((fun x23 => Option.bind (chk .i64 (x18 + 1)) fun n24 => some (Sum.inl (n24, x23))))) (some (Sum.inr x19))) ((0 : Int), ([] : (List Int)))) ((fun x25 => Option.bind (chk .i64 most) fun n26 => Option.bind (P.ring_Tune h_ l x25 n26) fun (r27, r28, r29, r30) => Option.bind (α := (Bool)) (cond ((!decide (r30 = 0))) (some true) (cond (decide (r27 < 1)) (some true) (some (decide (6001 < r27))))) ((fun x31 => cond (x31) (some false) (Option.bind (P.law08_RingTuned_in1 r27 h_ l x25) fun (r32, r33) => Option.bind (α := (Bool)) (cond ((!decide (r32 = r28))) (some true) (cond ((!decide (r33 = r29))) (some true) (Option.bind (chk .i64 most) fun n35 => cond (decide (n35 < r29)) (some true) (some (decide (r29 < 0)))))) ((fun x36 => cond (x36) (some false) (Option.bind (α := (Unit ⊕ Bool)) (cond (decide (1 < r27)) (Option.bind (chk .i64 other) fun n51 => Option.bind (chk .i64 (r27 - 1)) fun n52 => Option.bind (remO n51 n52) fun n53 => Option.bind (chk .i64 (1 + n53)) fun n54 => Option.bind (P.law08_RingTuned_in1 n54 h_ l x25) fun (r55, r56) => Option.bind (chk .i64 (r27 - 1)) fun n57 => Option.bind (P.law08_RingTuned_in1 n57 h_ l x25) fun (r58, r59) => Option.bind (α := (Bool)) (Option.bind (chk .i64 most) fun n60 => cond (decide (r56 ≤ n60)) (some true) (Option.bind (chk .i64 most) fun n61 => some (decide (r59 ≤ n61)))) ((fun x62 => cond (x62) (some (Sum.inr false)) (some (Sum.inl ()))))) (some (Sum.inl ()))) ((Sum.elim (fun _ => some r1) (fun r63 => some r63))))))))))))))
def an10 : An := .nd (.x) (.nd (.x) (.nd (.nd (.jn [.norm ⟨[(.slot 39, .d .bool)], [6, 5]⟩] (.x)) (.x)) (.nd (.x) (.nd (.nd (.x) (.lp ⟨[(.slot 43, .d (.int .i64)), (.cell 12 0, .own (.sl 3 (.int .i64)))], [12, 6, 5]⟩ [.exit 0 ⟨[(.cell 12 0, .own (.sl 3 (.int .i64)))], [12, 6, 5]⟩] (.nd (.x) (.nd (.x) (.nd (.nd (.x) (.nd (.x) (.jn [.norm ⟨[(.cell 12 0, .own (.sl 3 (.int .i64)))], [12, 6, 5]⟩] (.x)))) (.x)))))) (.nd (.x) (.nd (.nd (.jn [.norm ⟨[(.slot 79, .d .bool)], [11200, 12, 6, 5]⟩] (.x)) (.x)) (.nd (.x) (.nd (.x) (.nd (.nd (.jn [.norm ⟨[(.slot 104, .d .bool)], [11200, 12, 6, 5]⟩] (.x)) (.x)) (.nd (.nd (.x) (.jn [.norm ⟨[], []⟩, .ret] (.nd (.nd (.x) (.nd (.x) (.nd (.x) (.nd (.jn [.norm ⟨[(.slot 135, .d .bool)], []⟩] (.x)) (.x))))) (.x)))) (.x)))))))))))
noncomputable def ctr10 : Ctr := ⟨[.d (.st 0), .d (.sl (.st 1)), .d (.int .u32), .d (.int .u8), .d (.int .u16)], [.d .bool], fun a => P.law08_RingTuned a.1 a.2.1 a.2.2.1 a.2.2.2.1 a.2.2.2.2.1⟩
theorem ok10 : Ctr.ok Try.prog 10 ctr10 := fun_ok (G := { gxb with fs := [(27, ctr27), (31, ctr31), (36, ctr36), (39, ctr39)] }) (an := an10) (gx_ok ⟨⟨ok27, Try.call27⟩, ⟨⟨ok31, Try.call31⟩, ⟨⟨ok36, Try.call36⟩, ⟨⟨ok39, Try.call39⟩, trivial⟩⟩⟩⟩) Try.func10 rfl rfl rfl rfl (fun a => by kernel_rfl)
noncomputable def P.law08_RingWider (h_ : Hunt) (l : (List Filing)) (strength : Int) (one : Int) (two : Int) (more : Int) (size : Int) : Option Bool := Option.bind (P.law08_alive) fun r1 => Option.bind (α := (Bool)) (Option.bind (P.law08_ready h_ l strength) fun r3 => cond ((!r3)) (some true) (cond (decide ((l.length : Int) = 0)) (some true) (some (!r1)))) ((fun x4 => cond (x4) (some r1) (Option.bind (chk .i64 one) fun n5 => Option.bind (remO n5 (l.length : Int)) fun n6 => Option.bind (ixo l n6) fun y7 => Option.bind (chk .i64 two) fun n8 => Option.bind (remO n8 (l.length : Int)) fun n9 => Option.bind (ixo l n9) fun y10 => Option.bind (chk .i64 more) fun n11 => Option.bind (chk .i64 (h_.window + n11)) fun n12 => Option.bind (remO size 5) fun n13 => Option.bind (chk .i64 n13) fun n14 => Option.bind (chk .i64 (h_.size + n14)) fun n15 => Option.bind (P.ring_Weight h_ l y7.id y10.id) fun (r16, r17) => Option.bind (P.ring_Weight (Hunt.mk (min n12 100000) h_.common h_.size) l y7.id y10.id) fun (r18, r19) => Option.bind (P.ring_Weight h_ l y10.id y7.id) fun (r20, r21) => Option.bind (α := (Bool)) (cond ((!decide (r17 = r19))) (some true) (cond ((!decide (r17 = r21))) (some true) (cond (decide (r18 < r16)) (some true) (cond ((!decide (r20 = r16))) (some true) (cond (decide (r16 < 0)) (some true) (some (decide (6000 < r16)))))))) ((fun x22 => cond (x22) (some false) (Option.bind (P.ring_Rings h_ l strength) fun (r23, r24) => Option.bind (P.ring_Rings (Hunt.mk (min n12 100000) h_.common h_.size) l strength) fun (r25, r26) => Option.bind (P.ring_Rings (Hunt.mk h_.window h_.common (min n15 24)) l strength) fun (r27, r28) => Option.bind (α := (Bool)) (cond ((!decide (r24 = 0))) (some true) (cond ((!decide (r26 = 0))) (some true) (cond ((!decide (r28 = 0))) (some true) (some (decide ((r23.length : Int) < (r27.length : Int))))))) ((fun x29 => cond (x29) (some false) (Option.bind (loopM (S := (Int)) (R := (Unit ⊕ Bool)) (fun x43 => cond (decide (x43 < (r23.length : Int))) (Option.bind (ixo r23 x43) fun y44 => Option.bind (loopM (S := (Int)) (R := (Unit ⊕ Bool)) (fun x45 => cond (decide (x45 < (y44.length : Int))) (Option.bind (ixo y44 x45) fun y46 => Option.bind (P.law08_member r25 y46) fun (r47, r48) => Option.bind (ixo y44 0) fun y49 => Option.bind (P.law08_member r25 y49) fun (r50, r51) => Option.bind (α := (Bool)) (cond ((!r48)) (some true) (cond ((!r51)) (some true) (some (!decide (r47 = r50))))) ((fun x52 => cond (x52) (some (Sum.inr (Sum.inr false))) (Option.bind (chk .i64 (x45 + 1)) fun n53 => some (Sum.inl n53))))) (some (Sum.inr (Sum.inl ())))) (0 : Int)) ((Sum.elim (fun _ => Option.bind (chk .i64 (x43 + 1)) fun n54 => some (Sum.inl n54)) (fun r55 => some (Sum.inr (Sum.inr r55)))))) (some (Sum.inr (Sum.inl ())))) (0 : Int)) ((Sum.elim (fun _ => Option.bind (loopM (S := (Int)) (R := (Unit ⊕ Bool)) (fun x65 => cond (decide (x65 < (r27.length : Int))) (Option.bind (ixo r27 x65) fun y66 => cond (decide ((y66.length : Int) < (min n15 24))) (some (Sum.inr (Sum.inr false))) (Option.bind (ixo y66 0) fun y67 => Option.bind (P.law08_member r23 y67) fun (r68, r69) => Option.bind (α := (Bool)) (cond ((!r69)) (some true) (Option.bind (ixo r23 r68) fun y70 => Option.bind (P.ref08_SameInts y70 y66) fun r71 => some (!r71))) ((fun x72 => cond (x72) (some (Sum.inr (Sum.inr false))) (Option.bind (chk .i64 (x65 + 1)) fun n73 => some (Sum.inl n73)))))) (some (Sum.inr (Sum.inl ())))) (0 : Int)) ((Sum.elim (fun _ => some r1) (fun r74 => some r74)))) (fun r75 => some r75))))))))))))
def an12 : An := .nd (.x) (.nd (.x) (.nd (.nd (.jn [.norm ⟨[(.slot 58, .d .bool)], [7]⟩] (.x)) (.x)) (.nd (.x) (.nd (.x) (.nd (.x) (.nd (.x) (.nd (.x) (.nd (.x) (.nd (.x) (.nd (.nd (.jn [.norm ⟨[(.slot 144, .d .bool)], [19, 18, 7]⟩] (.x)) (.x)) (.nd (.x) (.nd (.x) (.nd (.x) (.nd (.nd (.jn [.norm ⟨[(.slot 182, .d .bool)], [163, 156, 149, 19]⟩] (.x)) (.x)) (.nd (.nd (.x) (.lp ⟨[(.slot 185, .d (.int .i64))], [163, 156, 149, 19]⟩ [.exit 0 ⟨[], [163, 149, 19]⟩, .ret] (.nd (.x) (.nd (.x) (.nd (.nd (.x) (.nd (.x) (.lp ⟨[(.slot 191, .d (.int .i64))], [163, 156, 149, 19]⟩ [.exit 2 ⟨[], [163, 156, 149, 19]⟩, .ret] (.nd (.x) (.nd (.x) (.nd (.nd (.x) (.nd (.x) (.nd (.x) (.nd (.jn [.norm ⟨[(.slot 219, .d .bool)], [163, 156, 149, 19]⟩] (.x)) (.x))))) (.x))))))) (.x)))))) (.nd (.nd (.x) (.lp ⟨[(.slot 224, .d (.int .i64))], [163, 149, 19]⟩ [.exit 4 ⟨[], []⟩, .ret] (.nd (.x) (.nd (.x) (.nd (.nd (.x) (.nd (.x) (.nd (.x) (.nd (.jn [.norm ⟨[(.slot 251, .d .bool)], [163, 149, 19]⟩] (.x)) (.x))))) (.x)))))) (.x)))))))))))))))))
noncomputable def ctr12 : Ctr := ⟨[.d (.st 0), .d (.sl (.st 1)), .d (.int .i64), .d (.int .u8), .d (.int .u8), .d (.int .u16), .d (.int .u8)], [.d .bool], fun a => P.law08_RingWider a.1 a.2.1 a.2.2.1 a.2.2.2.1 a.2.2.2.2.1 a.2.2.2.2.2.1 a.2.2.2.2.2.2.1⟩
theorem ok12 : Ctr.ok Try.prog 12 ctr12 := fun_ok (G := { gxb with fs := [(15, ctr15), (23, ctr23), (30, ctr30), (31, ctr31), (36, ctr36), (37, ctr37)] }) (an := an12) (gx_ok ⟨⟨ok15, Try.call15⟩, ⟨⟨ok23, Try.call23⟩, ⟨⟨ok30, Try.call30⟩, ⟨⟨ok31, Try.call31⟩, ⟨⟨ok36, Try.call36⟩, ⟨⟨ok37, Try.call37⟩, trivial⟩⟩⟩⟩⟩⟩) Try.func12 rfl rfl rfl rfl (fun a => by kernel_rfl)
end Go.Proofs.Ytdbogmmdogjhpaa
set_option maxRecDepth 20000
set_option maxHeartbeats 1000000
set_option linter.unusedVariables false
set_option linter.unusedSimpArgs false
namespace Go.Sx
/-- A loop that counts up to N. -/
theorem Ret.upto {S R : Type} {body : S → Option (S ⊕ R)} {s0 : S} {Q : R → Prop} (N : Nat) (I : Nat → S → Prop) (h0 : I 0 s0) (step : ∀ n < N, ∀ s, I n s → Ret (body s) (Nxt (I (n + 1)) Q)) (fin : ∀ s, I N s → Ret (body s) (Nxt (fun _ => False) Q)) : Ret (loopM body s0) Q := by
  have key : ∀ (m n : Nat) (s : S), n + m = N → I n s → Ret (loopM body s) Q := by
    intro m
    induction m with
    | zero =>
      intro n s hn hs
      have : n = N := by omega
      subst this
      obtain ⟨r, h1, h2⟩ := fin s hs
      cases r with
      | inl s' => exact h2.elim
      | inr r => exact ⟨r, loopM_end h1, h2⟩
    | succ m ih =>
      intro n s hn hs
      obtain ⟨r, h1, h2⟩ := step n (by omega) s hs
      cases r with
      | inl s' => rw [loopM_go h1]; exact ih (n + 1) s' (by omega) h2
      | inr r => exact ⟨r, loopM_end h1, h2⟩
  exact key N 0 s0 (by omega) h0
theorem Ret.bindM {α β : Type} {o : Option α} {K : α → Option β} {Q' : α → Prop} {Q : β → Prop} (h : Ret o Q') (hk : ∀ a, Q' a → Ret (K a) Q) : Ret (Option.bind o K) Q := Ret.bind (h.mono hk)
theorem Ret.quoO {x y : Int} {Q : Int → Prop} (h0 : 0 ≤ x) (h1 : 0 < y) (h2 : x ≤ 9223372036854775807) (q : Q (x / y)) : Ret (quoO .i64 x y) Q := ⟨_, by unfold Sx.quoO; rw [if_pos ⟨h0, h1, InK.i64.2 (by omega)⟩], q⟩
end Go.Sx
namespace Go.Proofs.Ytdbogmmdogjhpaa
open Go Go.Sx
theorem drop_cons {α : Type} {l : List α} {n : Nat} (h : n < l.length) : l.drop n = l[n] :: l.drop (n + 1) := List.drop_eq_getElem_cons h
theorem take_succ {α : Type} {l : List α} {n : Nat} (h : n < l.length) : l.take (n + 1) = l.take n ++ [l[n]] := by
  rw [List.take_add_one, List.getElem?_eq_getElem h]; rfl
theorem ixR {α : Type} {l : List α} {n : Nat} {Q : α → Prop} (h : n < l.length) (q : Q l[n]) : Ret (ixo l (n : Int)) Q := Ret.ixo (List.getElem?_eq_getElem h) q
theorem ixP {α : Type} {l : List α} {n : Nat} {Q : α → Prop} (h : n < l.length) (h0 : 0 < n) (q : Q l[n - 1]) : Ret (ixo l ((n : Int) - 1)) Q := by
  have : ((n : Int) - 1) = ((n - 1 : Nat) : Int) := by omega
  rw [this]; exact ixR (by omega) q
namespace S
def inB (lo hi x : Int) : Bool := decide (lo ≤ x ∧ x ≤ hi)
/-- Numbers from 0 to MaxId, each above the one before. -/
def rB : Int → List Int → Bool
  | _, [] => true
  | last, x :: xs => inB (last + 1) 999999 x && rB x xs
def gB (f : Filing) : Bool := inB 0 100000 f.day && decide (f.parts.length ≤ 6) && rB (-1) f.parts
def fB : Int → List Filing → Bool
  | _, [] => true
  | last, f :: fs => inB (last + 1) 999999 f.id && gB f && fB f.id fs
def hB (h : Hunt) : Bool := inB 0 100000 h.window && inB 2 24 h.common && inB 2 24 h.size
def check (h : Hunt) (l : List Filing) : Int := if hB h then (if decide (l.length ≤ 24) && fB (-1) l then 0 else 81) else 80
def idx (xs : List Int) (v : Int) : Int := if v ∈ xs then (xs.idxOf v : Nat) else -1
def great (l : List Filing) : Bool := decide (30 < l.length) || l.any fun f => decide (20 < f.parts.length)
end S
open S
/-! Loops over lists: what is found. -/
theorem r_Great (l : List Filing) : Ret (P.ref08_Great l) (· = great l) := by
  unfold P.ref08_Great
  refine Ret.cond (fun h => Ret.ok ?_) (fun h => ?_)
  · have := of_decide_eq_true h
    simp [great]; left; omega
  have h30 : ¬ 30 < l.length := by have := of_decide_eq_false h; omega
  refine Ret.bindM (Q' := fun r => r = if l.any (fun f => decide (20 < f.parts.length)) then Sum.inr true else Sum.inl ()) (Ret.upto l.length (fun n (s : Int) => s = n ∧ (l.take n).any (fun f => decide (20 < f.parts.length)) = false) ⟨rfl, by simp⟩ ?_ ?_) ?_
  · rintro n hn s ⟨rfl, hI⟩
    refine Ret.condT (lt_cast hn) (Ret.bind (ixR hn ?_))
    refine Ret.cond (fun h => Ret.done ?_) (fun h => Ret.bind (Ret.chk (by omega) (Ret.next ⟨rfl, ?_⟩)))
    · have := of_decide_eq_true h
      rw [if_pos]
      exact List.any_eq_true.2 ⟨l[n], List.getElem_mem hn, decide_eq_true (by omega)⟩
    · rw [take_succ hn, List.any_append, hI]
      have := of_decide_eq_false h
      simp; omega
  · rintro s ⟨rfl, hI⟩
    rw [List.take_length] at hI
    exact Ret.condF not_lt_cast (Ret.done (by rw [hI]; rfl))
  · rintro r rfl
    simp only [great, h30, decide_false, Bool.false_or]
    cases l.any (fun f => decide (20 < f.parts.length)) with
    | true => exact Ret.ok rfl
    | false => exact Ret.ok rfl
theorem great_out {l : List Filing} (h : great l = false) : l.length ≤ 30 ∧ ∀ f ∈ l, f.parts.length ≤ 20 := by
  simp only [great, Bool.or_eq_false_iff, decide_eq_false_iff_not, List.any_eq_false, decide_eq_true_eq] at h
  exact ⟨by omega, fun f hf => by have := h.2 f hf; omega⟩
theorem r_Twin {l : List Filing} (hl : l.length ≤ 30) (hp : ∀ f ∈ l, f.parts.length ≤ 20) : Ret (P.ref08_Twin l) (· = l) := by
  unfold P.ref08_Twin
  refine Ret.bind (Ret.appo (by simp; omega) (by simp; omega) ?_)
  rw [List.nil_append]
  refine Ret.bindM (Q' := (· = l)) (Ret.upto l.length (fun n (s : Int × List Filing) => s = ((n : Int), l)) rfl ?_ ?_) fun r hr => Ret.ok hr
  · rintro n hn s rfl
    dsimp only
    have hpn := hp l[n] (List.getElem_mem hn)
    refine Ret.condT (lt_cast hn) (Ret.bind (ixR hn (Ret.bind (Ret.appo (by simp; omega) (by simp; omega) (Ret.bind (ixR hn (Ret.bind (Ret.seto hn (Ret.bind (Ret.chk (by omega) (Ret.next ?_)))))))))))
    rw [List.nil_append]
    show _ = (((n + 1 : Nat) : Int), l)
    congr 1
    exact List.set_getElem_self hn
  · rintro s rfl
    exact Ret.condF not_lt_cast (Ret.done rfl)
theorem r_IndexFunc {s : List Int} {f : Int → Option Bool} (g : Int → Bool) (hf : ∀ x ∈ s, Ret (f x) (· = g x)) (hs : s.length < 9223372036854775807) : Ret (P.slices_IndexFunc_73 s f) fun r => decide (0 ≤ r) = s.any g := by
  unfold P.slices_IndexFunc_73
  refine Ret.bindM (Q' := fun r => (∃ n : Nat, r = Sum.inr (n : Int) ∧ s.any g = true) ∨ (r = Sum.inl () ∧ s.any g = false)) (Ret.upto s.length (fun n (i : Int) => i = n ∧ (s.take n).any g = false) ⟨rfl, by simp⟩ ?_ ?_) ?_
  · rintro n hn i ⟨rfl, hI⟩
    refine Ret.condT (lt_cast hn) (Ret.bind (ixR hn (Ret.bindM (hf _ (List.getElem_mem hn)) ?_)))
    rintro _ rfl
    refine Ret.cond (fun h => Ret.done (.inl ⟨n, rfl, List.any_eq_true.2 ⟨_, List.getElem_mem hn, h⟩⟩)) (fun h => Ret.bind (Ret.chk (by omega) (Ret.next ⟨rfl, ?_⟩)))
    rw [take_succ hn, List.any_append, hI]
    simpa using h
  · rintro i ⟨rfl, hI⟩
    rw [List.take_length] at hI
    exact Ret.condF not_lt_cast (Ret.done (.inr ⟨rfl, hI⟩))
  · rintro r (⟨n, rfl, h⟩ | ⟨rfl, h⟩)
    · exact Ret.elimR (Ret.ok (by rw [h]; exact decide_eq_true (by omega)))
    · exact Ret.elimL (Ret.ok (by rw [h]; rfl))
theorem r_ContainsFunc {s : List Int} {f : Int → Option Bool} (g : Int → Bool) (hf : ∀ x ∈ s, Ret (f x) (· = g x)) (hs : s.length < 9223372036854775807) : Ret (P.slices_ContainsFunc_59 s f) (· = s.any g) :=
  Ret.bindM (r_IndexFunc g hf hs) fun r h => Ret.ok h
theorem r_in {lo hi : Int} {all : List Int} (hs : all.length < 9223372036854775807) : Ret (P.ring_in lo hi all) (· = all.all (inB lo hi)) := by
  unfold P.ring_in
  refine Ret.bindM (r_ContainsFunc (fun x => !inB lo hi x) (fun x _ => ?_) hs) ?_
  · unfold P.ring_in_in1
    refine Ret.bind (Ret.cond (fun h => Ret.ok (Ret.ok ?_)) (fun h => Ret.ok (Ret.ok ?_)))
    · have := of_decide_eq_true h
      simp only [inB, Bool.eq_not_of_ne]
      symm; rw [Bool.not_eq_true', decide_eq_false_iff_not]; omega
    · have := of_decide_eq_false h
      simp only [inB]
      rw [Bool.eq_iff_iff, Bool.not_eq_true', decide_eq_true_eq, decide_eq_false_iff_not]; omega
  · rintro r rfl
    refine Ret.ok ?_
    rw [List.any_eq_not_all_not]
    simp
theorem r_in1 {lo hi x : Int} {Q : Bool → Prop} (q : Q (inB lo hi x)) : Ret (P.ring_in lo hi [x]) Q := (r_in (by simp)).mono fun r h => by subst h; simpa using q
theorem r_rising {l : List Int} (hl : l.length < 9223372036854775807) : Ret (P.ring_rising l) (· = rB (-1) l) := by
  unfold P.ring_rising
  refine Ret.bindM (Q' := fun r => r = if rB (-1) l then Sum.inl () else Sum.inr false) (Ret.upto l.length (fun n (s : Int × Int) => s.2 = n ∧ (-1 ≤ s.1 ∧ s.1 ≤ 999999) ∧ rB (-1) l = rB s.1 (l.drop n)) ⟨rfl, by decide, by simp⟩ ?_ ?_) ?_
  · rintro n hn ⟨a, _⟩ ⟨rfl, ha, hI⟩
    dsimp only at ha hI ⊢
    rw [drop_cons hn] at hI
    refine Ret.condT (lt_cast hn) (Ret.bind (ixR hn (Ret.bind (Ret.chk (by omega) (Ret.bind (r_in1 ?_))))))
    cases hb : inB (a + 1) 999999 l[n] with
    | false =>
      refine Ret.condT rfl (Ret.done ?_)
      rw [hI, rB, hb]; rfl
    | true =>
      have hb2 := of_decide_eq_true (show decide _ = true from hb)
      refine Ret.condF rfl (Ret.bind (Ret.chk (by omega) (Ret.next ⟨rfl, by dsimp only; omega, ?_⟩)))
      rw [hI, rB, hb, Bool.true_and]
  · rintro ⟨a, _⟩ ⟨rfl, ha, hI⟩
    dsimp only at hI ⊢
    rw [List.drop_length] at hI
    exact Ret.condF not_lt_cast (Ret.done (by rw [hI]; rfl))
  · rintro r rfl
    cases rB (-1) l with
    | true => exact Ret.elimL (Ret.ok rfl)
    | false => exact Ret.elimR (Ret.ok rfl)
theorem fB_split : ∀ (last : Int) (l : List Filing), fB last l = (l.all gB && rB last (l.map (·.id)))
  | _, [] => rfl
  | last, f :: fs => by
    rw [fB, fB_split f.id fs, List.all_cons, List.map_cons, rB]
    cases inB (last + 1) 999999 f.id <;> cases gB f <;> cases fs.all gB <;> rfl
theorem r_ringCheck {h : Hunt} {l : List Filing} (hl : l.length ≤ 30) (hp : ∀ f ∈ l, f.parts.length ≤ 20) : Ret (P.ring_Check h l) (· = check h l) := by
  unfold P.ring_Check
  refine Ret.bindM (Q' := fun b => b = !hB h) ?_ ?_
  · refine Ret.bind (r_in1 ?_)
    cases hb : inB 0 100000 h.window with
    | false => exact Ret.condT rfl (Ret.ok (by simp [hB, hb]))
    | true => exact Ret.condF rfl (Ret.bind ((r_in (by simp)).mono fun r hr => Ret.ok (by rw [hr]; simp [hB, hb])))
  rintro _ rfl
  cases hh : hB h with
  | false => exact Ret.condT rfl (Ret.ok (by simp [check, hh]))
  | true =>
  refine Ret.condF rfl ?_
  simp only [check, hh, if_true]
  refine Ret.bindM (Q' := fun r => r = if l.all gB then Sum.inl (l.map (·.id)) else Sum.inr 81) (Ret.upto l.length (fun n (s : Int × List Int) => s = ((n : Int), (l.take n).map (·.id)) ∧ (l.take n).all gB = true) ⟨rfl, rfl⟩ ?_ ?_) ?_
  · rintro n hn _ ⟨rfl, hI⟩
    dsimp only
    have hpn := hp l[n] (List.getElem_mem hn)
    refine Ret.condT (lt_cast hn) (Ret.bind (ixR hn (Ret.bind (Ret.appo (by simp; omega) (by simp; omega) ?_))))
    refine Ret.bindM (Q' := fun b => b = !gB l[n]) ?_ ?_
    · refine Ret.bind (r_in1 ?_)
      cases hb : inB 0 100000 l[n].day with
      | false => exact Ret.condT rfl (Ret.ok (by simp [gB, hb]))
      | true =>
        refine Ret.condF rfl (Ret.cond (fun h6 => Ret.ok ?_) (fun h6 => Ret.bind ((r_rising (by omega)).mono fun r hr => Ret.ok ?_)))
        · have := of_decide_eq_true h6
          have h7 : ¬ l[n].parts.length ≤ 6 := by omega
          simp [gB, h7]
        · have := of_decide_eq_false h6
          have h7 : l[n].parts.length ≤ 6 := by omega
          subst hr
          simp [gB, hb, h7]
    rintro _ rfl
    cases hg : gB l[n] with
    | false =>
      refine Ret.condT rfl (Ret.done ?_)
      rw [if_neg]
      intro hall
      rw [List.all_eq_true] at hall
      rw [hall _ (List.getElem_mem hn)] at hg; cases hg
    | true =>
      refine Ret.condF rfl (Ret.bind (Ret.chk (by omega) (Ret.next ⟨?_, ?_⟩)))
      · rw [take_succ hn, List.map_append]; rfl
      · rw [take_succ hn, List.all_append, hI]; simp [hg]
  · rintro _ ⟨rfl, hI⟩
    dsimp only
    rw [List.take_length] at hI ⊢
    exact Ret.condF not_lt_cast (Ret.done (by rw [hI]; rfl))
  · rintro r rfl
    rw [fB_split]
    cases hg : l.all gB with
    | false => exact Ret.elimR (Ret.ok (by simp))
    | true =>
      refine Ret.elimL (Ret.bindM (Q' := fun b => b = !(decide (l.length ≤ 24) && rB (-1) (l.map (·.id)))) (Ret.cond (fun h24 => Ret.ok ?_) (fun h24 => Ret.bind ((r_rising (by simp; omega)).mono fun r hr => Ret.ok ?_))) ?_)
      · have := of_decide_eq_true h24
        have h7 : ¬ l.length ≤ 24 := by omega
        simp [h7]
      · have := of_decide_eq_false h24
        have h7 : l.length ≤ 24 := by omega
        simp [hr, h7]
      · rintro _ rfl
        cases hd : (decide (l.length ≤ 24) && rB (-1) (l.map (·.id))) with
        | false => exact Ret.condT rfl (Ret.ok (by simp [hd]))
        | true => exact Ret.condF rfl (Ret.ok (by simp [hd]))
theorem r_within (n lo hi : Int) : Ret (P.ref08_within n lo hi) (· = inB lo hi n) := by
  unfold P.ref08_within
  refine Ret.bind (Ret.cond (fun h => Ret.ok (Ret.ok ?_)) (fun h => Ret.ok (Ret.ok ?_)))
  · have := of_decide_eq_true h; simp [inB, this]
  · have := of_decide_eq_false h; simp [inB, this]
theorem r_within1 {n lo hi : Int} {Q : Bool → Prop} (q : Q (inB lo hi n)) : Ret (P.ref08_within n lo hi) Q := (r_within n lo hi).mono fun r h => by subst h; exact q
/-- What was before. -/
def prv (xs : List Int) (n : Nat) : Int := if n = 0 then -1 else xs.getD (n - 1) (-1)
theorem prv_succ {xs : List Int} {n : Nat} (h : n < xs.length) : prv xs (n + 1) = xs[n] := by simp [prv, h]
theorem rB_le {last : Int} {x : Int} : inB (last + 1) 999999 x = true → x ≤ 999999 := fun h => (of_decide_eq_true (show decide _ = true from h)).2
theorem r_refCheck {h : Hunt} {l : List Filing} (hl : l.length ≤ 30) (hp : ∀ f ∈ l, f.parts.length ≤ 20) : Ret (P.ref08_Check h l) (· = check h l) := by
  unfold P.ref08_Check
  refine Ret.bindM (Q' := fun b => b = !hB h) ?_ ?_
  · refine Ret.bind (r_within1 ?_)
    cases hb : inB 0 100000 h.window with
    | false => exact Ret.condT rfl (Ret.ok (by simp [hB, hb]))
    | true =>
      refine Ret.condF rfl (Ret.bind (r_within1 ?_))
      cases hc : inB 2 24 h.common with
      | false => exact Ret.condT rfl (Ret.ok (by simp [hB, hc]))
      | true => exact Ret.condF rfl (Ret.bind (r_within1 (Ret.ok (by simp [hB, hb, hc]))))
  rintro _ rfl
  cases hh : hB h with
  | false => exact Ret.condT rfl (Ret.ok (by simp [check, hh]))
  | true =>
  refine Ret.condF rfl ?_
  simp only [check, hh, if_true]
  refine Ret.cond (fun h24 => Ret.ok ?_) (fun h24 => ?_)
  · have := of_decide_eq_true h24
    have h7 : ¬ l.length ≤ 24 := by omega
    simp [h7]
  have h7 : l.length ≤ 24 := by have := of_decide_eq_false h24; omega
  simp only [h7, decide_true, Bool.true_and]
  refine Ret.bindM (Q' := fun r => r = if fB (-1) l then Sum.inl () else Sum.inr 81) (Ret.upto l.length (fun n (s : Int) => s = (n : Int) ∧ -1 ≤ prv (l.map (·.id)) n ∧ fB (-1) l = fB (prv (l.map (·.id)) n) (l.drop n)) ⟨rfl, by simp [prv], by simp [prv]⟩ ?_ ?_) ?_
  · rintro n hn _ ⟨rfl, hq, hI⟩
    have hpn := hp l[n] (List.getElem_mem hn)
    rw [drop_cons hn, fB] at hI
    have hnx : prv (l.map (·.id)) (n + 1) = l[n].id := by rw [prv_succ (by simpa using hn)]; simp
    have hqq : 0 < n → prv (l.map (·.id)) n = l[n - 1].id := fun h0 => by
      obtain ⟨m, rfl⟩ : ∃ m, n = m + 1 := ⟨n - 1, by omega⟩
      rw [prv_succ (by simp; omega)]; simp
    have hq0 : n = 0 → prv (l.map (·.id)) n = -1 := fun h => by simp [prv, h]
    generalize prv (l.map (·.id)) n = q at *
    refine Ret.condT (lt_cast hn) (Ret.bind (ixR hn ?_))
    refine Ret.bindM (Q' := fun b => b = !(inB (q + 1) 999999 l[n].id && (inB 0 100000 l[n].day && decide (l[n].parts.length ≤ 6)))) ?_ ?_
    · have e1 : inB 0 100000 l[n].day = false → ((!(inB 0 100000 l[n].day && decide (l[n].parts.length ≤ 6))) = true) := fun h => by simp [h]
      have e2 : inB 0 100000 l[n].day = true → (decide (6 < (l[n].parts.length : Int)) = !(inB 0 100000 l[n].day && decide (l[n].parts.length ≤ 6))) := fun h => by
        rw [h, Bool.true_and, Bool.eq_iff_iff, Bool.not_eq_true', decide_eq_true_eq, decide_eq_false_iff_not]; omega
      refine Ret.bind (r_within1 ?_)
      cases hb : inB 0 999999 l[n].id with
      | false =>
        refine Ret.condT rfl (Ret.ok ?_)
        have h1 : inB (q + 1) 999999 l[n].id = false := by
          simp only [inB, decide_eq_false_iff_not] at hb ⊢; omega
        simp [h1]
      | true =>
        have hb := of_decide_eq_true (show decide _ = true from hb)
        refine Ret.condF rfl (Ret.cond (fun h0 => ?_) (fun h0 => ?_))
        · have h0 : 0 < n := by have := of_decide_eq_true h0; omega
          refine Ret.bind (Ret.chk (by omega) (Ret.bind (ixP hn h0 (Ret.cond (fun hle => Ret.ok ?_) (fun hle => ?_)))))
          · have := of_decide_eq_true hle
            have h1 : inB (q + 1) 999999 l[n].id = false := by
              have := hqq h0
              simp only [inB, decide_eq_false_iff_not]; omega
            simp [h1]
          · have hle := of_decide_eq_false hle
            have h1 : inB (q + 1) 999999 l[n].id = true := by
              have := hqq h0
              simp only [inB, decide_eq_true_eq]; omega
            rw [h1, Bool.true_and]
            refine Ret.bind (r_within1 ?_)
            cases hd : inB 0 100000 l[n].day with
            | false => exact Ret.condT rfl (Ret.ok (by simp))
            | true => exact Ret.condF rfl (Ret.ok (by rw [← hd]; exact e2 hd))
        · have h0 : n = 0 := by have := of_decide_eq_false h0; omega
          have h1 : inB (q + 1) 999999 l[n].id = true := by
            have := hq0 h0
            simp only [inB, decide_eq_true_eq]; omega
          rw [h1, Bool.true_and]
          refine Ret.bind (r_within1 ?_)
          cases hd : inB 0 100000 l[n].day with
          | false => exact Ret.condT rfl (Ret.ok (by simp))
          | true => exact Ret.condF rfl (Ret.ok (by rw [← hd]; exact e2 hd))
    rintro _ rfl
    cases ha : (inB (q + 1) 999999 l[n].id && (inB 0 100000 l[n].day && decide (l[n].parts.length ≤ 6))) with
    | false =>
      refine Ret.condT rfl (Ret.done ?_)
      rw [hI, if_neg]
      rw [gB]
      intro hx
      simp only [Bool.and_eq_true] at hx
      rw [hx.1.1, hx.1.2.1.1, hx.1.2.1.2] at ha; cases ha
    | true =>
      simp only [Bool.and_eq_true] at ha
      have hid := rB_le ha.1
      refine Ret.condF rfl ?_
      refine Ret.bindM (Q' := fun r => r = if rB (-1) l[n].parts then Sum.inl () else Sum.inr 81) (Ret.upto l[n].parts.length (fun k (s : Int) => s = (k : Int) ∧ -1 ≤ prv l[n].parts k ∧ rB (-1) l[n].parts = rB (prv l[n].parts k) (l[n].parts.drop k)) ⟨rfl, by simp [prv], by simp [prv]⟩ ?_ ?_) ?_
      · rintro k hk _ ⟨rfl, hq2, hJ⟩
        have hnx2 : prv l[n].parts (k + 1) = l[n].parts[k] := prv_succ hk
        have hqq2 : 0 < k → prv l[n].parts k = l[n].parts[k - 1] := fun h0 => by
          obtain ⟨m, rfl⟩ : ∃ m, k = m + 1 := ⟨k - 1, by omega⟩
          rw [prv_succ (by omega)]; simp
        have hq02 : k = 0 → prv l[n].parts k = -1 := fun h => by simp [prv, h]
        rw [drop_cons hk, rB] at hJ
        generalize prv l[n].parts k = p at *
        refine Ret.condT (lt_cast hk) (Ret.bindM (Q' := fun b => b = !inB (p + 1) 999999 l[n].parts[k]) ?_ ?_)
        · refine Ret.bind (ixR hk (Ret.bind (r_within1 ?_)))
          cases hb : inB 0 999999 l[n].parts[k] with
          | false =>
            refine Ret.condT rfl (Ret.ok ?_)
            simp only [inB, decide_eq_false_iff_not] at hb
            symm; simp only [inB, Bool.not_eq_true', decide_eq_false_iff_not]; omega
          | true =>
            have hb := of_decide_eq_true (show decide _ = true from hb)
            refine Ret.condF rfl (Ret.cond (fun h0 => ?_) (fun h0 => Ret.ok ?_))
            · have h0 : 0 < k := by have := of_decide_eq_true h0; omega
              refine Ret.bind (ixR hk (Ret.bind (Ret.chk (by omega) (Ret.bind (ixP hk h0 (Ret.ok ?_))))))
              have := hqq2 h0
              rw [Bool.eq_iff_iff]
              simp only [inB, Bool.not_eq_true', decide_eq_true_eq, decide_eq_false_iff_not]; omega
            · have h0 : k = 0 := by have := of_decide_eq_false h0; omega
              have := hq02 h0
              symm; simp only [inB, Bool.not_eq_false', decide_eq_true_eq]; omega
        · rintro _ rfl
          cases hb : inB (p + 1) 999999 l[n].parts[k] with
          | false => exact Ret.condT rfl (Ret.done (by rw [hJ, hb]; rfl))
          | true =>
            have hb2 := of_decide_eq_true (show decide _ = true from hb)
            refine Ret.condF rfl (Ret.bind (Ret.chk (by omega) (Ret.next ⟨rfl, ?_, ?_⟩)))
            · rw [hnx2]; omega
            · rw [hJ, hb, hnx2, Bool.true_and]
      · rintro _ ⟨rfl, _, hJ⟩
        rw [List.drop_length] at hJ
        exact Ret.condF not_lt_cast (Ret.done (by rw [hJ]; rfl))
      · rintro r rfl
        cases hg : rB (-1) l[n].parts with
        | false =>
          refine Ret.elimR (Ret.done ?_)
          rw [hI]; simp [gB, hg]
        | true =>
          refine Ret.elimL (Ret.bind (Ret.chk (by omega) (Ret.next ⟨rfl, ?_, ?_⟩)))
          · have := of_decide_eq_true (show decide _ = true from ha.1)
            rw [hnx]; omega
          · rw [hI, hnx]; simp [gB, hg, ha.1, ha.2.1, of_decide_eq_true ha.2.2]
  · rintro _ ⟨rfl, _, hI⟩
    rw [List.drop_length] at hI
    exact Ret.condF not_lt_cast (Ret.done (by rw [hI]; rfl))
  · rintro r rfl
    cases fB (-1) l with
    | false => exact Ret.elimR (Ret.ok rfl)
    | true => exact Ret.elimL (Ret.ok rfl)
end Go.Proofs.Ytdbogmmdogjhpaa
set_option maxRecDepth 20000
set_option maxHeartbeats 1000000
set_option linter.unusedVariables false
set_option linter.unusedSimpArgs false
namespace Go.Proofs.Ytdbogmmdogjhpaa
open Go Go.Sx
namespace S
structure Vd (h : Hunt) (l : List Filing) : Prop where
  win : 0 ≤ h.window ∧ h.window ≤ 100000
  com : 2 ≤ h.common ∧ h.common ≤ 24
  siz : 2 ≤ h.size ∧ h.size ≤ 24
  len : l.length ≤ 24
  ids : (l.map (·.id)).Pairwise (· < ·)
  idr : ∀ f ∈ l, 0 ≤ f.id ∧ f.id ≤ 999999
  day : ∀ f ∈ l, 0 ≤ f.day ∧ f.day ≤ 100000
  prl : ∀ f ∈ l, f.parts.length ≤ 6
  prt : ∀ f ∈ l, f.parts.Pairwise (· < ·)
  prr : ∀ f ∈ l, ∀ p ∈ f.parts, 0 ≤ p ∧ p ≤ 999999
theorem inB_iff {lo hi x : Int} : inB lo hi x = true ↔ lo ≤ x ∧ x ≤ hi := by simp [inB]
theorem rB_iff : ∀ {xs : List Int} {last : Int}, rB last xs = true ↔ xs.Pairwise (· < ·) ∧ ∀ x ∈ xs, last < x ∧ x ≤ 999999
  | [], last => by simp [rB]
  | x :: xs, last => by
    rw [rB, Bool.and_eq_true, rB_iff, inB_iff, List.pairwise_cons]
    constructor
    · rintro ⟨h1, h2, h3⟩
      refine ⟨⟨fun y hy => (h3 y hy).1, h2⟩, fun y hy => ?_⟩
      rcases List.mem_cons.1 hy with rfl | hy
      · omega
      · have := h3 y hy; omega
    · rintro ⟨⟨h1, h2⟩, h3⟩
      have := h3 x (by simp)
      exact ⟨by omega, h2, fun y hy => ⟨h1 y hy, (h3 y (List.mem_cons_of_mem _ hy)).2⟩⟩
theorem gB_iff {f : Filing} : gB f = true ↔ (0 ≤ f.day ∧ f.day ≤ 100000) ∧ f.parts.length ≤ 6 ∧ f.parts.Pairwise (· < ·) ∧ ∀ p ∈ f.parts, 0 ≤ p ∧ p ≤ 999999 := by
  simp only [gB, Bool.and_eq_true, inB_iff, decide_eq_true_eq, rB_iff]
  constructor
  · rintro ⟨⟨h1, h2⟩, h3, h4⟩
    exact ⟨h1, h2, h3, fun p hp => by have := h4 p hp; omega⟩
  · rintro ⟨h1, h2, h3, h4⟩
    exact ⟨⟨h1, h2⟩, h3, fun p hp => by have := h4 p hp; omega⟩
theorem check_iff {h : Hunt} {l : List Filing} : check h l = 0 ↔ Vd h l := by
  unfold check
  rw [fB_split]
  constructor
  · intro hc
    split at hc
    · rename_i hh
      split at hc
      · rename_i hf
        simp only [Bool.and_eq_true, decide_eq_true_eq, List.all_eq_true, gB_iff, rB_iff] at hf
        simp only [hB, Bool.and_eq_true, inB_iff] at hh
        obtain ⟨h1, h2, h3, h4⟩ := hf
        exact ⟨hh.1.1, hh.1.2, hh.2, h1, h3, fun f hf => by have := h4 f.id (List.mem_map_of_mem hf); omega, fun f hf => (h2 f hf).1, fun f hf => (h2 f hf).2.1, fun f hf => (h2 f hf).2.2.1, fun f hf => (h2 f hf).2.2.2⟩
      · cases hc
    · cases hc
  · intro v
    rw [if_pos, if_pos]
    · simp only [Bool.and_eq_true, decide_eq_true_eq, List.all_eq_true, gB_iff, rB_iff]
      refine ⟨v.len, fun f hf => ⟨v.day f hf, v.prl f hf, v.prt f hf, v.prr f hf⟩, v.ids, fun x hx => ?_⟩
      obtain ⟨f, hf, rfl⟩ := List.mem_map.1 hx
      have := v.idr f hf; omega
    · simp only [hB, Bool.and_eq_true, inB_iff]
      exact ⟨⟨v.win, v.com⟩, v.siz⟩
theorem idx_cases (xs : List Int) (v : Int) : (∃ k : Nat, idx xs v = k ∧ ∃ hk : k < xs.length, xs[k] = v) ∨ (idx xs v = -1 ∧ v ∉ xs) := by
  unfold idx
  by_cases hv : v ∈ xs
  · rw [if_pos hv]
    exact .inl ⟨_, rfl, List.idxOf_lt_length_iff.2 hv, List.getElem_idxOf (List.idxOf_lt_length_iff.2 hv)⟩
  · rw [if_neg hv]; exact .inr ⟨rfl, hv⟩
theorem idx_of {xs : List Int} {v : Int} {k : Nat} (hk : k < xs.length) (h : xs[k] = v) (hf : ∀ j (hj : j < k), xs[j]'(by omega) ≠ v) : idx xs v = k := by
  have hm : v ∈ xs := h ▸ List.getElem_mem hk
  unfold idx
  rw [if_pos hm]
  congr 1
  rcases Nat.lt_trichotomy (xs.idxOf v) k with h1 | h1 | h1
  · exact absurd (List.getElem_idxOf (by omega)) (hf _ h1)
  · exact h1
  · have h2 := List.not_of_lt_findIdx (p := fun x => x == v) (xs := xs) (i := k) (by simpa [List.idxOf] using h1)
    simp [h] at h2
theorem idx_none {xs : List Int} {v : Int} (h : v ∉ xs) : idx xs v = -1 := by unfold idx; rw [if_neg h]
end S
open S
theorem nt {xs : List Int} {v : Int} {n : Nat} (hn : n < xs.length) (h : v ∉ xs.take n) (hne : xs[n] ≠ v) : v ∉ xs.take (n + 1) := by
  rw [take_succ hn, List.mem_append, List.mem_singleton]
  rintro (h1 | h1)
  · exact h h1
  · exact hne h1.symm
theorem nt_get {xs : List Int} {v : Int} {n : Nat} (h : v ∉ xs.take n) : ∀ j (hj : j < n) (hx : j < xs.length), xs[j] ≠ v := fun j hj hx e => h (by
  rw [← e, show xs[j] = (xs.take n)[j]'(by simp; omega) by simp]
  exact List.getElem_mem _)
theorem r_Index {s : List Int} {v : Int} (hs : s.length ≤ 9223372036854775807) : Ret (P.slices_Index_52 s v) (· = idx s v) := by
  unfold P.slices_Index_52
  refine Ret.bindM (Q' := fun r => (∃ n : Nat, r = Sum.inr (n : Int) ∧ idx s v = n) ∨ (r = Sum.inl () ∧ v ∉ s)) (Ret.upto s.length (fun n (i : Int) => i = n ∧ v ∉ s.take n) ⟨rfl, by simp⟩ ?_ ?_) ?_
  · rintro n hn i ⟨rfl, hI⟩
    refine Ret.condT (lt_cast hn) (Ret.bind (ixR hn (Ret.cond (fun h => Ret.done (.inl ⟨n, rfl, idx_of hn (of_decide_eq_true h).symm fun j hj => nt_get hI j hj (by omega)⟩)) (fun h => Ret.bind (Ret.chk (by omega) (Ret.next ⟨rfl, nt hn hI fun e => of_decide_eq_false h e.symm⟩))))))
  · rintro i ⟨rfl, hI⟩
    rw [List.take_length] at hI
    exact Ret.condF not_lt_cast (Ret.done (.inr ⟨rfl, hI⟩))
  · rintro r (⟨n, rfl, h⟩ | ⟨rfl, h⟩)
    · exact Ret.elimR (Ret.ok h.symm)
    · exact Ret.elimL (Ret.ok (idx_none h).symm)
theorem r_Contains {s : List Int} {v : Int} (hs : s.length ≤ 9223372036854775807) : Ret (P.slices_Contains_61 s v) (· = decide (v ∈ s)) := by
  unfold P.slices_Contains_61
  refine Ret.bindM (r_Index hs) ?_
  rintro r rfl
  refine Ret.ok ?_
  rcases idx_cases s v with ⟨k, h, hk, h2⟩ | ⟨h, h2⟩
  · rw [h, decide_eq_true (by omega), decide_eq_true (h2 ▸ List.getElem_mem hk)]
  · rw [h, decide_eq_false (by omega), decide_eq_false h2]
/-! Comparisons. -/
theorem take_eq {α : Type} {a b : List α} {n : Nat} (ha : n < a.length) (hb : n < b.length) (h : a.take n = b.take n) (e : a[n] = b[n]) : a.take (n + 1) = b.take (n + 1) := by rw [take_succ ha, take_succ hb, h, e]
theorem r_SameInts {a b : List Int} (hs : a.length ≤ 9223372036854775807) : Ret (P.ref08_SameInts a b) (· = decide (a = b)) := by
  unfold P.ref08_SameInts
  refine Ret.cond (fun h => Ret.ok ?_) (fun h => ?_)
  · rw [Bool.not_eq_true', decide_eq_false_iff_not] at h
    exact (decide_eq_false fun e => h (by rw [e])).symm
  have hl : a.length = b.length := by simp at h; omega
  refine Ret.bindM (Q' := fun r => r = if a = b then Sum.inl () else Sum.inr false) (Ret.upto a.length (fun n (i : Int) => i = n ∧ a.take n = b.take n) ⟨rfl, by simp⟩ ?_ ?_) ?_
  · rintro n hn i ⟨rfl, hI⟩
    have hnb : n < b.length := by omega
    refine Ret.condT (lt_cast hn) (Ret.bind (ixR hn (Ret.bind (ixR hnb (Ret.cond (fun h => Ret.done ?_) (fun h => Ret.bind (Ret.chk (by omega) (Ret.next ⟨rfl, take_eq hn hnb hI (by simpa using h)⟩))))))))
    rw [if_neg]
    rintro rfl
    simp at h
  · rintro i ⟨rfl, hI⟩
    rw [List.take_length, hl, List.take_length] at hI
    exact Ret.condF not_lt_cast (Ret.done (by rw [if_pos hI]))
  · rintro r rfl
    by_cases hv : a = b
    · rw [if_pos hv]; exact Ret.elimL (Ret.ok (by simp [hv]))
    · rw [if_neg hv]; exact Ret.elimR (Ret.ok (by simp [hv]))
theorem r_SameTies {a b : List Tie} (hs : a.length ≤ 9223372036854775807) : Ret (P.ref08_SameTies a b) (· = decide (a = b)) := by
  unfold P.ref08_SameTies
  refine Ret.cond (fun h => Ret.ok ?_) (fun h => ?_)
  · rw [Bool.not_eq_true', decide_eq_false_iff_not] at h
    exact (decide_eq_false fun e => h (by rw [e])).symm
  have hl : a.length = b.length := by simp at h; omega
  refine Ret.bindM (Q' := fun r => r = if a = b then Sum.inl () else Sum.inr false) (Ret.upto a.length (fun n (i : Int) => i = n ∧ a.take n = b.take n) ⟨rfl, by simp⟩ ?_ ?_) ?_
  · rintro n hn i ⟨rfl, hI⟩
    have hnb : n < b.length := by omega
    refine Ret.condT (lt_cast hn) (Ret.bind (ixR hn (Ret.bind (ixR hnb (Ret.cond (fun h => Ret.done ?_) (fun h => Ret.bind (Ret.chk (by omega) (Ret.next ⟨rfl, take_eq hn hnb hI (by simpa using h)⟩))))))))
    rw [if_neg]
    rintro rfl
    simp at h
  · rintro i ⟨rfl, hI⟩
    rw [List.take_length, hl, List.take_length] at hI
    exact Ret.condF not_lt_cast (Ret.done (by rw [if_pos hI]))
  · rintro r rfl
    by_cases hv : a = b
    · rw [if_pos hv]; exact Ret.elimL (Ret.ok (by simp [hv]))
    · rw [if_neg hv]; exact Ret.elimR (Ret.ok (by simp [hv]))
theorem r_SameLists {a b : List (List Int)} (hs : a.length ≤ 9223372036854775807) (hx : ∀ x ∈ a, x.length ≤ 9223372036854775807) : Ret (P.ref08_SameLists a b) (· = decide (a = b)) := by
  unfold P.ref08_SameLists
  refine Ret.cond (fun h => Ret.ok ?_) (fun h => ?_)
  · rw [Bool.not_eq_true', decide_eq_false_iff_not] at h
    exact (decide_eq_false fun e => h (by rw [e])).symm
  have hl : a.length = b.length := by simp at h; omega
  refine Ret.bindM (Q' := fun r => r = if a = b then Sum.inl () else Sum.inr false) (Ret.upto a.length (fun n (i : Int) => i = n ∧ a.take n = b.take n) ⟨rfl, by simp⟩ ?_ ?_) ?_
  · rintro n hn i ⟨rfl, hI⟩
    have hnb : n < b.length := by omega
    refine Ret.condT (lt_cast hn) (Ret.bind (ixR hn (Ret.bind (ixR hnb (Ret.bindM (r_SameInts (hx _ (List.getElem_mem hn))) ?_)))))
    rintro _ rfl
    refine Ret.cond (fun h => Ret.done ?_) (fun h => Ret.bind (Ret.chk (by omega) (Ret.next ⟨rfl, take_eq hn hnb hI (by simpa using h)⟩)))
    rw [if_neg]
    rintro rfl
    simp at h
  · rintro i ⟨rfl, hI⟩
    rw [List.take_length, hl, List.take_length] at hI
    exact Ret.condF not_lt_cast (Ret.done (by rw [if_pos hI]))
  · rintro r rfl
    by_cases hv : a = b
    · rw [if_pos hv]; exact Ret.elimL (Ret.ok (by simp [hv]))
    · rw [if_neg hv]; exact Ret.elimR (Ret.ok (by simp [hv]))
/-! Weights. -/
namespace S
def cnt (l : List Filing) (p : Int) : Nat := (l.filter fun f => decide (p ∈ f.parts)).length
def ptw (h : Hunt) (l : List Filing) (p : Int) : Int := if (cnt l p : Int) < 2 ∨ h.common ≤ cnt l p then 0 else 1000 / ((cnt l p : Int) - 1)
def wsum (h : Hunt) (l : List Filing) (ps qs : List Int) : Int := ((ps.filter fun p => decide (p ∈ qs)).map (ptw h l)).sum
def wt (h : Hunt) (l : List Filing) (x y : Filing) : Int := if h.window < x.day - y.day ∨ h.window < y.day - x.day then 0 else wsum h l x.parts y.parts
def w (h : Hunt) (l : List Filing) (i k : Nat) : Int := match l[i]?, l[k]? with
  | some x, some y => wt h l x y
  | _, _ => 0
theorem w_at {h : Hunt} {l : List Filing} {i k : Nat} (hi : i < l.length) (hk : k < l.length) : w h l i k = wt h l l[i] l[k] := by
  unfold w; rw [List.getElem?_eq_getElem hi, List.getElem?_eq_getElem hk]
theorem part_in (h : Hunt) (l : List Filing) (p : Int) : 0 ≤ ptw h l p ∧ ptw h l p ≤ 1000 := by
  unfold ptw
  split
  · omega
  · rename_i hn
    have h1 : 1 ≤ (cnt l p : Int) - 1 := by omega
    generalize (cnt l p : Int) - 1 = d at *
    exact ⟨Int.ediv_nonneg (by omega) (by omega), Int.ediv_le_self _ (by omega)⟩
theorem sum_in (f : Int → Int) (hf : ∀ p, 0 ≤ f p ∧ f p ≤ 1000) : ∀ (ps : List Int), 0 ≤ (ps.map f).sum ∧ (ps.map f).sum ≤ 1000 * ps.length
  | [] => by simp
  | p :: ps => by
    have := sum_in f hf ps
    have := hf p
    simp only [List.map_cons, List.sum_cons, List.length_cons]
    omega
theorem wsum_in (h : Hunt) (l : List Filing) (ps qs : List Int) : 0 ≤ wsum h l ps qs ∧ wsum h l ps qs ≤ 1000 * ps.length := by
  have h1 := sum_in (ptw h l) (part_in h l) (ps.filter fun p => decide (p ∈ qs))
  have h2 := List.length_filter_le (fun p => decide (p ∈ qs)) ps
  unfold wsum
  omega
theorem wt_in {h : Hunt} {l : List Filing} {x y : Filing} (hx : x.parts.length ≤ 6) : 0 ≤ wt h l x y ∧ wt h l x y ≤ 6000 := by
  unfold wt
  split
  · omega
  · have := wsum_in h l x.parts y.parts
    omega
/-- Two rising lists with the same elements are one. -/
theorem rise_eq : ∀ {xs ys : List Int}, xs.Pairwise (· < ·) → ys.Pairwise (· < ·) → (∀ a, a ∈ xs ↔ a ∈ ys) → xs = ys
  | [], [], _, _, _ => rfl
  | [], y :: ys, _, _, h => by have := (h y).2 (by simp); cases this
  | x :: xs, [], _, _, h => by have := (h x).1 (by simp); cases this
  | x :: xs, y :: ys, h1, h2, h => by
    rw [List.pairwise_cons] at h1 h2
    have hxy : x = y := by
      have hx := (h x).1 (by simp)
      have hy := (h y).2 (by simp)
      rcases List.mem_cons.1 hx with e | hx
      · exact e
      · rcases List.mem_cons.1 hy with e | hy
        · exact e.symm
        · have := h1.1 y hy
          have := h2.1 x hx
          omega
    subst hxy
    congr 1
    refine rise_eq h1.2 h2.2 fun a => ?_
    constructor
    · intro ha
      have hlt := h1.1 a ha
      rcases List.mem_cons.1 ((h a).1 (List.mem_cons_of_mem _ ha)) with e | h3
      · omega
      · exact h3
    · intro ha
      have hlt := h2.1 a ha
      rcases List.mem_cons.1 ((h a).2 (List.mem_cons_of_mem _ ha)) with e | h3
      · omega
      · exact h3
theorem wsum_comm (h : Hunt) (l : List Filing) {ps qs : List Int} (hp : ps.Pairwise (· < ·)) (hq : qs.Pairwise (· < ·)) : wsum h l ps qs = wsum h l qs ps := by
  unfold wsum
  rw [rise_eq (hp.filter _) (hq.filter _)]
  intro a
  simp only [List.mem_filter, decide_eq_true_eq]
  exact ⟨fun h => ⟨h.2, h.1⟩, fun h => ⟨h.2, h.1⟩⟩
theorem wt_comm {h : Hunt} {l : List Filing} {x y : Filing} (hx : x.parts.Pairwise (· < ·)) (hy : y.parts.Pairwise (· < ·)) : wt h l x y = wt h l y x := by
  unfold wt
  rw [wsum_comm h l hx hy]
  congr 1
  rw [or_comm]
section
variable {h : Hunt} {l : List Filing} (v : Vd h l)
include v
theorem Vd.wcomm (i k : Nat) : w h l i k = w h l k i := by
  unfold w
  cases hi : l[i]? with
  | none => cases l[k]? <;> rfl
  | some x =>
    cases hk : l[k]? with
    | none => rfl
    | some y => exact wt_comm (v.prt x (List.mem_of_getElem? hi)) (v.prt y (List.mem_of_getElem? hk))
theorem Vd.win_ (i k : Nat) : 0 ≤ w h l i k ∧ w h l i k ≤ 6000 := by
  unfold w
  cases hi : l[i]? with
  | none => exact ⟨Int.le_refl _, show (0 : Int) ≤ 6000 by omega⟩
  | some x =>
    cases hk : l[k]? with
    | none => exact ⟨Int.le_refl _, show (0 : Int) ≤ 6000 by omega⟩
    | some y => exact wt_in (v.prl x (List.mem_of_getElem? hi))
end
end S
open S
theorem cnt_take {l : List Filing} {p : Int} {n : Nat} (hn : n < l.length) : cnt (l.take (n + 1)) p = cnt (l.take n) p + (if p ∈ l[n].parts then 1 else 0) := by
  unfold cnt
  rw [take_succ hn, List.filter_append, List.length_append]
  congr 1
  by_cases hp : p ∈ l[n].parts <;> simp [hp]
theorem cnt_le (l : List Filing) (p : Int) : cnt l p ≤ l.length := List.length_filter_le _ _
end Go.Proofs.Ytdbogmmdogjhpaa
set_option maxRecDepth 20000
set_option maxHeartbeats 1000000
set_option linter.unusedVariables false
set_option linter.unusedSimpArgs false
namespace Go.Proofs.Ytdbogmmdogjhpaa
open Go Go.Sx
namespace S
/-- A table of 24 times 24 numbers. -/
def tab (f : Nat → Nat → Int) : List Int := (List.range 576).map fun t => f (t / 24) (t % 24)
def upd2 (f : Nat → Nat → Int) (i k : Nat) (x : Int) : Nat → Nat → Int := fun a b => if a = i ∧ b = k then x else f a b
theorem tab_len (f : Nat → Nat → Int) : (tab f).length = 576 := by simp [tab]
theorem tab_get {f : Nat → Nat → Int} {i k : Nat} (hi : i < 24) (hk : k < 24) : (tab f)[i * 24 + k]? = some (f i k) := by
  unfold tab
  rw [List.getElem?_map, List.getElem?_range (by omega)]
  simp only [Option.map_some]
  rw [show (i * 24 + k) / 24 = i by omega, show (i * 24 + k) % 24 = k by omega]
theorem tab_set {f : Nat → Nat → Int} {i k : Nat} {x : Int} (hi : i < 24) (hk : k < 24) : (tab f).set (i * 24 + k) x = tab (upd2 f i k x) := by
  apply List.ext_getElem?
  intro t
  rw [List.getElem?_set]
  rcases Nat.lt_or_ge t 576 with ht | ht
  · have e1 : ∀ g : Nat → Nat → Int, (tab g)[t]? = some (g (t / 24) (t % 24)) := fun g => by
      unfold tab
      rw [List.getElem?_map, List.getElem?_range ht]; rfl
    rw [e1, e1, tab_len]
    by_cases e : i * 24 + k = t
    · rw [if_pos e, if_pos (by omega)]
      unfold upd2
      rw [if_pos ⟨by omega, by omega⟩]
    · rw [if_neg e]
      unfold upd2
      rw [if_neg]
      rintro ⟨h1, h2⟩
      omega
  · rw [List.getElem?_eq_none (by rw [tab_len]; omega), List.getElem?_eq_none (by rw [tab_len]; omega), if_neg (by omega)]
theorem tab_ext {f g : Nat → Nat → Int} (h : ∀ a b, a < 24 → b < 24 → f a b = g a b) : tab f = tab g := by
  unfold tab
  refine List.map_congr_left fun t ht => ?_
  have := List.mem_range.1 ht
  exact h _ _ (by omega) (by omega)
theorem upd2_upd2 {f : Nat → Nat → Int} {i k : Nat} {x y : Int} : upd2 (upd2 f i k x) i k y = upd2 f i k y := by
  funext a b
  unfold upd2
  split <;> rfl
theorem upd2_self {f : Nat → Nat → Int} {i k : Nat} {x : Int} : upd2 f i k x i k = x := by simp [upd2]
theorem tab_zero : List.replicate 576 (0 : Int) = tab fun _ _ => 0 := by
  unfold tab
  rw [List.map_const']; simp
def wm (h : Hunt) (l : List Filing) (a b : Nat) : Int := if a = b then 0 else w h l a b
def hk (h : Hunt) (l : List Filing) : Hunt_94 := ⟨h, l.map (·.id), tab (wm h l)⟩
def ids (l : List Filing) : List Int := l.map (·.id)
def Weight (h : Hunt) (l : List Filing) (a b : Int) : Int × Int :=
  if check h l = 0 then
    if idx (ids l) a < 0 ∨ idx (ids l) b < 0 then (0, 6)
    else if idx (ids l) a = idx (ids l) b then (0, 2)
    else (w h l (idx (ids l) a).toNat (idx (ids l) b).toNat, 0)
  else (0, check h l)
theorem cnt_mono {l : List Filing} {p : Int} {n m : Nat} (h : n ≤ m) : cnt (l.take n) p ≤ cnt (l.take m) p := by
  unfold cnt
  refine (List.Sublist.filter _ ?_).length_le
  rw [show l.take n = (l.take m).take n by rw [List.take_take, Nat.min_eq_left h]]
  exact List.take_sublist _ _
theorem cnt_two {l : List Filing} {p : Int} {i k : Nat} (hi : i < l.length) (hk : k < i) (h1 : p ∈ l[i].parts) (h2 : p ∈ (l[k]'(by omega)).parts) : 2 ≤ cnt l p := by
  have a1 : cnt (l.take (i + 1)) p = cnt (l.take i) p + 1 := by rw [cnt_take hi, if_pos h1]
  have a2 : cnt (l.take (k + 1)) p = cnt (l.take k) p + 1 := by rw [cnt_take (by omega), if_pos h2]
  have a3 := cnt_mono (l := l) (p := p) (show k + 1 ≤ i from hk)
  have a4 := cnt_mono (l := l) (p := p) (show i + 1 ≤ l.length from hi)
  rw [List.take_length] at a4
  omega
theorem prs_mem {i k : Int} : ∀ {n : Nat}, (i, k) ∈ prs n ↔ 0 ≤ k ∧ k < i ∧ i < n
  | 0 => by simp [prs]; omega
  | n + 1 => by
    rw [prs, List.mem_append, prs_mem, List.mem_map]
    constructor
    · rintro (h | ⟨x, hx, e⟩)
      · omega
      · have := List.mem_range.1 hx
        simp only [Prod.mk.injEq] at e
        omega
    · intro h
      by_cases hi : i < n
      · left; omega
      · right
        refine ⟨k.toNat, List.mem_range.2 (by omega), ?_⟩
        simp only [Prod.mk.injEq]
        omega
theorem prs_nodup : ∀ n, (prs n).Nodup
  | 0 => List.nodup_nil
  | n + 1 => by
    rw [prs, List.nodup_append]
    refine ⟨prs_nodup n, ?_, fun a ha b hb e => ?_⟩
    · exact List.Pairwise.map _ (fun a b (hab : a ≠ b) => fun e => hab (by simp only [Prod.mk.injEq] at e; omega)) List.nodup_range
    · subst e
      obtain ⟨i, k⟩ := a
      have h1 := prs_mem.1 ha
      obtain ⟨x, hx, e⟩ := List.mem_map.1 hb
      simp only [Prod.mk.injEq] at e
      omega
end S
open S
theorem r_ixA {i : Nat} {Q : Int → Prop} (h : i < 24) (q : Q i) : Ret (Go.Rx.ixA 24 (i : Int)) Q := ⟨_, by unfold Go.Rx.ixA; rw [if_pos ⟨by omega, by omega⟩], q⟩
theorem r_tab {f : Nat → Nat → Int} {i k : Nat} {Q : Int → Prop} (hi : i < 24) (hk : k < 24) (q : Q (f i k)) : Ret (ixo (tab f) ((i : Int) * 24 + (k : Int) * 1)) Q := by
  have : ((i : Int) * 24 + (k : Int) * 1) = ((i * 24 + k : Nat) : Int) := by omega
  rw [this]
  exact Ret.ixo (tab_get hi hk) q
theorem r_tabS {f : Nat → Nat → Int} {i k : Nat} {x : Int} {Q : List Int → Prop} (hi : i < 24) (hk : k < 24) (q : Q (tab (upd2 f i k x))) : Ret (seto (tab f) ((i : Int) * 24 + (k : Int) * 1) x) Q := by
  have : ((i : Int) * 24 + (k : Int) * 1) = ((i * 24 + k : Nat) : Int) := by omega
  rw [this]
  exact Ret.seto (by rw [tab_len]; omega) (by rw [tab_set hi hk]; exact q)
section
variable {h : Hunt} {l : List Filing} (v : Vd h l)
include v
theorem r_open0 : Ret (P.ring_open h l) (· = (some (hk h l), 0)) := by
  have hlen := v.len
  have hw := v.win
  have hc := v.com
  unfold P.ring_open
  refine Ret.bindM (r_ringCheck (by omega) fun f hf => by have := v.prl f hf; omega) ?_
  rintro _ rfl
  rw [check_iff.2 v]
  refine Ret.condF rfl ?_
  refine Ret.bindM (Q' := fun r => r.2 = l.map (·.id) ∧ ∀ p, (r.1 p).getD 0 = (cnt l p : Int)) (Ret.upto l.length (fun n (s : Int × List Int × FMap Int Int) => s.1 = (n : Int) ∧ s.2.1 = (l.take n).map (·.id) ∧ ∀ p, (s.2.2 p).getD 0 = (cnt (l.take n) p : Int)) ⟨rfl, rfl, fun p => rfl⟩ ?_ ?_) ?_
  · rintro n hn ⟨_, _, m⟩ ⟨rfl, rfl, hm⟩
    dsimp only at hm ⊢
    have hp := v.prl _ (List.getElem_mem hn)
    have hpt := v.prt _ (List.getElem_mem hn)
    refine Ret.condT (lt_cast hn) (Ret.bind (ixR hn (Ret.bind (Ret.appo (by simp; omega) (by simp; omega) ?_))))
    refine Ret.bindM (Q' := fun r => ∀ p, (r p).getD 0 = (cnt (l.take (n + 1)) p : Int)) (Ret.upto l[n].parts.length (fun k (s : Int × FMap Int Int) => s.1 = (k : Int) ∧ ∀ p, (s.2 p).getD 0 = (cnt (l.take n) p : Int) + (if p ∈ l[n].parts.take k then 1 else 0)) ⟨rfl, fun p => by simp [hm]⟩ ?_ ?_) ?_
    · rintro k hk ⟨_, m2⟩ ⟨rfl, hm2⟩
      dsimp only at hm2 ⊢
      have hcn := cnt_le (l.take n) l[n].parts[k]
      rw [List.length_take] at hcn
      have hnot : l[n].parts[k] ∉ l[n].parts.take k := fun hmem => by
        obtain ⟨j, hj, e⟩ := List.getElem_of_mem hmem
        have hjk : j < k := by simp at hj; omega
        have := (List.pairwise_iff_getElem.1 hpt) j k (by omega) hk hjk
        simp at e; omega
      refine Ret.condT (lt_cast hk) (Ret.bind (ixR hk (Ret.bind (Ret.chk ?_ (Ret.bind (Ret.chk (by omega) (Ret.next ⟨rfl, fun p => ?_⟩)))))))
      · rw [hm2, if_neg hnot]; omega
      · rw [hm2 l[n].parts[k], if_neg hnot]
        simp only [fput]
        have hiff : p ∈ l[n].parts.take (k + 1) ↔ p ∈ l[n].parts.take k ∨ p = l[n].parts[k] := by rw [take_succ hk, List.mem_append, List.mem_singleton]
        by_cases e : p = l[n].parts[k]
        · rw [if_pos e, if_pos (hiff.2 (.inr e)), e]
          simp
        · rw [if_neg e, hm2 p]
          by_cases e2 : p ∈ l[n].parts.take k
          · rw [if_pos e2, if_pos (hiff.2 (.inl e2))]
          · rw [if_neg e2, if_neg fun h => (hiff.1 h).elim e2 e]
    · rintro ⟨_, m2⟩ ⟨rfl, hm2⟩
      dsimp only at hm2 ⊢
      rw [List.take_length] at hm2
      refine Ret.condF not_lt_cast (Ret.done fun p => ?_)
      rw [hm2, cnt_take hn]
      split <;> simp
    · intro m2 hm2
      refine Ret.bind (Ret.chk (by omega) (Ret.next ⟨rfl, ?_, hm2⟩))
      dsimp only
      rw [take_succ hn, List.map_append]; rfl
  · rintro ⟨_, _, m⟩ ⟨rfl, rfl, hm⟩
    dsimp only at hm ⊢
    rw [List.take_length] at hm ⊢
    exact Ret.condF not_lt_cast (Ret.done ⟨rfl, hm⟩)
  rintro ⟨m, _⟩ ⟨rfl, hm⟩
  dsimp only at hm ⊢
  refine Ret.bind (Ret.val (a := prs l.length) (by unfold P.ring_pairs; rw [if_pos (by omega)]) ?_)
  rw [tab_zero]
  refine Ret.bind (Ret.over (fun (pre : List (Int × Int)) (s : List Int) => ∃ f, s = tab f ∧ (∀ a b, 0 ≤ f a b ∧ f a b ≤ 6000 * pre.length) ∧ (pre.Nodup → ∀ a b : Nat, f a b = if ((a : Int), (b : Int)) ∈ pre ∨ ((b : Int), (a : Int)) ∈ pre then w h l a b else 0)) ⟨fun _ _ => 0, rfl, fun _ _ => by simp, fun _ _ _ => by simp⟩ ?_ ?_)
  · rintro pre ⟨i, k⟩ _ hpl hall hx ⟨f, rfl, hf1, hf2⟩
    rw [prs_len] at hpl
    have hx := prs_mem.1 hx
    obtain ⟨i, rfl⟩ : ∃ n : Nat, i = n := ⟨i.toNat, by omega⟩
    obtain ⟨k, rfl⟩ : ∃ n : Nat, k = n := ⟨k.toNat, by omega⟩
    have hi : i < l.length := by omega
    have hk : k < l.length := by omega
    have htri : tri l.length ≤ 300 := by
      have : l.length = 0 ∨ l.length = 1 ∨ l.length = 2 ∨ l.length = 3 ∨ l.length = 4 ∨ l.length = 5 ∨ l.length = 6 ∨ l.length = 7 ∨ l.length = 8 ∨ l.length = 9 ∨ l.length = 10 ∨ l.length = 11 ∨ l.length = 12 ∨ l.length = 13 ∨ l.length = 14 ∨ l.length = 15 ∨ l.length = 16 ∨ l.length = 17 ∨ l.length = 18 ∨ l.length = 19 ∨ l.length = 20 ∨ l.length = 21 ∨ l.length = 22 ∨ l.length = 23 ∨ l.length = 24 := by omega
      rcases this with h | h | h | h | h | h | h | h | h | h | h | h | h | h | h | h | h | h | h | h | h | h | h | h | h <;> rw [h] <;> decide
    have hd1 := v.day _ (List.getElem_mem hi)
    have hd2 := v.day _ (List.getElem_mem hk)
    have hp1 := v.prl _ (List.getElem_mem hi)
    have hp2 := v.prl _ (List.getElem_mem hk)
    have hw0 := (v.win_ i k)
    -- what is so behind it, if what is written is the old and the weight
    have fin : ∀ g : Nat → Nat → Int, (∀ a b, g a b = if a = i ∧ b = k ∨ a = k ∧ b = i then f i k + w h l i k else f a b) → ∃ f', tab g = tab f' ∧ (∀ a b, 0 ≤ f' a b ∧ f' a b ≤ 6000 * (pre ++ [((i : Int), (k : Int))]).length) ∧ ((pre ++ [((i : Int), (k : Int))]).Nodup → ∀ a b : Nat, f' a b = if ((a : Int), (b : Int)) ∈ (pre ++ [((i : Int), (k : Int))]) ∨ ((b : Int), (a : Int)) ∈ (pre ++ [((i : Int), (k : Int))]) then w h l a b else 0) := fun g hg => by
      refine ⟨g, rfl, fun a b => ?_, fun hnd a b => ?_⟩
      · rw [hg, List.length_append, List.length_singleton]
        have := hf1 i k
        have := hf1 a b
        split <;> omega
      · rw [List.nodup_append] at hnd
        have hold := hf2 hnd.1
        have hni : ((i : Int), (k : Int)) ∉ pre := fun hm => hnd.2.2 _ hm _ (List.mem_singleton.2 rfl) rfl
        rw [hg]
        simp only [List.mem_append, List.mem_singleton, Prod.mk.injEq]
        by_cases e : a = i ∧ b = k ∨ a = k ∧ b = i
        · rw [if_pos e, if_pos (by omega)]
          have : f i k = 0 := by
            rw [hold, if_neg]
            rintro (h1 | h1)
            · exact hni h1
            · have := hall _ h1
              have := prs_mem.1 this
              omega
          rw [this]
          rcases e with ⟨rfl, rfl⟩ | ⟨rfl, rfl⟩
          · omega
          · rw [v.wcomm]; omega
        · rw [if_neg e, hold]
          have e1 : ¬ ((a : Int) = i ∧ (b : Int) = k) := by omega
          have e2 : ¬ ((b : Int) = i ∧ (a : Int) = k) := by omega
          simp only [e1, e2, or_false]
    dsimp only
    refine Ret.bind (Ret.bind (ixR hi (Ret.bind (ixR hk (Ret.bind (Ret.chk (by omega) (Ret.bind (Ret.chk (by omega) (Ret.cond (fun hgt => Ret.ok (Ret.ok ?_)) (fun hle => ?_))))))))))
    · have hgt := of_decide_eq_true hgt
      have hz : w h l i k = 0 := by
        rw [w_at hi hk]; unfold wt; rw [if_pos (by omega)]
      refine ⟨f, rfl, fun a b => ?_, fun hnd a b => ?_⟩
      · have := hf1 a b
        rw [List.length_append, List.length_singleton]; omega
      · rw [List.nodup_append] at hnd
        rw [hf2 hnd.1]
        simp only [List.mem_append, List.mem_singleton, Prod.mk.injEq]
        by_cases e : a = i ∧ b = k ∨ a = k ∧ b = i
        · have hz2 : w h l a b = 0 := by
            rcases e with ⟨rfl, rfl⟩ | ⟨rfl, rfl⟩
            · exact hz
            · rw [v.wcomm]; exact hz
          rw [hz2]; simp
        · have e1 : ¬ ((a : Int) = i ∧ (b : Int) = k) := by omega
          have e2 : ¬ ((b : Int) = i ∧ (a : Int) = k) := by omega
          simp only [e1, e2, or_false]
    · have hle := of_decide_eq_false hle
      have hwt : w h l i k = wsum h l l[i].parts l[k].parts := by
        rw [w_at hi hk]; unfold wt; rw [if_neg (by omega)]
      have hfik := hf1 i k
      refine Ret.bind (ixR hi ?_)
      refine Ret.bindM (Q' := fun r => r = tab (upd2 f i k (f i k + w h l i k))) (Ret.upto l[i].parts.length (fun n (s : Int × List Int) => s = ((n : Int), tab (upd2 f i k (f i k + wsum h l (l[i].parts.take n) l[k].parts)))) ?_ ?_ ?_) ?_
      · congr 2
        funext a b
        unfold upd2 wsum
        split
        · rename_i e; rw [e.1, e.2]; simp
        · rfl
      · rintro n hn _ rfl
        dsimp only
        have hs := wsum_in h l (l[i].parts.take n) l[k].parts
        have hpt := part_in h l l[i].parts[n]
        rw [List.length_take] at hs
        have hcl := cnt_le l l[i].parts[n]
        have hstep : wsum h l (l[i].parts.take (n + 1)) l[k].parts = wsum h l (l[i].parts.take n) l[k].parts + (if l[i].parts[n] ∈ l[k].parts then ptw h l l[i].parts[n] else 0) := by
          unfold wsum
          rw [take_succ hn, List.filter_append, List.map_append, List.sum_append]
          congr 1
          by_cases hp : l[i].parts[n] ∈ l[k].parts <;> simp [hp]
        refine Ret.condT (lt_cast hn) (Ret.bind (ixR hn ?_))
        rw [hm]
        refine Ret.bindM (Q' := fun b => b = decide ((cnt l l[i].parts[n] : Int) < h.common ∧ l[i].parts[n] ∈ l[k].parts)) (Ret.cond (fun hlt => ?_) (fun hge => Ret.ok ?_)) ?_
        · refine Ret.bind (ixR hk (Ret.bindM (r_Contains (by omega)) ?_))
          rintro _ rfl
          have hlt := of_decide_eq_true hlt
          exact Ret.ok (by rw [decide_eq_decide]; exact ⟨fun h => ⟨hlt, h⟩, fun h => h.2⟩)
        · have hge := of_decide_eq_false hge
          exact (decide_eq_false fun h => hge h.1).symm
        rintro _ rfl
        refine Ret.bindM (Q' := fun r => r = tab (upd2 f i k (f i k + wsum h l (l[i].parts.take (n + 1)) l[k].parts))) (Ret.cond (fun hb => ?_) (fun hb => Ret.ok ?_)) ?_
        · obtain ⟨hb1, hb2⟩ := of_decide_eq_true hb
          have h2 := cnt_two hi (by omega) (List.getElem_mem hn) hb2
          have hpw : ptw h l l[i].parts[n] = 1000 / ((cnt l l[i].parts[n] : Int) - 1) := by unfold ptw; rw [if_neg (by omega)]
          refine Ret.bind (r_ixA (by omega) (Ret.bind (r_ixA (by omega) (Ret.bind (r_tab (by omega) (by omega) (Ret.bind (Ret.chk (by omega) (Ret.bind (Ret.quoO (by decide) (by omega) (by decide) ?_)))))))))
          rw [upd2_self, ← hpw]
          refine Ret.bind (Ret.chk (by omega) (Ret.bind (r_ixA (by omega) (Ret.bind (r_ixA (by omega) (Ret.bind (r_tabS (by omega) (by omega) (Ret.ok ?_))))))))
          rw [upd2_upd2, hstep, if_pos hb2]
          congr 2
          omega
        · have hb := of_decide_eq_false hb
          congr 2
          rw [hstep]
          by_cases hin : l[i].parts[n] ∈ l[k].parts
          · rw [if_pos hin]
            have : ptw h l l[i].parts[n] = 0 := by unfold ptw; rw [if_pos]; right; have : ¬ (cnt l l[i].parts[n] : Int) < h.common := fun h => hb ⟨h, hin⟩; omega
            omega
          · rw [if_neg hin]; omega
        · rintro _ rfl
          exact Ret.bind (Ret.chk (by omega) (Ret.next rfl))
      · rintro _ rfl
        dsimp only
        rw [List.take_length, ← hwt]
        exact Ret.condF not_lt_cast (Ret.done rfl)
      · rintro _ rfl
        refine Ret.bind (r_ixA (by omega) (Ret.bind (r_ixA (by omega) (Ret.bind (r_tab (by omega) (by omega) ?_)))))
        rw [upd2_self]
        refine Ret.bind (r_ixA (by omega) (Ret.bind (r_ixA (by omega) (Ret.bind (r_tabS (by omega) (by omega) (Ret.ok (Ret.ok (fin _ fun a b => ?_))))))))
        unfold upd2
        by_cases e1 : a = i ∧ b = k
        · by_cases e2 : a = k ∧ b = i
          · omega
          · rw [if_neg e2, if_pos e1, if_pos (.inl e1)]
        · by_cases e2 : a = k ∧ b = i
          · rw [if_pos e2, if_pos (.inr e2)]
          · rw [if_neg e2, if_neg e1, if_neg (by omega)]
  · rintro _ ⟨f, rfl, _, hf⟩
    refine Ret.ok ?_
    have hf := hf (prs_nodup _)
    show (some (Hunt_94.mk h (l.map (·.id)) (tab f)), (0 : Int)) = (some (hk h l), 0)
    unfold hk
    congr 3
    refine tab_ext fun a b ha hb => ?_
    rw [hf]
    simp only [prs_mem]
    unfold wm
    by_cases e : a = b
    · rw [if_pos e, if_neg (by omega)]
    · rw [if_neg e]
      by_cases h1 : a < l.length ∧ b < l.length
      · rw [if_pos (by omega)]
      · rw [if_neg (by omega)]
        unfold w
        rcases Nat.lt_or_ge a l.length with h2 | h2
        · rw [List.getElem?_eq_none (show l.length ≤ b by omega)]
          cases l[a]? <;> rfl
        · rw [List.getElem?_eq_none h2]
end
theorem r_open (h : Hunt) {l : List Filing} (hl : l.length ≤ 30) (hp : ∀ f ∈ l, f.parts.length ≤ 20) : Ret (P.ring_open h l) (· = if check h l = 0 then (some (hk h l), 0) else (none, check h l)) := by
  by_cases hc : check h l = 0
  · rw [if_pos hc]; exact r_open0 (check_iff.1 hc)
  · rw [if_neg hc]
    unfold P.ring_open
    refine Ret.bindM (r_ringCheck hl hp) ?_
    rintro _ rfl
    exact Ret.condT (by simp [hc]) (Ret.ok rfl)
namespace S
def two (l : List Filing) (a b : Int) : Int × Int × Int :=
  if idx (ids l) a < 0 ∨ idx (ids l) b < 0 then (0, 0, 6) else if idx (ids l) a = idx (ids l) b then (0, 0, 2) else (idx (ids l) a, idx (ids l) b, 0)
/-- Two different filings that are there. -/
theorem two_cases (l : List Filing) (a b : Int) : (two l a b = (0, 0, 6) ∧ (a ∉ ids l ∨ b ∉ ids l)) ∨ (two l a b = (0, 0, 2) ∧ a = b ∧ a ∈ ids l) ∨ ∃ i k : Nat, two l a b = ((i : Int), (k : Int), 0) ∧ idx (ids l) a = i ∧ idx (ids l) b = k ∧ i < l.length ∧ k < l.length ∧ i ≠ k ∧ (ids l)[i]? = some a ∧ (ids l)[k]? = some b := by
  unfold two
  have hlen : (ids l).length = l.length := by simp [ids]
  rcases idx_cases (ids l) a with ⟨i, h1, hi, h2⟩ | ⟨h1, h2⟩
  · rcases idx_cases (ids l) b with ⟨k, h3, hk, h4⟩ | ⟨h3, h4⟩
    · rw [h1, h3, if_neg (by omega)]
      by_cases e : i = k
      · subst e
        rw [if_pos rfl]
        exact .inr (.inl ⟨rfl, h2.symm.trans h4, h2 ▸ List.getElem_mem hi⟩)
      · rw [if_neg (by omega)]
        exact .inr (.inr ⟨i, k, rfl, rfl, rfl, by omega, by omega, e, by rw [← h2]; exact List.getElem?_eq_getElem hi, by rw [← h4]; exact List.getElem?_eq_getElem hk⟩)
    · rw [if_pos (by omega)]; exact .inl ⟨rfl, .inr h4⟩
  · rw [if_pos (by omega)]; exact .inl ⟨rfl, .inl h2⟩
theorem Weight_two {h : Hunt} {l : List Filing} (hc : check h l = 0) (a b : Int) : Weight h l a b = if (two l a b).2.2 = 0 then (w h l (two l a b).1.toNat (two l a b).2.1.toNat, 0) else (0, (two l a b).2.2) := by
  unfold Weight two
  rw [if_pos hc]
  split
  · rfl
  · split <;> rfl
end S
theorem r_two {x : Hunt_94} {l : List Filing} (hx : x.ids = ids l) (hl : l.length ≤ 9223372036854775807) (a b : Int) : Ret (P.ring_hunt_two x a b) (· = two l a b) := by
  unfold P.ring_hunt_two
  rw [hx]
  have hlen : (ids l).length ≤ 9223372036854775807 := by simpa [ids] using hl
  refine Ret.bindM (r_Index hlen) ?_
  rintro _ rfl
  refine Ret.bindM (r_Index hlen) ?_
  rintro _ rfl
  unfold two
  refine Ret.bindM (Q' := fun c => c = decide (idx (ids l) a < 0 ∨ idx (ids l) b < 0)) (Ret.cond (fun h2 => Ret.ok ?_) (fun h2 => Ret.ok ?_)) ?_
  · have h2 := of_decide_eq_true h2
    simp [h2]
  · have h2 := of_decide_eq_false h2
    rw [decide_eq_decide]; omega
  · rintro _ rfl
    refine Ret.cond (fun h2 => Ret.ok ?_) (fun h2 => Ret.cond (fun h3 => Ret.ok ?_) (fun h3 => Ret.ok ?_))
    · rw [if_pos (of_decide_eq_true h2)]
    · rw [if_neg (of_decide_eq_false h2), if_pos (of_decide_eq_true h3)]
    · rw [if_neg (of_decide_eq_false h2), if_neg (of_decide_eq_false h3)]
theorem r_ringWeight (h : Hunt) {l : List Filing} (hl : l.length ≤ 30) (hp : ∀ f ∈ l, f.parts.length ≤ 20) (a b : Int) : Ret (P.ring_Weight h l a b) (· = Weight h l a b) := by
  unfold P.ring_Weight
  refine Ret.bindM (r_open h hl hp) ?_
  rintro _ rfl
  by_cases hc : check h l = 0
  · rw [if_pos hc, Weight_two hc]
    have v := check_iff.1 hc
    have hlen := v.len
    refine Ret.condF rfl (Ret.bind (Ret.ok (Ret.bindM (r_two (x := hk h l) rfl (by omega) a b) ?_)))
    rintro _ rfl
    rcases two_cases l a b with ⟨e, _⟩ | ⟨e, _⟩ | ⟨i, k, e, h1, h2, hi, hk', hne, _⟩
    · rw [e]; exact Ret.condT rfl (Ret.ok rfl)
    · rw [e]; exact Ret.condT rfl (Ret.ok rfl)
    · rw [e]
      refine Ret.condF rfl (Ret.bind (Ret.ok (Ret.bind (r_ixA (by omega) (Ret.bind (r_ixA (by omega) (Ret.bind (r_tab (by omega) (by omega) (Ret.ok ?_)))))))))
      unfold wm
      rw [if_neg hne]; rfl
  · rw [if_neg hc]
    unfold Weight
    rw [if_neg hc]
    exact Ret.condT (by simp [hc]) (Ret.ok rfl)
end Go.Proofs.Ytdbogmmdogjhpaa
set_option maxRecDepth 20000
set_option maxHeartbeats 1000000
set_option linter.unusedVariables false
set_option linter.unusedSimpArgs false
namespace Go.Proofs.Ytdbogmmdogjhpaa
open Go Go.Sx
open Go.Rx (ixA)
noncomputable def wayL (h_ : Hunt_94) : Option (List Int) := loopM (S := (Int × (List Int))) (R := ((List Int))) (fun (x46, x47) => cond (decide (x46 < (h_.ids.length : Int))) (Option.bind (loopM (S := (Int × (List Int))) (R := ((List Int))) (fun (x48, x49) => cond (decide (x48 < (h_.ids.length : Int))) (Option.bind (loopM (S := (Int × (List Int))) (R := ((List Int))) (fun (x50, x51) => cond (decide (x50 < (h_.ids.length : Int))) (Option.bind (ixA 24 x48) fun i52 => Option.bind (ixA 24 x50) fun i53 => Option.bind (ixo x51 (i52 * 24 + i53 * 1)) fun y54 => Option.bind (ixA 24 x48) fun i55 => Option.bind (ixA 24 x46) fun i56 => Option.bind (ixo x51 (i55 * 24 + i56 * 1)) fun y57 => Option.bind (ixA 24 x46) fun i58 => Option.bind (ixA 24 x50) fun i59 => Option.bind (ixo x51 (i58 * 24 + i59 * 1)) fun y60 => Option.bind (ixA 24 x48) fun i61 => Option.bind (ixA 24 x50) fun i62 => Option.bind (seto x51 (i61 * 24 + i62 * 1) (max y54 (min y57 y60))) fun l63 => Option.bind (chk .i64 (x50 + 1)) fun n64 => some (Sum.inl (n64, l63))) (some (Sum.inr x51))) ((0 : Int), x49)) ((fun x65 => Option.bind (chk .i64 (x48 + 1)) fun n66 => some (Sum.inl (n66, x65))))) (some (Sum.inr x49))) ((0 : Int), x47)) ((fun x67 => Option.bind (chk .i64 (x46 + 1)) fun n68 => some (Sum.inl (n68, x67))))) (some (Sum.inr x47))) ((0 : Int), h_.weights)
theorem widest_eq (h_ : Hunt_94) (from_ to_ : Int) : P.ring_hunt_widest h_ from_ to_ = Option.bind (wayL h_) ((fun x69 => Option.bind (ixA 24 from_) fun i70 => Option.bind (ixA 24 to_) fun i71 => Option.bind (ixo x69 (i70 * 24 + i71 * 1)) fun y72 => cond (decide (y72 = 0)) (none) (Option.bind (ixA 24 from_) fun i73 => Option.bind (ixA 24 to_) fun i74 => Option.bind (ixo x69 (i73 * 24 + i74 * 1)) fun y75 => some y75))) := rfl
theorem widestp_eq (h_ : Hunt_94) (from_ to_ : Int) : P.ring_hunt_widest_p h_ from_ to_ = Option.bind (wayL h_) ((fun x69 => Option.bind (ixA 24 from_) fun i70 => Option.bind (ixA 24 to_) fun i71 => Option.bind (ixo x69 (i70 * 24 + i71 * 1)) fun y72 => cond (decide (y72 = 0)) (some (Apart.mk from_ to_)) (Option.bind (ixA 24 from_) fun i73 => Option.bind (ixA 24 to_) fun i74 => Option.bind (ixo x69 (i73 * 24 + i74 * 1)) fun y75 => none))) := rfl
open S
open Go.Rx (ixA)
/-- Numbers as Go has them. -/
def zl (p : List Nat) : List Int := p.map fun (n : Nat) => (n : Int)
theorem zl_len (p : List Nat) : (zl p).length = p.length := by simp [zl]
theorem zl_snoc (p : List Nat) (k : Nat) : zl p ++ [(k : Int)] = zl (p ++ [k]) := by simp [zl]
theorem zl_get {p : List Nat} {i k : Nat} (h : p[i]? = some k) : (zl p)[i]? = some (k : Int) := by simp [zl, h]
section
variable {h : Hunt} {l : List Filing} (v : Vd h l)
include v
omit v in
theorem wm_le {s : Int} (hs : 1 ≤ s) {a b : Nat} : s ≤ wm h l a b ↔ a ≠ b ∧ s ≤ w h l a b := by
  unfold wm
  by_cases e : a = b
  · rw [if_pos e]; exact ⟨fun h => by omega, fun h => absurd e h.1⟩
  · rw [if_neg e]; exact ⟨fun h => ⟨e, h⟩, fun h => h.2⟩
theorem wm_in (a b : Nat) : 0 ≤ wm h l a b ∧ wm h l a b ≤ 6000 := by
  unfold wm
  split
  · omega
  · exact v.win_ a b
omit v in
theorem hk_ids : (hk h l).ids.length = l.length := by simp [hk]
theorem r_way : Ret (wayL (hk h l)) (fun r => ∃ g, r = tab g ∧ (∀ a b, 0 ≤ g a b) ∧ ∀ s, 1 ≤ s → ∀ a b, a < l.length → b < l.length → (s ≤ g a b ↔ Wr s (wm h l) l.length a b)) := by
  have hlen := v.len
  unfold wayL
  refine Ret.upto l.length (fun n (t : Int × List Int) => ∃ g, t = ((n : Int), tab g) ∧ (∀ a b, 0 ≤ g a b) ∧ ∀ s, 1 ≤ s → ∀ a b, a < l.length → b < l.length → (s ≤ g a b ↔ Wr s (wm h l) n a b)) ⟨wm h l, rfl, fun a b => (wm_in v a b).1, fun s _ a b _ _ => Iff.rfl⟩ ?_ ?_
  · rintro n hn _ ⟨g, rfl, hg0, hg⟩
    dsimp only
    refine Ret.condT (by rw [hk_ids]; exact lt_cast hn) ?_
    refine Ret.bindM (Q' := fun r => ∃ g, r = tab g ∧ (∀ a b, 0 ≤ g a b) ∧ ∀ s, 1 ≤ s → ∀ a b, a < l.length → b < l.length → (s ≤ g a b ↔ Wr s (wm h l) (n + 1) a b)) (Ret.upto l.length (fun i (t : Int × List Int) => ∃ g, t = ((i : Int), tab g) ∧ (∀ a b, 0 ≤ g a b) ∧ ∀ s, 1 ≤ s → ∀ a b, a < l.length → b < l.length → (s ≤ g a b ↔ if a < i then Wr s (wm h l) (n + 1) a b else Wr s (wm h l) n a b)) ⟨g, rfl, hg0, fun s hs a b ha hb => by rw [if_neg (by omega)]; exact hg s hs a b ha hb⟩ ?_ ?_) ?_
    · rintro i hi _ ⟨g, rfl, hg0, hg⟩
      dsimp only
      refine Ret.condT (by rw [hk_ids]; exact lt_cast hi) ?_
      refine Ret.bindM (Q' := fun r => ∃ g, r = tab g ∧ (∀ a b, 0 ≤ g a b) ∧ ∀ s, 1 ≤ s → ∀ a b, a < l.length → b < l.length → (s ≤ g a b ↔ if a < i + 1 then Wr s (wm h l) (n + 1) a b else Wr s (wm h l) n a b)) (Ret.upto l.length (fun k (t : Int × List Int) => ∃ g, t = ((k : Int), tab g) ∧ (∀ a b, 0 ≤ g a b) ∧ ∀ s, 1 ≤ s → ∀ a b, a < l.length → b < l.length → (s ≤ g a b ↔ if a < i ∨ (a = i ∧ b < k) then Wr s (wm h l) (n + 1) a b else Wr s (wm h l) n a b)) ⟨g, rfl, hg0, fun s hs a b ha hb => by rw [hg s hs a b ha hb]; by_cases e : a < i <;> simp [e]⟩ ?_ ?_) ?_
      · rintro k hk' _ ⟨g, rfl, hg0, hg⟩
        dsimp only
        refine Ret.condT (by rw [hk_ids]; exact lt_cast hk') ?_
        refine Ret.bind <| r_ixA (by omega) <| Ret.bind <| r_ixA (by omega) <| Ret.bind <| r_tab (by omega) (by omega) <| Ret.bind <| r_ixA (by omega) <| Ret.bind <| r_ixA (by omega) <| Ret.bind <| r_tab (by omega) (by omega) <| Ret.bind <| r_ixA (by omega) <| Ret.bind <| r_ixA (by omega) <| Ret.bind <| r_tab (by omega) (by omega) <| Ret.bind <| r_ixA (by omega) <| Ret.bind <| r_ixA (by omega) <| Ret.bind <| r_tabS (by omega) (by omega) <| Ret.bind <| Ret.chk (by omega) <| Ret.next ⟨_, rfl, fun a b => ?_, fun s hs a b ha hb => ?_⟩
        · unfold upd2
          split
          · have := hg0 i k; omega
          · exact hg0 a b
        · unfold upd2
          have e1 : s ≤ g i n ↔ Wr s (wm h l) n i n := by
            rw [hg s hs i n hi hn]
            split
            · exact wr_row
            · exact Iff.rfl
          have e2 : s ≤ g n k ↔ Wr s (wm h l) n n k := by
            rw [hg s hs n k hn hk']
            split
            · exact wr_col
            · exact Iff.rfl
          by_cases e : a = i ∧ b = k
          · obtain ⟨rfl, rfl⟩ := e
            rw [if_pos ⟨rfl, rfl⟩, if_pos (.inr ⟨rfl, by omega⟩)]
            have e3 := hg s hs a b hi hk'
            rw [if_neg (by omega)] at e3
            show _ ↔ Wr s (wm h l) n a b ∨ (Wr s (wm h l) n a n ∧ Wr s (wm h l) n n b)
            rw [← e1, ← e2, ← e3]
            omega
          · rw [if_neg e, hg s hs a b ha hb]
            by_cases e5 : a < i ∨ (a = i ∧ b < k)
            · rw [if_pos e5, if_pos (by omega)]
            · rw [if_neg e5, if_neg (by omega)]
      · rintro _ ⟨g, rfl, hg0, hg⟩
        dsimp only
        refine Ret.condF (by rw [hk_ids]; exact not_lt_cast) (Ret.done ⟨g, rfl, hg0, fun s hs a b ha hb => ?_⟩)
        rw [hg s hs a b ha hb]
        by_cases e5 : a < i + 1
        · rw [if_pos e5, if_pos (by omega)]
        · rw [if_neg e5, if_neg (by omega)]
      · rintro _ ⟨g, rfl, hg0, hg⟩
        exact Ret.bind (Ret.chk (by omega) (Ret.next ⟨g, rfl, hg0, hg⟩))
    · rintro _ ⟨g, rfl, hg0, hg⟩
      dsimp only
      refine Ret.condF (by rw [hk_ids]; exact not_lt_cast) (Ret.done ⟨g, rfl, hg0, fun s hs a b ha hb => ?_⟩)
      rw [hg s hs a b ha hb, if_pos ha]
    · rintro _ ⟨g, rfl, hg0, hg⟩
      exact Ret.bind (Ret.chk (by omega) (Ret.next ⟨g, rfl, hg0, hg⟩))
  · rintro _ ⟨g, rfl, hg0, hg⟩
    dsimp only
    exact Ret.condF (by rw [hk_ids]; exact not_lt_cast) (Ret.done ⟨g, rfl, hg0, hg⟩)
omit v in
theorem wr_iff {s : Int} (hs : 1 ≤ s) {i k : Nat} (hi : i < l.length) (hk : k < l.length) (hne : i ≠ k) : Wr s (wm h l) l.length i k ↔ Rc l.length (w h l) s i k :=
  ⟨fun hr => wr_rc (fun a b hab => ((wm_le hs).1 hab).2) (Nat.le_refl _) hi hk hr, fun hr => (rc_wr (fun a b hne hab => (wm_le hs).2 ⟨hne, hab⟩) hr).resolve_left hne⟩
theorem r_widest {i k : Nat} (hi : i < l.length) (hk' : k < l.length) (hne : i ≠ k) :
    (Rc l.length (w h l) 1 i k → Ret (P.ring_hunt_widest (hk h l) i k) fun b => 1 ≤ b ∧ b ≤ 6000 ∧ Rc l.length (w h l) b i k ∧ ¬ Rc l.length (w h l) (b + 1) i k) ∧
    (¬ Rc l.length (w h l) 1 i k → P.ring_hunt_widest (hk h l) i k = none ∧ P.ring_hunt_widest_p (hk h l) i k = some (Apart.mk i k)) := by
  have hlen := v.len
  obtain ⟨_, h1, g, rfl, hg0, hg⟩ := r_way v
  rw [widest_eq, widestp_eq, h1]
  have ha : ixA 24 (i : Int) = some (i : Int) := by unfold ixA; rw [if_pos ⟨by omega, by omega⟩]
  have hb : ixA 24 (k : Int) = some (k : Int) := by unfold ixA; rw [if_pos ⟨by omega, by omega⟩]
  have ht : ixo (tab g) ((i : Int) * 24 + (k : Int) * 1) = some (g i k) := by
    rw [show ((i : Int) * 24 + (k : Int) * 1) = ((i * 24 + k : Nat) : Int) by omega]
    exact ixo_at (tab_get (by omega) (by omega))
  have hg1 := fun s hs => (hg s hs i k hi hk').trans (wr_iff hs hi hk' hne)
  have h0 := hg0 i k
  constructor
  · intro hr
    have h2 := (hg1 1 (by omega)).2 hr
    rw [bindS]
    refine Ret.bind <| r_ixA (by omega) <| Ret.bind <| r_ixA (by omega) <| Ret.bind <| r_tab (by omega) (by omega) <| Ret.condF (decide_eq_false (by omega)) <| Ret.bind <| r_ixA (by omega) <| Ret.bind <| r_ixA (by omega) <| Ret.bind <| r_tab (by omega) (by omega) <| Ret.ok ⟨h2, ?_, (hg1 _ h2).1 (Int.le_refl _), fun hn => ?_⟩
    · have h3 := (hg1 _ h2).1 (Int.le_refl _)
      rcases Int.lt_or_le 6000 (g i k) with h4 | h4
      · exfalso
        have h6 := Rc.ind (p := fun x => x = i) rfl (fun a b _ he => absurd (Int.le_trans he.2.2 (v.win_ a b).2) (by omega)) h3
        exact hne h6.symm
      · exact h4
    · have := (hg1 (g i k + 1) (by omega)).2 hn
      omega
  · intro hr
    have h2 : ¬ 1 ≤ g i k := fun h => hr ((hg1 1 (by omega)).1 h)
    have h3 : g i k = 0 := by omega
    rw [h3] at ht
    constructor
    · rw [bindS, ha, bindS, hb, bindS, ht, bindS]; rfl
    · rw [bindS, ha, bindS, hb, bindS, ht, bindS]; rfl
/-! Chains. -/
abbrev VS (l : List Filing) (h : Hunt) (s : Int) (i d : Nat) (L : List (List Nat × Nat)) : Prop :=
  (∀ x ∈ L, Pw l.length (w h l) s i d x.1 x.2 ∧ IsD l.length (w h l) s i x.2 d) ∧
  L.Pairwise (fun x y => val l.length x.1 < val l.length y.1) ∧
  (∀ q c, Pw l.length (w h l) s i d q c → IsD l.length (w h l) s i c d → ∃ x ∈ L, x.2 = c ∧ val l.length x.1 ≤ val l.length q) ∧
  (L.map (·.2)).Nodup
omit v in
theorem r_Clone {s : List Int} (hs : s.length ≤ 1000000) : Ret (P.slices_Clone_69 s) (· = s) := by
  have e : appo 8 ([] : List Int) s = some s := by rw [appo_ok (by simp; omega) (by simp; omega)]; rfl
  refine ⟨s, ?_, rfl⟩
  unfold P.slices_Clone_69
  rw [e, bindS]
  unfold nilq
  by_cases h0 : s = []
  · subst h0
    rw [if_pos rfl]
    refine (if_pos ?_).trans ?_ <;> rfl
  · rw [if_neg h0]; rfl
/-- Where a scan of walks stands: what was made of walks ahead of (n, k). -/
structure Sc (h : Hunt) (l : List Filing) (s : Int) (i d : Nat) (L : List (List Nat × Nat)) (dn : Nat → Nat → Prop) (L' : List (List Nat × Nat)) (m : FMap Int Bool) : Prop where
  a : ∀ x ∈ L', ∃ (a : Nat) (y : List Nat × Nat), L[a]? = some y ∧ dn a x.2 ∧ x.1 = y.1 ++ [x.2] ∧ Ed l.length (w h l) s y.2 x.2 ∧ IsD l.length (w h l) s i x.2 (d + 1)
  b : L'.Pairwise (fun x y => val l.length x.1 < val l.length y.1)
  c : ∀ (a : Nat) (y : List Nat × Nat), L[a]? = some y → ∀ c : Nat, dn a c → Ed l.length (w h l) s y.2 c → IsD l.length (w h l) s i c (d + 1) → ∃ x ∈ L', x.2 = c ∧ val l.length x.1 ≤ val l.length (y.1 ++ [c])
  d : ∀ c : Nat, c < l.length → ((m c).getD false = true ↔ (∃ m ≤ d, IsD l.length (w h l) s i c m) ∨ ∃ x ∈ L', x.2 = c)
  f : (L'.map (·.2)).Nodup
omit v in
theorem Sc.len {s : Int} {i d : Nat} {L L' : List (List Nat × Nat)} {dn : Nat → Nat → Prop} {m : FMap Int Bool} (hsc : Sc h l s i d L dn L' m) : L'.length ≤ l.length := by
  have := nodup_len hsc.f fun x hx => by
    obtain ⟨y, hy, rfl⟩ := List.mem_map.1 hx
    obtain ⟨_, _, _, _, _, he, _⟩ := hsc.a y hy
    exact he.2.1
  simpa using this
omit v in
theorem Sc.to {s : Int} {i d : Nat} {L L' : List (List Nat × Nat)} {dn dn' : Nat → Nat → Prop} {m : FMap Int Bool} (hsc : Sc h l s i d L dn L' m) (h1 : ∀ a c, a < L.length → c < l.length → (dn a c ↔ dn' a c)) : Sc h l s i d L dn' L' m :=
  ⟨fun x hx => by
    obtain ⟨a, y, h2, h3, h4, h5, h6⟩ := hsc.a x hx
    exact ⟨a, y, h2, (h1 a x.2 (get_lt h2) h5.2.1).1 h3, h4, h5, h6⟩, hsc.b, fun a y h2 c h3 h4 => hsc.c a y h2 c ((h1 a c (get_lt h2) h4.2.1).2 h3) h4, hsc.d, hsc.f⟩
omit v in
theorem VS.next {s : Int} {i d : Nat} {L L' : List (List Nat × Nat)} {m : FMap Int Bool} (hV : VS l h s i d L) (hsc : Sc h l s i d L (fun a c => True) L' m) : VS l h s i (d + 1) L' := by
  refine ⟨fun x hx => ?_, hsc.b, fun q c hq hc => ?_, hsc.f⟩
  · obtain ⟨a, y, h2, h3, h4, h5, h6⟩ := hsc.a x hx
    rw [h4]
    exact ⟨.cons (hV.1 y (List.mem_of_getElem? h2)).1 h5, h6⟩
  · cases hq with
    | @cons _ p j _ h1 he =>
      have hj : IsD l.length (w h l) s i j d := ⟨h1.wk, fun m' hm' h3 => hc.2 (m' + 1) (by omega) ⟨j, h3, he⟩⟩
      obtain ⟨x, hx, h3, h4⟩ := hV.2.2.1 p j h1 hj
      obtain ⟨a, ha⟩ := List.getElem?_of_mem hx
      obtain ⟨x', h5, h6, h7⟩ := hsc.c a x ha c trivial (h3 ▸ he) hc
      refine ⟨x', h5, h6, Nat.le_trans h7 ?_⟩
      rw [val_snoc, val_snoc]
      have := Nat.mul_le_mul_right l.length h4
      omega
omit v in
theorem Sc.add {s : Int} {i d n c : Nat} {L L' : List (List Nat × Nat)} {m : FMap Int Bool} (hV : VS l h s i d L) {y : List Nat × Nat} (hy : L[n]? = some y) (hc : c < l.length) (hns : (m c).getD false = false) (he : Ed l.length (w h l) s y.2 c) (hsc : Sc h l s i d L (fun a x => a < n ∨ (a = n ∧ x < c)) L' m) :
    Sc h l s i d L (fun a x => a < n ∨ (a = n ∧ x < c + 1)) (L' ++ [(y.1 ++ [c], c)]) (fput m c true) := by
  obtain ⟨hyp, hyd⟩ := hV.1 y (List.mem_of_getElem? hy)
  have hns2 : ¬ ((∃ m ≤ d, IsD l.length (w h l) s i c m) ∨ ∃ x ∈ L', x.2 = c) := fun h => by rw [(hsc.d c hc).2 h] at hns; cases hns
  have hcd : IsD l.length (w h l) s i c (d + 1) := by
    obtain ⟨q, hq, h2⟩ := hyd.next he
    by_cases e : q = d + 1
    · subst e; exact h2
    · exact absurd (.inl ⟨q, by omega, h2⟩) hns2
  refine ⟨fun x hx => ?_, ?_, fun a z hz x ha hez hd => ?_, fun x hx => ?_, ?_⟩
  · rcases List.mem_append.1 hx with hx | hx
    · obtain ⟨a, z, h1, h2, h3⟩ := hsc.a x hx
      exact ⟨a, z, h1, by omega, h3⟩
    · rw [List.mem_singleton.1 hx]
      exact ⟨n, y, hy, .inr ⟨rfl, by omega⟩, rfl, he, hcd⟩
  · rw [List.pairwise_append]
    refine ⟨hsc.b, by simp, fun x hx z hz => ?_⟩
    rw [List.mem_singleton.1 hz]
    obtain ⟨a, u, h1, h2, h3, h4, h5⟩ := hsc.a x hx
    rw [h3]
    rcases h2 with h2 | ⟨rfl, h2⟩
    · refine val_lt h4.2.1 ?_
      obtain ⟨g1, rfl⟩ := List.getElem?_eq_some_iff.1 h1
      obtain ⟨g2, rfl⟩ := List.getElem?_eq_some_iff.1 hy
      exact (List.pairwise_iff_getElem.1 hV.2.1) a n g1 g2 h2
    · rw [hy] at h1; cases h1
      dsimp only
      rw [val_snoc, val_snoc]; omega
  · by_cases e : a < n ∨ (a = n ∧ x < c)
    · obtain ⟨u, h1, h2, h3⟩ := hsc.c a z hz x e hez hd
      exact ⟨u, List.mem_append_left _ h1, h2, h3⟩
    · obtain ⟨rfl, rfl⟩ : a = n ∧ x = c := by omega
      rw [hy] at hz; cases hz
      exact ⟨_, List.mem_append_right _ (List.mem_singleton.2 rfl), rfl, Nat.le_refl _⟩
  · simp only [fput]
    by_cases e : x = c
    · subst e
      rw [if_pos rfl]
      simp only [Option.getD_some, true_iff]
      exact .inr ⟨_, List.mem_append_right _ (List.mem_singleton.2 rfl), rfl⟩
    · rw [if_neg (by omega), hsc.d x hx]
      constructor
      · rintro (h1 | ⟨z, h1, h2⟩)
        · exact .inl h1
        · exact .inr ⟨z, List.mem_append_left _ h1, h2⟩
      · rintro (h1 | ⟨z, h1, h2⟩)
        · exact .inl h1
        · rcases List.mem_append.1 h1 with h1 | h1
          · exact .inr ⟨z, h1, h2⟩
          · rw [List.mem_singleton.1 h1] at h2; exact absurd h2.symm e
  · rw [List.map_append, List.nodup_append]
    refine ⟨hsc.f, by simp, fun a ha b hb e => ?_⟩
    obtain ⟨z, hz, rfl⟩ := List.mem_map.1 ha
    have hb : b = c := by simpa using hb
    exact hns2 (.inr ⟨z, hz, e.trans hb⟩)
omit v in
theorem Sc.pass {s : Int} {i d n c : Nat} {L L' : List (List Nat × Nat)} {m : FMap Int Bool} (hV : VS l h s i d L) {y : List Nat × Nat} (hy : L[n]? = some y) (hc : c < l.length) (hno : (m c).getD false = false → ¬ (y.2 ≠ c ∧ s ≤ w h l y.2 c)) (hsc : Sc h l s i d L (fun a x => a < n ∨ (a = n ∧ x < c)) L' m) :
    Sc h l s i d L (fun a x => a < n ∨ (a = n ∧ x < c + 1)) L' m := by
  obtain ⟨hyp, hyd⟩ := hV.1 y (List.mem_of_getElem? hy)
  refine ⟨fun x hx => ?_, hsc.b, fun a z hz x ha hez hd => ?_, hsc.d, hsc.f⟩
  · obtain ⟨a, z, h1, h2, h3⟩ := hsc.a x hx
    exact ⟨a, z, h1, by omega, h3⟩
  · by_cases e : a < n ∨ (a = n ∧ x < c)
    · exact hsc.c a z hz x e hez hd
    · obtain ⟨rfl, rfl⟩ : a = n ∧ x = c := by omega
      rw [hy] at hz; cases hz
      have hne : y.2 ≠ x := fun e2 => by
        rw [← e2] at hd
        have := hd.uniq hyd; omega
      cases hmx : (m x).getD false with
      | false => exact absurd ⟨hne, hez.2.2⟩ (hno hmx)
      | true =>
        rcases (hsc.d x hc).1 hmx with ⟨q, h1, h2⟩ | ⟨z, h1, h2⟩
        · have := h2.uniq hd; omega
        · refine ⟨z, h1, h2, ?_⟩
          obtain ⟨b, u, h3, h4, h5, h6, h7⟩ := hsc.a z h1
          rw [h5, val_snoc, val_snoc, h2]
          have hb : b < a := by
            rcases h4 with h4 | ⟨_, h4⟩
            · exact h4
            · omega
          obtain ⟨g1, rfl⟩ := List.getElem?_eq_some_iff.1 h3
          obtain ⟨g2, rfl⟩ := List.getElem?_eq_some_iff.1 hy
          have := (List.pairwise_iff_getElem.1 hV.2.1) b a g1 g2 hb
          have := Nat.mul_le_mul_right l.length (Nat.le_of_lt this)
          omega
theorem round {s : Int} (hs : 1 ≤ s) {i k : Nat} (hi : i < l.length) (hk' : k < l.length) {D : Nat} (hD : IsD l.length (w h l) s i k D) {d : Nat} (hd : d ≤ D) {L : List (List Nat × Nat)} {m : FMap Int Bool} (hV : VS l h s i d L) (hm : ∀ c : Nat, c < l.length → ((m c).getD false = true ↔ ∃ m ≤ d, IsD l.length (w h l) s i c m)) {Q : (List (List Int) × FMap Int Bool) ⊕ List Int → Prop}
    (q1 : d = D → ∀ p, Best l.length (w h l) s i k p → Q (.inr (zl p))) (q2 : d < D → ∀ L' m', VS l h s i (d + 1) L' → L' ≠ [] → (∀ c : Nat, c < l.length → ((m' c).getD false = true ↔ ∃ m ≤ d + 1, IsD l.length (w h l) s i c m)) → Q (.inl (L'.map (fun x => zl x.1), m'))) :
    Ret (loopM (S := ((List (List Int)) × Int × (FMap Int Bool))) (R := (((List (List Int)) × (FMap Int Bool)) ⊕ (List Int))) (fun (x56, x57, x58) => cond (decide (x57 < ((L.map (fun x => zl x.1)).length : Int))) (Option.bind (ixo (L.map (fun x => zl x.1)) x57) fun y59 => Option.bind (chk .i64 ((y59.length : Int) - 1)) fun n60 => Option.bind (ixo y59 n60) fun y61 => cond (decide (y61 = (k : Int))) (some (Sum.inr (Sum.inr y59))) (Option.bind (loopM (S := ((List (List Int)) × Int × (FMap Int Bool))) (R := ((List (List Int)) × (FMap Int Bool))) (fun (x62, x63, x64) => cond (decide (x63 < ((hk h l).ids.length : Int))) (Option.bind (α := (Bool)) (cond ((!((x64 x63).getD false))) (Option.bind (ixA 24 y61) fun i65 => Option.bind (ixA 24 x63) fun i66 => Option.bind (ixo (hk h l).weights (i65 * 24 + i66 * 1)) fun y67 => some (decide (s ≤ y67))) (some false)) ((fun x68 => Option.bind (α := ((List (List Int)) × (FMap Int Bool))) (cond (x68) (Option.bind (P.slices_Clone_69 y59) fun r69 => Option.bind (appo 8 r69 ([x63])) fun l70 => Option.bind (appo 24 x62 ([l70])) fun l71 => some (l71, (fput x64 x63 true))) (some (x62, x64))) ((fun (x72, x73) => Option.bind (chk .i64 (x63 + 1)) fun n74 => some (Sum.inl (x72, n74, x73))))))) (some (Sum.inr (x62, x64)))) (x56, (0 : Int), x58)) ((fun (x75, x76) => Option.bind (chk .i64 (x57 + 1)) fun n77 => some (Sum.inl (x75, n77, x76)))))) (some (Sum.inr (Sum.inl (x56, x58))))) (([] : (List (List Int))), (0 : Int), m)) Q := by
  have hlen := v.len
  have hDN := hD.lt hi
  have hLl : L.length ≤ l.length := by
    have := nodup_len hV.2.2.2 fun x hx => by
      obtain ⟨y, hy, rfl⟩ := List.mem_map.1 hx
      exact (hV.1 y hy).1.wk.lt hi
    simpa using this
  refine Ret.upto L.length (fun n t => ∃ L', t.1 = L'.map (fun x => zl x.1) ∧ t.2.1 = (n : Int) ∧ Sc h l s i d L (fun a c => a < n) L' t.2.2 ∧ ∀ a < n, ∀ y, L[a]? = some y → y.2 ≠ k) ⟨[], rfl, rfl, ⟨fun x hx => (by cases hx), .nil, fun a y h1 c h2 => (by omega), fun c hc => (by rw [hm c hc]; simp), (by simp)⟩, fun a ha => (by omega)⟩ ?_ ?_
  · rintro n hn ⟨_, _, m'⟩ ⟨L', rfl, rfl, hsc, hno⟩
    dsimp only at hsc ⊢
    have hy := List.getElem?_eq_getElem hn
    obtain ⟨hyp, hyd⟩ := hV.1 _ (List.getElem_mem hn)
    generalize L[n] = y at hy hyp hyd
    refine Ret.condT (by rw [List.length_map]; exact lt_cast hn) <| Ret.bind <| Ret.ixo (y := zl y.1) (by rw [List.getElem?_map, hy]; rfl) <| Ret.bind <| Ret.chk (by rw [zl_len, hyp.len]; omega) ?_
    rw [show ((zl y.1).length : Int) - 1 = (d : Int) by rw [zl_len, hyp.len]; omega]
    refine Ret.bind <| Ret.ixo (zl_get hyp.last) <| Ret.cond (fun he => Ret.done ?_) (fun he => ?_)
    · have he : y.2 = k := by have := of_decide_eq_true he; omega
      rw [he] at hyd hyp
      refine q1 (hyd.uniq hD) y.1 ⟨d, hyd, hyp, fun q hq => ?_⟩
      obtain ⟨x, hx, h1, h2⟩ := hV.2.2.1 q k hq hyd
      obtain ⟨a, ha⟩ := List.getElem?_of_mem hx
      have : a = n := by
        obtain ⟨g1, e1⟩ := List.getElem?_eq_some_iff.1 ha
        obtain ⟨g2, e2⟩ := List.getElem?_eq_some_iff.1 hy
        have hnd := List.pairwise_iff_getElem.1 (show List.Pairwise (· ≠ ·) _ from hV.2.2.2)
        rcases Nat.lt_trichotomy a n with h3 | h3 | h3
        · have := hnd a n (by simpa using g1) (by simpa using g2) h3
          simp only [List.getElem_map] at this
          rw [e1, e2, h1, he] at this
          exact absurd rfl this
        · exact h3
        · have := hnd n a (by simpa using g2) (by simpa using g1) h3
          simp only [List.getElem_map] at this
          rw [e1, e2, h1, he] at this
          exact absurd rfl this
      subst this
      rw [hy] at ha; cases ha
      exact h2
    · have he : y.2 ≠ k := fun e => by have := of_decide_eq_false he; omega
      have hyl : y.2 < l.length := hyp.wk.lt hi
      refine Ret.bindM (Q' := fun r => ∃ L', r.1 = L'.map (fun x => zl x.1) ∧ Sc h l s i d L (fun a c => a < n + 1) L' r.2) (Ret.upto l.length (fun c t => ∃ L', t.1 = L'.map (fun x => zl x.1) ∧ t.2.1 = (c : Int) ∧ Sc h l s i d L (fun a x => a < n ∨ (a = n ∧ x < c)) L' t.2.2) ⟨L', rfl, rfl, hsc.to fun a c _ _ => by omega⟩ ?_ ?_) ?_
      · rintro c hc ⟨_, _, m2⟩ ⟨L2, rfl, rfl, hs2⟩
        dsimp only at hs2 ⊢
        have h2l := hs2.len
        refine Ret.condT (by rw [hk_ids]; exact lt_cast hc) ?_
        refine Ret.bindM (Q' := fun b => b = decide ((m2 c).getD false = false ∧ (y.2 ≠ c ∧ s ≤ w h l y.2 c))) (Ret.cond (fun hb => ?_) (fun hb => Ret.ok ?_)) ?_
        · have hb : (m2 c).getD false = false := by simpa using hb
          refine Ret.bind <| r_ixA (by omega) <| Ret.bind <| r_ixA (by omega) <| Ret.bind <| r_tab (by omega) (by omega) <| Ret.ok ?_
          rw [decide_eq_decide, wm_le hs]
          exact ⟨fun h => ⟨hb, h⟩, fun h => h.2⟩
        · have hb : ¬ (m2 c).getD false = false := by simpa using hb
          exact (decide_eq_false fun h => hb h.1).symm
        rintro _ rfl
        refine Ret.bindM (Q' := fun r => ∃ L', r.1 = L'.map (fun x => zl x.1) ∧ Sc h l s i d L (fun a x => a < n ∨ (a = n ∧ x < c + 1)) L' r.2) (Ret.cond (fun hb => ?_) (fun hb => Ret.ok ?_)) ?_
        · obtain ⟨hb1, hb2, hb3⟩ := of_decide_eq_true hb
          have hpl := hyp.len
          have hdd := hyd.lt hi
          refine Ret.bindM (r_Clone (by rw [zl_len]; omega)) ?_
          rintro _ rfl
          refine Ret.bind <| Ret.appo (by simp [zl_len]; omega) (by simp [zl_len]; omega) <| Ret.bind <| Ret.appo (by simp; omega) (by simp; omega) <| Ret.ok ⟨L2 ++ [(y.1 ++ [c], c)], ?_, hs2.add hV hy hc hb1 ⟨hyl, hc, hb3⟩⟩
          rw [zl_snoc, List.map_append]; rfl
        · have hb := of_decide_eq_false hb
          exact ⟨L2, rfl, hs2.pass hV hy hc fun h1 h2 => hb ⟨h1, h2⟩⟩
        · rintro ⟨_, m3⟩ ⟨L3, rfl, hs3⟩
          exact Ret.bind <| Ret.chk (by omega) <| Ret.next ⟨L3, rfl, rfl, hs3⟩
      · rintro ⟨_, _, m2⟩ ⟨L2, rfl, rfl, hs2⟩
        dsimp only at hs2 ⊢
        exact Ret.condF (by rw [hk_ids]; exact not_lt_cast) <| Ret.done ⟨L2, rfl, hs2.to fun a c _ _ => by omega⟩
      · rintro ⟨_, m2⟩ ⟨L2, rfl, hs2⟩
        refine Ret.bind <| Ret.chk (by omega) <| Ret.next ⟨L2, rfl, rfl, hs2, fun a ha z hz => ?_⟩
        by_cases e : a = n
        · subst e; rw [hy] at hz; cases hz; exact he
        · exact hno a (by omega) z hz
  · rintro ⟨_, _, m'⟩ ⟨L', rfl, rfl, hsc, hno⟩
    dsimp only at hsc ⊢
    refine Ret.condF (by rw [List.length_map]; exact not_lt_cast) <| Ret.done ?_
    have hV' := hV.next (hsc.to (dn' := fun _ _ => True) fun a c ha _ => by simp [ha])
    have hlt : d < D := by
      rcases Nat.lt_or_ge d D with h1 | h1
      · exact h1
      · have : d = D := by omega
        subst this
        obtain ⟨p, hp⟩ := Pw.of hD.1
        obtain ⟨x, hx, h2, _⟩ := hV.2.2.1 p k hp hD
        obtain ⟨a, ha⟩ := List.getElem?_of_mem hx
        exact absurd h2 (hno a (get_lt ha) x ha)
    refine q2 hlt L' m' hV' (fun e => ?_) fun c hc => ?_
    · obtain ⟨j, hj⟩ := hD.all (d + 1) hlt
      obtain ⟨p, hp⟩ := Pw.of hj.1
      obtain ⟨x, hx, _⟩ := hV'.2.2.1 p j hp hj
      rw [e] at hx; cases hx
    · rw [hsc.d c hc]
      constructor
      · rintro (⟨q, h1, h2⟩ | ⟨x, hx, rfl⟩)
        · exact ⟨q, by omega, h2⟩
        · exact ⟨d + 1, Nat.le_refl _, (hV'.1 x hx).2⟩
      · rintro ⟨q, h1, h2⟩
        by_cases e : q = d + 1
        · subst e
          obtain ⟨p, hp⟩ := Pw.of h2.1
          obtain ⟨x, hx, h3, _⟩ := hV'.2.2.1 p c hp h2
          exact .inr ⟨x, hx, h3⟩
        · exact .inl ⟨q, by omega, h2⟩
theorem r_chain {s : Int} (hs : 1 ≤ s) {i k : Nat} (hi : i < l.length) (hk' : k < l.length) (hr : Rc l.length (w h l) s i k) :
    Ret (P.ring_hunt_chain (hk h l) i k s) fun r => ∃ p, r = zl p ∧ Best l.length (w h l) s i k p := by
  obtain ⟨D, hD⟩ := IsD.of hr
  unfold P.ring_hunt_chain
  refine Ret.bindM (Q' := fun r => ∃ p, r = zl p ∧ Best l.length (w h l) s i k p) (Ret.upto D (fun d (t : List (List Int) × FMap Int Bool) => ∃ L, t.1 = L.map (fun x => zl x.1) ∧ VS l h s i d L ∧ (∀ c : Nat, c < l.length → ((t.2 c).getD false = true ↔ ∃ m ≤ d, IsD l.length (w h l) s i c m))) ?_ ?_ ?_) fun r hr => Ret.ok hr
  · refine ⟨[([i], i)], by simp [zl], ⟨fun x hx => ?_, by simp, fun q c hq hc => ?_, by simp⟩, fun c hc => ?_⟩
    · rw [List.mem_singleton.1 hx]; exact ⟨.nil, .zero⟩
    · cases hq; exact ⟨_, List.mem_singleton.2 rfl, rfl, Nat.le_refl _⟩
    · simp only [fput]
      by_cases e : c = i
      · rw [if_pos (by omega)]
        simp only [Option.getD_some, true_iff]
        exact ⟨0, Nat.le_refl _, e ▸ .zero⟩
      · rw [if_neg (by omega)]
        simp only [fnone, Option.getD_none, Bool.false_eq_true, false_iff]
        rintro ⟨m, hm, h2⟩
        have : m = 0 := by omega
        subst this
        exact e h2.1
  · rintro d hd ⟨_, m⟩ ⟨L, rfl, hV, hm⟩
    dsimp only at hm ⊢
    refine Ret.bind (round v hs hi hk' hD (Nat.le_of_lt hd) hV hm (fun e => by omega) fun _ L' m' hV' hne hm' => ?_)
    refine Ret.elimL ?_
    dsimp only
    refine Ret.condT (decide_eq_true ?_) (Ret.next ⟨L', rfl, hV', hm'⟩)
    rw [List.length_map]
    have := List.length_pos_iff.2 hne
    omega
  · rintro ⟨_, m⟩ ⟨L, rfl, hV, hm⟩
    dsimp only at hm ⊢
    refine Ret.bind (round v hs hi hk' hD (Nat.le_refl _) hV hm (fun _ p hp => ?_) fun hlt => by omega)
    exact Ret.elimR (Ret.done ⟨p, rfl, hp⟩)
end
end Go.Proofs.Ytdbogmmdogjhpaa
set_option maxRecDepth 20000
set_option maxHeartbeats 1000000
set_option linter.unusedVariables false
set_option linter.unusedSimpArgs false
namespace Go.Sx
theorem Ret.thro {ε Z : Type} {o : Option ε} {K : ε → Option Z} {z : Option Z} {Q : Z → Prop} (h : Ret z Q) : Ret (Go.Rx.thro o K z) Q := by
  obtain ⟨a, h1, h2⟩ := h
  exact ⟨a, by unfold Go.Rx.thro; rw [h1], h2⟩
theorem Ret.threw {ε Z : Type} {o : Option ε} {K : ε → Option Z} {z : Option Z} {Q : Z → Prop} {e : ε} (hz : z = none) (ho : o = some e) (h : Ret (K e) Q) : Ret (Go.Rx.thro o K z) Q := by
  obtain ⟨a, h1, h2⟩ := h
  exact ⟨a, by unfold Go.Rx.thro; rw [hz, ho]; exact h1, h2⟩
end Go.Sx
namespace Go.Proofs.Ytdbogmmdogjhpaa
open Go Go.Sx
open Go.Rx (ixA)
namespace S
def tie (h : Hunt) (l : List Filing) (i k : Nat) : Tie := ⟨(ids l).getD i 0, (ids l).getD k 0, w h l i k⟩
def ties (h : Hunt) (l : List Filing) : List Nat → List Tie
  | i :: k :: r => tie h l i k :: ties h l (k :: r)
  | _ => []
theorem ties_snoc (h : Hunt) (l : List Filing) (j k : Nat) : ∀ xs : List Nat, ties h l (xs ++ [j] ++ [k]) = ties h l (xs ++ [j]) ++ [tie h l j k]
  | [] => rfl
  | [x] => rfl
  | x :: y :: r => by
    have := ties_snoc h l j k (y :: r)
    simp only [List.cons_append, ties] at this ⊢
    rw [this]
theorem ties_len (h : Hunt) (l : List Filing) : ∀ p : List Nat, (ties h l p).length = p.length - 1
  | [] => rfl
  | [_] => rfl
  | _ :: k :: r => by simp only [ties, List.length_cons, ties_len h l (k :: r)]; omega
abbrev RC (h : Hunt) (l : List Filing) (s : Int) (i k : Nat) : Prop := Rc l.length (w h l) s i k
/-- The strength of two filings. -/
def Wide (h : Hunt) (l : List Filing) (s : Int) (i k : Nat) : Prop := 1 ≤ s ∧ s ≤ 6000 ∧ RC h l s i k ∧ ¬ RC h l (s + 1) i k
/-- What is told of why two filings are tied. -/
def Why (h : Hunt) (l : List Filing) (a b : Int) (r : List Tie × Int) : Prop :=
  (check h l ≠ 0 ∧ r = ([], check h l)) ∨ (check h l = 0 ∧ (two l a b).2.2 ≠ 0 ∧ r = ([], (two l a b).2.2)) ∨
  (check h l = 0 ∧ ∃ i k : Nat, two l a b = ((i : Int), (k : Int), 0) ∧ i < l.length ∧ k < l.length ∧ i ≠ k ∧ ((¬ RC h l 1 i k ∧ r = ([], 6)) ∨ ∃ s p, Wide h l s i k ∧ Best l.length (w h l) s i k p ∧ r = (ties h l p, 0)))
theorem Wide.uniq {h : Hunt} {l : List Filing} {s t : Int} {i k : Nat} (h1 : Wide h l s i k) (h2 : Wide h l t i k) : s = t := by
  rcases Int.lt_trichotomy s t with h3 | h3 | h3
  · exact absurd (h2.2.2.1.mono (show s + 1 ≤ t by omega)) h1.2.2.2
  · exact h3
  · exact absurd (h1.2.2.1.mono (show t + 1 ≤ s by omega)) h2.2.2.2
theorem Why.uniq {h : Hunt} {l : List Filing} {a b : Int} {r r' : List Tie × Int} (h1 : Why h l a b r) (h2 : Why h l a b r') : r = r' := by
  rcases h1 with ⟨c, rfl⟩ | ⟨c, c2, rfl⟩ | ⟨c, i, k, c2, hi, hk, hne, h1⟩
  · rcases h2 with ⟨d, rfl⟩ | ⟨d, d2, rfl⟩ | ⟨d, _⟩
    · rfl
    · exact absurd d c
    · exact absurd d c
  · rcases h2 with ⟨d, rfl⟩ | ⟨d, d2, rfl⟩ | ⟨d, i, k, d2, _⟩
    · exact absurd c d
    · rfl
    · rw [d2] at c2; exact absurd rfl c2
  · rcases h2 with ⟨d, rfl⟩ | ⟨d, d2, rfl⟩ | ⟨d, i', k', d2, hi', hk', hne', h2⟩
    · exact absurd c d
    · rw [c2] at d2; exact absurd rfl d2
    · rw [c2] at d2
      simp only [Prod.mk.injEq] at d2
      obtain ⟨e1, e2, _⟩ := d2
      obtain rfl : i = i' := by omega
      obtain rfl : k = k' := by omega
      rcases h1 with ⟨h1, rfl⟩ | ⟨s, p, h1, h3, rfl⟩
      · rcases h2 with ⟨h2, rfl⟩ | ⟨s', p', h2, h4, rfl⟩
        · rfl
        · exact absurd (h2.2.2.1.mono h2.1) h1
      · rcases h2 with ⟨h2, rfl⟩ | ⟨s', p', h2, h4, rfl⟩
        · exact absurd (h1.2.2.1.mono h1.1) h2
        · have := h1.uniq h2
          subst this
          rw [h3.uniq hi h4]
theorem Pw.get {N : Nat} {W : Nat → Nat → Int} {s : Int} {i k m : Nat} {p : List Nat} (h : Pw N W s i m p k) : ∀ t ≤ m, ∃ j, p[t]? = some j ∧ Pw N W s i t (p.take (t + 1)) j ∧ Wk N W s j (m - t) k := fun t ht => by
  obtain ⟨j, h1, h2⟩ := h.split t ht
  refine ⟨j, ?_, h1, h2⟩
  have := h1.last
  rwa [List.getElem?_take, if_pos (by omega)] at this
/-- Neighbours on a shortest walk are two. -/
theorem Pw.ne {N : Nat} {W : Nat → Nat → Int} {s : Int} {i k m : Nat} {p : List Nat} (h : Pw N W s i m p k) (hd : IsD N W s i k m) {t a b : Nat} (ht : t + 1 ≤ m) (ha : p[t]? = some a) (hb : p[t + 1]? = some b) : a ≠ b := fun e => by
  subst e
  obtain ⟨j, h1, h2, _⟩ := h.get t (by omega)
  obtain ⟨j', h3, _, h4⟩ := h.get (t + 1) ht
  rw [ha] at h1; cases h1
  rw [hb] at h3; cases h3
  exact hd.2 (t + (m - (t + 1))) (by omega) (h2.wk.add h4)
end S
open S
section
variable {h : Hunt} {l : List Filing} (v : Vd h l)
include v
omit v in
theorem ids_at {i : Nat} {Q : Int → Prop} (hi : i < l.length) (q : Q ((ids l).getD i 0)) : Ret (ixo (ids l) (i : Int)) Q := by
  refine ixR (by simpa [ids] using hi) ?_
  have hl : i < (ids l).length := by simpa [ids] using hi
  have : (ids l).getD i 0 = (ids l)[i] := by simp [List.getD, hl]
  rwa [this] at q
omit v in
theorem id_at {i : Nat} (hi : i < l.length) : (ids l).getD i 0 = l[i].id := by simp [List.getD, ids, hi]
theorem r_ringWhy0 (a b : Int) : Ret (P.ring_Why h l a b) (Why h l a b) := by
  have hlen := v.len
  have hc := check_iff.2 v
  unfold P.ring_Why
  refine Ret.bindM (r_open0 v) ?_
  rintro _ rfl
  dsimp only
  refine Ret.condF rfl <| Ret.bind <| Ret.ok <| Ret.bindM (r_two (x := hk h l) (l := l) rfl (by omega) a b) ?_
  rintro _ rfl
  have h0 : ∀ e, (two l a b).2.2 = e → e ≠ 0 → Why h l a b ([], e) := fun e he hne => by subst he; exact .inr (.inl ⟨hc, hne, rfl⟩)
  rcases two_cases l a b with ⟨e, _⟩ | ⟨e, _⟩ | ⟨i, k, e, h1, h2, hi, hk', hne, _⟩
  · rw [e]; exact Ret.condT rfl (Ret.ok (h0 6 (by rw [e]) (by decide)))
  · rw [e]; exact Ret.condT rfl (Ret.ok (h0 2 (by rw [e]) (by decide)))
  rw [e]
  dsimp only
  refine Ret.condF rfl <| Ret.bind <| Ret.ok ?_
  have hmk : ∀ r, ((¬ RC h l 1 i k ∧ r = ([], 6)) ∨ ∃ s p, Wide h l s i k ∧ Best l.length (w h l) s i k p ∧ r = (ties h l p, 0)) → Why h l a b r := fun r hr => .inr (.inr ⟨hc, i, k, e, hi, hk', hne, hr⟩)
  by_cases hr : RC h l 1 i k
  · refine Ret.thro <| Ret.bind <| Ret.ok <| Ret.bindM ((r_widest v hi hk' hne).1 hr) ?_
    rintro s ⟨hs1, hs2, hs3, hs4⟩
    refine Ret.bind <| Ret.ok <| Ret.thro <| Ret.bind <| Ret.ok <| Ret.bindM (r_chain v hs1 hi hk' hs3) ?_
    rintro _ ⟨p, rfl, hb⟩
    have hb0 := hb
    obtain ⟨m, hd, hp, _⟩ := hb
    have hpl := hp.len
    have hml := hd.lt hi
    have hmem := hp.mem hi
    refine Ret.bind <| Ret.val (a := (zl p).drop 1) (by unfold cutLo; rw [if_pos ⟨by omega, by rw [zl_len]; omega⟩]; rfl) ?_
    have hdl : ((zl p).drop 1).length = m := by rw [List.length_drop, zl_len]; omega
    refine Ret.bindM (Q' := fun r => r = ties h l p) (Ret.upto m (fun n (t : Int × List Tie) => t = ((n : Int), ties h l (p.take (n + 1)))) ?_ ?_ ?_) fun r hr => Ret.ok (hmk _ (.inr ⟨s, p, ⟨hs1, hs2, hs3, hs4⟩, hb0, by rw [hr]⟩))
    · obtain ⟨j, h3, h4, _⟩ := hp.get 0 (Nat.zero_le _)
      cases hpp : p with
      | nil => rw [hpp] at hpl; cases hpl
      | cons x r => simp [ties]
    · rintro n hn _ rfl
      dsimp only
      obtain ⟨x, hx, _, _⟩ := hp.get n (by omega)
      obtain ⟨y, hy, _, _⟩ := hp.get (n + 1) (by omega)
      have hxN := hmem x (List.mem_of_getElem? hx)
      have hyN := hmem y (List.mem_of_getElem? hy)
      have hxy := hp.ne hd (t := n) (by omega) hx hy
      have htl := ties_len h l (p.take (n + 1))
      rw [List.length_take] at htl
      have e1 : p.take (n + 1) = p.take n ++ [x] := by rw [List.take_add_one, hx]; rfl
      have e2 : p.take (n + 1 + 1) = p.take (n + 1) ++ [y] := by rw [List.take_add_one, hy]; rfl
      refine Ret.condT (by rw [hdl]; exact lt_cast hn) <| Ret.bind <| Ret.ixo (y := (y : Int)) (by rw [List.getElem?_drop, Nat.add_comm]; exact zl_get hy) <| Ret.bind <| Ret.ok <| Ret.bind <| Ret.ixo (zl_get hx) <| Ret.bind <| ids_at hxN <| Ret.bind <| Ret.ok <| Ret.bind <| ids_at hyN <| Ret.bind <| Ret.ixo (zl_get hx) <| Ret.bind <| Ret.ok <| Ret.bind <| r_ixA (by omega) <| Ret.bind <| r_ixA (by omega) <| Ret.bind <| r_tab (by omega) (by omega) <| Ret.bind <| Ret.appo (by rw [List.length_singleton]; omega) (by rw [List.length_singleton]; omega) <| Ret.bind <| Ret.chk (by omega) <| Ret.next ?_
      rw [e2, e1, ties_snoc, ← e1]
      unfold tie wm
      rw [if_neg hxy]; rfl
    · rintro _ rfl
      dsimp only
      rw [List.take_of_length_le (by omega)]
      exact Ret.condF (by rw [hdl]; exact not_lt_cast) (Ret.done rfl)
  · obtain ⟨h3, h4⟩ := (r_widest v hi hk' hne).2 hr
    refine Ret.threw ?_ h4 (Ret.ok (hmk _ (.inl ⟨hr, rfl⟩)))
    rw [bindS, h3]; rfl
end
theorem r_ringWhy (h : Hunt) {l : List Filing} (hl : l.length ≤ 30) (hp : ∀ f ∈ l, f.parts.length ≤ 20) (a b : Int) : Ret (P.ring_Why h l a b) (Why h l a b) := by
  by_cases hc : check h l = 0
  · exact r_ringWhy0 (check_iff.1 hc) a b
  · unfold P.ring_Why
    refine Ret.bindM (r_open h hl hp) ?_
    rw [if_neg hc]
    rintro _ rfl
    exact Ret.condT (by simp [hc]) (Ret.ok (.inl ⟨hc, rfl⟩))
/-! The reference. -/
end Go.Proofs.Ytdbogmmdogjhpaa
set_option maxRecDepth 20000
set_option maxHeartbeats 1000000
set_option linter.unusedVariables false
set_option linter.unusedSimpArgs false
namespace Go.Proofs.Ytdbogmmdogjhpaa
open Go Go.Sx
open Go.Rx (ixA)
namespace S
/-! What is picked of the first numbers. -/
open Classical in
noncomputable def fr (p : Nat → Prop) (n : Nat) : List Nat := (List.range n).filter fun k => decide (p k)
theorem fr_succ {p : Nat → Prop} {n : Nat} : fr p (n + 1) = fr p n ++ (open Classical in if p n then [n] else []) := by
  unfold fr
  rw [List.range_succ, List.filter_append]
  congr 1
  by_cases h : p n <;> simp [h]
theorem fr_in {p : Nat → Prop} {n : Nat} (h : p n) : fr p (n + 1) = fr p n ++ [n] := by rw [fr_succ, if_pos h]
theorem fr_out {p : Nat → Prop} {n : Nat} (h : ¬ p n) : fr p (n + 1) = fr p n := by rw [fr_succ, if_neg h, List.append_nil]
theorem mem_fr {p : Nat → Prop} {n k : Nat} : k ∈ fr p n ↔ k < n ∧ p k := by unfold fr; simp
theorem fr_len {p : Nat → Prop} {n : Nat} : (fr p n).length ≤ n := by
  have := List.length_filter_le (fun k => (open Classical in decide (p k))) (List.range n)
  simpa [fr] using this
theorem fr_lt {p : Nat → Prop} {n : Nat} : (fr p n).Pairwise (· < ·) := List.pairwise_lt_range.filter _
theorem fr_nodup {p : Nat → Prop} {n : Nat} : (fr p n).Nodup := List.nodup_range.filter _
theorem fr_sub {p q : Nat → Prop} {n : Nat} (h : ∀ k < n, p k → q k) : (fr p n).length ≤ (fr q n).length :=
  sub_len _ _ fr_nodup fun k hk => mem_fr.2 ⟨(mem_fr.1 hk).1, h k (mem_fr.1 hk).1 (mem_fr.1 hk).2⟩
theorem fr_less {p q : Nat → Prop} {n a : Nat} (h : ∀ k < n, p k → q k) (ha : a < n) (h1 : q a) (h2 : ¬ p a) : (fr p n).length < (fr q n).length := by
  have h3 : (a :: fr p n).length ≤ (fr q n).length := sub_len _ _ (List.nodup_cons.2 ⟨fun h => h2 (mem_fr.1 h).2, fr_nodup⟩) fun k hk => by
    rcases List.mem_cons.1 hk with rfl | hk
    · exact mem_fr.2 ⟨ha, h1⟩
    · exact mem_fr.2 ⟨(mem_fr.1 hk).1, h k (mem_fr.1 hk).1 (mem_fr.1 hk).2⟩
  exact h3
theorem fr_congr {p q : Nat → Prop} {n : Nat} (h : ∀ k < n, (p k ↔ q k)) : fr p n = fr q n := by
  unfold fr
  refine List.filter_congr fun k hk => ?_
  have := h k (List.mem_range.1 hk)
  by_cases e : p k
  · simp [e, this.1 e]
  · simp [e, mt this.2 e]
/-! Groups. -/
def idA (l : List Filing) (k : Nat) : Int := (ids l).getD k 0
noncomputable def gr (h : Hunt) (l : List Filing) (s : Int) (i : Nat) : List Nat := fr (RC h l s i) l.length
noncomputable def grp (h : Hunt) (l : List Filing) (s : Int) (i : Nat) : List Int := (gr h l s i).map (idA l)
def Head (h : Hunt) (l : List Filing) (s : Int) (i : Nat) : Prop := (∀ k < i, ¬ RC h l s i k) ∧ h.size ≤ ((gr h l s i).length : Int)
noncomputable def rgs (h : Hunt) (l : List Filing) (s : Int) : List (List Int) := (fr (Head h l s) l.length).map (grp h l s)
noncomputable def Rings (h : Hunt) (l : List Filing) (s : Int) : List (List Int) × Int := if check h l = 0 then (if inB 1 6001 s then (rgs h l s, 0) else ([], 2)) else ([], check h l)
theorem mem_gr {h : Hunt} {l : List Filing} {s : Int} {i k : Nat} : k ∈ gr h l s i ↔ k < l.length ∧ RC h l s i k := mem_fr
end S
open S
section
variable {h : Hunt} {l : List Filing} (v : Vd h l)
include v
theorem idA_lt {i k : Nat} (hi : i < k) (hk' : k < l.length) : idA l i < idA l k := by
  have h1 := List.pairwise_iff_getElem.1 v.ids i k (by rw [List.length_map]; omega) (by rw [List.length_map]; omega) hi
  have e : ∀ j (hj : j < l.length), idA l j = (l.map (·.id))[j]'(by rw [List.length_map]; omega) := fun j hj => by
    unfold idA; rw [id_at hj]; simp
  rw [e i (by omega), e k hk']
  exact h1
theorem idA_inj {i k : Nat} (hi : i < l.length) (hk' : k < l.length) (e : idA l i = idA l k) : i = k := by
  rcases Nat.lt_trichotomy i k with h1 | h1 | h1
  · have := idA_lt v h1 hk'; omega
  · exact h1
  · have := idA_lt v h1 hi; omega
theorem gr_head {s : Int} {i : Nat} (hi : i < l.length) : ∃ a r, gr h l s i = a :: r ∧ a < l.length ∧ (idA l a = idA l i ↔ ∀ k < i, ¬ RC h l s i k) := by
  have h0 : i ∈ gr h l s i := mem_gr.2 ⟨hi, .refl⟩
  have h1 : (gr h l s i).Pairwise (· < ·) := fr_lt
  cases hg : gr h l s i with
  | nil => rw [hg] at h0; cases h0
  | cons a r =>
    rw [hg] at h0 h1
    have ha : a ∈ gr h l s i := by rw [hg]; exact List.mem_cons_self ..
    have hle : ∀ k ∈ gr h l s i, a ≤ k := fun k hk => by
      rw [hg] at hk
      rcases List.mem_cons.1 hk with rfl | hk
      · exact Nat.le_refl _
      · exact Nat.le_of_lt ((List.pairwise_cons.1 h1).1 k hk)
    refine ⟨a, r, rfl, (mem_gr.1 ha).1, fun e k hk hr => ?_, fun hh => ?_⟩
    · have e := idA_inj v (mem_gr.1 ha).1 hi e
      have := hle k (mem_gr.2 ⟨by omega, hr⟩)
      omega
    · have h2 := hle i (mem_gr.2 ⟨hi, .refl⟩)
      rcases Nat.lt_or_ge a i with h3 | h3
      · exact absurd (mem_gr.1 ha).2 (hh a h3)
      · have : a = i := by omega
        rw [this]
end
end Go.Proofs.Ytdbogmmdogjhpaa
