/-
  Part 7 of the texts that the statement's proof stands on: what memory holds, how code is walked, what the functions reckon. In the order in which they build.
-/
import Derived.Test.YtdbogmmdogjhpaaProg
import Derived.Recover
import Derived.Tactics
import Derived.Tactics2
import Derived.Shelf.Spec.SlicesGrow
import Derived.Shelf.SortM.Plain
import Derived.Shelf.SortM.SortNone
import Derived.Test.YtdbogmmdogjhpaaRd6
set_option linter.unusedVariables false
set_option linter.unusedSectionVars false
namespace Go.Rx
open Go Go.Sx Go.RowKit
section
variable [Sg] [Sf] (G : Gx)
/-- A function with a range over a function on its way. -/
noncomputable def runR (f : Func) (an : An) (ps : List Pt) (cs : List Ck) (a : denP ps) : Option (denK cs) := match f.body with
  | some c => execS G f.ntmps (retS G cs f.results.toList) c an (retS G cs f.results.toList) some ⟨argS 0 ps a, [], [], []⟩
  | none => none
/-- Results that lie in cells. -/
def tnK : List Ck → Bool
  | [] => true
  | .d t :: l => noMp t && tnK l
  | .own (.sl _ t) :: l => noMp t && tnK l
  | .np t :: l => noMp t && tnK l
  | _ => false
end
variable [Trk] [Sg] [Sf] {P : Program} [Se P]
section
variable {w0 w : World} {M : List Nat} {σ : AS} {L : Env} {N : Nat} {Γ : Type} {pr : AS → Option Γ} {ds : List Deferred}
theorem execS_ok [Sl (P := P)] [Sn P] (htk : ¬ Trk.t) {G : Gx} (hG : GxOk P G) : ∀ (c : Code) (an : An) {Y : Type} {KN : AS → Option Y} {KR : Γ → Option Y} {σ : AS} {L : Env} {w : World} {z : Y} {A B : Out} {X : Nat → Out} {Z : List PanicEntry → Out}, execS G N pr c an KN KR σ = some z → Holds (P := P) w0 [] M σ L w →
    (∀ D σ' L' w', w0.heap.size ≤ D → KN σ' = some z → @Holds _ _ _ P _ (anchD D) w0 [] M σ' L' w' → A ({ target := .collected D, args := #[] } :: ds) L' w') →
    (∀ r σ' L' w', pr σ' = some r → KR r = some z → Holds (P := P) w0 [] M σ' L' w' → B ds L' w') →
    (∀ D r σ' L' w', w0.heap.size ≤ D → pr σ' = some r → KR r = some z → @Holds _ _ _ P _ (anchD D) w0 [] M σ' L' w' → B ({ target := .collected D, args := #[] } :: ds) L' w') → CW P N c ds L w A B X Z
  | .seq a b, an, Y, KN, KR, σ, L, w, z, A, B, X, Z, h, hH, hA, hB, hD => by
    have h : (match hasRf a with
      | true => execS G N pr a an.l (fun σ' => exec G N pr b an.r KN (fun _ _ => none) KR σ') KR σ
      | false => exec G N pr a an.l (fun σ' => execS G N pr b an.r KN KR σ') (fun _ _ => none) KR σ) = some z := h
    cases ha : hasRf a with
    | true =>
      rw [ha] at h
      refine cw_seq (execS_ok htk hG a an.l h hH (fun D σ1 L1 w1 hd h1 hH1 => ?_) hB hD)
      letI := anchD D
      exact cf_wide (n := 3) (cf_noX (exec_ok hG b an.r _ _ _ _ _ _ _ _ _ _ _ _ _ h1 hH1 (fun σ2 L2 w2 h2 _ _ hH2 => hA D σ2 L2 w2 hd h2 hH2) (fun i σ2 L2 w2 h2 => by cases h2) (fun r σ2 L2 w2 h2 h3 _ hH2 => hD D r σ2 L2 w2 hd h2 h3 hH2) PZ.no))
    | false =>
      rw [ha] at h
      refine cw_seq (cf_wide (n := 3) (cf_noX (exec_ok hG a an.l _ _ _ _ _ _ _ _ _ _ _ _ _ h hH (fun σ1 L1 w1 h1 _ _ hH1 => ?_) (fun i σ2 L2 w2 h2 => by cases h2) (fun r σ2 L2 w2 h2 h3 _ hH2 => hB r σ2 L2 w2 h2 h3 hH2) PZ.no)))
      exact execS_ok htk hG b an.r h1 hH1 hA hB hD
  | .block i a, an, Y, KN, KR, σ, L, w, z, A, B, X, Z, h, hH, hA, hB, hD => cw_block (execS_ok htk hG a an h hH hA hB hD)
  | .rangeFunc g ps assign body, an, Y, KN, KR, σ, L, w, z, A, B, X, Z, h, hH, hA, hB, hD => by
    have hq : (match (generalizing := false) evS σ.env g, an with
      | some (.it ts xs), .lp hd _ l => (match noSlot hd.cs && ltB N ps.toList && ltB N (wrOf assign) && parB ps.toList ts with
        | true => (match packS hd σ.start with
          | some s0 => (match okIn (fnd (unpack (wrRf ps.toList assign body l σ) hd σ.start s0).res) (unpack (wrRf ps.toList assign body l σ) hd σ.start s0).env && okU (unpack (wrRf ps.toList assign body l σ) hd σ.start s0) with
            | true => Option.bind (overM (S := denC hd.cs) (roundS G N pr ps.toList assign body hd l (wrRf ps.toList assign body l σ) σ.start ts) s0 xs) fun s => KN (unpack (wrRf ps.toList assign body l σ) hd σ.start s)
            | false => none)
          | none => none)
        | false => none)
      | _, _ => none) = some z := h
    clear h
    cases hg : evS σ.env g with
    | none => rw [hg] at hq; exact (noS hq).elim
    | some v =>
      rw [hg] at hq
      cases v with
      | it ts xs =>
        cases an with
        | x => exact (noS hq).elim
        | nd _ _ => exact (noS hq).elim
        | jn _ _ => exact (noS hq).elim
        | lp hd ks l =>
          simp only at hq
          cases hc : (noSlot hd.cs && ltB N ps.toList && ltB N (wrOf assign) && parB ps.toList ts) with
          | false => rw [hc] at hq; exact (noS hq).elim
          | true =>
            rw [hc] at hq
            simp only [Bool.and_eq_true] at hc
            obtain ⟨⟨⟨c1, c2⟩, c3⟩, c4⟩ := hc
            simp only at hq
            cases h0 : packS hd σ.start with
            | none => rw [h0] at hq; exact (noS hq).elim
            | some s0 =>
              rw [h0] at hq
              simp only at hq
              cases hu : (okIn (fnd (unpack (wrRf ps.toList assign body l σ) hd σ.start s0).res) (unpack (wrRf ps.toList assign body l σ) hd σ.start s0).env && okU (unpack (wrRf ps.toList assign body l σ) hd σ.start s0)) with
              | false => rw [hu] at hq; exact (noS hq).elim
              | true =>
                rw [hu] at hq
                simp only [Bool.and_eq_true] at hu
                obtain ⟨s, h1, h2⟩ := bindS hq
                exact range_ok htk hG hH hg c1 c2 c3 c4 wr_ps wr_as wr_bd h0 hu.1 hu.2 h1 fun D w' hd hH' => hA D _ _ _ hd h2 hH'
      | int _ _ | bool _ | ary _ _ _ | str _ _ | agg _ | fv _ _ _ | fn _ _ | undef | dead | tup _ | dat _ _ | own _ | nilS | raw _ | np _ _ | ep _ _ _ _ _ | rp _ _ | ptr _ _ | ap _ _ _ _ => exact (noS hq).elim
  | .skip, _, _, _, _, _, _, _, _, _, _, _, _, h, _, _, _, _ | .region _ _ _, _, _, _, _, _, _, _, _, _, _, _, _, h, _, _, _, _ | .cond _ _ _, _, _, _, _, _, _, _, _, _, _, _, _, h, _, _, _, _ | .loop _, _, _, _, _, _, _, _, _, _, _, _, _, h, _, _, _, _ | .exit _, _, _, _, _, _, _, _, _, _, _, _, _, h, _, _, _, _ | .ret, _, _, _, _, _, _, _, _, _, _, _, _, h, _, _, _, _
  | .scope _, _, _, _, _, _, _, _, _, _, _, _, _, h, _, _, _, _ | .label _, _, _, _, _, _, _, _, _, _, _, _, _, h, _, _, _, _ | .goto _, _, _, _, _, _, _, _, _, _, _, _, _, h, _, _, _, _ | .refuse _, _, _, _, _, _, _, _, _, _, _, _, _, h, _, _, _, _ => (noS h).elim
end
theorem RsOk.tn {L : Env} {w w' : World} (ht : Tn w w') {r : ResultVar} {v : Value} (h : RsOk P L w r v) : RsOk P L w' r v := by
  cases h with
  | tmp h => exact .tmp h
  | agg h hc he hn hz => exact .agg h (ht.cells hc) he hn hz
  | one h hc he => exact .one h (ht.cell hc) he
theorem AllRs.tn {L : Env} {w w' : World} (ht : Tn w w') : ∀ {rs : List ResultVar} {vs : List Value}, AllRs P L w rs vs → AllRs P L w' rs vs
  | _, _, .nil => .nil
  | _, _, .cons h hr => .cons (RsOk.tn ht h) (AllRs.tn ht hr)
theorem CkOk.tn [Sn P] {M Mo : List Nat} {w0 w w' : World} (ht : Tn w w') {c : Ck} (hc : tnK [c] = true) {x : c.den} {v : Value} (h : CkOk (P := P) M Mo w0 w c x v) : CkOk (P := P) M Mo w0 w' c x v := by
  cases c with
  | d t =>
    have hc : (noMp t && tnK []) = true := hc
    simp only [Bool.and_eq_true] at hc
    exact OkD.tn hc.1 ht h
  | own o =>
    cases o with
    | mp _ _ _ => cases hc
    | sl e t =>
      have hc : (noMp t && tnK []) = true := hc
      simp only [Bool.and_eq_true] at hc
      have := enc_tn (P := P) t hc.1
      exact ⟨h.1, Own.tn (E := enc t) ht h.2.1, h.2.2⟩
  | undef => cases hc
  | it _ => cases hc
  | np t =>
    have hc : (noMp t && tnK []) = true := hc
    simp only [Bool.and_eq_true] at hc
    have := enc_tn (P := P) t hc.1
    rcases h with h | ⟨y, b, o, vs, h1, h2, h3, h4⟩
    · exact .inl h
    · exact .inr ⟨y, b, o, vs, h1, h2, ⟨h3.out, Nat.lt_of_lt_of_le h3.lt ht.1, ht.cells h3.cells⟩, TnE.tn ht h4⟩
theorem tnK_cons {c : Ck} {l : List Ck} (h : tnK (c :: l) = true) : tnK [c] = true ∧ tnK l = true := by
  cases c with
  | d t =>
    have h : (noMp t && tnK l) = true := h
    simp only [Bool.and_eq_true] at h
    exact ⟨by show (noMp t && true) = true; rw [h.1]; rfl, h.2⟩
  | own o =>
    cases o with
    | mp _ _ _ => cases h
    | sl e t =>
      have h : (noMp t && tnK l) = true := h
      simp only [Bool.and_eq_true] at h
      exact ⟨by show (noMp t && true) = true; rw [h.1]; rfl, h.2⟩
  | undef => cases h
  | it _ => cases h
  | np t =>
    have h : (noMp t && tnK l) = true := h
    simp only [Bool.and_eq_true] at h
    exact ⟨by show (noMp t && true) = true; rw [h.1]; rfl, h.2⟩
theorem KsOk.tn [Sn P] {M Mo : List Nat} {w0 w w' : World} (ht : Tn w w') : ∀ (cs : List Ck) {x : denK cs} {vs : List Value}, tnK cs = true → KsOk (P := P) M Mo w0 w cs x vs → KsOk (P := P) M Mo w0 w' cs x vs
  | [], _, _, _, h => h
  | [c], _, _, hc, ⟨v, h1, h2⟩ => ⟨v, h1, CkOk.tn ht hc h2⟩
  | c :: d :: l, _, _, hc, ⟨v, r, h1, h2, h3⟩ => ⟨v, r, h1, CkOk.tn ht (tnK_cons hc).1 h2, KsOk.tn ht (d :: l) (tnK_cons hc).2 h3⟩
theorem retS_ok [Sl (P := P)] [Anch] {G : Gx} (hG : GxOk P G) {w0 w : World} {M : List Nat} {σ : AS} {L : Env} {cs : List Ck} {rs : List ResultVar} {r : denK cs} (hH : Holds (P := P) w0 [] M σ L w) (h1 : retS G cs rs σ = some r) : ∃ vs, AllRs P L w rs vs ∧ vs.length = cs.length ∧ KsOk (P := P) M (obK cs vs ++ M) w0 w cs r vs ∧ Ext w0 w := by
  obtain ⟨S, ρ, γ, μ, ι, hS⟩ := hH
  unfold retS at h1
  cases hk : okK (retM G σ cs rs) (retR G σ cs rs) && npK cs (retM G σ cs rs) with
  | false => rw [hk] at h1; exact (noS h1).elim
  | true =>
    rw [hk] at h1
    simp only [Bool.and_eq_true] at hk
    obtain ⟨vs, h2, h3, h4, h5⟩ := retL_ok hS hG (mv := retM G σ cs rs) (retM_dom h1) cs rs (fun _ h => h) (okK_out hk.1) hk.2 h1
    exact ⟨vs, h2, h3, h4 _ (fun b hb => (List.mem_append.1 hb).elim (h5 b) fun h => mem_mm.2 (.inr h)), hS.hp.kp⟩
/-- A function's contract, where a range over a function is on its way. -/
theorem funR_ok [Sl (P := P)] [Sn P] (htk : ¬ Trk.t) {G : Gx} (hG : GxOk P G) {k : Nat} {f : Func} {c : Code} {an : An} {ps : List Pt} {cs : List Ck} {F : denP ps → Option (denK cs)} (hf : P.funcs[k]? = some f) (hb : f.body = some c) (hl : Nat.ble ps.length f.ntmps = true) (hn : Nat.ble cs.length 4 = true) (ho : Nat.ble (own1 cs) 1 = true) (hc : tnK cs = true) (hF : ∀ a, F a = runR G f an ps cs a) : Ctr.ok P k ⟨ps, cs, F⟩ := by
  refine ⟨Nat.le_of_ble_eq_true ho, fun M w a vals r hM ha hr => ?_⟩
  have hr : F a = some r := hr
  rw [hF] at hr
  unfold runR at hr
  rw [hb] at hr
  have hlen : ∀ (ps : List Pt) {a : denP ps} {vals : List Value}, ArgsOk M w ps a vals → vals.length = ps.length := by
    intro ps
    induction ps with
    | nil => intro a vals h; have h : vals = [] := h; rw [h]; rfl
    | cons p ps ih => intro a vals h; obtain ⟨v, r, rfl, _, h3⟩ := h; simp [ih h3]
  have h0 : Holds (P := P) w [] M ⟨argS 0 ps a, [], [], []⟩ (argEnv 0 vals) w := by
    refine ⟨[], fun _ => undef, fun _ => [], fun _ => [], fun _ => 0, ⟨Hp.start hM, (fun i a h => by cases h), (fun i j a b h => by cases h), (fun i a h => by cases h), fun t s h => ?_, trivial⟩⟩
    exact argS_ok ps 0 ha t s h
  have fin : ∀ σ' L' w', retS G cs f.results.toList σ' = some r → Holds (P := P) w [] M σ' L' w' → FinM P f (fun e w' => ∃ vs, e = .returned (tupV vs) ∧ KsOk (P := P) M (obK cs vs ++ M) w w' cs r vs ∧ Ext w w') [] L' w' := fun σ' L' w' h1 hH => by
    obtain ⟨vs, h2, h3, h4, h5⟩ := retS_ok hG hH h1
    exact FinM.of (fin_any (by simp) h2 (by rw [h3]; exact hn) ⟨vs, by rw [tup_pack], h4, h5⟩)
  have finD : ∀ D σ' L' w', w.heap.size ≤ D → retS G cs f.results.toList σ' = some r → @Holds _ _ _ P _ (anchD D) w [] M σ' L' w' → FinM P f (fun e w' => ∃ vs, e = .returned (tupV vs) ∧ KsOk (P := P) M (obK cs vs ++ M) w w' cs r vs ∧ Ext w w') [{ target := .collected D, args := #[] }] L' w' := fun D σ' L' w' hD h1 hH => by
    obtain ⟨vs, h2, h3, h4, h5⟩ := @retS_ok _ _ _ P _ _ (anchD D) G hG _ _ _ _ _ _ _ _ hH h1
    obtain ⟨S, ρ, γ, μ, ι, hS⟩ := hH
    have hQ : D ∉ mm S M ∧ w'.heap[D]? = some (.deferred (some [])) := by
      letI := anchD D
      exact hS.anch
    have htn : Tn w' (w'.putObj D (.deferred none)) := ⟨by simp, fun b o ho hcl => by
      by_cases e : b = D
      · subst e
        rw [hQ.2] at ho; cases ho; cases hcl
      · exact (World.putObj_heap_other e).trans ho⟩
    have hx : Ext w (w'.putObj D (.deferred none)) := ⟨h5.os, h5.tape, h5.output, Nat.le_trans h5.size (by simp), fun b hb hn => (World.putObj_heap_other (by omega)).trans (h5.block b hb hn), fun h => absurd h htk⟩
    have h6 := fin_any (P := P) (fn := f) (R := fun e w' => ∃ vs, e = .returned (tupV vs) ∧ KsOk (P := P) M (obK cs vs ++ M) w w' cs r vs ∧ Ext w w') (by simp) (AllRs.tn htn h2) (by rw [h3]; exact hn) ⟨vs, by rw [tup_pack], KsOk.tn htn cs hc h4, hx⟩
    obtain ⟨_, v, h7, h8⟩ := h6
    exact .inr ⟨D, _, rfl, run_takeDeferred hQ.2, v, fun a ha => h7 { tmps := a.tmps, defers := [] } ⟨ha.size, rfl, ha.val⟩, h8⟩
  refine calls_cwM hf hb rfl (by rw [hlen ps ha]; exact hl) ?_
  refine execS_ok htk hG c an hr h0 (fun D σ' L' w' hD h1 hH => finD D σ' L' w' hD h1 hH) (fun r' σ' L' w' hp hk hH => ?_) fun D r' σ' L' w' hD hp hk hH => ?_
  · have hk : r' = r := Option.some.inj hk
    subst hk
    exact fin σ' L' w' hp hH
  · have hk : r' = r := Option.some.inj hk
    subst hk
    exact finD D σ' L' w' hD hp hH
end Go.Rx
set_option maxRecDepth 20000
set_option maxHeartbeats 4000000
namespace Go.Proofs.Ytdbogmmdogjhpaa
open Go Go.Sx Go.Rx Go.RowKit
variable [Trk]
@[ext] structure Hunt where
  window : Int
  common : Int
  size : Int
  deriving DecidableEq
def HuntE : Enc Hunt := mapE (fun x => (x.window, (x.common, x.size))) (prodE (intE .i64) (prodE (intE .i64) (intE .i64)))
@[ext] structure Filing where
  id : Int
  day : Int
  parts : (List Int)
  deriving DecidableEq
def FilingE : Enc Filing := mapE (fun x => (x.id, (x.day, x.parts))) (prodE (intE .i64) (prodE (intE .i64) (sliceE (intE .i64))))
@[ext] structure Tie where
  from_ : Int
  to_ : Int
  weight : Int
def TieE : Enc Tie := mapE (fun x => (x.from_, (x.to_, x.weight))) (prodE (intE .i64) (prodE (intE .i64) ((intE .i64))))
attribute [grind ext] Tie.ext
instance : DecidableEq Tie := fun x y => decidable_of_iff (x.from_ = y.from_ ∧ x.to_ = y.to_ ∧ x.weight = y.weight) ⟨fun ⟨h0, h1, h2⟩ => Tie.ext h0 h1 h2, fun h => by subst h; exact ⟨rfl, rfl, rfl⟩⟩
theorem TieE_R {M : List Nat} {w : World} {cs : List Value} {x : Tie} : TieE.R M w cs x ↔ cs = [Value.int IntKind.i64 x.from_, Value.int IntKind.i64 x.to_, Value.int IntKind.i64 x.weight] ∧ InK .i64 x.from_ ∧ InK .i64 x.to_ ∧ InK .i64 x.weight := by
  simp only [TieE, mapE_R, prodE_R, intE_R]
  constructor
  · rintro ⟨_, _, rfl, ⟨rfl, h0⟩, ⟨_, _, rfl, ⟨rfl, h1⟩, ⟨rfl, h2⟩⟩⟩
    exact ⟨rfl, h0, h1, h2⟩
  · rintro ⟨rfl, h0, h1, h2⟩
    exact ⟨[Value.int IntKind.i64 x.from_], [Value.int IntKind.i64 x.to_, Value.int IntKind.i64 x.weight], rfl, ⟨rfl, h0⟩, ⟨[Value.int IntKind.i64 x.to_], [Value.int IntKind.i64 x.weight], rfl, ⟨rfl, h1⟩, ⟨rfl, h2⟩⟩⟩
theorem Tie_eq (x y : Tie) (w : World) : (Op.equalIn 10000 71 (.agg (List.toArray [Value.int IntKind.i64 x.from_, Value.int IntKind.i64 x.to_, Value.int IntKind.i64 x.weight])) (.agg (List.toArray [Value.int IntKind.i64 y.from_, Value.int IntKind.i64 y.to_, Value.int IntKind.i64 y.weight]))).run Try.prog w = .ok (decide (x = y)) w := by
  have hf : Try.prog.underlying 71 = some (.struct (Try.prog.fieldsOf 71)) := by simp [Program.fieldsOf, Try.underlying71]
  rw [show (10000 : Nat) = 9999 + 1 from rfl, run_equalIn_agg w 9999 71 _ _ hf Try.stoodInHeld71]
  have h0 : decide (x = y) = (decide (x.from_ = y.from_) && decide (x.to_ = y.to_) && decide (x.weight = y.weight)) := by
    rw [Bool.eq_iff_iff]; simp only [decide_eq_true_eq, Bool.and_eq_true]; constructor
    · rintro rfl; simp
    · intro h; apply Tie.ext <;> simp_all
  rw [h0]
  simp [Program.fieldsOf, Try.underlying71, Op.eqFields, part, Try.isAgg3, run_equalIn_int w 9998 3 .i64 .i64 _ _ Try.underlying3]
  repeat' split
  all_goals simp_all
@[ext] structure Hunt_94 where
  hunt : Hunt
  ids : (List Int)
  weights : (List Int)
  deriving DecidableEq
def Hunt_94E : Enc Hunt_94 := mapE (fun x => (x.hunt.window, (x.hunt.common, (x.hunt.size, (x.ids, x.weights))))) (prodE (intE .i64) (prodE (intE .i64) (prodE (intE .i64) (prodE (sliceE (intE .i64)) (arrE .i64 576)))))
@[ext] structure Apart where
  from_ : Int
  to_ : Int
  deriving DecidableEq
def ApartE : Enc Apart := mapE (fun x => (x.from_, x.to_)) (prodE (intE .i64) (intE .i64))
instance : Sg where
  S := fun
    | 0 => Hunt
    | 1 => Filing
    | 2 => Tie
    | 3 => Hunt_94
    | 4 => Apart
    | _ + 5 => Bool
instance : Sf where
  ft := fun
    | 0 => [(.int .i64), (.int .i64), (.int .i64)]
    | 1 => [(.int .i64), (.int .i64), (.sl (.int .i64))]
    | 2 => [(.int .i64), (.int .i64), (.int .i64)]
    | 3 => [(.int .i64), (.int .i64), (.int .i64), (.sl (.int .i64)), (.arr .i64 576)]
    | 4 => [(.int .i64), (.int .i64)]
    | _ + 5 => [.bool]
  un := fun
    | 0 => fun (x : Hunt) => (x.window, (x.common, x.size))
    | 1 => fun (x : Filing) => (x.id, (x.day, x.parts))
    | 2 => fun (x : Tie) => (x.from_, (x.to_, x.weight))
    | 3 => fun (x : Hunt_94) => (x.hunt.window, (x.hunt.common, (x.hunt.size, (x.ids, x.weights))))
    | 4 => fun (x : Apart) => (x.from_, x.to_)
    | _ + 5 => fun (x : Bool) => x
  mkS := fun
    | 0 => fun (x : Int × Int × Int) => (Hunt.mk x.1 x.2.1 x.2.2)
    | 1 => fun (x : Int × Int × (List Int)) => (Filing.mk x.1 x.2.1 x.2.2)
    | 2 => fun (x : Int × Int × Int) => (Tie.mk x.1 x.2.1 x.2.2)
    | 3 => fun (x : Int × Int × Int × (List Int) × (List Int)) => (Hunt_94.mk (Hunt.mk x.1 x.2.1 x.2.2.1) x.2.2.2.1 x.2.2.2.2)
    | 4 => fun (x : Int × Int) => (Apart.mk x.1 x.2)
    | _ + 5 => fun (x : Bool) => x
  eq := fun
    | 0 => fun (x y : Hunt) => decide (x = y)
    | 1 => fun (x y : Filing) => decide (x = y)
    | 2 => fun (x y : Tie) => decide (x = y)
    | 3 => fun (x y : Hunt_94) => decide (x = y)
    | 4 => fun (x y : Apart) => decide (x = y)
    | _ + 5 => fun _ _ => false
  dec := fun
    | 0 => inferInstanceAs (DecidableEq Hunt)
    | 1 => inferInstanceAs (DecidableEq Filing)
    | 2 => inferInstanceAs (DecidableEq Tie)
    | 3 => inferInstanceAs (DecidableEq Hunt_94)
    | 4 => inferInstanceAs (DecidableEq Apart)
    | _ + 5 => inferInstanceAs (DecidableEq Bool)
  un_mk := fun n x => by
    match n, x with
    | 0, _ => rfl
    | 1, _ => rfl
    | 2, _ => rfl
    | 3, _ => rfl
    | 4, _ => rfl
    | _ + 5, _ => rfl
  leaf := fun n => by
    match n with
    | 0 => rfl
    | 1 => rfl
    | 2 => rfl
    | 3 => rfl
    | 4 => rfl
    | _ + 5 => rfl
  nm := fun
    | 0 => true
    | 1 => true
    | 2 => true
    | 3 => true
    | 4 => true
    | _ + 5 => false
instance : Se Try.prog where
  E := fun
    | 0 => HuntE
    | 1 => FilingE
    | 2 => TieE
    | 3 => Hunt_94E
    | 4 => ApartE
    | _ + 5 => boolE
  ky := fun m k => match m, k with
    | 3, .int .i64 => some (intKy .i64 Try.underlying3)
    | _, _ => none
instance : Sl (P := Try.prog) where
  is := fun n M w cs x => by
    match n, x with
    | 0, _ => exact Iff.rfl
    | 1, _ => exact Iff.rfl
    | 2, _ => exact Iff.rfl
    | 3, _ => exact Iff.rfl
    | 4, _ => exact Iff.rfl
    | _ + 5, _ => exact Iff.rfl
instance : TnE HuntE := by unfold HuntE; infer_instance
instance : TnE FilingE := by unfold FilingE; infer_instance
instance : TnE TieE := by unfold TieE; infer_instance
instance : TnE Hunt_94E := by unfold Hunt_94E; infer_instance
instance : TnE ApartE := by unfold ApartE; infer_instance
instance : Sn Try.prog where
  tn := fun n h => by
    match n, h with
    | 0, _ => exact inferInstanceAs (TnE HuntE)
    | 1, _ => exact inferInstanceAs (TnE FilingE)
    | 2, _ => exact inferInstanceAs (TnE TieE)
    | 3, _ => exact inferInstanceAs (TnE Hunt_94E)
    | 4, _ => exact inferInstanceAs (TnE ApartE)
    | _ + 5, h => cases h
theorem rsl24 : SlT Try.prog 24 65 (enc (P := Try.prog) (.st 1)).n 40 := ⟨Try.underlying24, Try.t65, _, by kernel_rfl, rfl, rfl, rfl, rfl⟩
theorem rsl32 : SlT Try.prog 32 71 (enc (P := Try.prog) (.st 2)).n 24 := ⟨Try.underlying32, Try.t71, _, by kernel_rfl, rfl, rfl, rfl, rfl⟩
theorem rsl42 : SlT Try.prog 42 3 (enc (P := Try.prog) (.int .i64)).n 8 := ⟨Try.underlying42, Try.t3, _, by kernel_rfl, rfl, rfl, rfl, rfl⟩
theorem rsl43 : SlT Try.prog 43 42 (enc (P := Try.prog) (.sl (.int .i64))).n 24 := ⟨Try.underlying43, Try.t42, _, by kernel_rfl, rfl, rfl, rfl, rfl⟩
theorem rsl73 : SlT Try.prog 73 5 (enc (P := Try.prog) (.int .u8)).n 1 := ⟨Try.underlying73, Try.t5, _, by kernel_rfl, rfl, rfl, rfl, rfl⟩
theorem rsl76 : SlT Try.prog 76 43 (enc (P := Try.prog) (.sl (.sl (.int .i64)))).n 24 := ⟨Try.underlying76, Try.t43, _, by kernel_rfl, rfl, rfl, rfl, rfl⟩
theorem rsl83 : SlT Try.prog 83 24 (enc (P := Try.prog) (.sl (.st 1))).n 24 := ⟨Try.underlying83, Try.t24, _, by kernel_rfl, rfl, rfl, rfl, rfl⟩
def gxb : Gx where
  tb := ⟨[(23, [(0, 3), (1, 3), (2, 3)]), (65, [(0, 3), (1, 3), (2, 42)]), (71, [(0, 3), (1, 3), (2, 3)]), (94, [(0, 23), (3, 42), (4, 92)])], [(3, 0), (4, 0), (5, 0), (23, 4), (24, 0), (27, 0), (32, 0), (42, 0), (43, 0), (65, 4), (69, 0), (71, 4), (73, 0), (75, 0), (76, 0), (80, 0), (81, 0), (83, 0), (86, 0), (92, 577), (94, 581), (97, 3), (113, 0), (117, 0), (119, 0), (122, 0), (126, 0), (129, 0), (131, 0), (139, 0), (140, 0), (144, 0), (146, 0)]⟩
  sl := [(24, 65, (.st 1), 40), (32, 71, (.st 2), 24), (42, 3, (.int .i64), 8), (43, 42, (.sl (.int .i64)), 24), (73, 5, (.int .u8), 1), (76, 43, (.sl (.sl (.int .i64))), 24), (83, 24, (.sl (.st 1)), 24)]
  sz := [(3, 1), (4, 1), (5, 1), (23, 3), (24, 1), (27, 1), (32, 1), (42, 1), (43, 1), (65, 3), (69, 1), (71, 3), (73, 1), (75, 1), (76, 1), (80, 1), (83, 1), (92, 576), (94, 580), (97, 2), (117, 1), (129, 1), (131, 1), (139, 1), (140, 1), (81, 1), (86, 1), (113, 1), (119, 1), (122, 1), (126, 1), (144, 1), (146, 1)]
  ty := [(3, (.int .i64)), (4, .bool), (5, (.int .u8)), (23, (.st 0)), (24, (.sl (.st 1))), (27, (.int .i64)), (32, (.sl (.st 2))), (42, (.sl (.int .i64))), (43, (.sl (.sl (.int .i64)))), (65, (.st 1)), (69, (.mp 3 (.int .i64) .bool)), (71, (.st 2)), (73, (.sl (.int .u8))), (75, (.int .u16)), (76, (.sl (.sl (.sl (.int .i64))))), (80, (.int .u32)), (83, (.sl (.sl (.st 1)))), (92, (.arr .i64 576)), (94, (.st 3)), (97, (.st 4)), (117, (.mp 3 (.int .i64) (.int .i64))), (129, (.int .u64)), (131, (.int .i64)), (139, (.int .u64)), (140, (.int .u64))]
  fs := []
  bd := [(23, [(0, 1), (1, 1), (2, 1)]), (65, [(0, 1), (1, 1), (2, 1)]), (71, [(0, 1), (1, 1), (2, 1)]), (94, [(0, 3), (3, 1), (4, 576)]), (97, [(0, 1), (1, 1)])]
  eq := [(71, 2)]
  mp := [(69, 3, 4, (.int .i64), .bool), (117, 3, 3, (.int .i64), (.int .i64))]
  ar := [(91, 24, 1), (92, 24, 24)]
  pz := [(81, 1), (86, 0), (113, 1), (119, 1), (122, 1), (126, 1), (144, 0), (146, 0)]
  pf := []
  fm := []
theorem gx_st : StOk Try.prog gxb.tb.st := ⟨⟨_, Try.underlying23, ⟨⟨_, _, rfl, rfl, rfl, Try.sizeOf3⟩, ⟨⟨_, _, rfl, rfl, rfl, Try.sizeOf3⟩, ⟨⟨_, _, rfl, rfl, rfl, Try.sizeOf3⟩, trivial⟩⟩⟩⟩, ⟨⟨_, Try.underlying65, ⟨⟨_, _, rfl, rfl, rfl, Try.sizeOf3⟩, ⟨⟨_, _, rfl, rfl, rfl, Try.sizeOf3⟩, ⟨⟨_, _, rfl, rfl, rfl, Try.sizeOf42⟩, trivial⟩⟩⟩⟩, ⟨⟨_, Try.underlying71, ⟨⟨_, _, rfl, rfl, rfl, Try.sizeOf3⟩, ⟨⟨_, _, rfl, rfl, rfl, Try.sizeOf3⟩, ⟨⟨_, _, rfl, rfl, rfl, Try.sizeOf3⟩, trivial⟩⟩⟩⟩, ⟨⟨_, Try.underlying94, ⟨⟨_, _, rfl, rfl, rfl, Try.sizeOf23⟩, ⟨⟨_, _, rfl, rfl, rfl, Try.sizeOf42⟩, ⟨⟨_, _, rfl, rfl, rfl, Try.sizeOf92⟩, trivial⟩⟩⟩⟩, trivial⟩⟩⟩⟩
theorem gx_ag : AgOk Try.prog gxb.tb.ag := ⟨Try.isAgg3, ⟨Try.isAgg4, ⟨Try.isAgg5, ⟨⟨Try.isAgg23, Try.sizeOf23⟩, ⟨Try.isAgg24, ⟨Try.isAgg27, ⟨Try.isAgg32, ⟨Try.isAgg42, ⟨Try.isAgg43, ⟨⟨Try.isAgg65, Try.sizeOf65⟩, ⟨Try.isAgg69, ⟨⟨Try.isAgg71, Try.sizeOf71⟩, ⟨Try.isAgg73, ⟨Try.isAgg75, ⟨Try.isAgg76, ⟨Try.isAgg80, ⟨Try.isAgg81, ⟨Try.isAgg83, ⟨Try.isAgg86, ⟨⟨Try.isAgg92, Try.sizeOf92⟩, ⟨⟨Try.isAgg94, Try.sizeOf94⟩, ⟨⟨Try.isAgg97, Try.sizeOf97⟩, ⟨Try.isAgg113, ⟨Try.isAgg117, ⟨Try.isAgg119, ⟨Try.isAgg122, ⟨Try.isAgg126, ⟨Try.isAgg129, ⟨Try.isAgg131, ⟨Try.isAgg139, ⟨Try.isAgg140, ⟨Try.isAgg144, ⟨Try.isAgg146, trivial⟩⟩⟩⟩⟩⟩⟩⟩⟩⟩⟩⟩⟩⟩⟩⟩⟩⟩⟩⟩⟩⟩⟩⟩⟩⟩⟩⟩⟩⟩⟩⟩⟩
theorem gx_sl : SlOk Try.prog gxb.sl := ⟨rsl24, ⟨rsl32, ⟨rsl42, ⟨rsl43, ⟨rsl73, ⟨rsl76, ⟨rsl83, trivial⟩⟩⟩⟩⟩⟩⟩
theorem gx_sz : SzOk Try.prog gxb.sz := ⟨Try.sizeOf3, ⟨Try.sizeOf4, ⟨Try.sizeOf5, ⟨Try.sizeOf23, ⟨Try.sizeOf24, ⟨Try.sizeOf27, ⟨Try.sizeOf32, ⟨Try.sizeOf42, ⟨Try.sizeOf43, ⟨Try.sizeOf65, ⟨Try.sizeOf69, ⟨Try.sizeOf71, ⟨Try.sizeOf73, ⟨Try.sizeOf75, ⟨Try.sizeOf76, ⟨Try.sizeOf80, ⟨Try.sizeOf83, ⟨Try.sizeOf92, ⟨Try.sizeOf94, ⟨Try.sizeOf97, ⟨Try.sizeOf117, ⟨Try.sizeOf129, ⟨Try.sizeOf131, ⟨Try.sizeOf139, ⟨Try.sizeOf140, ⟨Try.sizeOf81, ⟨Try.sizeOf86, ⟨Try.sizeOf113, ⟨Try.sizeOf119, ⟨Try.sizeOf122, ⟨Try.sizeOf126, ⟨Try.sizeOf144, ⟨Try.sizeOf146, trivial⟩⟩⟩⟩⟩⟩⟩⟩⟩⟩⟩⟩⟩⟩⟩⟩⟩⟩⟩⟩⟩⟩⟩⟩⟩⟩⟩⟩⟩⟩⟩⟩⟩
theorem gx_ty : TyOk Try.prog gxb.ty := ⟨⟨(fun k h => by cases h; exact Try.underlying3), (fun h => by cases h), Try.zeroValue3⟩, ⟨⟨(fun k h => by cases h), (fun _ => Try.underlying4), Try.zeroValue4⟩, ⟨⟨(fun k h => by cases h; exact Try.underlying5), (fun h => by cases h), Try.zeroValue5⟩, ⟨⟨(fun k h => by cases h), (fun h => by cases h), Try.zeroValue23⟩, ⟨⟨(fun k h => by cases h), (fun h => by cases h), Try.zeroValue24⟩, ⟨⟨(fun k h => by cases h; exact Try.underlying27), (fun h => by cases h), Try.zeroValue27⟩, ⟨⟨(fun k h => by cases h), (fun h => by cases h), Try.zeroValue32⟩, ⟨⟨(fun k h => by cases h), (fun h => by cases h), Try.zeroValue42⟩, ⟨⟨(fun k h => by cases h), (fun h => by cases h), Try.zeroValue43⟩, ⟨⟨(fun k h => by cases h), (fun h => by cases h), Try.zeroValue65⟩, ⟨⟨(fun k h => by cases h), (fun h => by cases h), Try.zeroValue69⟩, ⟨⟨(fun k h => by cases h), (fun h => by cases h), Try.zeroValue71⟩, ⟨⟨(fun k h => by cases h), (fun h => by cases h), Try.zeroValue73⟩, ⟨⟨(fun k h => by cases h; exact Try.underlying75), (fun h => by cases h), Try.zeroValue75⟩, ⟨⟨(fun k h => by cases h), (fun h => by cases h), Try.zeroValue76⟩, ⟨⟨(fun k h => by cases h; exact Try.underlying80), (fun h => by cases h), Try.zeroValue80⟩, ⟨⟨(fun k h => by cases h), (fun h => by cases h), Try.zeroValue83⟩, ⟨⟨(fun k h => by cases h), (fun h => by cases h), Try.zeroValue92⟩, ⟨⟨(fun k h => by cases h), (fun h => by cases h), Try.zeroValue94⟩, ⟨⟨(fun k h => by cases h), (fun h => by cases h), Try.zeroValue97⟩, ⟨⟨(fun k h => by cases h), (fun h => by cases h), Try.zeroValue117⟩, ⟨⟨(fun k h => by cases h; exact Try.underlying129), (fun h => by cases h), Try.zeroValue129⟩, ⟨⟨(fun k h => by cases h; exact Try.underlying131), (fun h => by cases h), Try.zeroValue131⟩, ⟨⟨(fun k h => by cases h; exact Try.underlying139), (fun h => by cases h), Try.zeroValue139⟩, ⟨⟨(fun k h => by cases h; exact Try.underlying140), (fun h => by cases h), Try.zeroValue140⟩, trivial⟩⟩⟩⟩⟩⟩⟩⟩⟩⟩⟩⟩⟩⟩⟩⟩⟩⟩⟩⟩⟩⟩⟩⟩⟩
theorem gx_bd : BdOk Try.prog gxb.bd := ⟨⟨_, Try.underlying23, fun _ => by simp [Try.sizeOf3]⟩, ⟨⟨_, Try.underlying65, fun _ => by simp [Try.sizeOf3, Try.sizeOf42]⟩, ⟨⟨_, Try.underlying71, fun _ => by simp [Try.sizeOf3]⟩, ⟨⟨_, Try.underlying94, fun _ => by simp [Try.sizeOf23, Try.sizeOf42, Try.sizeOf92]⟩, ⟨⟨_, Try.underlying97, fun _ => by simp [Try.sizeOf3]⟩, trivial⟩⟩⟩⟩⟩
theorem req71 {M : List Nat} {w : World} {cs cs' : List Value} {x y : Tie} (hx : TieE.R M w cs x) (hy : TieE.R M w cs' y) (w' : World) : (Op.equalIn 10000 71 (.agg (List.toArray cs)) (.agg (List.toArray cs'))).run Try.prog w' = .ok (decide (x = y)) w' := by
  obtain ⟨rfl, _⟩ := (TieE_R (x := x)).1 hx
  obtain ⟨rfl, _⟩ := (TieE_R (x := y)).1 hy
  exact Tie_eq x y w'
theorem gx_eq : EqOk Try.prog gxb.eq := ⟨⟨Try.eqGuardType71, fun _ _ _ _ _ _ hx hy w' => req71 hx hy w'⟩, trivial⟩
theorem gx_mp : MpOk Try.prog gxb.mp := ⟨⟨_, rfl, int_key (hk := Try.underlying3), Try.underlying69, Try.zeroValue4⟩, ⟨⟨_, rfl, int_key (hk := Try.underlying3), Try.underlying117, Try.zeroValue3⟩, trivial⟩⟩
theorem gx_ar : ArOk Try.prog gxb.ar := ⟨⟨_, Try.underlying91, Try.sizeOf3⟩, ⟨⟨_, Try.underlying92, Try.sizeOf91⟩, trivial⟩⟩
theorem gx_pz : PzOk Try.prog gxb.pz := ⟨Try.zeroValue81, ⟨Try.zeroValue86, ⟨Try.zeroValue113, ⟨Try.zeroValue119, ⟨Try.zeroValue122, ⟨Try.zeroValue126, ⟨Try.zeroValue144, ⟨Try.zeroValue146, trivial⟩⟩⟩⟩⟩⟩⟩⟩
theorem gx_mix : Try.prog.follows .mixedOrders = true := by kernel_rfl
theorem gx_okm {fs : List (Nat × Ctr)} {pf : List (Nat × CtrP)} {fm : List (Nat × CtrM)} (h : FsOk Try.prog fs) (hp : PfOk Try.prog pf) (hm : FmOk Try.prog fm) : GxOk Try.prog { gxb with fs := fs, pf := pf, fm := fm } := ⟨gx_st, gx_ag, gx_sl, gx_sz, gx_ty, h, gx_bd, gx_eq, gx_mp, gx_ar, gx_pz, hp, hm, gx_mix⟩
theorem gx_okp {fs : List (Nat × Ctr)} {pf : List (Nat × CtrP)} (h : FsOk Try.prog fs) (hp : PfOk Try.prog pf) : GxOk Try.prog { gxb with fs := fs, pf := pf } := gx_okm (fm := []) h hp trivial
theorem gx_ok {fs : List (Nat × Ctr)} (h : FsOk Try.prog fs) : GxOk Try.prog { gxb with fs := fs } := gx_okp (pf := []) h trivial
end Go.Proofs.Ytdbogmmdogjhpaa
namespace Go.Sx
open Go Go.RowKit
variable [Trk]
theorem Rgi.yield2 {n : Nat} {P : Program} {N : Nat} {ops : Array Oper} {rest : List Oper} {ds : List Deferred} {L : Env} {w : World} {A B : Out} {X : Nat → Out} {Z : List PanicEntry → Out} {f x y : Operand} {l d : Nat} {v u : Value} {ts : Array TypeId} {ty : TypeId} {pos : String} {af : Array Edge} {R : Ending → World → Prop} (hf : ev L f = some (.func (.yield l) #[] #[])) (hx : ev L x = some v) (hy : ev L y = some u) (hN : Nat.blt d N = true)
    (hY : YieldAt Fence.wide (n - 1) P l #[v, u] w R) (h : ∀ e w', R e w' → ∃ q, e = .returned q ∧ Rgi n P N ops rest ds ((d, q) :: L) w' A B X Z) :
    Rgi n P N ops (⟨some d, .call ⟨.value f, #[x, y], ts⟩, ty, pos, af, none⟩ :: rest) ds L w A B X Z := fun a ha => by
  obtain ⟨fn, tmps, assign, body, hy', hR⟩ := hY
  unfold wpListIn
  rw [if_pos (by rfl)]
  refine ⟨fun _ _ => trivial, ?_⟩
  have hs : ∀ o : Oper, noDefer o.op = true → Oper.semAt Fence.wide.round a.eval o = execOp a.eval o := fun o hdf => Oper.semAt_eq _ _ _ fun c hc => by rw [hc] at hdf; simp [noDefer] at hdf
  rw [hs _ rfl]
  have hrun : (execOp a.eval ⟨some d, .call ⟨.value f, #[x, y], ts⟩, ty, pos, af, none⟩).run P w = .ok (.round l fn tmps assign body) w := by
    simp [execOp, resolve, ha.eval hf, ha.eval hx, ha.eval hy, Deferred.ofValue, invoke, hy']
  rw [hrun]
  refine ⟨fun e => (by cases e), hR.mono fun e w' h' => ?_⟩
  obtain ⟨q, rfl, h2⟩ := h e w' h'
  exact h2 _ (ha.put hN q)
end Go.Sx
namespace Go.Proofs.Ytdbogmmdogjhpaa
open Go Go.Sx Go.Rx Go.RowKit
variable [Trk]
def prs : Nat → List (Int × Int)
  | 0 => []
  | n + 1 => prs n ++ (List.range n).map fun (k : Nat) => ((n : Int), (k : Int))
def tri : Nat → Nat
  | 0 => 0
  | n + 1 => tri n + n
theorem prs_len : ∀ n, (prs n).length = tri n
  | 0 => rfl
  | n + 1 => by simp [prs, tri, prs_len n]
theorem tri_lt {i k : Nat} : ∀ {n : Nat}, i < n → k < i → tri i + k < tri n
  | n + 1, h, hk => by
    simp only [tri]
    rcases Nat.lt_or_ge i n with h1 | h1
    · have := tri_lt (n := n) h1 hk; omega
    · have : i = n := by omega
      subst this; omega
theorem prs_get {i k : Nat} : ∀ {n : Nat}, i < n → k < i → (prs n)[tri i + k]? = some ((i : Int), (k : Int))
  | n + 1, h, hk => by
    simp only [prs]
    rcases Nat.lt_or_ge i n with h1 | h1
    · rw [List.getElem?_append_left (by rw [prs_len]; exact tri_lt h1 hk)]
      exact prs_get h1 hk
    · have : i = n := by omega
      subst this
      rw [List.getElem?_append_right (by rw [prs_len]; omega), prs_len, show tri i + k - tri i = k by omega, List.getElem?_map, List.getElem?_range hk]
      rfl
theorem take_get {α : Type} {l : List α} {n : Nat} {x : α} (h : l[n]? = some x) : l.take (n + 1) = l.take n ++ [x] := by
  rw [List.take_add_one, h]; rfl
theorem pairs_stops {M : List Nat} {w : World} {bs len c : Nat} {a : Option Addr} (hC : RdC M w bs 0 [.slice a len c]) (hlen : len ≤ 1000000000) {α : Type} (val : α → Int × Int) (zs : List α) (hzs : zs.map val = prs len) :
    SeqStopsK Fence.wide 2 Try.prog 75 #[.pointer (some ⟨bs, 0, none⟩)] (fun x => #[Value.int .i64 (val x).1, Value.int .i64 (val x).2]) (KI M w.heap.size) (fun ys => ys = zs) (fun pre => pre <+: zs) zs.length w := by
  intro l J Jx W hW _ _ hY h0
  have hBs : W.cell? ⟨bs, 0, none⟩ = some (.slice a len c) := (hW.cell (p := ⟨bs, 0, none⟩) hC.lt).trans (hC.cells.at 0 rfl)
  have hzl : zs.length = tri len := by rw [← prs_len, ← hzs, List.length_map]
  have hget : ∀ {i k : Nat}, i < len → k < i → ∃ x, zs[tri i + k]? = some x ∧ val x = ((i : Int), (k : Int)) := fun {i k} hi hk => by
    have h1 := prs_get hi hk
    rw [← hzs, List.getElem?_map] at h1
    cases hx : zs[tri i + k]? with
    | none => rw [hx] at h1; cases h1
    | some x => rw [hx] at h1; exact ⟨x, rfl, Option.some.inj h1⟩
  refine callsIn_wide.2 ?_
  let R : Ending → World → Prop := fun e W' => (∃ v, e = .returned v) ∧ ((∃ xs, xs = zs ∧ J xs W') ∨ (∃ pre, pre <+: zs ∧ Jx pre W'))
  have hret : ∀ (pre : List α) (L : Sx.Env) (W' : World), pre <+: zs → Jx pre W' → FinR Try.prog Try.f75 R [] L W' := fun pre L W' h1 h2 => fin_any (rs := []) (vs := []) rfl .nil rfl ⟨⟨_, rfl⟩, .inr ⟨pre, h1, h2⟩⟩
  refine calls_cw (l := [.func (.yield l) #[] #[], .pointer (some ⟨bs, 0, none⟩)]) (fn := Try.f75) Try.func75 rfl rfl rfl ?_
  refine cw_seq ?_
  refine cw_regF ?_
  refine s_ld rfl hBs Try.isAgg24 rfl ?_
  refine s_lenV rfl Try.underlying24 rfl ?_
  refine s_mv rfl rfl ?_
  refine Reg.nil ?_
  refine cw_block ?_
  refine cw_loop (ι := Nat) (fun i => [(7, .int .i64 (i : Int)), (6, .int .i64 (len : Int)), (0, .func (.yield l) #[] #[])]) (fun i W => J (zs.take (tri i)) W ∧ i ≤ len) (fun i => len - i) 0 ⟨by simpa [tri] using h0, Nat.zero_le _⟩ (Sub.cons rfl (Sub.cons rfl (Sub.cons rfl (Sub.nil _)))) ?_
  rintro i W1 ⟨hJ, hi⟩
  refine cw_seq ?_
  refine cw_regF ?_
  refine s_lss rfl rfl rfl ?_
  refine Reg.nil ?_
  refine cw_seq ?_
  refine cw_cond rfl (fun hlt => ?_) (fun hge => ?_)
  · have hlt : i < len := by simpa using hlt
    refine cw_skip ?_
    refine cw_seq ?_
    refine cw_block ?_
    refine cw_seq ?_
    refine cw_regF ?_
    refine s_mv rfl rfl ?_
    refine s_as rfl rfl ?_
    refine Reg.nil ?_
    refine cw_seq ?_
    refine cw_regF ?_
    refine s_mv rfl rfl ?_
    refine s_mv rfl rfl ?_
    refine Reg.nil ?_
    refine cw_block ?_
    refine cw_loop (ι := Nat) (fun k => [(11, .int .i64 (k : Int)), (10, .int .i64 (i : Int)), (3, .int .i64 (i : Int)), (7, .int .i64 (i : Int)), (6, .int .i64 (len : Int)), (0, .func (.yield l) #[] #[])]) (fun k W => J (zs.take (tri i + k)) W ∧ k ≤ i) (fun k => i - k) 0 ⟨by simpa using hJ, Nat.zero_le _⟩ (Sub.cons rfl (Sub.cons rfl (Sub.cons rfl (Sub.cons rfl (Sub.cons rfl (Sub.cons rfl (Sub.nil _))))))) ?_
    rintro k W2 ⟨hJ2, hk⟩
    refine cw_seq ?_
    refine cw_regF ?_
    refine s_lss rfl rfl rfl ?_
    refine Reg.nil ?_
    refine cw_seq ?_
    refine cw_cond rfl (fun hlt2 => ?_) (fun hge2 => ?_)
    · have hlt2 : k < i := by simpa using hlt2
      refine cw_skip ?_
      refine cw_seq ?_
      refine cw_block ?_
      refine cw_seq ?_
      refine cw_regF ?_
      refine s_mv rfl rfl ?_
      refine s_as rfl rfl ?_
      refine Reg.nil ?_
      refine cw_seq ?_
      obtain ⟨x, hx, hv⟩ := hget hlt hlt2
      have hpos : tri i + k < zs.length := by rw [hzl]; exact tri_lt hlt hlt2
      have htk : zs.take (tri i + (k + 1)) = zs.take (tri i + k) ++ [x] := take_get hx
      have hY2 := hY (zs.take (tri i + k)) x W2 hJ2 (by rw [List.length_take]; omega)
      dsimp only at hY2
      rw [hv] at hY2
      refine cw_regI 2 ?_
      refine Rgi.val (.func (.yield l) #[] #[]) rfl rfl rfl rfl (fun a ha => by simp [execOp, ha.eval (x := .tmp 0) rfl]) ?_
      refine Rgi.val (.int .i64 (i : Int)) rfl rfl rfl rfl (fun a ha => by simp [execOp, ha.eval (x := .tmp 3) rfl]) ?_
      refine Rgi.val (.int .i64 (k : Int)) rfl rfl rfl rfl (fun a ha => by simp [execOp, ha.eval (x := .tmp 4) rfl]) ?_
      refine Rgi.yield2 rfl rfl rfl rfl hY2 ?_
      rintro e W3 (⟨rfl, hJ3, hk3⟩ | ⟨rfl, hJx3⟩)
      · refine ⟨_, rfl, ?_⟩
        refine Rgi.val (.bool false) rfl rfl rfl rfl (fun a ha => by simp [execOp, ha.eval (x := .tmp 17) rfl, Op.unary]) ?_
        refine Rgi.nil ?_
        refine cw_condF rfl ?_
        refine cw_skip ?_
        refine cw_regF ?_
        refine s_add rfl rfl rfl (InK.i64.2 (by omega)) ?_
        refine s_mv rfl rfl ?_
        refine Reg.nil ⟨rfl, k + 1, ⟨by rw [htk]; exact hJ3, hlt2⟩, Sub.cons rfl (Sub.cons rfl (Sub.cons rfl (Sub.cons rfl (Sub.cons rfl (Sub.cons rfl (Sub.nil _)))))), by omega⟩
      · refine ⟨_, rfl, ?_⟩
        refine Rgi.val (.bool true) rfl rfl rfl rfl (fun a ha => by simp [execOp, ha.eval (x := .tmp 17) rfl, Op.unary]) ?_
        refine Rgi.nil ?_
        refine cw_condT rfl ?_
        refine cw_ret ?_
        exact hret _ _ _ (htk ▸ List.take_prefix _ _) hJx3
    · have hge2 : ¬ k < i := by simpa using hge2
      obtain rfl : k = i := by omega
      refine cw_exit (exB_same ?_)
      refine cw_regF ?_
      refine s_add rfl rfl rfl (InK.i64.2 (by omega)) ?_
      refine s_mv rfl rfl ?_
      refine Reg.nil ⟨rfl, k + 1, ⟨hJ2, hlt⟩, Sub.cons rfl (Sub.cons rfl (Sub.cons rfl (Sub.nil _))), by omega⟩
  · have hge : ¬ i < len := by simpa using hge
    obtain rfl : i = len := by omega
    refine cw_exit (exB_same ?_)
    refine fin_any (rs := []) (vs := []) rfl .nil rfl ⟨⟨_, rfl⟩, .inl ⟨zs, rfl, ?_⟩⟩
    rwa [List.take_of_length_le (by omega)] at hJ
/-- The pairs of some filings. -/
def P.ring_pairs (l : List Filing) : Option (List (Int × Int)) := if l.length ≤ 1000000000 then some (prs l.length) else none
def ctr67 : Ctr := ⟨[.d (.sl (.st 1))], [.it [.int .i64, .int .i64]], fun a => P.ring_pairs a.1⟩
theorem prs_in : ∀ {n : Nat} {x : Int × Int}, x ∈ prs n → n ≤ 1000000000 → InK .i64 x.1 ∧ InK .i64 x.2
  | n + 1, x, h, hn => by
    rcases List.mem_append.1 h with h | h
    · exact prs_in h (by omega)
    · obtain ⟨k, hk, rfl⟩ := List.mem_map.1 h
      have := List.mem_range.1 hk
      exact ⟨InK.i64.2 (by omega), InK.i64.2 (by omega)⟩
theorem ok67 : Ctr.ok Try.prog 67 ctr67 := by
  refine ⟨by decide, fun M w a vals r hM ha hr => ?_⟩
  obtain ⟨v, q, rfl, hv, ha⟩ := ha
  have ha : q = [] := ha
  subst ha
  have hr : P.ring_pairs a.1 = some r := hr
  unfold P.ring_pairs at hr
  split at hr
  · rename_i hlen
    cases hr
    obtain ⟨sa, c, hvv, _⟩ := (OkD.rds hv)
    subst hvv
    refine calls_cw (l := [_]) (fn := Try.f67) Try.func67 rfl rfl rfl ?_
    have hI := Hp.start (Mu := []) hM
    refine cw_seq ?_
    refine cw_regF ?_
    refine y_box hI rfl rfl rfl ?_
    intro b w2 hI2 x2
    have hC := hI2.freezeRow 0 rfl
    have hI3 := hI2.erase 0
    refine s_as rfl rfl ?_
    refine Reg.nil ?_
    refine cw_seq ?_
    refine cw_regF ?_
    refine s_mf (xs := [.tmp 1]) rfl rfl ?_
    refine s_as rfl rfl ?_
    refine Reg.nil ?_
    refine cw_ret ?_
    refine fin_any (rs := [.tmp 2]) (vs := [_]) rfl (.cons (.tmp rfl) .nil) rfl ⟨[_], rfl, ⟨_, rfl, ⟨_, _, rfl, Try.call75, fun x hx => ?_, fun M1 w1 hA hM1 α val zs hzs => ?_⟩, rfl, rfl⟩, hI3.kp⟩
    · exact prs_in hx hlen
    · exact pairs_stops (hC.adv hA) hlen val zs hzs
  · cases hr
end Go.Proofs.Ytdbogmmdogjhpaa
namespace Go.Proofs.Ytdbogmmdogjhpaa
open Go Go.Sx
instance trkF : Trk := ⟨False⟩
end Go.Proofs.Ytdbogmmdogjhpaa
namespace Go.Rx
open Go Go.Sx Go.RowKit
/-- The operations that defer: what, what it captures, the slot of the closure. -/
def deferO : List Oper → Option (Nat × List Nat × Nat)
  | [m, d] => match m.guard, m.dst, m.op, d.guard, d.dst, d.op with
    | none, some t, .makeFunc (.func g) fs cs, none, none, .defer ⟨.value (.tmp u), ax, _⟩ => match fs.toList, ax.toList, Nat.beq t u with
      | [], [], true => match tmpsL cs.toList with
        | some l => some (g, l, t)
        | none => none
      | _, _, _ => none
    | _, _, _, _, _, _ => none
  | _ => none
where tmpsL : List Operand → Option (List Nat)
  | [] => some []
  | .tmp t :: l => match tmpsL l with
    | some r => some (t :: r)
    | none => none
  | _ :: _ => none
def defC : Code → Option (Nat × List Nat × Nat)
  | .seq a b => match defC a with
    | some q => some q
    | none => defC b
  | .region _ ops false => deferO ops.toList
  | _ => none
section
variable [Sg] [Sf] (G : Gx)
noncomputable def execD (N : Nat) {ρ : Type} (pr : AS → Option ρ) (g : Nat) (cs : List Nat) : Code → An → {Z : Type} → (AS → Option Z) → (ρ → Option Z) → (Nat → AS → Option Z) → AS → Option Z
  | .seq a b, an, _, KN, KR, KX, σ => match defC a with
    | some _ => match disB cs (wrOf b ++ wrAn an.r) with
      | true => execD N pr g cs a an.l (fun σ' => exec G N pr b an.r KN KX KR σ') KR KX σ
      | false => none
    | none => exec G N pr a an.l (fun σ' => execD N pr g cs b an.r KN KR KX σ') (fun _ _ => none) KR σ
  | .region _ ops dr, _, _, KN, _, _, σ => match dr, deferO ops.toList with
    | false, some (g', cs', t) => match Nat.beq g' g && decide (cs' = cs) && Nat.blt t N && disB cs [t] && (cs.all fun s => match fnd σ.env s with
        | some _ => true
        | none => false) && (match fnd σ.env t with
        | some _ => false
        | none => true) with
      | true => KN σ
      | false => none
    | _, _ => none
  | _, _, _, _, _, _, _ => none
/-- What is stored when something was thrown. -/
def stoO (cs : List Nat) (x : TypeId × Nat × Value) : Option Oper := match nth cs x.2.1 with
  | some c => some ⟨none, .store x.1 (.tmp c) (.const x.2.2), 0, "", #[], none⟩
  | none => none
noncomputable def stoD (N : Nat) (cs : List Nat) {Z : Type} (K : AS → Option Z) : List (TypeId × Nat × Value) → AS → Option Z
  | [], σ => K σ
  | x :: r, σ => match stoO cs x with
    | some o => runOps G N [] (stoD N cs K r) [o] σ
    | none => none
def dropE (t : Nat) : List (Nat × SV) → List (Nat × SV)
  | [] => []
  | p :: l => bif Nat.beq p.1 t then dropE t l else p :: dropE t l
noncomputable def runDf [Trk] (f : Func) (an : An) (ps : List Pt) (cs : List Ck) (g : Nat) (caps : List Nat) (T t : Nat) (u : Ty) (eff : List (TypeId × Nat × Value)) (a : denP ps) : Option (denK cs) := match f.body with
  | some c => execD G f.ntmps (retS G cs f.results.toList) g caps c an (retS G cs f.results.toList) some (fun j σ => bif Nat.beq j (panX T t) then (match throwS t u σ with
      | some _ => stoD G f.ntmps caps (retS G cs f.results.toList) eff { σ with env := dropE t σ.env }
      | none => none) else none) ⟨argS 0 ps a, [], [], []⟩
  | none => none
end
variable [Trk] [Sg] [Sf] {P : Program} [Se P]
/-- What a deferred closure does: nothing, where nothing was thrown. -/
def DefN (P : Program) (g : Nat) (n : Nat) : Prop := ∀ (vals : List Value) (w : World), vals.length = n → CallsD P g (List.toArray vals) .returning w fun e u w' => (∃ x, e = .returned x) ∧ u = .returning ∧ w' = w
def stosV (P : Program) : List (TypeId × Value × Value) → World → World → Prop
  | [], w, w' => w' = w
  | (t, p, v) :: r, w, w' => ∃ w1, (Instr.storeAt t p v).run P w = .ok () w1 ∧ stosV P r w1 w'
def DefP (P : Program) [Se P] (g : Nat) (n : Nat) (T : TypeId) (u : Ty) (eff : List (TypeId × Nat × Value)) : Prop := ∀ (M : List Nat) (w : World) (vals : List Value) (e : den u) (v : Value), vals.length = n → OkD (P := P) M w u e v →
  ∃ w1, Ext w w1 ∧ ∀ w2, stosV P (eff.map fun x => (x.1, vals.getD x.2.1 undef, x.2.2)) w1 w2 → CallsD P g (List.toArray vals) (.panicking [{ v := .iface T v, recovered := false }]) w fun en um w' => (∃ x, en = .returned x) ∧ um = .panicking [{ v := .iface T v, recovered := true }] ∧ w' = w2
section
variable [Anch]
variable {N : Nat} {G : Gx} {Γ : Type} {pr : AS → Option Γ} {w0 : World} {M : List Nat}
/-- What slots hold. -/
def slotsV (L : Env) (cs : List Nat) (vals : List Value) : Prop := vals.length = cs.length ∧ ∀ (i c : Nat), cs[i]? = some c → ∃ v, vals[i]? = some v ∧ Sx.look L c = some v
theorem slotsV.of {L L' : Env} {W cs : List Nat} {vals : List Value} (h : slotsV L cs vals) (hE : EnvS W L L') (hd : disB cs W = true) : slotsV L' cs vals := ⟨h.1, fun i c hc => by
  obtain ⟨v, h1, h2⟩ := h.2 i c hc
  exact ⟨v, h1, by rw [hE c (disB_out hd c (List.mem_of_getElem? hc))]; exact h2⟩⟩
theorem tmpsL_out : ∀ {xs : List Operand} {l : List Nat}, deferO.tmpsL xs = some l → xs = l.map Operand.tmp
  | [], l, h => by cases h; rfl
  | x :: r, l, h => by
    cases x with
    | tmp t =>
      have h : (match deferO.tmpsL r with
        | some q => some (t :: q)
        | none => none) = some l := h
      cases hr : deferO.tmpsL r with
      | none => rw [hr] at h; exact (noS h).elim
      | some q =>
        rw [hr] at h
        cases h
        rw [tmpsL_out hr]; rfl
    | const _ => exact (noS h).elim
    | func _ => exact (noS h).elim
    | global _ => exact (noS h).elim
theorem deferO_out {ops : List Oper} {g t : Nat} {cs : List Nat} (h : deferO ops = some (g, cs, t)) : ∃ m d ax ts, ops = [m, d] ∧ m.guard = none ∧ m.dst = some t ∧ m.op = .makeFunc (.func g) #[] (List.toArray (cs.map Operand.tmp)) ∧ d.guard = none ∧ d.dst = none ∧ d.op = .defer ⟨.value (.tmp t), ax, ts⟩ ∧ ax = #[] := by
  unfold deferO at h
  split at h
  · split at h
    · rename_i h1 h2 h3 h4 h5 h6
      split at h
      · rename_i h7 h8 h9
        split at h
        · rename_i h10
          have e := Nat.eq_of_beq_eq_true h9
          subst e
          cases h
          refine ⟨_, _, _, _, rfl, h1, h2, ?_, h4, h5, h6, ?_⟩
          · rw [h3, ← tmpsL_out h10]
            congr 1
            · exact Array.ext' h7
          · exact Array.ext' h8
        · exact (noS h).elim
      · exact (noS h).elim
    · exact (noS h).elim
  · exact (noS h).elim
theorem fnd_dropE {t u : Nat} : ∀ {l : List (Nat × SV)}, fnd (dropE t l) u = if u = t then none else fnd l u
  | [] => by simp [dropE, fnd]
  | p :: l => by
    obtain ⟨k, s⟩ := p
    have ih := fnd_dropE (t := t) (u := u) (l := l)
    simp only [dropE]
    cases hb : Nat.beq k t with
    | true =>
      have e := Nat.eq_of_beq_eq_true hb
      subst e
      rw [cond_true, ih, fnd_cons]
      by_cases hu : u = k
      · rw [if_pos hu, if_pos hu]
      · rw [if_neg hu, if_neg hu, if_neg (fun e => hu e.symm)]
    | false =>
      have hne : k ≠ t := fun e => by subst e; simp at hb
      rw [cond_false, fnd_cons, fnd_cons, ih]
      by_cases hk : k = u
      · subst hk; rw [if_pos rfl, if_pos rfl, if_neg hne]
      · rw [if_neg hk, if_neg hk]
theorem evs_tmps {L : Env} : ∀ {cs : List Nat}, (∀ c ∈ cs, ∃ v, Sx.look L c = some v) → ∃ vals, evs L (cs.map Operand.tmp) = some vals ∧ slotsV L cs vals
  | [], _ => ⟨[], rfl, rfl, fun i c h => by cases h⟩
  | c :: cs, h => by
    obtain ⟨v, h1⟩ := h c (List.mem_cons_self ..)
    obtain ⟨vals, h2, h3, h4⟩ := evs_tmps (cs := cs) fun c hc => h c (List.mem_cons_of_mem _ hc)
    refine ⟨v :: vals, ?_, by simp [h3], fun i c' hc => ?_⟩
    · show (match ev L (.tmp c) with
        | some v => (match evs L (cs.map Operand.tmp) with
          | some vs => some (v :: vs)
          | none => none)
        | none => none) = _
      rw [show ev L (.tmp c) = some v from h1, h2]
    · cases i with
      | zero => cases hc; exact ⟨v, rfl, h1⟩
      | succ i => exact h4 i c' hc
theorem execD_ok [Sl (P := P)] (hG : GxOk P G) {g : Nat} {cs : List Nat} : ∀ (c : Code) (an : An) {Y : Type} {KN : AS → Option Y} {KR : Γ → Option Y} {KX : Nat → AS → Option Y} {σ : AS} {L : Env} {w : World} {z : Y} {A B : Out} {X X1 : Nat → Out} {Z : List PanicEntry → Out}, execD G N pr g cs c an KN KR KX σ = some z → Holds (P := P) w0 [] M σ L w →
    (∀ vals σ' L' w', KN σ' = some z → slotsV L' cs vals → Holds (P := P) w0 [] M σ' L' w' → A [{ target := .fn (.func g) (List.toArray vals), args := #[] }] L' w') →
    (∀ r σ' L' w', pr σ' = some r → KR r = some z → Holds (P := P) w0 [] M σ' L' w' → B [] L' w') →
    (∀ vals r σ' L' w', pr σ' = some r → KR r = some z → slotsV L' cs vals → Holds (P := P) w0 [] M σ' L' w' → B [{ target := .fn (.func g) (List.toArray vals), args := #[] }] L' w') →
    (∀ vals i σ' L' w', KX i σ' = some z → slotsV L' cs vals → Holds (P := P) w0 [] M σ' L' w' → X i [{ target := .fn (.func g) (List.toArray vals), args := #[] }] L' w') →
    (∀ vals, PZ X NoX Z [{ target := .fn (.func g) (List.toArray vals), args := #[] }]) → CW P N c [] L w A B X1 Z
  | .seq a b, an, Y, KN, KR, KX, σ, L, w, z, A, B, X, X1, Z, h, hH, hA, hB, hD, hX, hP => by
    have h : (match defC a with
      | some _ => match disB cs (wrOf b ++ wrAn an.r) with
        | true => execD G N pr g cs a an.l (fun σ' => exec G N pr b an.r KN KX KR σ') KR KX σ
        | false => none
      | none => exec G N pr a an.l (fun σ' => execD G N pr g cs b an.r KN KR KX σ') (fun _ _ => none) KR σ) = some z := h
    cases ha : defC a with
    | some q =>
      rw [ha] at h
      simp only at h
      cases hd : disB cs (wrOf b ++ wrAn an.r) with
      | false => rw [hd] at h; exact (noS h).elim
      | true =>
        rw [hd] at h
        refine cw_seq (execD_ok hG a an.l (X := X) h hH (fun vals σ1 L1 w1 h1 hv hH1 => ?_) hB hD hX hP)
        refine cf_wide (n := 3) (cf_noX (exec_ok hG b an.r _ _ _ _ _ _ _ _ _ _ X _ _ h1 hH1 (fun σ2 L2 w2 h2 _ hE hH2 => hA vals σ2 L2 w2 h2 (hv.of hE hd) hH2) (fun i σ2 L2 w2 h2 _ hE hH2 => hX vals i σ2 L2 w2 h2 (hv.of hE hd) hH2) (fun r σ2 L2 w2 h2 h3 hE hH2 => hD vals r σ2 L2 w2 h2 h3 (hv.of hE hd) hH2) ⟨fun T t L1 L2 w v ht hl hx => (hP vals).z T t L1 L2 w v ht hl hx, fun i L w hi hx => (hP vals).x i L w hi hx⟩))
    | none =>
      rw [ha] at h
      refine cw_seq (cf_wide (n := 3) (cf_noX (exec_ok hG a an.l _ _ _ _ _ _ _ _ _ _ _ _ _ h hH (fun σ1 L1 w1 h1 _ _ hH1 => ?_) (fun i σ2 L2 w2 h2 => by cases h2) (fun r σ2 L2 w2 h2 h3 _ hH2 => hB r σ2 L2 w2 h2 h3 hH2) PZ.no)))
      exact execD_ok hG b an.r h1 hH1 hA hB hD hX hP
  | .region i ops dr, an, Y, KN, KR, KX, σ, L, w, z, A, B, X, X1, Z, h, hH, hA, hB, hD, hX, hP => by
    obtain ⟨ops⟩ := ops
    have hq : (match (generalizing := false) dr, deferO ops with
      | false, some (g', cs', t) => match Nat.beq g' g && decide (cs' = cs) && Nat.blt t N && disB cs [t] && (cs.all fun s => match fnd σ.env s with
          | some _ => true
          | none => false) && (match fnd σ.env t with
          | some _ => false
          | none => true) with
        | true => KN σ
        | false => none
      | _, _ => none) = some z := h
    clear h
    cases dr with
    | true => exact (noS hq).elim
    | false =>
      cases ho : deferO ops with
      | none => rw [ho] at hq; exact (noS hq).elim
      | some q =>
        obtain ⟨g', cs', t⟩ := q
        rw [ho] at hq
        simp only at hq
        cases hb : (Nat.beq g' g && decide (cs' = cs) && Nat.blt t N && disB cs [t] && (cs.all fun s => match fnd σ.env s with
            | some _ => true
            | none => false) && (match fnd σ.env t with
            | some _ => false
            | none => true)) with
        | false => rw [hb] at hq; exact (noS hq).elim
        | true =>
          rw [hb] at hq
          simp only [Bool.and_eq_true, decide_eq_true_eq] at hb
          obtain ⟨⟨⟨⟨⟨b1, b2⟩, b3⟩, b4⟩, b5⟩, b6⟩ := hb
          have b1 := Nat.eq_of_beq_eq_true b1
          subst b1
          subst b2
          obtain ⟨m, d, ax, ts, rfl, h1, h2, h3, h4, h5, h6, rfl⟩ := deferO_out ho
          obtain ⟨S, ρ, γ, μ, ι, hS⟩ := hH
          have hin : ∀ c ∈ cs', ∃ v, Sx.look L c = some v := fun c hc => by
            have := List.all_eq_true.1 b5 c hc
            cases hf : fnd σ.env c with
            | none => rw [hf] at this; cases this
            | some s => obtain ⟨v, hv, _⟩ := hS.env c s hf; exact ⟨v, hv⟩
          obtain ⟨vals, hv, hsl⟩ := evs_tmps hin
          obtain ⟨md, mop, mt, mpos, maf, mg⟩ := m
          have h1 : mg = none := h1
          have h2 : md = some t := h2
          have h3 : mop = _ := h3
          subst h1; subst h2; subst h3
          refine cw_regF (s_mf hv b3 ?_)
          intro a ha
          simp only [wpList]
          rw [if_pos (show Region.wanted d (yielded _ a.tmps) = true by simp [Region.wanted, h4])]
          left
          have hx : a.eval (.tmp t) = .func (.func g') #[] (List.toArray vals) := ha.eval (by show Sx.look _ t = _; rw [look_cons, if_pos rfl])
          have e1 : (execOp a.eval d).run P w = .ok (.defer { target := .fn (.func g') (List.toArray vals), args := #[] }) w := by
            obtain ⟨dd, dop, dt, dpos, daf, dg⟩ := d
            have h6 : dop = _ := h6
            subst h6
            simp [execOp, resolve, hx, Deferred.ofValue]
          unfold Oper.wp
          rw [e1, Oper.upon_defer, h5]
          have hfn : fnd σ.env t = none := by
            cases hf : fnd σ.env t with
            | none => rfl
            | some s => rw [hf] at b6; cases b6
          have hdead : Holds (P := P) w0 [] M σ ((t, .func (.func g') #[] (List.toArray vals)) :: L) w := ⟨S, ρ, γ, μ, ι, hS.envTo fun u s hu => by
            rw [look_cons, if_neg]
            rintro rfl
            rw [hfn] at hu; cases hu⟩
          have hA2 := hA vals _ _ w hq (hsl.of (EnvS.put t L _) b4) hdead
          exact ⟨_, _, ⟨ha.size, by show _ :: a.defers = _; rw [ha.defers], ha.val⟩, hA2⟩
  | .skip, _, _, _, _, _, _, _, _, _, _, _, _, _, _, h, _, _, _, _, _, _ | .cond _ _ _, _, _, _, _, _, _, _, _, _, _, _, _, _, _, h, _, _, _, _, _, _ | .loop _, _, _, _, _, _, _, _, _, _, _, _, _, _, _, h, _, _, _, _, _, _ | .exit _, _, _, _, _, _, _, _, _, _, _, _, _, _, _, h, _, _, _, _, _, _ | .ret, _, _, _, _, _, _, _, _, _, _, _, _, _, _, h, _, _, _, _, _, _
  | .block _ _, _, _, _, _, _, _, _, _, _, _, _, _, _, _, h, _, _, _, _, _, _ | .rangeFunc _ _ _ _, _, _, _, _, _, _, _, _, _, _, _, _, _, _, h, _, _, _, _, _, _ | .scope _, _, _, _, _, _, _, _, _, _, _, _, _, _, _, h, _, _, _, _, _, _ | .label _, _, _, _, _, _, _, _, _, _, _, _, _, _, _, h, _, _, _, _, _, _ | .goto _, _, _, _, _, _, _, _, _, _, _, _, _, _, _, h, _, _, _, _, _, _ | .refuse _, _, _, _, _, _, _, _, _, _, _, _, _, _, _, h, _, _, _, _, _, _ => (noS h).elim
theorem stoD_ok [Sl (P := P)] (hG : GxOk P G) {cs : List Nat} {vals : List Value} {Y : Type} {K : AS → Option Y} {z : Y} {ds : List Deferred} {L : Env} {a : Act} (ha : Knows N ds L a) (hv : slotsV L cs vals) : ∀ (l : List (TypeId × Nat × Value)) {σ : AS} {w : World}, stoD G N cs K l σ = some z → Holds (P := P) w0 [] M σ L w → ∃ σ' w', stosV P (l.map fun x => (x.1, vals.getD x.2.1 undef, x.2.2)) w w' ∧ K σ' = some z ∧ Holds (P := P) w0 [] M σ' L w'
  | [], σ, w, h, hH => ⟨σ, w, rfl, h, hH⟩
  | x :: r, σ, w, h, hH => by
    have h : (match stoO cs x with
      | some o => runOps G N [] (stoD G N cs K r) [o] σ
      | none => none) = some z := h
    cases ho : stoO cs x with
    | none => rw [ho] at h; exact (noS h).elim
    | some o =>
      rw [ho] at h
      have h : runOps G N [] (stoD G N cs K r) [o] σ = some z := h
      unfold stoO at ho
      rw [nth_eq] at ho
      cases hc : cs[x.2.1]? with
      | none => rw [hc] at ho; exact (noS ho).elim
      | some c =>
        rw [hc] at ho
        have ho : (⟨none, .store x.1 (.tmp c) (.const x.2.2), 0, "", #[], none⟩ : Oper) = o := Option.some.inj ho
        obtain ⟨v, hv1, hv2⟩ := hv.2 _ c hc
        have key := runOps_ok (P := P) (ops := []) (ds := ds) (B := fun _ _ _ => False) (X := NoX) (Z := fun _ _ _ _ => False) (W := []) hG [o] σ L w h (fun t ht => by subst ho; cases ht) hH (A := fun _ L' w' => ∃ σ', stoD G N cs K r σ' = some z ∧ EnvS [] L L' ∧ Holds (P := P) w0 [] M σ' L' w') fun σ' L' w' hK _ hE hH' => ⟨σ', hK, hE, hH'⟩
        have k1 := key a ha
        subst ho
        simp only [wpList] at k1
        rw [if_pos (by simp [Region.wanted])] at k1
        have k2 := k1.resolve_right fun hh => noLet hh.2
        unfold Oper.wp at k2
        have e1 : (execOp a.eval ⟨none, .store x.1 (.tmp c) (.const x.2.2), 0, "", #[], none⟩).run P w = ((Instr.storeAt x.1 v x.2.2).run P w).andThen fun _ w1 => .ok .skip w1 := by
          have h1 : a.eval (.tmp c) = v := ha.eval hv2
          have h2 : a.eval (.const x.2.2) = x.2.2 := rfl
          simp [execOp, h1, h2]
        rw [e1] at k2
        cases hr : (Instr.storeAt x.1 v x.2.2).run P w with
        | ok q w1 =>
          rw [hr] at k2
          obtain ⟨ds', L', hk, σ', h1, hE, h2⟩ := k2
          have hL : ∀ t, Sx.look L' t = Sx.look L t := fun t => hE t (by simp)
          obtain ⟨S, ρ, γ, μ, ι, h2⟩ := h2
          obtain ⟨σ2, w2, h3, h4, h5⟩ := stoD_ok hG ha hv r h1 ⟨S, ρ, γ, μ, ι, h2.envTo (L := L) fun t s _ => hL t⟩
          refine ⟨σ2, w2, ⟨w1, ?_, h3⟩, h4, h5⟩
          have : vals.getD x.2.1 undef = v := by simp [List.getD, hv1]
          rw [this, hr]
        | halt q w1 =>
          rw [hr] at k2
          cases q with
          | panic v => obtain ⟨_, _, _, hz⟩ := k2; exact hz.elim
          | _ => exact k2.elim
end
/-- The contract of a function that defers a closure, which recovers. -/
theorem funD_ok [Sl (P := P)] {G : Gx} (hG : GxOk P G) {k : Nat} {f : Func} {c : Code} {an : An} {ps : List Pt} {cs : List Ck} {g : Nat} {caps : List Nat} {T t : Nat} {u : Ty} {eff : List (TypeId × Nat × Value)} {F : denP ps → Option (denK cs)} (hdn : DefN P g caps.length) (hdp : DefP P g caps.length T u eff) (hen : ∀ args w, (callFunc g args).run P w = .ok (.enter g args) w) (hf : P.funcs[k]? = some f) (hb : f.body = some c) (hl : Nat.ble ps.length f.ntmps = true) (hn : Nat.ble cs.length 4 = true) (ho : Nat.ble (own1 cs) 1 = true) (hnt : Nat.ble f.ntmps pnc = true) (ht : Nat.blt t f.ntmps = true) (hct : disB caps [t] = true) (hF : ∀ a, F a = runDf G f an ps cs g caps T t u eff a) : Ctr.ok P k ⟨ps, cs, F⟩ := by
  refine ⟨Nat.le_of_ble_eq_true ho, fun M w a vals r hM ha hr => ?_⟩
  have hr : F a = some r := hr
  rw [hF] at hr
  unfold runDf at hr
  rw [hb] at hr
  have hlen : ∀ (ps : List Pt) {a : denP ps} {vals : List Value}, ArgsOk M w ps a vals → vals.length = ps.length := by
    intro ps
    induction ps with
    | nil => intro a vals h; have h : vals = [] := h; rw [h]; rfl
    | cons p ps ih => intro a vals h; obtain ⟨v, r, rfl, _, h3⟩ := h; simp [ih h3]
  have h0 : Holds (P := P) w [] M ⟨argS 0 ps a, [], [], []⟩ (argEnv 0 vals) w := by
    refine ⟨[], fun _ => undef, fun _ => [], fun _ => [], fun _ => 0, ⟨Hp.start hM, (fun i a h => by cases h), (fun i j a b h => by cases h), (fun i a h => by cases h), fun t s h => ?_, trivial⟩⟩
    exact argS_ok ps 0 ha t s h
  have ht2 : Nat.blt t pnc = true := by
    have h1 : t < f.ntmps := by simpa [Nat.blt_eq] using ht
    have h2 := Nat.le_of_ble_eq_true hnt
    simpa [Nat.blt_eq] using (by omega : t < pnc)
  let R : Ending → World → Prop := fun e w' => ∃ vs, e = .returned (tupV vs) ∧ KsOk (P := P) M (obK cs vs ++ M) w w' cs r vs ∧ Ext w w'
  have fin : ∀ σ' L' w', retS G cs f.results.toList σ' = some r → Holds (P := P) w [] M σ' L' w' → FinR P f R [] L' w' := fun σ' L' w' h1 hH => by
    obtain ⟨vs, h2, h3, h4, h5⟩ := retS_ok hG hH h1
    exact fin_any (by simp) h2 (by rw [h3]; exact hn) ⟨vs, by rw [tup_pack], h4, h5⟩
  have res : ∀ σ' L' w' ds (b : Act), retS G cs f.results.toList σ' = some r → Holds (P := P) w [] M σ' L' w' → Knows f.ntmps ds L' b → ∃ v, (results f b.tmps).run P w' = .ok v w' ∧ R (.returned v) w' := fun σ' L' w' ds b h1 hH hk => by
    obtain ⟨_, v, h2, h3⟩ := fin σ' L' w' h1 hH
    exact ⟨v, h2 { tmps := b.tmps, defers := [] } ⟨hk.size, rfl, hk.val⟩, h3⟩
  let Dv : List Value → Deferred := fun vals => { target := .fn (.func g) (List.toArray vals), args := #[] }
  have inv : ∀ (vals : List Value) (w' : World), (invoke (.fn (.func g) (List.toArray vals)) #[]).run P w' = .ok (.enter g (List.toArray vals)) w' := fun vals w' => by
    have := hen (List.toArray vals) w'
    simpa [invoke] using this
  let A : Out := fun ds L' w' => ∀ b, Knows f.ntmps ds L' b → Leaves P f b.tmps R ds .returning w'
  let Z : List PanicEntry → Out := fun ch ds L' w' => ∀ b, Knows f.ntmps ds L' b → Leaves P f b.tmps R ds (.panicking ch) w'
  have norm : ∀ vals σ' L' w', retS G cs f.results.toList σ' = some r → slotsV L' caps vals → Holds (P := P) w [] M σ' L' w' → A [Dv vals] L' w' := fun vals σ' L' w' h1 hs hH b hk => by
    refine leaves_cons (f := g) (args := List.toArray vals) (by simp) (inv vals w') ((hdn vals w' hs.1).mono ?_)
    rintro e um w2 ⟨⟨x, rfl⟩, rfl, rfl⟩
    exact res σ' L' w2 _ b h1 hH hk
  have key : CW P f.ntmps c [] (argEnv 0 vals) w A A NoX Z := by
    refine execD_ok (X := fun j ds L' w' => ∃ vals, ds = [Dv vals] ∧ j = panX T t ∧ ∃ σ', slotsV L' caps vals ∧ Holds (P := P) w [] M σ' L' w' ∧ (match throwS t u σ' with
      | some _ => stoD G f.ntmps caps (retS G cs f.results.toList) eff { σ' with env := dropE t σ'.env }
      | none => none) = some r) hG c an hr h0 (fun vals σ' L' w' h1 hs hH => norm vals σ' L' w' h1 hs hH) (fun r' σ' L' w' hp hk hH => ?_) (fun vals r' σ' L' w' hp hk hs hH => ?_) (fun vals j σ' L' w' h1 hs hH => ?_) (fun vals => ?_)
    · have hk : r' = r := Option.some.inj hk
      subst hk
      exact fun b hk => res σ' L' w' _ b hp hH hk
    · have hk : r' = r := Option.some.inj hk
      subst hk
      exact norm vals σ' L' w' hp hs hH
    · have h1 : (bif Nat.beq j (panX T t) then (match throwS t u σ' with
        | some _ => stoD G f.ntmps caps (retS G cs f.results.toList) eff { σ' with env := dropE t σ'.env }
        | none => none) else none) = some r := h1
      cases hj : Nat.beq j (panX T t) with
      | false => rw [hj] at h1; exact (noS h1).elim
      | true =>
        rw [hj, cond_true] at h1
        exact ⟨vals, rfl, Nat.eq_of_beq_eq_true hj, σ', hs, hH, h1⟩
    · refine ⟨?_, fun i L w hi h => ?_⟩
      · rintro T' t' L1 L2 w' v ht' hl2 ⟨vals', hv', hj, σ', hs, hH, h1⟩ b hk
        obtain ⟨rfl, rfl⟩ := panX_inj ht' ht2 hj
        have hv' : vals = vals' := by
          have := List.cons.inj hv'
          simpa [Dv] using this.1
        subst hv'
        cases hth : throwS t' u σ' with
        | none => rw [hth] at h1; exact (noS h1).elim
        | some e =>
          rw [hth] at h1
          simp only at h1
          obtain ⟨S, ρ, γ, μ, ι, hS⟩ := hH
          have hval : OkD (P := P) M w' u e v := by
            unfold throwS at hth
            cases hs2 : fnd σ'.env t' with
            | none => rw [hs2] at hth; exact (noS hth).elim
            | some s =>
              rw [hs2] at hth
              simp only at hth
              obtain ⟨v2, hv2, hok⟩ := hS.env t' s hs2
              rw [look_cons, if_pos rfl] at hv2
              cases hv2
              cases ho2 : owns s with
              | cons _ _ => rw [ho2] at hth; exact (noS hth).elim
              | nil =>
                rw [ho2] at hth
                exact toD_ok (M' := M) (fun b hb => mem_mm.2 (.inr hb)) u s (by rw [ho2]; exact fun i hi => by cases hi) hth hok
          have hlk : ∀ u, u ≠ t' → Sx.look L2 u = Sx.look ((t', v) :: L1) u := fun u hu => by
            rw [hl2 u hu, look_cons, if_neg (fun e => hu e.symm)]
          have hS2 : HS (P := P) w [] M { σ' with env := dropE t' σ'.env } L2 w' S ρ γ μ ι := by
            refine ⟨hS.hp, hS.res, hS.inj, hS.row, fun x s hx => ?_, hS.anch⟩
            have hx : fnd (dropE t' σ'.env) x = some s := hx
            rw [fnd_dropE] at hx
            by_cases hxt : x = t'
            · rw [if_pos hxt] at hx; cases hx
            · rw [if_neg hxt] at hx
              obtain ⟨v2, h3, h4⟩ := hS.env x s hx
              exact ⟨v2, by rw [hlk x hxt]; exact h3, h4⟩
          have hs2 : slotsV L2 caps vals := ⟨hs.1, fun i c hc => by
            obtain ⟨v2, h3, h4⟩ := hs.2 i c hc
            refine ⟨v2, h3, ?_⟩
            rw [hlk c fun e => disB_out hct c (List.mem_of_getElem? hc) (by rw [e]; exact List.mem_singleton.2 rfl)]
            exact h4⟩
          obtain ⟨w1, hx1, hcall⟩ := hdp M w' vals e v hs.1 hval
          obtain ⟨σ2, w2, h3, h4, h5⟩ := stoD_ok hG hk hs2 eff h1 ⟨S, ρ, γ, μ, ι, hS2.ext hx1⟩
          refine leaves_cons (f := g) (args := List.toArray vals) (by simp) (inv vals w') ((hcall w2 h3).mono ?_)
          rintro en um w3 ⟨⟨x, rfl⟩, rfl, rfl⟩
          exact res σ2 L2 w3 _ b h4 h5 hk
      · obtain ⟨_, _, hj, _⟩ := h
        have h1 : i < pnc := by simpa [Nat.blt_eq] using hi
        have h2 : pnc ≤ panX T t := Nat.le_trans (Nat.le_mul_of_pos_right _ (Nat.succ_pos T)) (Nat.le_add_right _ _)
        omega
  refine calls_of_wp_defers hf hb (wp_mono (key _ ⟨?_, rfl, ?_⟩) ?_)
  · have : vals.length ≤ f.ntmps := by rw [hlen ps ha]; exact Nat.le_of_ble_eq_true hl
    simp; omega
  · intro t v ht
    obtain ⟨j, rfl, hj⟩ := look_argEnv vals 0 t v ht
    have hlt : j < vals.length := by
      rcases Nat.lt_or_ge j vals.length with h | h
      · exact h
      · simp [List.getElem?_eq_none h] at hj
    simp only [Nat.zero_add]
    rw [Array.getElem?_append_left (by simpa using hlt)]
    simpa using hj
  · intro e b w' hq
    cases e with
    | normal => obtain ⟨ds, L, hk, h⟩ := hq; have := h b hk; rw [← hk.defers] at this; exact this
    | ret => obtain ⟨ds, L, hk, h⟩ := hq; have := h b hk; rw [← hk.defers] at this; exact this
    | panic ch => obtain ⟨ds, L, hk, h⟩ := hq; have := h b hk; rw [← hk.defers] at this; exact this
    | exit i => obtain ⟨_, _, _, hx⟩ := hq; exact hx.elim
    | goto l => exact hq.elim
    | outgrown => exact hq.elim
end Go.Rx
set_option maxRecDepth 20000
set_option maxHeartbeats 4000000
namespace Go.Proofs.Ytdbogmmdogjhpaa
open Go Go.Sx Go.Rx Go.RowKit
theorem two_vals {vals : List Value} (h : vals.length = 2) : ∃ p q, vals = [p, q] := by
  match vals, h with
  | [p, q], _ => exact ⟨p, q, rfl⟩
theorem dn43 : DefN Try.prog 43 2 := fun vals w hv => by
  obtain ⟨p, q, rfl⟩ := two_vals hv
  refine callsD_of_wpS Try.func43 rfl fun c₀ cs hu => ?_
  apply wpS_seq
  apply wpS_region
  simp [wpOpsS, go_sem, recoverD, hu, Try.ntmps43, Exit.thenS]
  apply wpS_seq
  apply wpS_region
  simp [wpOpsS, go_sem, Exit.thenS]
  refine wpS_cond (t := false) (by simp [Act.eval, Array.replicate]) ?_
  simp only [Bool.false_eq_true, if_false]
  refine wpS_of_wp (wp_skip ?_)
  cases c₀
  simp_all [bodyPostS, results, Try.results43]
theorem dp43 : DefP Try.prog 43 2 97 (.st 4) [(32, 0, .slice none 0 0), (27, 1, .int .i64 6)] := fun M w vals e v hv hd => by
  obtain ⟨p, q, rfl⟩ := two_vals hv
  obtain ⟨cs, h1, h2 | ⟨h2, _⟩⟩ := hd
  · obtain ⟨_, rfl⟩ := h2
    obtain ⟨c1, c2, rfl, h3, h4⟩ := h1
    obtain ⟨rfl, h5⟩ := h3
    obtain ⟨rfl, h6⟩ := h4
    refine ⟨w.alloc (Obj.cells #[Value.int IntKind.i64 e.from_, Value.int IntKind.i64 e.to_] 97), Kp.alloc _ _ _, fun w2 hs => ?_⟩
    · obtain ⟨wa, h7, wb, h8, rfl⟩ := hs
      refine callsD_of_wpS Try.func43 rfl fun c₀ cs hu => ?_
      apply wpS_seq
      apply wpS_region
      simp [wpOpsS, go_sem, recoverD, hu, Try.ntmps43, Exit.thenS]
      apply wpS_seq
      apply wpS_region
      simp [wpOpsS, go_sem, Exit.thenS]
      refine wpS_cond (t := true) (by simp [Act.eval, Array.replicate]) ?_
      simp only [if_true]
      apply wpS_seq
      apply wpS_seq
      apply wpS_region
      simp [wpOpsS, go_sem, Exit.thenS, Instr.typeAssert, run_underlying Try.underlying97, Instr.alloc, Instr.storeAt, Instr.sureAddr, storeVar, Try.zeroValue97, Try.sizeOf97]
      apply wpS_seq
      apply wpS_region
      simp [wpOpsS, go_sem, Exit.thenS]
      refine wpS_cond (t := false) (by simp [Act.eval, Array.replicate]) ?_
      simp only [Bool.false_eq_true, if_false]
      refine wpS_of_wp (wp_skip ?_)
      simp only [Exit.thenS]
      apply wpS_region
      have h7 : (Instr.storeAt 32 p (.slice none 0 0)).run Try.prog (w.alloc (Obj.cells #[Value.int IntKind.i64 e.from_, Value.int IntKind.i64 e.to_] 97)) = .ok () wa := h7
      have h8 : (Instr.storeAt 27 q (.int .i64 6)).run Try.prog wa = .ok () w2 := h8
      generalize w.alloc (Obj.cells #[Value.int IntKind.i64 e.from_, Value.int IntKind.i64 e.to_] 97) = w1 at h7
      simp [List.range, List.range.loop, wpOpsS, execOp, Region.wanted, h7, h8, Oper.upon, bodyPostS, results, Try.results43, Act.put, Act.eval]
  · cases h2
end Go.Proofs.Ytdbogmmdogjhpaa
set_option maxRecDepth 20000
set_option maxHeartbeats 4000000
namespace Go.Proofs.Ytdbogmmdogjhpaa
open Go Go.Sx Go.Rx Go.RowKit
noncomputable def P.ref08_Great (l : (List Filing)) : Option Bool := cond (decide (30 < (l.length : Int))) (some true) (Option.bind (loopM (S := (Int)) (R := (Unit ⊕ Bool)) (fun x4 => cond (decide (x4 < (l.length : Int))) (Option.bind (ixo l x4) fun y5 => cond (decide (20 < (y5.parts.length : Int))) (some (Sum.inr (Sum.inr true))) (Option.bind (chk .i64 (x4 + 1)) fun n6 => some (Sum.inl n6))) (some (Sum.inr (Sum.inl ())))) (0 : Int)) ((Sum.elim (fun _ => some false) (fun r7 => some r7))))
def an13 : An := .nd (.x) (.nd (.x) (.nd (.nd (.x) (.lp ⟨[(.slot 3, .d (.int .i64))], []⟩ [.exit 0 ⟨[], []⟩, .ret] (.x))) (.x)))
noncomputable def ctr13 : Ctr := ⟨[.d (.sl (.st 1))], [.d .bool], fun a => P.ref08_Great a.1⟩
theorem ok13 : Ctr.ok Try.prog 13 ctr13 := fun_ok (G := { gxb with fs := [] }) (an := an13) (gx_ok trivial) Try.func13 rfl rfl rfl rfl (fun a => by kernel_rfl)
noncomputable def P.ref08_Twin (l : (List Filing)) : Option (List Filing) := Option.bind (appo 40 ([] : (List Filing)) l) fun l1 => Option.bind (loopM (S := (Int × (List Filing))) (R := ((List Filing))) (fun (x15, x16) => cond (decide (x15 < (x16.length : Int))) (Option.bind (ixo x16 x15) fun y17 => Option.bind (appo 8 ([] : (List Int)) y17.parts) fun l18 => Option.bind (ixo x16 x15) fun y19 => Option.bind (seto x16 x15 (Filing.mk y19.id y19.day l18)) fun l20 => Option.bind (chk .i64 (x15 + 1)) fun n21 => some (Sum.inl (n21, l20))) (some (Sum.inr x16))) ((0 : Int), l1)) ((fun x22 => some x22))
noncomputable def P.slices_IndexFunc_73 (s : (List Int)) (f : Int → Option Bool) : Option Int := Option.bind (loopM (S := (Int)) (R := (Unit ⊕ Int)) (fun x5 => cond (decide (x5 < (s.length : Int))) (Option.bind (ixo s x5) fun y6 => Option.bind (f y6) fun y7 => cond (y7) (some (Sum.inr (Sum.inr x5))) (Option.bind (chk .i64 (x5 + 1)) fun n8 => some (Sum.inl n8))) (some (Sum.inr (Sum.inl ())))) (0 : Int)) ((Sum.elim (fun _ => some ((-1) : Int)) (fun r9 => some r9)))
def an73 : An := .nd (.x) (.nd (.nd (.x) (.lp ⟨[(.slot 8, .d (.int .i64))], []⟩ [.exit 0 ⟨[], []⟩, .ret] (.x))) (.x))
noncomputable def ctr73 : Ctr := ⟨[.d (.sl (.int .i64)), .fn [(.int .i64)] .bool], [.d (.int .i64)], fun a => P.slices_IndexFunc_73 a.1 a.2.1⟩
theorem ok73 : Ctr.ok Try.prog 73 ctr73 := fun_ok (G := { gxb with fs := [] }) (an := an73) (gx_ok trivial) Try.func73 rfl rfl rfl rfl (fun a => by kernel_rfl)
noncomputable def P.slices_ContainsFunc_59 (s : (List Int)) (f : Int → Option Bool) : Option Bool := Option.bind (P.slices_IndexFunc_73 s f) fun r1 => some (decide (0 ≤ r1))
def an59 : An := .x
noncomputable def ctr59 : Ctr := ⟨[.d (.sl (.int .i64)), .fn [(.int .i64)] .bool], [.d .bool], fun a => P.slices_ContainsFunc_59 a.1 a.2.1⟩
theorem ok59 : Ctr.ok Try.prog 59 ctr59 := fun_ok (G := { gxb with fs := [(73, ctr73)] }) (an := an59) (gx_ok ⟨⟨ok73, Try.call73⟩, trivial⟩) Try.func59 rfl rfl rfl rfl (fun a => by kernel_rfl)
noncomputable def P.ring_in_in1 (n : Int) (a1_ : Int) (a2_ : Int) : Option Bool := Option.bind (α := (Bool)) (cond (decide (n < a1_)) (some true) (some (decide (a2_ < n)))) ((fun x1 => some x1))
def an70 : An := .nd (.x) (.nd (.jn [.norm ⟨[(.slot 4, .d .bool)], []⟩] (.x)) (.x))
noncomputable def ctr70 : Ctr := ⟨[.d (.int .i64), .pt (.int .i64), .pt (.int .i64)], [.d .bool], fun a => P.ring_in_in1 a.1 a.2.1 a.2.2.1⟩
theorem ok70 : Ctr.ok Try.prog 70 ctr70 := fun_ok (G := { gxb with fs := [] }) (an := an70) (gx_ok trivial) Try.func70 rfl rfl rfl rfl (fun a => by kernel_rfl)
noncomputable def P.ring_in (lo : Int) (hi : Int) (all : (List Int)) : Option Bool := Option.bind (P.slices_ContainsFunc_59 all (fun a1 => P.ring_in_in1 a1 lo hi)) fun r2 => some (!r2)
def an47 : An := .x
noncomputable def ctr47 : Ctr := ⟨[.d (.int .i64), .d (.int .i64), .d (.sl (.int .i64))], [.d .bool], fun a => P.ring_in a.1 a.2.1 a.2.2.1⟩
theorem ok47 : Ctr.ok Try.prog 47 ctr47 := fun_ok (G := { gxb with fs := [(59, ctr59), (70, ctr70)] }) (an := an47) (gx_ok ⟨⟨ok59, Try.call59⟩, ⟨⟨ok70, Try.call70⟩, trivial⟩⟩) Try.func47 rfl rfl rfl rfl (fun a => by kernel_rfl)
noncomputable def P.ring_rising (l : (List Int)) : Option Bool := Option.bind (loopM (S := (Int × Int)) (R := (Unit ⊕ Bool)) (fun (x7, x8) => cond (decide (x8 < (l.length : Int))) (Option.bind (ixo l x8) fun y9 => Option.bind (chk .i64 (x7 + 1)) fun n10 => Option.bind (P.ring_in n10 (999999 : Int) ([y9])) fun r11 => cond ((!r11)) (some (Sum.inr (Sum.inr false))) (Option.bind (chk .i64 (x8 + 1)) fun n12 => some (Sum.inl (y9, n12)))) (some (Sum.inr (Sum.inl ())))) (((-1) : Int), (0 : Int))) ((Sum.elim (fun _ => some true) (fun r13 => some r13)))
def an48 : An := .nd (.x) (.nd (.x) (.nd (.nd (.x) (.lp ⟨[(.slot 3, .d (.int .i64)), (.slot 8, .d (.int .i64))], []⟩ [.exit 0 ⟨[], []⟩, .ret] (.x))) (.x)))
noncomputable def ctr48 : Ctr := ⟨[.d (.sl (.int .i64))], [.d .bool], fun a => P.ring_rising a.1⟩
theorem ok48 : Ctr.ok Try.prog 48 ctr48 := fun_ok (G := { gxb with fs := [(47, ctr47)] }) (an := an48) (gx_ok ⟨⟨ok47, Try.call47⟩, trivial⟩) Try.func48 rfl rfl rfl rfl (fun a => by kernel_rfl)
noncomputable def P.ring_Check (h_ : Hunt) (l : (List Filing)) : Option Int := Option.bind (α := (Bool)) (Option.bind (P.ring_in (0 : Int) (100000 : Int) ([h_.window])) fun r3 => cond ((!r3)) (some true) (Option.bind (P.ring_in (2 : Int) (24 : Int) ([h_.common, h_.size])) fun r4 => some (!r4))) ((fun x5 => cond (x5) (some (80 : Int)) (Option.bind (loopM (S := (Int × (List Int))) (R := (((List Int)) ⊕ Int)) (fun (x14, x15) => cond (decide (x14 < (l.length : Int))) (Option.bind (ixo l x14) fun y16 => Option.bind (appo 8 x15 ([y16.id])) fun l17 => Option.bind (α := (Bool)) (Option.bind (P.ring_in (0 : Int) (100000 : Int) ([y16.day])) fun r18 => cond ((!r18)) (some true) (cond (decide (6 < (y16.parts.length : Int))) (some true) (Option.bind (P.ring_rising y16.parts) fun r19 => some (!r19)))) ((fun x20 => cond (x20) (some (Sum.inr (Sum.inr (81 : Int)))) (Option.bind (chk .i64 (x14 + 1)) fun n21 => some (Sum.inl (n21, l17)))))) (some (Sum.inr (Sum.inl x15)))) ((0 : Int), ([] : (List Int)))) ((Sum.elim (fun x22 => Option.bind (α := (Bool)) (cond (decide (24 < (l.length : Int))) (some true) (Option.bind (P.ring_rising x22) fun r24 => some (!r24))) ((fun x25 => cond (x25) (some (81 : Int)) (some (0 : Int))))) (fun r26 => some r26))))))
def an19 : An := .nd (.x) (.nd (.nd (.jn [.norm ⟨[(.slot 21, .d .bool)], []⟩] (.x)) (.x)) (.nd (.x) (.nd (.nd (.x) (.lp ⟨[(.slot 24, .d (.int .i64)), (.slot 5, .own (.sl 3 (.int .i64)))], []⟩ [.exit 0 ⟨[(.slot 5, .own (.sl 3 (.int .i64)))], []⟩, .ret] (.nd (.x) (.nd (.x) (.nd (.nd (.x) (.nd (.x) (.nd (.jn [.norm ⟨[(.slot 49, .d .bool)], [5]⟩] (.x)) (.x)))) (.x)))))) (.nd (.nd (.jn [.norm ⟨[(.slot 58, .d .bool)], []⟩] (.x)) (.x)) (.x)))))
noncomputable def ctr19 : Ctr := ⟨[.d (.st 0), .d (.sl (.st 1))], [.d (.int .i64)], fun a => P.ring_Check a.1 a.2.1⟩
theorem ok19 : Ctr.ok Try.prog 19 ctr19 := fun_ok (G := { gxb with fs := [(47, ctr47), (48, ctr48)] }) (an := an19) (gx_ok ⟨⟨ok47, Try.call47⟩, ⟨⟨ok48, Try.call48⟩, trivial⟩⟩) Try.func19 rfl rfl rfl rfl (fun a => by kernel_rfl)
noncomputable def P.slices_Index_52 (s : (List Int)) (v : Int) : Option Int := Option.bind (loopM (S := (Int)) (R := (Unit ⊕ Int)) (fun x4 => cond (decide (x4 < (s.length : Int))) (Option.bind (ixo s x4) fun y5 => cond (decide (v = y5)) (some (Sum.inr (Sum.inr x4))) (Option.bind (chk .i64 (x4 + 1)) fun n6 => some (Sum.inl n6))) (some (Sum.inr (Sum.inl ())))) (0 : Int)) ((Sum.elim (fun _ => some ((-1) : Int)) (fun r7 => some r7)))
def an52 : An := .nd (.x) (.nd (.nd (.x) (.lp ⟨[(.slot 8, .d (.int .i64))], []⟩ [.exit 0 ⟨[], []⟩, .ret] (.x))) (.x))
noncomputable def ctr52 : Ctr := ⟨[.d (.sl (.int .i64)), .d (.int .i64)], [.d (.int .i64)], fun a => P.slices_Index_52 a.1 a.2.1⟩
theorem ok52 : Ctr.ok Try.prog 52 ctr52 := fun_ok (G := { gxb with fs := [] }) (an := an52) (gx_ok trivial) Try.func52 rfl rfl rfl rfl (fun a => by kernel_rfl)
noncomputable def P.slices_Contains_61 (s : (List Int)) (v : Int) : Option Bool := Option.bind (P.slices_Index_52 s v) fun r1 => some (decide (0 ≤ r1))
def an61 : An := .x
noncomputable def ctr61 : Ctr := ⟨[.d (.sl (.int .i64)), .d (.int .i64)], [.d .bool], fun a => P.slices_Contains_61 a.1 a.2.1⟩
theorem ok61 : Ctr.ok Try.prog 61 ctr61 := fun_ok (G := { gxb with fs := [(52, ctr52)] }) (an := an61) (gx_ok ⟨⟨ok52, Try.call52⟩, trivial⟩) Try.func61 rfl rfl rfl rfl (fun a => by kernel_rfl)
noncomputable def P.ring_open (h_ : Hunt) (l : (List Filing)) : Option ((Option Hunt_94) × Int) := Option.bind (P.ring_Check h_ l) fun r1 => cond ((!decide (r1 = 0))) (some ((none : Option Hunt_94), r1)) (Option.bind (loopM (S := (Int × (List Int) × (FMap Int Int))) (R := ((FMap Int Int) × (List Int))) (fun (x24, x25, x26) => cond (decide (x24 < (l.length : Int))) (Option.bind (ixo l x24) fun y27 => Option.bind (appo 8 x25 ([y27.id])) fun l28 => Option.bind (loopM (S := (Int × (FMap Int Int))) (R := ((FMap Int Int))) (fun (x29, x30) => cond (decide (x29 < (y27.parts.length : Int))) (Option.bind (ixo y27.parts x29) fun y31 => Option.bind (chk .i64 (((x30 y31).getD 0) + 1)) fun n32 => Option.bind (chk .i64 (x29 + 1)) fun n33 => some (Sum.inl (n33, (fput x30 y31 n32)))) (some (Sum.inr x30))) ((0 : Int), x26)) ((fun x34 => Option.bind (chk .i64 (x24 + 1)) fun n35 => some (Sum.inl (n35, l28, x34))))) (some (Sum.inr (x26, x25)))) ((0 : Int), ([] : (List Int)), (fnone : (FMap Int Int)))) ((fun (x36, x37) => Option.bind (P.ring_pairs l) fun r38 => Option.bind (overM (S := ((List Int))) (fun x228 (i229, i230) => Option.bind (α := ((List Int))) (Option.bind (ixo l i229) fun y232 => Option.bind (ixo l i230) fun y233 => Option.bind (chk .i64 (y232.day - y233.day)) fun n234 => Option.bind (chk .i64 (-n234)) fun n235 => cond (decide (h_.window < (max n234 n235))) (some x228) (Option.bind (ixo l i229) fun y236 => Option.bind (loopM (S := (Int × (List Int))) (R := ((List Int))) (fun (x237, x238) => cond (decide (x237 < (y236.parts.length : Int))) (Option.bind (ixo y236.parts x237) fun y239 => Option.bind (α := (Bool)) (cond (decide (((x36 y239).getD 0) < h_.common)) (Option.bind (ixo l i230) fun y240 => Option.bind (P.slices_Contains_61 y240.parts y239) fun r241 => some r241) (some false)) ((fun x242 => Option.bind (α := ((List Int))) (cond (x242) (Option.bind (ixA 24 i229) fun i243 => Option.bind (ixA 24 i230) fun i244 => Option.bind (ixo x238 (i243 * 24 + i244 * 1)) fun y245 => Option.bind (chk .i64 (((x36 y239).getD 0) - 1)) fun n246 => Option.bind (quoO .i64 1000 n246) fun n247 => Option.bind (chk .i64 (y245 + n247)) fun n248 => Option.bind (ixA 24 i229) fun i249 => Option.bind (ixA 24 i230) fun i250 => Option.bind (seto x238 (i249 * 24 + i250 * 1) n248) fun l251 => some l251) (some x238)) ((fun x252 => Option.bind (chk .i64 (x237 + 1)) fun n253 => some (Sum.inl (n253, x252))))))) (some (Sum.inr x238))) ((0 : Int), x228)) ((fun x254 => Option.bind (ixA 24 i229) fun i255 => Option.bind (ixA 24 i230) fun i256 => Option.bind (ixo x254 (i255 * 24 + i256 * 1)) fun y257 => Option.bind (ixA 24 i230) fun i258 => Option.bind (ixA 24 i229) fun i259 => Option.bind (seto x254 (i258 * 24 + i259 * 1) y257) fun l260 => some l260)))) ((fun x261 => some x261))) (List.replicate 576 (0 : Int)) r38) fun x231 => some ((some (Hunt_94.mk (Hunt.mk h_.window h_.common h_.size) x37 x231)), (0 : Int)))))
def an40 : An := .nd (.x) (.nd (.x) (.nd (.x) (.nd (.x) (.nd (.nd (.x) (.lp ⟨[(.slot 31, .d (.int .i64)), (.cell 27 3, .own (.sl 3 (.int .i64))), (.cont 28, .own (.mp 3 (.int .i64) (.int .i64)))], [8, 28, 7, 27, 3, 2]⟩ [.exit 0 ⟨[(.cont 28, .own (.mp 3 (.int .i64) (.int .i64))), (.cell 27 3, .own (.sl 3 (.int .i64)))], [8, 28, 7, 27, 3, 2]⟩] (.nd (.x) (.nd (.x) (.nd (.nd (.x) (.nd (.x) (.nd (.x) (.lp ⟨[(.slot 49, .d (.int .i64)), (.cont 28, .own (.mp 3 (.int .i64) (.int .i64)))], [12703, 8, 28, 7, 27, 3, 2]⟩ [.exit 2 ⟨[(.cont 28, .own (.mp 3 (.int .i64) (.int .i64)))], [12703, 8, 28, 7, 27, 3, 2]⟩] (.x))))) (.x)))))) (.nd (.nd (.x) (.lp ⟨[(.cell 27 4, .d (.arr .i64 576))], [12703, 8, 28, 7, 27, 3, 2]⟩ [] (.jn [.norm ⟨[(.cell 27 4, .d (.arr .i64 576))], [12703, 8, 28, 7, 27, 3, 2]⟩] (.nd (.x) (.nd (.nd (.x) (.lp ⟨[(.slot 87, .d (.int .i64)), (.cell 27 4, .d (.arr .i64 576))], [12703, 8, 28, 7, 27, 3, 2]⟩ [.exit 6 ⟨[(.cell 27 4, .d (.arr .i64 576))], [12703, 8, 28, 7, 27, 3, 2]⟩] (.nd (.x) (.nd (.x) (.nd (.nd (.x) (.nd (.x) (.nd (.jn [.norm ⟨[(.slot 106, .d .bool)], [12703, 8, 28, 7, 27, 3, 2]⟩] (.x)) (.jn [.norm ⟨[(.cell 27 4, .d (.arr .i64 576))], [12703, 8, 28, 7, 27, 3, 2]⟩] (.x))))) (.x)))))) (.x)))))) (.x))))))
noncomputable def ctr40 : Ctr := ⟨[.d (.st 0), .d (.sl (.st 1))], [.np (.st 3), .d (.int .i64)], fun a => P.ring_open a.1 a.2.1⟩
theorem ok40 : Ctr.ok Try.prog 40 ctr40 := funR_ok (fun h => h) (G := { gxb with fs := [(19, ctr19), (61, ctr61), (67, ctr67)] }) (an := an40) (gx_ok ⟨⟨ok19, Try.call19⟩, ⟨⟨ok61, Try.call61⟩, ⟨⟨ok67, Try.call67⟩, trivial⟩⟩⟩) Try.func40 rfl rfl rfl rfl rfl (fun a => by kernel_rfl)
noncomputable def P.ring_hunt_two (h_ : Hunt_94) (a : Int) (b : Int) : Option (Int × Int × Int) := Option.bind (P.slices_Index_52 h_.ids a) fun r1 => Option.bind (P.slices_Index_52 h_.ids b) fun r2 => Option.bind (α := (Bool)) (cond (decide (r1 < 0)) (some true) (some (decide (r2 < 0)))) ((fun x3 => cond (x3) (some ((0 : Int), (0 : Int), (6 : Int))) (cond (decide (r1 = r2)) (some ((0 : Int), (0 : Int), (2 : Int))) (some (r1, r2, (0 : Int))))))
def an41 : An := .nd (.x) (.nd (.x) (.nd (.nd (.jn [.norm ⟨[(.slot 21, .d .bool)], []⟩] (.x)) (.x)) (.x)))
noncomputable def ctr41 : Ctr := ⟨[.pt (.st 3), .d (.int .i64), .d (.int .i64)], [.d (.int .i64), .d (.int .i64), .d (.int .i64)], fun a => P.ring_hunt_two a.1 a.2.1 a.2.2.1⟩
theorem ok41 : Ctr.ok Try.prog 41 ctr41 := fun_ok (G := { gxb with fs := [(52, ctr52)] }) (an := an41) (gx_ok ⟨⟨ok52, Try.call52⟩, trivial⟩) Try.func41 rfl rfl rfl rfl (fun a => by kernel_rfl)
noncomputable def P.ring_Weight (h_ : Hunt) (l : (List Filing)) (a : Int) (b : Int) : Option (Int × Int) := Option.bind (P.ring_open h_ l) fun (r1, r2) => cond ((!decide (r2 = 0))) (some ((0 : Int), r2)) (Option.bind (r1) fun x3 => Option.bind (P.ring_hunt_two x3 a b) fun (r4, r5, r6) => cond ((!decide (r6 = 0))) (some ((0 : Int), r6)) (Option.bind (r1) fun x7 => Option.bind (ixA 24 r4) fun i8 => Option.bind (ixA 24 r5) fun i9 => Option.bind (ixo x7.weights (i8 * 24 + i9 * 1)) fun y10 => some (y10, (0 : Int))))
def an15 : An := .x
noncomputable def ctr15 : Ctr := ⟨[.d (.st 0), .d (.sl (.st 1)), .d (.int .i64), .d (.int .i64)], [.d (.int .i64), .d (.int .i64)], fun a => P.ring_Weight a.1 a.2.1 a.2.2.1 a.2.2.2.1⟩
theorem ok15 : Ctr.ok Try.prog 15 ctr15 := fun_ok (G := { gxb with fs := [(40, ctr40), (41, ctr41)] }) (an := an15) (gx_ok ⟨⟨ok40, Try.call40⟩, ⟨⟨ok41, Try.call41⟩, trivial⟩⟩) Try.func15 rfl rfl rfl rfl (fun a => by kernel_rfl)
noncomputable def P.ref08_within (n : Int) (lo : Int) (hi : Int) : Option Bool := Option.bind (α := (Bool)) (cond (decide (lo ≤ n)) (some (decide (n ≤ hi))) (some false)) ((fun x1 => some x1))
def an49 : An := .nd (.x) (.nd (.jn [.norm ⟨[(.slot 6, .d .bool)], []⟩] (.x)) (.x))
noncomputable def ctr49 : Ctr := ⟨[.d (.int .i64), .d (.int .i64), .d (.int .i64)], [.d .bool], fun a => P.ref08_within a.1 a.2.1 a.2.2.1⟩
theorem ok49 : Ctr.ok Try.prog 49 ctr49 := fun_ok (G := { gxb with fs := [] }) (an := an49) (gx_ok trivial) Try.func49 rfl rfl rfl rfl (fun a => by kernel_rfl)
noncomputable def P.ref08_Check (h_ : Hunt) (l : (List Filing)) : Option Int := Option.bind (α := (Bool)) (Option.bind (P.ref08_within h_.window (0 : Int) (100000 : Int)) fun r4 => cond ((!r4)) (some true) (Option.bind (P.ref08_within h_.common (2 : Int) (24 : Int)) fun r5 => cond ((!r5)) (some true) (Option.bind (P.ref08_within h_.size (2 : Int) (24 : Int)) fun r6 => some (!r6)))) ((fun x7 => cond (x7) (some (80 : Int)) (cond (decide (24 < (l.length : Int))) (some (81 : Int)) (Option.bind (loopM (S := (Int)) (R := (Unit ⊕ Int)) (fun x26 => cond (decide (x26 < (l.length : Int))) (Option.bind (ixo l x26) fun y27 => Option.bind (α := (Bool)) (Option.bind (P.ref08_within y27.id (0 : Int) (999999 : Int)) fun r28 => cond ((!r28)) (some true) (cond (decide (0 < x26)) (Option.bind (chk .i64 (x26 - 1)) fun n29 => Option.bind (ixo l n29) fun y30 => cond (decide (y27.id ≤ y30.id)) (some true) (Option.bind (P.ref08_within y27.day (0 : Int) (100000 : Int)) fun r31 => cond ((!r31)) (some true) (some (decide (6 < (y27.parts.length : Int)))))) (Option.bind (P.ref08_within y27.day (0 : Int) (100000 : Int)) fun r32 => cond ((!r32)) (some true) (some (decide (6 < (y27.parts.length : Int))))))) ((fun x33 => cond (x33) (some (Sum.inr (Sum.inr (81 : Int)))) (Option.bind (loopM (S := (Int)) (R := (Unit ⊕ Int)) (fun x34 => cond (decide (x34 < (y27.parts.length : Int))) (Option.bind (α := (Bool)) (Option.bind (ixo y27.parts x34) fun y35 => Option.bind (P.ref08_within y35 (0 : Int) (999999 : Int)) fun r36 => cond ((!r36)) (some true) (cond (decide (0 < x34)) (Option.bind (ixo y27.parts x34) fun y37 => Option.bind (chk .i64 (x34 - 1)) fun n38 => Option.bind (ixo y27.parts n38) fun y39 => some (decide (y37 ≤ y39))) (some false))) ((fun x40 => cond (x40) (some (Sum.inr (Sum.inr (81 : Int)))) (Option.bind (chk .i64 (x34 + 1)) fun n41 => some (Sum.inl n41))))) (some (Sum.inr (Sum.inl ())))) (0 : Int)) ((Sum.elim (fun _ => Option.bind (chk .i64 (x26 + 1)) fun n42 => some (Sum.inl n42)) (fun r43 => some (Sum.inr (Sum.inr r43))))))))) (some (Sum.inr (Sum.inl ())))) (0 : Int)) ((Sum.elim (fun _ => some (0 : Int)) (fun r44 => some r44)))))))
def an20 : An := .nd (.x) (.nd (.nd (.jn [.norm ⟨[(.slot 23, .d .bool)], []⟩] (.x)) (.x)) (.nd (.x) (.nd (.nd (.x) (.lp ⟨[(.slot 5, .d (.int .i64))], []⟩ [.exit 0 ⟨[], []⟩, .ret] (.nd (.x) (.nd (.nd (.x) (.nd (.nd (.jn [.norm ⟨[(.slot 67, .d .bool)], [6]⟩] (.x)) (.x)) (.nd (.x) (.lp ⟨[(.slot 7, .d (.int .i64))], [6]⟩ [.exit 2 ⟨[], []⟩, .ret] (.nd (.x) (.nd (.nd (.jn [.norm ⟨[(.slot 99, .d .bool)], [6]⟩] (.x)) (.x)) (.x))))))) (.x))))) (.x))))
noncomputable def ctr20 : Ctr := ⟨[.d (.st 0), .d (.sl (.st 1))], [.d (.int .i64)], fun a => P.ref08_Check a.1 a.2.1⟩
theorem ok20 : Ctr.ok Try.prog 20 ctr20 := fun_ok (G := { gxb with fs := [(49, ctr49)] }) (an := an20) (gx_ok ⟨⟨ok49, Try.call49⟩, trivial⟩) Try.func20 rfl rfl rfl rfl (fun a => by kernel_rfl)
noncomputable def P.ref08_At (l : (List Filing)) (id : Int) : Option Int := Option.bind (loopM (S := (Int)) (R := (Unit ⊕ Int)) (fun x4 => cond (decide (x4 < (l.length : Int))) (Option.bind (ixo l x4) fun y5 => cond (decide (y5.id = id)) (some (Sum.inr (Sum.inr x4))) (Option.bind (chk .i64 (x4 + 1)) fun n6 => some (Sum.inl n6))) (some (Sum.inr (Sum.inl ())))) (0 : Int)) ((Sum.elim (fun _ => some ((-1) : Int)) (fun r7 => some r7)))
noncomputable def P.ref08_has (l : (List Int)) (n : Int) : Option Bool := Option.bind (loopM (S := (Int)) (R := (Unit ⊕ Bool)) (fun x4 => cond (decide (x4 < (l.length : Int))) (Option.bind (ixo l x4) fun y5 => cond (decide (y5 = n)) (some (Sum.inr (Sum.inr true))) (Option.bind (chk .i64 (x4 + 1)) fun n6 => some (Sum.inl n6))) (some (Sum.inr (Sum.inl ())))) (0 : Int)) ((Sum.elim (fun _ => some false) (fun r7 => some r7)))
noncomputable def P.ref08_part (h_ : Hunt) (l : (List Filing)) (p : Int) : Option Int := Option.bind (loopM (S := (Int × Int)) (R := (Int)) (fun (x8, x9) => cond (decide (x9 < (l.length : Int))) (Option.bind (ixo l x9) fun y10 => Option.bind (P.ref08_has y10.parts p) fun r11 => Option.bind (α := (Int)) (cond (r11) (Option.bind (chk .i64 (x8 + 1)) fun n12 => some n12) (some x8)) ((fun x13 => Option.bind (chk .i64 (x9 + 1)) fun n14 => some (Sum.inl (x13, n14))))) (some (Sum.inr x8))) ((0 : Int), (0 : Int))) ((fun x15 => Option.bind (α := (Bool)) (cond (decide (x15 < 2)) (some true) (some (decide (h_.common ≤ x15)))) ((fun x16 => cond (x16) (some (0 : Int)) (Option.bind (chk .i64 (x15 - 1)) fun n17 => Option.bind (quoO .i64 1000 n17) fun n18 => some n18)))))
noncomputable def P.ref08_weight (h_ : Hunt) (l : (List Filing)) (a : Int) (b : Int) : Option Int := Option.bind (ixo l a) fun y1 => Option.bind (ixo l b) fun y2 => Option.bind (α := (Bool)) (Option.bind (chk .i64 (y1.day - y2.day)) fun n5 => cond (decide (h_.window < n5)) (some true) (Option.bind (chk .i64 (y2.day - y1.day)) fun n6 => some (decide (h_.window < n6)))) ((fun x7 => cond (x7) (some (0 : Int)) (Option.bind (loopM (S := (Int × Int)) (R := (Int)) (fun (x17, x18) => cond (decide (x18 < (y1.parts.length : Int))) (Option.bind (ixo y1.parts x18) fun y19 => Option.bind (P.ref08_has y2.parts y19) fun r20 => Option.bind (α := (Int)) (cond (r20) (Option.bind (ixo y1.parts x18) fun y21 => Option.bind (P.ref08_part h_ l y21) fun r22 => Option.bind (chk .i64 (x17 + r22)) fun n23 => some n23) (some x17)) ((fun x24 => Option.bind (chk .i64 (x18 + 1)) fun n25 => some (Sum.inl (x24, n25))))) (some (Sum.inr x17))) ((0 : Int), (0 : Int))) ((fun x26 => some x26)))))
noncomputable def P.slices_Clone_69 (s : (List Int)) : Option (List Int) :=
  nilq s fun b1 => cond b1 (some []) (Option.bind (appo 8 ([] : List Int) s) fun l7 => some l7)
noncomputable def ctr69 : Ctr := ⟨[.d (.sl (.int .i64))], [.own (.sl 3 (.int .i64))], fun a => P.slices_Clone_69 a.1⟩
theorem sl42 : SlT Try.prog 42 3 ((intE .i64)).n 8 := rsl42
theorem C_slices_Clone_69 {M : List Nat} {w : World} (hM : MLt M w) {s : (List Int)} {v_s_0 : Value} (f_s_0 : RdS (intE .i64) M w v_s_0 s) {r0 : (List Int)} (h : P.slices_Clone_69 s = some r0) :
    Calls Try.prog 69 (List.toArray [v_s_0]) w fun e w' => ∃ v0_0 : Value, e = .returned (v0_0) ∧ (Sx.Own (intE .i64) 3 0 M w' v0_0 r0 ∧ ∀ b ∈ ob v0_0, w.heap.size ≤ b) ∧ Ext w w' := by
  have hI := Hp.start (Mu := []) hM
  refine calls_cw Try.func69 rfl Try.ntmps69 rfl ?_
  refine cw_seq ?_
  refine cw_regF ?_
  refine s_as rfl rfl ?_
  refine Reg.nil ?_
  refine cw_seq ?_
  refine cw_seq ?_
  refine cw_regF ?_
  refine s_mv rfl rfl ?_
  refine s_eqN f_s_0 rfl rfl Try.underlying42 rfl ?_
  intro b1 kb1
  replace h := nilq_out h kb1
  refine Reg.nil ?_
  refine cw_cond rfl (fun hc2 => ?_) (fun hc2 => ?_)
  · replace h := cdT hc2 h
    refine cw_seq ?_
    refine cw_regF ?_
    refine s_as rfl rfl ?_
    refine Reg.nil ?_
    refine cw_ret ?_
    obtain rfl := Option.some.inj h
    refine fin1 Try.results69 rfl ?_
    exact ⟨_, rfl, ⟨Own.nil _ _ _ _ _, fun _ hb => by cases hb⟩, hI.kp⟩
  · replace h := cdF hc2 h
    refine cw_skip ?_
    refine cw_seq ?_
    refine cw_regF ?_
    refine y_bs (E := (intE .i64)) (xs := []) sl42 hI rfl rfl Cls.nil Chs.nil rfl rfl ?_
    intro v3 w4 hI5 x6
    refine s_mv rfl rfl ?_
    obtain ⟨l7, hl7, h⟩ := bnd h
    obtain ⟨hbl7, el7⟩ := appo_out hl7
    refine y_app 0 sl42 hI5 rfl rfl rfl (f_s_0.adv hI5.adv) hbl7 rfl ?_
    rw [← el7]
    intro v8 w9 hI10 x11
    refine s_as rfl rfl ?_
    refine Reg.nil ?_
    refine cw_ret ?_
    obtain rfl := Option.some.inj h
    refine fin1 Try.results69 rfl ?_
    exact ⟨_, rfl, (hI10.ownOut 0 rfl), hI10.kp⟩
theorem ok69 : Ctr.ok Try.prog 69 ctr69 := by
  refine ⟨by decide, fun M w a vals r hM ha hr => ?_⟩
  obtain ⟨v0, r0, rfl, h0, ha⟩ := ha
  have ha : _ = [] := ha
  subst ha
  refine (C_slices_Clone_69 hM (OkD.rds h0) hr).mono ?_
  rintro e w' ⟨v, rfl, h1, h2⟩
  exact ⟨[v], rfl, ⟨v, rfl, own_ck h1⟩, h2⟩
noncomputable def P.ring_hunt_chain (h_ : Hunt_94) (from_ : Int) (to_ : Int) (strength : Int) : Option (List Int) := Option.bind (loopM (S := ((List (List Int)) × (FMap Int Bool))) (R := (List Int)) (fun (x54, x55) => Option.bind (loopM (S := ((List (List Int)) × Int × (FMap Int Bool))) (R := (((List (List Int)) × (FMap Int Bool)) ⊕ (List Int))) (fun (x56, x57, x58) => cond (decide (x57 < (x54.length : Int))) (Option.bind (ixo x54 x57) fun y59 => Option.bind (chk .i64 ((y59.length : Int) - 1)) fun n60 => Option.bind (ixo y59 n60) fun y61 => cond (decide (y61 = to_)) (some (Sum.inr (Sum.inr y59))) (Option.bind (loopM (S := ((List (List Int)) × Int × (FMap Int Bool))) (R := ((List (List Int)) × (FMap Int Bool))) (fun (x62, x63, x64) => cond (decide (x63 < (h_.ids.length : Int))) (Option.bind (α := (Bool)) (cond ((!((x64 x63).getD false))) (Option.bind (ixA 24 y61) fun i65 => Option.bind (ixA 24 x63) fun i66 => Option.bind (ixo h_.weights (i65 * 24 + i66 * 1)) fun y67 => some (decide (strength ≤ y67))) (some false)) ((fun x68 => Option.bind (α := ((List (List Int)) × (FMap Int Bool))) (cond (x68) (Option.bind (P.slices_Clone_69 y59) fun r69 => Option.bind (appo 8 r69 ([x63])) fun l70 => Option.bind (appo 24 x62 ([l70])) fun l71 => some (l71, (fput x64 x63 true))) (some (x62, x64))) ((fun (x72, x73) => Option.bind (chk .i64 (x63 + 1)) fun n74 => some (Sum.inl (x72, n74, x73))))))) (some (Sum.inr (x62, x64)))) (x56, (0 : Int), x58)) ((fun (x75, x76) => Option.bind (chk .i64 (x57 + 1)) fun n77 => some (Sum.inl (x75, n77, x76)))))) (some (Sum.inr (Sum.inl (x56, x58))))) (([] : (List (List Int))), (0 : Int), x55)) ((Sum.elim (fun (x78, x79) => cond (decide (0 < (x78.length : Int))) (some (Sum.inl (x78, x79))) (none)) (fun r80 => some (Sum.inr r80))))) ([[from_]], (fput (fnone : (FMap Int Bool)) from_ true))) ((fun r81 => some r81))
def an44 : An := .nd (.x) (.nd (.x) (.nd (.x) (.nd (.x) (.lp ⟨[(.slot 9, .own (.sl 42 (.sl (.int .i64)))), (.cont 19, .own (.mp 3 (.int .i64) .bool))], [19]⟩ [.ret] (.nd (.x) (.nd (.nd (.x) (.lp ⟨[(.slot 11, .own (.sl 42 (.sl (.int .i64)))), (.slot 24, .d (.int .i64)), (.cont 19, .own (.mp 3 (.int .i64) .bool))], [9, 19]⟩ [.exit 2 ⟨[(.slot 11, .own (.sl 42 (.sl (.int .i64)))), (.cont 19, .own (.mp 3 (.int .i64) .bool))], [19]⟩, .ret] (.nd (.x) (.nd (.x) (.nd (.nd (.x) (.nd (.x) (.nd (.x) (.nd (.x) (.lp ⟨[(.slot 11, .own (.sl 42 (.sl (.int .i64)))), (.slot 43, .d (.int .i64)), (.cont 19, .own (.mp 3 (.int .i64) .bool))], [9, 19]⟩ [.exit 4 ⟨[(.slot 11, .own (.sl 42 (.sl (.int .i64)))), (.cont 19, .own (.mp 3 (.int .i64) .bool))], [9, 19]⟩] (.nd (.x) (.nd (.x) (.nd (.nd (.x) (.nd (.jn [.norm ⟨[(.slot 61, .d .bool)], [11, 9, 19]⟩] (.x)) (.jn [.norm ⟨[(.slot 11, .own (.sl 42 (.sl (.int .i64)))), (.cont 19, .own (.mp 3 (.int .i64) .bool))], [9, 19]⟩] (.x)))) (.x))))))))) (.x)))))) (.x)))))))
noncomputable def ctr44 : Ctr := ⟨[.pt (.st 3), .d (.int .i64), .d (.int .i64), .d (.int .i64)], [.d (.sl (.int .i64))], fun a => P.ring_hunt_chain a.1 a.2.1 a.2.2.1 a.2.2.2.1⟩
theorem ok44 : Ctr.ok Try.prog 44 ctr44 := fun_ok (G := { gxb with fs := [(69, ctr69)] }) (an := an44) (gx_ok ⟨⟨ok69, Try.call69⟩, trivial⟩) Try.func44 rfl rfl rfl rfl (fun a => by kernel_rfl)
noncomputable def P.ring_hunt_chain_p (h_ : Hunt_94) (from_ : Int) (to_ : Int) (strength : Int) : Option Apart := Option.bind (loopM (S := ((List (List Int)) × (FMap Int Bool))) (R := (Apart)) (fun (x52, x53) => Option.bind (loopM (S := ((List (List Int)) × Int × (FMap Int Bool))) (R := ((List (List Int)) × (FMap Int Bool))) (fun (x54, x55, x56) => cond (decide (x55 < (x52.length : Int))) (Option.bind (ixo x52 x55) fun y57 => Option.bind (chk .i64 ((y57.length : Int) - 1)) fun n58 => Option.bind (ixo y57 n58) fun y59 => cond (decide (y59 = to_)) (none) (Option.bind (loopM (S := ((List (List Int)) × Int × (FMap Int Bool))) (R := ((List (List Int)) × (FMap Int Bool))) (fun (x60, x61, x62) => cond (decide (x61 < (h_.ids.length : Int))) (Option.bind (α := (Bool)) (cond ((!((x62 x61).getD false))) (Option.bind (ixA 24 y59) fun i63 => Option.bind (ixA 24 x61) fun i64 => Option.bind (ixo h_.weights (i63 * 24 + i64 * 1)) fun y65 => some (decide (strength ≤ y65))) (some false)) ((fun x66 => Option.bind (α := ((List (List Int)) × (FMap Int Bool))) (cond (x66) (Option.bind (P.slices_Clone_69 y57) fun r67 => Option.bind (appo 8 r67 ([x61])) fun l68 => Option.bind (appo 24 x60 ([l68])) fun l69 => some (l69, (fput x62 x61 true))) (some (x60, x62))) ((fun (x70, x71) => Option.bind (chk .i64 (x61 + 1)) fun n72 => some (Sum.inl (x70, n72, x71))))))) (some (Sum.inr (x60, x62)))) (x54, (0 : Int), x56)) ((fun (x73, x74) => Option.bind (chk .i64 (x55 + 1)) fun n75 => some (Sum.inl (x73, n75, x74)))))) (some (Sum.inr (x54, x56)))) (([] : (List (List Int))), (0 : Int), x53)) ((fun (x76, x77) => cond (decide (0 < (x76.length : Int))) (some (Sum.inl (x76, x77))) (some (Sum.inr (Apart.mk from_ to_)))))) ([[from_]], (fput (fnone : (FMap Int Bool)) from_ true))) ((fun x78 => some x78))
def anp44 : An := .nd (.x) (.nd (.x) (.nd (.x) (.nd (.x) (.lp ⟨[(.slot 9, .own (.sl 42 (.sl (.int .i64)))), (.cont 19, .own (.mp 3 (.int .i64) .bool))], [19]⟩ [.exit 98000375 ⟨[(.slot 81, .d (.st 4))], []⟩] (.nd (.x) (.nd (.nd (.x) (.lp ⟨[(.slot 11, .own (.sl 42 (.sl (.int .i64)))), (.slot 24, .d (.int .i64)), (.cont 19, .own (.mp 3 (.int .i64) .bool))], [9, 19]⟩ [.exit 2 ⟨[(.slot 11, .own (.sl 42 (.sl (.int .i64)))), (.cont 19, .own (.mp 3 (.int .i64) .bool))], [19]⟩] (.nd (.x) (.nd (.x) (.nd (.nd (.x) (.nd (.x) (.nd (.x) (.nd (.x) (.lp ⟨[(.slot 11, .own (.sl 42 (.sl (.int .i64)))), (.slot 43, .d (.int .i64)), (.cont 19, .own (.mp 3 (.int .i64) .bool))], [9, 19]⟩ [.exit 4 ⟨[(.slot 11, .own (.sl 42 (.sl (.int .i64)))), (.cont 19, .own (.mp 3 (.int .i64) .bool))], [9, 19]⟩] (.nd (.x) (.nd (.x) (.nd (.nd (.x) (.nd (.jn [.norm ⟨[(.slot 61, .d .bool)], [11, 9, 19]⟩] (.x)) (.jn [.norm ⟨[(.slot 11, .own (.sl 42 (.sl (.int .i64)))), (.cont 19, .own (.mp 3 (.int .i64) .bool))], [9, 19]⟩] (.x)))) (.x))))))))) (.x)))))) (.x)))))))
noncomputable def ctrp44 : CtrP := ⟨[.pt (.st 3), .d (.int .i64), .d (.int .i64), .d (.int .i64)], (.st 4), 97, fun a => P.ring_hunt_chain_p a.1 a.2.1 a.2.2.1 a.2.2.2.1⟩
theorem okp44 : CtrP.ok Try.prog 44 ctrp44 := funP_ok (G := { gxb with fs := [(69, ctr69)] }) (an := anp44) (t := 81) (gx_ok ⟨⟨ok69, Try.call69⟩, trivial⟩) Try.func44 rfl rfl rfl rfl (fun a => by kernel_rfl)
noncomputable def P.ring_hunt_widest (h_ : Hunt_94) (from_ : Int) (to_ : Int) : Option Int := Option.bind (loopM (S := (Int × (List Int))) (R := ((List Int))) (fun (x46, x47) => cond (decide (x46 < (h_.ids.length : Int))) (Option.bind (loopM (S := (Int × (List Int))) (R := ((List Int))) (fun (x48, x49) => cond (decide (x48 < (h_.ids.length : Int))) (Option.bind (loopM (S := (Int × (List Int))) (R := ((List Int))) (fun (x50, x51) => cond (decide (x50 < (h_.ids.length : Int))) (Option.bind (ixA 24 x48) fun i52 => Option.bind (ixA 24 x50) fun i53 => Option.bind (ixo x51 (i52 * 24 + i53 * 1)) fun y54 => Option.bind (ixA 24 x48) fun i55 => Option.bind (ixA 24 x46) fun i56 => Option.bind (ixo x51 (i55 * 24 + i56 * 1)) fun y57 => Option.bind (ixA 24 x46) fun i58 => Option.bind (ixA 24 x50) fun i59 => Option.bind (ixo x51 (i58 * 24 + i59 * 1)) fun y60 => Option.bind (ixA 24 x48) fun i61 => Option.bind (ixA 24 x50) fun i62 => Option.bind (seto x51 (i61 * 24 + i62 * 1) (max y54 (min y57 y60))) fun l63 => Option.bind (chk .i64 (x50 + 1)) fun n64 => some (Sum.inl (n64, l63))) (some (Sum.inr x51))) ((0 : Int), x49)) ((fun x65 => Option.bind (chk .i64 (x48 + 1)) fun n66 => some (Sum.inl (n66, x65))))) (some (Sum.inr x49))) ((0 : Int), x47)) ((fun x67 => Option.bind (chk .i64 (x46 + 1)) fun n68 => some (Sum.inl (n68, x67))))) (some (Sum.inr x47))) ((0 : Int), h_.weights)) ((fun x69 => Option.bind (ixA 24 from_) fun i70 => Option.bind (ixA 24 to_) fun i71 => Option.bind (ixo x69 (i70 * 24 + i71 * 1)) fun y72 => cond (decide (y72 = 0)) (none) (Option.bind (ixA 24 from_) fun i73 => Option.bind (ixA 24 to_) fun i74 => Option.bind (ixo x69 (i73 * 24 + i74 * 1)) fun y75 => some y75)))
def an45 : An := .nd (.x) (.nd (.x) (.nd (.nd (.x) (.lp ⟨[(.slot 20, .d (.int .i64)), (.cell 7 0, .d (.arr .i64 576))], [7]⟩ [.exit 0 ⟨[(.cell 7 0, .d (.arr .i64 576))], [7]⟩] (.nd (.x) (.nd (.x) (.nd (.nd (.x) (.nd (.x) (.lp ⟨[(.slot 28, .d (.int .i64)), (.cell 7 0, .d (.arr .i64 576))], [7]⟩ [.exit 2 ⟨[(.cell 7 0, .d (.arr .i64 576))], [7]⟩] (.nd (.x) (.nd (.x) (.nd (.nd (.x) (.nd (.x) (.lp ⟨[(.slot 36, .d (.int .i64)), (.cell 7 0, .d (.arr .i64 576))], [7]⟩ [.exit 4 ⟨[(.cell 7 0, .d (.arr .i64 576))], [7]⟩] (.x)))) (.x))))))) (.x)))))) (.x)))
noncomputable def ctr45 : Ctr := ⟨[.pt (.st 3), .d (.int .i64), .d (.int .i64)], [.d (.int .i64)], fun a => P.ring_hunt_widest a.1 a.2.1 a.2.2.1⟩
theorem ok45 : Ctr.ok Try.prog 45 ctr45 := fun_ok (G := { gxb with fs := [] }) (an := an45) (gx_ok trivial) Try.func45 rfl rfl rfl rfl (fun a => by kernel_rfl)
noncomputable def P.ring_hunt_widest_p (h_ : Hunt_94) (from_ : Int) (to_ : Int) : Option Apart := Option.bind (loopM (S := (Int × (List Int))) (R := ((List Int))) (fun (x46, x47) => cond (decide (x46 < (h_.ids.length : Int))) (Option.bind (loopM (S := (Int × (List Int))) (R := ((List Int))) (fun (x48, x49) => cond (decide (x48 < (h_.ids.length : Int))) (Option.bind (loopM (S := (Int × (List Int))) (R := ((List Int))) (fun (x50, x51) => cond (decide (x50 < (h_.ids.length : Int))) (Option.bind (ixA 24 x48) fun i52 => Option.bind (ixA 24 x50) fun i53 => Option.bind (ixo x51 (i52 * 24 + i53 * 1)) fun y54 => Option.bind (ixA 24 x48) fun i55 => Option.bind (ixA 24 x46) fun i56 => Option.bind (ixo x51 (i55 * 24 + i56 * 1)) fun y57 => Option.bind (ixA 24 x46) fun i58 => Option.bind (ixA 24 x50) fun i59 => Option.bind (ixo x51 (i58 * 24 + i59 * 1)) fun y60 => Option.bind (ixA 24 x48) fun i61 => Option.bind (ixA 24 x50) fun i62 => Option.bind (seto x51 (i61 * 24 + i62 * 1) (max y54 (min y57 y60))) fun l63 => Option.bind (chk .i64 (x50 + 1)) fun n64 => some (Sum.inl (n64, l63))) (some (Sum.inr x51))) ((0 : Int), x49)) ((fun x65 => Option.bind (chk .i64 (x48 + 1)) fun n66 => some (Sum.inl (n66, x65))))) (some (Sum.inr x49))) ((0 : Int), x47)) ((fun x67 => Option.bind (chk .i64 (x46 + 1)) fun n68 => some (Sum.inl (n68, x67))))) (some (Sum.inr x47))) ((0 : Int), h_.weights)) ((fun x69 => Option.bind (ixA 24 from_) fun i70 => Option.bind (ixA 24 to_) fun i71 => Option.bind (ixo x69 (i70 * 24 + i71 * 1)) fun y72 => cond (decide (y72 = 0)) (some (Apart.mk from_ to_)) (Option.bind (ixA 24 from_) fun i73 => Option.bind (ixA 24 to_) fun i74 => Option.bind (ixo x69 (i73 * 24 + i74 * 1)) fun y75 => none)))
def anp45 : An := .nd (.x) (.nd (.x) (.nd (.nd (.x) (.lp ⟨[(.slot 20, .d (.int .i64)), (.cell 7 0, .d (.arr .i64 576))], [7]⟩ [.exit 0 ⟨[(.cell 7 0, .d (.arr .i64 576))], [7]⟩] (.nd (.x) (.nd (.x) (.nd (.nd (.x) (.nd (.x) (.lp ⟨[(.slot 28, .d (.int .i64)), (.cell 7 0, .d (.arr .i64 576))], [7]⟩ [.exit 2 ⟨[(.cell 7 0, .d (.arr .i64 576))], [7]⟩] (.nd (.x) (.nd (.x) (.nd (.nd (.x) (.nd (.x) (.lp ⟨[(.slot 36, .d (.int .i64)), (.cell 7 0, .d (.arr .i64 576))], [7]⟩ [.exit 4 ⟨[(.cell 7 0, .d (.arr .i64 576))], [7]⟩] (.x)))) (.x))))))) (.x)))))) (.x)))
noncomputable def ctrp45 : CtrP := ⟨[.pt (.st 3), .d (.int .i64), .d (.int .i64)], (.st 4), 97, fun a => P.ring_hunt_widest_p a.1 a.2.1 a.2.2.1⟩
theorem okp45 : CtrP.ok Try.prog 45 ctrp45 := funP_ok (G := { gxb with fs := [] }) (an := anp45) (t := 72) (gx_ok trivial) Try.func45 rfl rfl rfl rfl (fun a => by kernel_rfl)
noncomputable def P.ring_Why (h_ : Hunt) (l : (List Filing)) (a : Int) (b : Int) : Option ((List Tie) × Int) := Option.bind (P.ring_open h_ l) fun (r1, r2) => cond ((!decide (r2 = 0))) (some (([] : (List Tie)), r2)) (Option.bind (r1) fun x3 => Option.bind (P.ring_hunt_two x3 a b) fun (r4, r5, r6) => cond ((!decide (r6 = 0))) (some (([] : (List Tie)), r6)) (Option.bind (r1) fun x7 => thro (P.ring_hunt_widest_p x7 r4 r5) (fun e8 => some (([] : (List Tie)), (6 : Int))) (Option.bind (r1) fun x9 => Option.bind (P.ring_hunt_widest x9 r4 r5) fun r10 => Option.bind (r1) fun x11 => thro (P.ring_hunt_chain_p x11 r4 r5 r10) (fun e12 => some (([] : (List Tie)), (6 : Int))) (Option.bind (r1) fun x13 => Option.bind (P.ring_hunt_chain x13 r4 r5 r10) fun r14 => Option.bind (cutLo r14 1) fun l15 => Option.bind (loopM (S := (Int × (List Tie))) (R := ((List Tie))) (fun (x45, x46) => cond (decide (x45 < (l15.length : Int))) (Option.bind (ixo l15 x45) fun y47 => Option.bind (r1) fun x48 => Option.bind (ixo r14 x45) fun y49 => Option.bind (ixo x48.ids y49) fun y50 => Option.bind (r1) fun x51 => Option.bind (ixo x51.ids y47) fun y52 => Option.bind (ixo r14 x45) fun y53 => Option.bind (r1) fun x54 => Option.bind (ixA 24 y53) fun i55 => Option.bind (ixA 24 y47) fun i56 => Option.bind (ixo x54.weights (i55 * 24 + i56 * 1)) fun y57 => Option.bind (appo 24 x46 ([(Tie.mk y50 y52 y57)])) fun l58 => Option.bind (chk .i64 (x45 + 1)) fun n59 => some (Sum.inl (n59, l58))) (some (Sum.inr x46))) ((0 : Int), ([] : (List Tie)))) ((fun x60 => some (x60, (0 : Int))))))))
def an17 : An := .nd (.x) (.nd (.x) (.nd (.x) (.nd (.x) (.nd (.x) (.nd (.x) (.nd (.x) (.nd (.nd (.x) (.lp ⟨[(.slot 48, .d (.int .i64)), (.cell 8 0, .own (.sl 71 (.st 2)))], [9, 8]⟩ [.exit 0 ⟨[(.cell 8 0, .own (.sl 71 (.st 2)))], [9, 8]⟩] (.x))) (.x))))))))
noncomputable def ctr17 : Ctr := ⟨[.d (.st 0), .d (.sl (.st 1)), .d (.int .i64), .d (.int .i64)], [.own (.sl 71 (.st 2)), .d (.int .i64)], fun a => P.ring_Why a.1 a.2.1 a.2.2.1 a.2.2.2.1⟩
theorem ok17 : Ctr.ok Try.prog 17 ctr17 := funD_ok (G := { gxb with fs := [(40, ctr40), (41, ctr41), (44, ctr44), (45, ctr45)], pf := [(44, ctrp44), (45, ctrp45)] }) (an := an17) (caps := [8, 9]) (t := 37) (eff := [(32, 0, .slice none 0 0), (27, 1, .int .i64 6)]) (gx_okp ⟨⟨ok40, Try.call40⟩, ⟨⟨ok41, Try.call41⟩, ⟨⟨ok44, Try.call44⟩, ⟨⟨ok45, Try.call45⟩, trivial⟩⟩⟩⟩ ⟨⟨okp44, Try.call44⟩, ⟨⟨okp45, Try.call45⟩, trivial⟩⟩) dn43 dp43 Try.call43 Try.func17 rfl rfl rfl rfl rfl rfl rfl (fun a => by kernel_rfl)
noncomputable def P.ref08_steps (h_ : Hunt) (l : (List Filing)) (from_ : Int) (strength : Int) : Option (List Int) := Option.bind (mko 8 (0 : Int) (l.length : Int)) fun l1 => Option.bind (loopM (S := (Int × (List Int))) (R := ((List Int))) (fun (x11, x12) => cond (decide (x11 < (x12.length : Int))) (Option.bind (ixo x12 x11) fun y13 => Option.bind (seto x12 x11 (-1)) fun l14 => Option.bind (chk .i64 (x11 + 1)) fun n15 => some (Sum.inl (n15, l14))) (some (Sum.inr x12))) ((0 : Int), l1)) ((fun x16 => Option.bind (ixo x16 from_) fun y17 => Option.bind (seto x16 from_ 0) fun l18 => Option.bind (loopM (S := (Int × (List Int))) (R := ((List Int))) (fun (x58, x59) => cond (decide (x58 < (l.length : Int))) (Option.bind (loopM (S := (Int × (List Int))) (R := ((List Int))) (fun (x60, x61) => cond (decide (x60 < (l.length : Int))) (Option.bind (α := ((List Int))) (Option.bind (ixo x61 x60) fun y62 => cond ((!decide (y62 = x58))) (some x61) (Option.bind (loopM (S := (Int × (List Int))) (R := ((List Int))) (fun (x63, x64) => cond (decide (x63 < (l.length : Int))) (Option.bind (α := (Bool)) (Option.bind (ixo x64 x63) fun y65 => cond (decide (y65 < 0)) (Option.bind (P.ref08_weight h_ l x60 x63) fun r66 => some (decide (strength ≤ r66))) (some false)) ((fun x67 => Option.bind (α := ((List Int))) (cond (x67) (Option.bind (chk .i64 (x58 + 1)) fun n68 => Option.bind (ixo x64 x63) fun y69 => Option.bind (seto x64 x63 n68) fun l70 => some l70) (some x64)) ((fun x71 => Option.bind (chk .i64 (x63 + 1)) fun n72 => some (Sum.inl (n72, x71))))))) (some (Sum.inr x64))) ((0 : Int), x61)) ((fun x73 => some x73)))) ((fun x74 => Option.bind (chk .i64 (x60 + 1)) fun n75 => some (Sum.inl (n75, x74))))) (some (Sum.inr x61))) ((0 : Int), x59)) ((fun x76 => Option.bind (chk .i64 (x58 + 1)) fun n77 => some (Sum.inl (n77, x76))))) (some (Sum.inr x59))) ((0 : Int), l18)) ((fun x78 => some x78))))
noncomputable def P.ref08_SameTies (a : (List Tie)) (b : (List Tie)) : Option Bool := cond ((!decide ((a.length : Int) = (b.length : Int)))) (some false) (Option.bind (loopM (S := (Int)) (R := (Unit ⊕ Bool)) (fun x5 => cond (decide (x5 < (a.length : Int))) (Option.bind (ixo a x5) fun y6 => Option.bind (ixo b x5) fun y7 => cond ((!decide (y6 = y7))) (some (Sum.inr (Sum.inr false))) (Option.bind (chk .i64 (x5 + 1)) fun n8 => some (Sum.inl n8))) (some (Sum.inr (Sum.inl ())))) (0 : Int)) ((Sum.elim (fun _ => some true) (fun r9 => some r9))))
def an21 : An := .nd (.x) (.nd (.x) (.nd (.nd (.x) (.lp ⟨[(.slot 5, .d (.int .i64))], []⟩ [.exit 0 ⟨[], []⟩, .ret] (.x))) (.x)))
noncomputable def ctr21 : Ctr := ⟨[.d (.sl (.st 2)), .d (.sl (.st 2))], [.d .bool], fun a => P.ref08_SameTies a.1 a.2.1⟩
theorem ok21 : Ctr.ok Try.prog 21 ctr21 := fun_ok (G := { gxb with fs := [] }) (an := an21) (gx_ok trivial) Try.func21 rfl rfl rfl rfl (fun a => by kernel_rfl)
noncomputable def P.ref08_SameInts (a : (List Int)) (b : (List Int)) : Option Bool := cond ((!decide ((a.length : Int) = (b.length : Int)))) (some false) (Option.bind (loopM (S := (Int)) (R := (Unit ⊕ Bool)) (fun x5 => cond (decide (x5 < (a.length : Int))) (Option.bind (ixo a x5) fun y6 => Option.bind (ixo b x5) fun y7 => cond ((!decide (y6 = y7))) (some (Sum.inr (Sum.inr false))) (Option.bind (chk .i64 (x5 + 1)) fun n8 => some (Sum.inl n8))) (some (Sum.inr (Sum.inl ())))) (0 : Int)) ((Sum.elim (fun _ => some true) (fun r9 => some r9))))
def an30 : An := .nd (.x) (.nd (.x) (.nd (.nd (.x) (.lp ⟨[(.slot 5, .d (.int .i64))], []⟩ [.exit 0 ⟨[], []⟩, .ret] (.x))) (.x)))
noncomputable def ctr30 : Ctr := ⟨[.d (.sl (.int .i64)), .d (.sl (.int .i64))], [.d .bool], fun a => P.ref08_SameInts a.1 a.2.1⟩
theorem ok30 : Ctr.ok Try.prog 30 ctr30 := fun_ok (G := { gxb with fs := [] }) (an := an30) (gx_ok trivial) Try.func30 rfl rfl rfl rfl (fun a => by kernel_rfl)
noncomputable def P.ref08_Same (a : (List Filing)) (b : (List Filing)) : Option Bool := cond ((!decide ((a.length : Int) = (b.length : Int)))) (some false) (Option.bind (loopM (S := (Int)) (R := (Unit ⊕ Bool)) (fun x11 => cond (decide (x11 < (a.length : Int))) (Option.bind (α := (Bool)) (Option.bind (ixo a x11) fun y12 => Option.bind (ixo b x11) fun y13 => cond ((!decide (y12.id = y13.id))) (some true) (Option.bind (ixo a x11) fun y14 => Option.bind (ixo b x11) fun y15 => cond ((!decide (y14.day = y15.day))) (some true) (Option.bind (ixo a x11) fun y16 => Option.bind (ixo b x11) fun y17 => Option.bind (P.ref08_SameInts y16.parts y17.parts) fun r18 => some (!r18)))) ((fun x19 => cond (x19) (some (Sum.inr (Sum.inr false))) (Option.bind (chk .i64 (x11 + 1)) fun n20 => some (Sum.inl n20))))) (some (Sum.inr (Sum.inl ())))) (0 : Int)) ((Sum.elim (fun _ => some true) (fun r21 => some r21))))
noncomputable def P.ring_hunt_everyone (h_ : Hunt_94) : Option (FMap Int Bool) := Option.bind (loopM (S := (Int × (FMap Int Bool))) (R := ((FMap Int Bool))) (fun (x6, x7) => cond (decide (x6 < (h_.ids.length : Int))) (Option.bind (chk .i64 (x6 + 1)) fun n8 => some (Sum.inl (n8, (fput x7 x6 true)))) (some (Sum.inr x7))) ((0 : Int), (fnone : (FMap Int Bool)))) ((fun x9 => some x9))
def an53 : An := .nd (.x) (.nd (.x) (.nd (.nd (.x) (.lp ⟨[(.slot 11, .d (.int .i64)), (.cont 5, .own (.mp 3 (.int .i64) .bool))], [5]⟩ [.exit 0 ⟨[(.cont 5, .own (.mp 3 (.int .i64) .bool))], [5]⟩] (.x))) (.x)))
noncomputable def ctr53 : Ctr := ⟨[.pt (.st 3)], [.own (.mp 3 (.int .i64) .bool)], fun a => P.ring_hunt_everyone a.1⟩
theorem ok53 : Ctr.ok Try.prog 53 ctr53 := fun_ok (G := { gxb with fs := [] }) (an := an53) (gx_ok trivial) Try.func53 rfl rfl rfl rfl (fun a => by kernel_rfl)
noncomputable def P.ring_hunt_named (h_ : Hunt_94) (l : (List Int)) : Option (List Int) := Option.bind (loopM (S := (Int × (List Int))) (R := ((List Int))) (fun (x7, x8) => cond (decide (x7 < (l.length : Int))) (Option.bind (ixo l x7) fun y9 => Option.bind (ixo h_.ids y9) fun y10 => Option.bind (appo 8 x8 ([y10])) fun l11 => Option.bind (chk .i64 (x7 + 1)) fun n12 => some (Sum.inl (n12, l11))) (some (Sum.inr x8))) ((0 : Int), ([] : (List Int)))) ((fun x13 => some x13))
def an56 : An := .nd (.x) (.nd (.x) (.nd (.nd (.x) (.lp ⟨[(.slot 10, .d (.int .i64)), (.slot 5, .own (.sl 3 (.int .i64)))], []⟩ [.exit 0 ⟨[(.slot 5, .own (.sl 3 (.int .i64)))], []⟩] (.x))) (.x)))
noncomputable def ctr56 : Ctr := ⟨[.pt (.st 3), .d (.sl (.int .i64))], [.own (.sl 3 (.int .i64))], fun a => P.ring_hunt_named a.1 a.2.1⟩
theorem ok56 : Ctr.ok Try.prog 56 ctr56 := fun_ok (G := { gxb with fs := [] }) (an := an56) (gx_ok trivial) Try.func56 rfl rfl rfl rfl (fun a => by kernel_rfl)
noncomputable def P.ring_greatest (first : Int) (more : (List Int)) : Option Int := Option.bind (loopM (S := (Int × Int)) (R := (Int)) (fun (x5, x6) => cond (decide (x6 < (more.length : Int))) (Option.bind (ixo more x6) fun y7 => Option.bind (chk .i64 (x6 + 1)) fun n8 => some (Sum.inl ((max x5 y7), n8))) (some (Sum.inr x5))) (first, (0 : Int))) ((fun x9 => some x9))
def an55 : An := .nd (.x) (.nd (.nd (.x) (.lp ⟨[(.slot 0, .d (.int .i64)), (.slot 9, .d (.int .i64))], []⟩ [.exit 0 ⟨[(.slot 0, .d (.int .i64))], []⟩] (.x))) (.x))
noncomputable def ctr55 : Ctr := ⟨[.d (.int .i64), .d (.sl (.int .i64))], [.d (.int .i64)], fun a => P.ring_greatest a.1 a.2.1⟩
theorem ok55 : Ctr.ok Try.prog 55 ctr55 := fun_ok (G := { gxb with fs := [] }) (an := an55) (gx_ok trivial) Try.func55 rfl rfl rfl rfl (fun a => by kernel_rfl)
end Go.Proofs.Ytdbogmmdogjhpaa
set_option maxRecDepth 20000
set_option maxHeartbeats 4000000
namespace Go.Rx
open Go Go.Sx Go.RowKit
section
variable [Trk] [Sg] [Sf] {P : Program} [Se P] [Anch]
variable {w0 w : World} {Mu M : List Nat} {L : Env} {G : Gx} {N : Nat} {ds : List Deferred} {A B : Out} {X : Nat → Out} {Z : List PanicEntry → Out}
/-- What is known of slots is known still. -/
def AllE (env : List (Nat × SV)) : List (Nat × SV) → Prop
  | [] => True
  | p :: l => fnd env p.1 = some p.2 ∧ AllE env l
theorem AllE.out {env : List (Nat × SV)} {t : Nat} {s : SV} : ∀ {l : List (Nat × SV)}, AllE env l → fnd l t = some s → fnd env t = some s
  | [], _, h => by cases h
  | (k, u) :: l, ⟨h1, h2⟩, h => by
    rw [fnd_cons] at h
    split at h
    · rename_i e; subst e; cases h; exact h1
    · exact AllE.out h2 h
theorem Holds.fewer {env env' : List (Nat × SV)} {res : List (Nat × AR)} {kl kl' : List Nat} {ch ch' : List (Nat × Nat)} (h : Holds (P := P) w0 Mu M ⟨env, res, kl, ch⟩ L w) (hE : AllE env env') : Holds (P := P) w0 Mu M ⟨env', res, kl', ch'⟩ L w := by
  obtain ⟨S, ρ, γ, μ, ι, hS⟩ := h
  exact ⟨S, ρ, γ, μ, ι, hS.hp, hS.res, hS.inj, hS.row, fun t s ht => hS.env t s (hE.out ht), hS.anch⟩
theorem Holds.reg [Sl (P := P)] (hG : GxOk P G) {id : Nat} {ops : List Oper} {σ σ' : AS} (h : runOps G N ops some ops σ = some σ') (hH : Holds (P := P) w0 Mu M σ L w) (hA : ∀ L' w', EnvS (wrOps ops) L L' → Holds (P := P) w0 Mu M σ' L' w' → A ds L' w') : CW P N (.region id (List.toArray ops) false) ds L w A B X Z :=
  cw_regF (runOps_ok hG ops σ L w h (fun _ ht => ht) hH fun σ1 L1 w1 h1 _ hE hH1 => by cases h1; exact hA L1 w1 hE hH1)
theorem Holds.code [Sl (P := P)] (hG : GxOk P G) {c : Code} {an : An} {σ σ' : AS} (h : exec G N (fun _ => (none : Option Unit)) c an some (fun _ _ => none) (fun _ => none) σ = some σ') (hH : Holds (P := P) w0 Mu M σ L w) (hA : ∀ L' w', EnvS (wrOf c ++ wrAn an) L L' → Holds (P := P) w0 Mu M σ' L' w' → A ds L' w') : CW P N c ds L w A B X Z :=
  cf_wide (n := 3) (cf_noX (exec_ok hG c an _ _ _ _ _ _ _ _ _ _ _ _ _ h hH (fun σ1 L1 w1 h1 _ hE hH1 => by cases h1; exact hA L1 w1 hE hH1) (fun i σ2 L2 w2 h2 => by cases h2) (fun r σ2 L2 w2 h2 h3 _ hH2 => by cases h2) PZ.no))
theorem Holds.slotI {σ : AS} {t : Nat} {k : IntKind} {x : Int} (h : Holds (P := P) w0 Mu M σ L w) (ht : fnd σ.env t = some (.int k x)) : Sx.look L t = some (.int k x) ∧ InK k x := by
  obtain ⟨S, ρ, γ, μ, ι, hS⟩ := h
  obtain ⟨v, h1, h2, h3⟩ := hS.env t _ ht
  subst h2; exact ⟨h1, h3⟩
theorem Holds.addI {env : List (Nat × SV)} {res : List (Nat × AR)} {kl : List Nat} {ch : List (Nat × Nat)} {t : Nat} {k : IntKind} {x : Int} (h : Holds (P := P) w0 Mu M ⟨env, res, kl, ch⟩ L w) (ht : Sx.look L t = some (.int k x)) (hk : InK k x) : Holds (P := P) w0 Mu M ⟨(t, .int k x) :: env, res, kl, ch⟩ L w := by
  obtain ⟨S, ρ, γ, μ, ι, hS⟩ := h
  refine ⟨S, ρ, γ, μ, ι, hS.hp, hS.res, hS.inj, hS.row, fun u s hu => ?_, hS.anch⟩
  have hu2 : fnd ((t, .int k x) :: env) u = some s := hu
  clear hu
  rw [fnd_cons] at hu2
  split at hu2
  · rename_i e; subst e; cases hu2; exact ⟨_, ht, rfl, hk⟩
  · exact hS.env u s hu2
theorem Holds.slotB {σ : AS} {t : Nat} {b : Bool} (h : Holds (P := P) w0 Mu M σ L w) (ht : fnd σ.env t = some (.bool b)) : Sx.look L t = some (.bool b) := by
  obtain ⟨S, ρ, γ, μ, ι, hS⟩ := h
  obtain ⟨v, h1, h2⟩ := hS.env t _ ht
  have h2 : v = .bool b := h2
  subst h2; exact h1
theorem Holds.slotR {σ : AS} {t : Nat} {u : Value} (h : Holds (P := P) w0 Mu M σ L w) (ht : fnd σ.env t = some (.raw u)) : Sx.look L t = some u := by
  obtain ⟨S, ρ, γ, μ, ι, hS⟩ := h
  obtain ⟨v, h1, h2, _⟩ := hS.env t _ ht
  subst h2; exact h1
theorem Holds.regB [Sl (P := P)] (hG : GxOk P G) {id : Nat} {ops : List Oper} {σ σ' : AS} {Y : Type} {o : Option Y} {x : Y} {K : Y → Option AS} (hb : o = some x) (h : runOps G N ops some ops σ = Option.bind o K) (hk : K x = some σ') (hH : Holds (P := P) w0 Mu M σ L w) (hA : ∀ L' w', EnvS (wrOps ops) L L' → Holds (P := P) w0 Mu M σ' L' w' → A ds L' w') : CW P N (.region id (List.toArray ops) false) ds L w A B X Z :=
  Holds.reg hG (by rw [h, hb]; exact hk) hH hA
theorem Holds.ops [Sl (P := P)] (hG : GxOk P G) {all l rest : List Oper} {σ σ' : AS} (h : runOps G N all some l σ = some σ') (hH : Holds (P := P) w0 Mu M σ L w) (hA : ∀ L' w', EnvS (wrOps l) L L' → Holds (P := P) w0 Mu M σ' L' w' → Reg P N (List.toArray all) .seq rest ds L' w' A B X Z) : Reg P N (List.toArray all) .seq (l ++ rest) ds L w A B X Z := by
  have key := runOps_ok (P := P) (ops := all) (ds := ds) (B := B) (X := X) (Z := Z) (W := wrOps l) hG l σ L w h (fun _ ht => ht) hH (A := fun ds' L' w' => Reg P N (List.toArray all) .seq rest ds' L' w' A B X Z) fun σ1 L1 w1 h1 _ hE hH1 => by cases h1; exact hA L1 w1 hE hH1
  exact fun a ha => wpList_app (fun a w h => by
    obtain ⟨ds', L', hk, hr⟩ := h
    exact hr a hk) l a w (key a ha)
theorem loopM_step {S R : Type} {body : S → Option (S ⊕ R)} {s : S} {r : R} (h : loopM body s = some r) : (∃ s', body s = some (.inl s') ∧ loopM body s' = some r) ∨ body s = some (.inr r) := by
  obtain ⟨n, hn⟩ := loopM_some.1 h
  cases n with
  | zero => cases hn
  | succ n =>
    simp only [iterM] at hn
    split at hn
    · cases hn
    · rename_i s' hs; exact .inl ⟨s', hs, loopM_some.2 ⟨n, hn⟩⟩
    · rename_i r' hs; cases hn; exact .inr hs
theorem Holds.toL {σ : AS} {L2 : Env} (h : Holds (P := P) w0 Mu M σ L w) (he : ∀ t s, fnd σ.env t = some s → Sx.look L2 t = Sx.look L t) : Holds (P := P) w0 Mu M σ L2 w := by
  obtain ⟨S, ρ, γ, μ, ι, hS⟩ := h
  exact ⟨S, ρ, γ, μ, ι, hS.envTo fun t s ht => (he t s ht).symm⟩
end
end Go.Rx
namespace Go.Proofs.Ytdbogmmdogjhpaa
open Go Go.Sx Go.Rx Go.RowKit
noncomputable def vtest (h : Hunt_94) (s i k : Int) (f : FMap Int Bool) : Option Bool := cond ((f k).getD false) (Option.bind (ixA 24 i) fun a => Option.bind (ixA 24 k) fun b => Option.bind (ixo h.weights (a * 24 + b * 1)) fun y => some (decide (s ≤ y))) (some false)
noncomputable def P.visit (h : Hunt_94) (s : Int) : Nat → Int → FMap Int Bool → List Int → Option (FMap Int Bool × List Int)
  | 0, _, _, _ => none
  | n + 1, i, f, xs => Option.bind (appo 8 xs [i]) fun xs1 => loopM (S := Int × FMap Int Bool × List Int) (R := FMap Int Bool × List Int) (fun t => cond (decide (t.1 < (h.ids.length : Int))) (Option.bind (vtest h s i t.1 t.2.1) fun b => Option.bind (α := FMap Int Bool × List Int) (cond b (P.visit h s n t.1 t.2.1 t.2.2) (some t.2)) fun r => Option.bind (chk .i64 (t.1 + 1)) fun k => some (Sum.inl (k, r))) (some (Sum.inr t.2))) (0, fdel f i, xs1)
noncomputable def c71 : Code := match Try.f71.body with
  | some (.seq _ (.seq _ (.seq _ (.block _ (.loop (.seq _ (.seq _ (.seq (.block _ (.seq _ (.seq c _))) _)))))))) => c
  | _ => .skip
def sh71 : Sh := ⟨[(.slot 36, .d .bool)], [301, 9, 10900]⟩
def fv71 (caps : List Value) : Value := .func (.func 71) #[] (List.toArray caps)
def resV (f : FMap Int Bool) (xs : List Int) : List (Nat × AR) := [(301, .own false (.mp 3 (.int .i64) .bool) f), (9, .row 42 [.own 10900]), (10900, .own false (.sl 3 (.int .i64)) xs)]
def envV (h : Hunt_94) (s : Int) (caps : List Value) : List (Nat × SV) := [(1, .rp (.agg [.own 301]) 0), (2, .ptr 9 0), (3, .rp (.agg [.rp (.str 3 h) 0]) 0), (4, .rp (.agg [.int .i64 s]) 0), (5, .rp (.agg [.raw (fv71 caps)]) 0)]
variable [Anch]
abbrev HV (w0 : World) (Mu M : List Nat) (h : Hunt_94) (s : Int) (caps : List Value) (e : List (Nat × SV)) (f : FMap Int Bool) (xs : List Int) (L : Env) (w : World) : Prop := Holds (P := Try.prog) w0 Mu M ⟨e ++ envV h s caps, resV f xs, [], []⟩ L w
theorem envV_dom {h : Hunt_94} {s : Int} {caps : List Value} {t : Nat} {u : SV} (ht : fnd (envV h s caps) t = some u) : 1 ≤ t ∧ t ≤ 5 := by
  unfold envV at ht
  rw [fnd_cons] at ht
  split at ht
  · omega
  rw [fnd_cons] at ht
  split at ht
  · omega
  rw [fnd_cons] at ht
  split at ht
  · omega
  rw [fnd_cons] at ht
  split at ht
  · omega
  rw [fnd_cons] at ht
  split at ht
  · omega
  cases ht
theorem gxV : GxOk Try.prog { gxb with fs := [] } := gx_ok trivial
theorem visit_ok (h : Hunt_94) (s : Int) (w0 : World) (Mu M : List Nat) (caps : List Value) (hcl : caps.length = 5) : ∀ (n : Nat) (i : Int) (f : FMap Int Bool) (xs : List Int) (r : FMap Int Bool × List Int) (w : World), InK .i64 i → P.visit h s n i f xs = some r → HV w0 Mu M h s caps [] f xs (argEnv 1 caps) w →
    Calls Try.prog 71 (List.toArray (.int .i64 i :: caps)) w fun e w' => e = .returned (.tuple #[]) ∧ HV w0 Mu M h s caps [] r.1 r.2 (argEnv 1 caps) w' := by
  intro n
  induction n with
  | zero => intro i f xs r w _ hr; cases hr
  | succ n ih =>
    intro i f xs r w hi hr hH
    obtain ⟨xs1, hx1, hr⟩ := bnd (show Option.bind (appo 8 xs [i]) _ = some r from hr)
    let R : Ending → World → Prop := fun e w' => e = .returned (.tuple #[]) ∧ HV w0 Mu M h s caps [] r.1 r.2 (argEnv 1 caps) w'
    refine calls_cw (l := .int .i64 i :: caps) Try.func71 rfl rfl (by simp [hcl]) ?_
    have h0 : HV w0 Mu M h s caps [(0, .int .i64 i)] f xs (argEnv 0 (.int .i64 i :: caps)) w := by
      refine Holds.addI (hH.toL (L2 := (0, .int .i64 i) :: argEnv 1 caps) fun t s' ht => ?_) (by show Sx.look ((0, Value.int .i64 i) :: argEnv 1 caps) 0 = _; rw [look_cons, if_pos rfl]) hi
      rw [look_cons, if_neg]
      rintro rfl
      cases ht
    have hL0 : ∀ t, 1 ≤ t → t ≤ 5 → Sx.look (argEnv 0 (.int .i64 i :: caps)) t = Sx.look (argEnv 1 caps) t := fun t h1 h2 => by
      show Sx.look ((0, .int .i64 i) :: argEnv 1 caps) t = _
      rw [look_cons, if_neg (by omega)]
    have keep : ∀ {D : List Nat} {L L' : Env}, EnvS D L L' → (∀ d ∈ D, 6 ≤ d) → (∀ t, 1 ≤ t → t ≤ 5 → Sx.look L t = Sx.look (argEnv 1 caps) t) → ∀ t, 1 ≤ t → t ≤ 5 → Sx.look L' t = Sx.look (argEnv 1 caps) t := fun hE hD hL t h1 h2 => by
      rw [hE t fun hm => by have := hD t hm; omega]
      exact hL t h1 h2
    generalize argEnv 0 (.int .i64 i :: caps) = L at h0 hL0
    refine cw_seq ?_
    refine Holds.reg (G := { gxb with fs := [] }) (σ' := ⟨_, resV (fdel f i) xs, _, _⟩) gxV rfl h0 fun L1 w1 hE1 h1 => ?_
    have hL1 := keep hE1 (by decide) hL0
    clear hE1 hL0 h0
    have h1 : HV w0 Mu M h s caps [(0, .int .i64 i)] (fdel f i) xs L1 w1 := h1.fewer ⟨rfl, rfl, rfl, rfl, rfl, rfl, trivial⟩
    refine cw_seq ?_
    refine Holds.regB (G := { gxb with fs := [] }) (o := appo 8 xs [i]) (σ' := ⟨_, resV (fdel f i) xs1, _, _⟩) gxV hx1 rfl rfl h1 fun L2 w2 hE2 h2 => ?_
    have hL2 := keep hE2 (by decide) hL1
    clear hE2 hL1 h1
    have h2 : HV w0 Mu M h s caps [(0, .int .i64 i)] (fdel f i) xs1 L2 w2 := h2.fewer ⟨rfl, rfl, rfl, rfl, rfl, rfl, trivial⟩
    refine cw_seq ?_
    refine Holds.reg (G := { gxb with fs := [] }) (σ' := ⟨_, resV (fdel f i) xs1, _, _⟩) gxV rfl h2 fun L3 w3 hE3 h3 => ?_
    have hL3 := keep hE3 (by decide) hL2
    clear hE3 hL2 h2
    have h3 : HV w0 Mu M h s caps [(19, .int .i64 0), (18, .int .i64 (h.ids.length : Int)), (0, .int .i64 i)] (fdel f i) xs1 L3 w3 := h3.fewer ⟨rfl, rfl, rfl, rfl, rfl, rfl, rfl, rfl, trivial⟩
    refine cw_block ?_
    generalize hbd : (fun t : Int × FMap Int Bool × List Int => cond (decide (t.1 < (h.ids.length : Int))) (Option.bind (vtest h s i t.1 t.2.1) fun b => Option.bind (α := FMap Int Bool × List Int) (cond b (P.visit h s n t.1 t.2.1 t.2.2) (some t.2)) fun r => Option.bind (chk .i64 (t.1 + 1)) fun k => some (Sum.inl (β := FMap Int Bool × List Int) (k, r))) (some (Sum.inr t.2))) = body at hr
    refine cw_loop (ι := Env × Int × FMap Int Bool × List Int) (fun q => q.1) (fun q w => HV w0 Mu M h s caps [(19, .int .i64 q.2.1), (18, .int .i64 (h.ids.length : Int)), (0, .int .i64 i)] q.2.2.1 q.2.2.2 q.1 w ∧ (∀ t, 1 ≤ t → t ≤ 5 → Sx.look q.1 t = Sx.look (argEnv 1 caps) t) ∧ loopM body q.2 = some r ∧ 0 ≤ q.2.1) (fun q => (h.ids.length - q.2.1 : Int).toNat) (L3, 0, fdel f i, xs1) ⟨h3, hL3, hr, Int.le_refl _⟩ (Sub.refl _) ?_
    clear h3 hL3 hr hx1 hH
    rintro ⟨L, k, f, xs⟩ w ⟨hH, hL, hr, hk0⟩
    dsimp only at hH hL hr hk0 ⊢
    refine cw_seq ?_
    refine Holds.reg (G := { gxb with fs := [] }) (σ' := ⟨_, resV f xs, _, _⟩) gxV rfl hH fun L1 w1 hE1 h1 => ?_
    have hL1 := keep hE1 (by decide) hL
    clear hE1 hL hH
    have h1 : HV w0 Mu M h s caps [(20, .bool (decide (k < (h.ids.length : Int)))), (19, .int .i64 k), (18, .int .i64 (h.ids.length : Int)), (0, .int .i64 i)] f xs L1 w1 := h1.fewer ⟨rfl, rfl, rfl, rfl, rfl, rfl, rfl, rfl, rfl, trivial⟩
    have hki := (h1.slotI (t := 19) rfl).2
    refine cw_seq ?_
    refine cw_cond (h1.slotB (t := 20) rfl) (fun hlt => ?_) (fun hge => ?_)
    · have hlt := of_decide_eq_true hlt
      have hs1 : (∃ s', body (k, f, xs) = some (.inl s') ∧ loopM body s' = some r) ∨ body (k, f, xs) = some (.inr r) := loopM_step hr
      have hb1 : body (k, f, xs) = Option.bind (vtest h s i k f) fun b => Option.bind (α := FMap Int Bool × List Int) (cond b (P.visit h s n k f xs) (some (f, xs))) fun r => Option.bind (chk .i64 (k + 1)) fun k => some (Sum.inl (β := FMap Int Bool × List Int) (k, r)) := by
        rw [← hbd]
        show cond (decide (k < (h.ids.length : Int))) _ _ = _
        rw [decide_eq_true hlt, condT]
      obtain ⟨b, r1, k1, hv, hc, hk, hnx⟩ : ∃ b r1 k1, vtest h s i k f = some b ∧ cond b (P.visit h s n k f xs) (some (f, xs)) = some r1 ∧ chk .i64 (k + 1) = some k1 ∧ loopM body (k1, r1) = some r := by
        rcases hs1 with ⟨s', h5, h6⟩ | h5
        · rw [hb1] at h5
          obtain ⟨b, a1, h5⟩ := bnd h5
          obtain ⟨r1, a2, h5⟩ := bnd h5
          obtain ⟨k1, a3, h5⟩ := bnd h5
          cases h5
          exact ⟨b, r1, k1, a1, a2, a3, h6⟩
        · rw [hb1] at h5
          obtain ⟨b, a1, h5⟩ := bnd h5
          obtain ⟨r1, a2, h5⟩ := bnd h5
          obtain ⟨k1, a3, h5⟩ := bnd h5
          cases h5
      obtain ⟨rfl, hk1⟩ := chk_out hk
      refine cw_skip ?_
      refine cw_seq ?_
      refine cw_block ?_
      refine cw_seq ?_
      refine Holds.reg (G := { gxb with fs := [] }) (σ' := ⟨_, resV f xs, _, _⟩) gxV rfl h1 fun L2 w2 hE2 h2 => ?_
      have hL2 := keep hE2 (by decide) hL1
      clear hE2 hL1 h1
      have h2 : HV w0 Mu M h s caps [(7, .int .i64 k), (19, .int .i64 k), (18, .int .i64 (h.ids.length : Int)), (0, .int .i64 i)] f xs L2 w2 := h2.fewer ⟨rfl, rfl, rfl, rfl, rfl, rfl, rfl, rfl, rfl, trivial⟩
      refine cw_seq ?_
      have he : exec { gxb with fs := [] } 41 (fun _ => (none : Option Unit)) c71 (.jn [.norm sh71] .x) some (fun _ _ => none) (fun _ => none) ⟨[(7, .int .i64 k), (19, .int .i64 k), (18, .int .i64 (h.ids.length : Int)), (0, .int .i64 i)] ++ envV h s caps, resV f xs, [], []⟩ = Option.bind (vtest h s i k f) fun b => some (unpack (wrOf c71 ++ (slotsK [.norm sh71] ++ wrAn .x)) sh71 ⟨[(7, .int .i64 k), (19, .int .i64 k), (18, .int .i64 (h.ids.length : Int)), (0, .int .i64 i)] ++ envV h s caps, resV f xs, [], []⟩ b) := by kernel_rfl
      rw [hv, Sx.bindS] at he
      refine Holds.code (c := c71) gxV he h2 fun L3 w3 hE3 h3 => ?_
      have hL3 := keep hE3 (by decide) hL2
      clear hE3 hL2 h2 he
      have h3 : HV w0 Mu M h s caps [(36, .bool b), (7, .int .i64 k), (19, .int .i64 k), (18, .int .i64 (h.ids.length : Int)), (0, .int .i64 i)] f xs L3 w3 := h3.fewer ⟨rfl, rfl, rfl, rfl, rfl, rfl, rfl, rfl, rfl, rfl, trivial⟩
      refine cw_cond (h3.slotB (t := 36) rfl) (fun hb => ?_) (fun hb => ?_)
      · subst hb
        have hc : P.visit h s n k f xs = some r1 := hc
        refine cw_regF ?_
        refine Holds.ops (l := [_, _]) (rest := [_]) (G := { gxb with fs := [] }) (σ' := ⟨_, resV f xs, _, _⟩) gxV rfl h3 fun L4 w4 hE4 h4 => ?_
        have hL4 := keep hE4 (by decide) hL3
        clear hE4 hL3 h3
        have h4 : HV w0 Mu M h s caps [(38, .int .i64 k), (37, .raw (fv71 caps)), (19, .int .i64 k), (18, .int .i64 (h.ids.length : Int)), (0, .int .i64 i)] f xs L4 w4 := h4.fewer ⟨rfl, rfl, rfl, rfl, rfl, rfl, rfl, rfl, rfl, rfl, trivial⟩
        have l38 := (h4.slotI (t := 38) rfl).1
        have l37 := h4.slotR (t := 37) rfl
        have l19 := (h4.slotI (t := 19) rfl).1
        have l18 := h4.slotI (t := 18) rfl
        have l0 := (h4.slotI (t := 0) rfl).1
        have h4' : HV w0 Mu M h s caps [] f xs (argEnv 1 caps) w4 := (h4.fewer (env' := envV h s caps) ⟨rfl, rfl, rfl, rfl, rfl, trivial⟩).toL fun t u ht => (hL4 t (envV_dom ht).1 (envV_dom ht).2).symm
        refine s_callV (vs := [.int .i64 k]) (vf := fv71 caps) l37 (by simp only [evs, ev, l38]) rfl ?_
        refine CallsV.go Try.call71 rfl (ih k f xs r1 w4 hki hc h4') ?_
        rintro e w5 ⟨rfl, h5⟩
        refine ⟨_, rfl, Reg.nil ?_⟩
        have lk : ∀ t, t ≠ 39 → Sx.look ((39, Value.tuple #[]) :: L4) t = Sx.look L4 t := fun t ht => by rw [look_cons, if_neg (fun e => ht e.symm)]
        have hL5 : ∀ t, 1 ≤ t → t ≤ 5 → Sx.look ((39, Value.tuple #[]) :: L4) t = Sx.look (argEnv 1 caps) t := fun t t1 t2 => by rw [lk t (by omega)]; exact hL4 t t1 t2
        have h5 : HV w0 Mu M h s caps [(19, .int .i64 k), (18, .int .i64 (h.ids.length : Int)), (0, .int .i64 i)] r1.1 r1.2 ((39, Value.tuple #[]) :: L4) w5 := by
          have h6 : HV w0 Mu M h s caps [] r1.1 r1.2 ((39, Value.tuple #[]) :: L4) w5 := h5.toL fun t u ht => hL5 t (envV_dom ht).1 (envV_dom ht).2
          exact ((h6.addI (t := 0) (by rw [lk _ (by decide)]; exact l0) hi).addI (t := 18) (by rw [lk _ (by decide)]; exact l18.1) l18.2).addI (t := 19) (by rw [lk _ (by decide)]; exact l19) hki
        refine Holds.regB (G := { gxb with fs := [] }) (o := chk .i64 (k + 1)) (σ' := ⟨_, resV r1.1 r1.2, _, _⟩) gxV hk rfl rfl h5 fun L6 w6 hE6 h6 => ?_
        refine ⟨rfl, (L6, k + 1, r1), ⟨h6.fewer ⟨rfl, rfl, rfl, rfl, rfl, rfl, rfl, rfl, trivial⟩, keep hE6 (by decide) hL5, hnx, by dsimp only; omega⟩, Sub.refl _, ?_⟩
        show ((h.ids.length : Int) - (k + 1)).toNat < ((h.ids.length : Int) - k).toNat
        omega
      · subst hb
        have hc : some (f, xs) = some r1 := hc
        obtain rfl := Option.some.inj hc
        refine cw_skip ?_
        refine Holds.regB (G := { gxb with fs := [] }) (o := chk .i64 (k + 1)) (σ' := ⟨_, resV f xs, _, _⟩) gxV hk rfl rfl h3 fun L6 w6 hE6 h6 => ?_
        refine ⟨rfl, (L6, k + 1, f, xs), ⟨h6.fewer ⟨rfl, rfl, rfl, rfl, rfl, rfl, rfl, rfl, trivial⟩, keep hE6 (by decide) hL3, hnx, by dsimp only; omega⟩, Sub.refl _, ?_⟩
        show ((h.ids.length : Int) - (k + 1)).toNat < ((h.ids.length : Int) - k).toNat
        omega
    · have hge := of_decide_eq_false hge
      have hs1 := loopM_end (R := FMap Int Bool × List Int) (body := body) (s := (k, f, xs)) (r := (f, xs)) (by
        rw [← hbd]
        show cond (decide (k < (h.ids.length : Int))) _ _ = _
        rw [decide_eq_false hge]; rfl)
      rw [hs1] at hr
      obtain rfl := Option.some.inj hr
      refine cw_exit (exB_same ?_)
      refine fin_any (rs := []) (vs := []) rfl .nil rfl ⟨rfl, ?_⟩
      exact (h1.fewer (env' := envV h s caps) ⟨rfl, rfl, rfl, rfl, rfl, trivial⟩).toL fun t u ht => (hL1 t (envV_dom ht).1 (envV_dom ht).2).symm
end Go.Proofs.Ytdbogmmdogjhpaa
set_option maxRecDepth 20000
set_option maxHeartbeats 4000000
namespace Go.Proofs.Ytdbogmmdogjhpaa
open Go Go.Sx Go.Rx Go.RowKit
def P.slices_Grow_74 (_ : Unit) (n : Int) : Option (List Int) := if 0 ≤ n ∧ n * 8 ≤ 140737488355328 then some [] else none
def ctr74 : Ctr := ⟨[.nl, .d (.int .i64)], [.own (.sl 3 (.int .i64))], fun a => P.slices_Grow_74 a.1 a.2.1⟩
theorem grow_ok (M : List Nat) (w : World) (n : Nat) (hc : n * 8 ≤ 140737488355328) : Calls Try.prog 74 #[.slice none 0 0, .int .i64 n] w fun e w' => ∃ v, e = .returned v ∧ (Sx.Own (intE .i64) 3 0 M w' v ([] : List Int) ∧ ∀ b ∈ ob v, w.heap.size ≤ b) ∧ Ext w w' := by
  rcases Nat.eq_zero_or_pos n with rfl | hn
  · have h := Any8.slices_Grow_room Try.layGrow none 0 0 0 w (Nat.le_refl _) (by decide) (by decide) (Nat.le_refl _)
    change Calls Try.prog 74 _ _ _ at h
    refine h.mono ?_
    rintro e w' ⟨rfl, rfl⟩
    exact ⟨_, rfl, ⟨.inl ⟨none, rfl, rfl⟩, fun b hb => by cases hb⟩, Kp.refl _ _⟩
  · obtain ⟨i0, z, h1, h2, h3, h4, h5⟩ := rsl42.info
    have h := Any8.slices_Grow_grow Try.layGrow i0 z h1 h2 (by rw [h3]; decide) none 0 0 n [] w (Nat.le_refl _) (by omega) (by rw [h4]; omega) (by omega) (by simp) (fun _ => rfl) (fun a ha => by cases ha)
    change Calls Try.prog 74 _ _ _ at h
    refine h.mono ?_
    have hG := grownCap_ge w (0 + n) 0 3
    have hG2 := grownCap_le_maxLen w (0 + n) 0 3 (by unfold maxLen; omega)
    change ∀ e w', e = Ending.returned (.slice (some ⟨w.heap.size, 0, none⟩) 0 (grownCap w (0 + n) 0 3)) ∧ w' = w.drew.alloc (.cells (([] : List Value).toArray ++ Builtin.zeroCells z.cells (0 + n - 0) ++ Builtin.zeroCells z.cells (grownCap w (0 + n) 0 3 - (0 + n))) 3) → _
    generalize grownCap w (0 + n) 0 3 = G at hG hG2
    rintro e w' ⟨rfl, rfl⟩
    obtain ⟨c, rfl⟩ : ∃ c, G = c + 1 := ⟨G - 1, by omega⟩
    have hz : z.cells.size = 1 := h5
    refine ⟨_, rfl, ⟨.inr ⟨w.heap.size, c, _, rfl, Nat.zero_le _, heap_alloc_new w.drew _, Nat.zero_le _, hG2, ?_, ?_⟩, fun b hb => ?_⟩, ?_⟩
    · simp only [Array.size_append, List.size_toArray, size_zeroCells, hz, List.length_nil]
      show _ = (c + 1) * 1
      omega
    · simp [Chunks]
    · have : b = w.heap.size := by simpa [ob] using hb
      omega
    · exact ⟨rfl, rfl, rfl, by simp, fun k hk _ => Below.heap_alloc w.drew _ k hk, fun _ => Nat.le_succ _⟩
theorem ok74 : Ctr.ok Try.prog 74 ctr74 := by
  refine ⟨by decide, fun M w a vals r hM ha hr => ?_⟩
  obtain ⟨v, q, rfl, hv, ha⟩ := ha
  have hv : v = .slice none 0 0 := hv
  subst hv
  obtain ⟨v2, q2, rfl, hv2, ha⟩ := ha
  have ha : q2 = [] := ha
  subst ha
  obtain ⟨cs, hi, h9 | ⟨_, rfl⟩⟩ := hv2
  · cases h9.1
  have key : ∀ m : Int, [v2] = [Value.int .i64 m] → P.slices_Grow_74 () m = some r → Calls Try.prog 74 #[.slice none 0 0, v2] w fun e w' => ∃ vs, e = .returned (tupV vs) ∧ KsOk (P := Try.prog) M (obK ctr74.rs vs ++ M) w w' ctr74.rs r vs ∧ Ext w w' := fun m hi1 hr => by
    obtain rfl : v2 = Value.int .i64 m := by simpa using hi1
    unfold P.slices_Grow_74 at hr
    split at hr
    · rename_i hc
      cases hr
      obtain ⟨n, rfl⟩ : ∃ n : Nat, m = n := ⟨m.toNat, by omega⟩
      refine (grow_ok M w n (by omega)).mono ?_
      rintro e w' ⟨v, rfl, h1, h2⟩
      exact ⟨[v], rfl, ⟨v, rfl, own_ck h1⟩, h2⟩
    · cases hr
  exact key _ hi.1 hr
end Go.Proofs.Ytdbogmmdogjhpaa
set_option maxRecDepth 20000
set_option maxHeartbeats 4000000
namespace Go.Rx
open Go Go.Sx Go.RowKit
section
variable [Trk] [Sg] [Sf] {P : Program} [Se P] [Anch]
variable {w0 w : World} {Mu M : List Nat} {σ : AS} {L : Env} {S : List Res} {ρ : Nat → Value} {γ : Nat → List Value} {μ : Nat → List Nat} {ι : Nat → Nat} {G : Gx} {N : Nat} {ds : List Deferred} {A B : Out} {X : Nat → Out} {Z : List PanicEntry → Out}
theorem HS.delRow (h : HS (P := P) w0 Mu M σ L w S ρ γ μ ι) {i e : Nat} {l l' : List SV} (hi : fnd σ.res i = some (.row e l)) (hl : ∀ R, OkL ρ R (mm S M) w l' (γ i)) : ∃ ι', HS (P := P) w0 Mu M ((Ac.del i (.rp l')).app none σ) L w (S.eraseIdx (ι i)) ρ γ μ ι' := by
  obtain ⟨⟨b, hb⟩, hc⟩ := h.row i _ hi
  have h4 : RdC (mm (S.eraseIdx (ι i)) M) w b 0 (γ i) := by
    have := h.hp.freezeRow (ι i) (b := blk (ρ i)) (h.res i _ hi)
    rw [hb] at this; exact this
  have hs : ∀ b ∈ mm (S.eraseIdx (ι i)) M, b ∈ mm S M := fun b hb => mm_sub (List.eraseIdx_sublist S (ι i)) hb
  exact ⟨_, h.del (p := .rp l') hi ⟨b, γ i, hb, h4, OkL.adv (Adv.drop hs) l' (hl _)⟩⟩
theorem Holds.codeB [Sl (P := P)] (hG : GxOk P G) {c : Code} {an : An} {σ σ' : AS} {Y : Type} {o : Option Y} {x : Y} {K : Y → Option AS} (hb : o = some x) (h : exec G N (fun _ => (none : Option Unit)) c an some (fun _ _ => none) (fun _ => none) σ = Option.bind o K) (hk : K x = some σ') (hH : Holds (P := P) w0 Mu M σ L w) (hA : ∀ L' w', EnvS (wrOf c ++ wrAn an) L L' → Holds (P := P) w0 Mu M σ' L' w' → A ds L' w') : CW P N c ds L w A B X Z :=
  Holds.code hG (by rw [h, hb]; exact hk) hH hA
theorem Holds.res {env : List (Nat × SV)} {res res' : List (Nat × AR)} {kl kl' : List Nat} {ch ch' : List (Nat × Nat)} (h : Holds (P := P) w0 Mu M ⟨env, res, kl, ch⟩ L w) (hr : ∀ j, fnd res' j = fnd res j) : Holds (P := P) w0 Mu M ⟨env, res', kl', ch'⟩ L w := by
  obtain ⟨S, ρ, γ, μ, ι, hS⟩ := h
  have e : fnd res' = fnd res := funext hr
  refine ⟨S, ρ, γ, μ, ι, hS.hp, fun i a h => hS.res i a ((hr i).symm.trans h), fun i j a b h1 h2 => hS.inj i j a b ((hr i).symm.trans h1) ((hr j).symm.trans h2), fun i a h => ?_, fun t s ht => ?_, hS.anch⟩
  · have := hS.row i a ((hr i).symm.trans h)
    show RowOk ρ (fnd res') _ _ _ _ _
    rw [e]; exact this
  · obtain ⟨v, h1, h2⟩ := hS.env t s ht
    refine ⟨v, h1, ?_⟩
    show Ok ρ (fnd res') _ _ _ _
    rw [e]; exact h2
end
end Go.Rx
namespace Go.Proofs.Ytdbogmmdogjhpaa
open Go Go.Sx Go.Rx Go.RowKit Go.Sort
def sortO (x : List Int) : Option (List Int) := if x.length < 4611686018427387904 then some (x.mergeSort fun a b => decide (a ≤ b)) else none
theorem sort_own {M : List Nat} {w : World} {v : Value} {x y : List Int} (p_x : Sx.Own (intE .i64) 3 0 (ob v ++ M) w v x) (hy : sortO x = some y) : Calls Try.prog 72 (List.toArray [v]) w fun e w' => e = .returned (.tuple #[]) ∧ Kp (ob v) w w' ∧ Sx.Own (intE .i64) 3 0 (ob v ++ M) w' v y := by
  obtain ⟨hlen, rfl⟩ : x.length < 4611686018427387904 ∧ (x.mergeSort fun a b => decide (a ≤ b)) = y := by
    unfold sortO at hy
    split at hy
    · exact ⟨by assumption, Option.some.inj hy⟩
    · cases hy
  rcases p_x with ⟨a, rfl, rfl⟩ | ⟨g, cap, cur, rfl, h1, h2, h3, h4, h5, h6⟩
  · have hc := AnyM.slices_Sort_int_none Try.laySort a 0 w
    change Calls Try.prog 72 _ _ _ at hc
    refine hc.mono ?_
    rintro e w' ⟨rfl, rfl⟩
    exact ⟨rfl, Kp.refl _ _, .inl ⟨a, rfl, by simp⟩⟩
  · have hc := AnyM.slices_Sort_int Try.laySort g 0 (cap + 1) x w (Own.holds h2 h3 h5 h6) (heap_lt h2) hlen
    change Calls Try.prog 72 _ _ _ at hc
    refine hc.mono ?_
    rintro e w' ⟨rfl, n, os, rfl⟩
    have hp : ∀ y ∈ x.mergeSort fun a b => decide (a ≤ b), InK .i64 y := fun y hy => (chunks_int.1 h6).2 y ((List.mergeSort_perm x _).mem_iff.1 hy)
    obtain ⟨h7, h8⟩ := Own.put (M := ob (.slice (some ⟨g, 0, none⟩) x.length (cap + 1)) ++ M) (n := n) (os := os) h2 h3 h4 h5 (ys := x.mergeSort fun a b => decide (a ≤ b)) (List.length_mergeSort x) hp
    exact ⟨rfl, h8.mono fun b hb => .inl (by simpa [ob] using hb), h7⟩
def ctrm72 : CtrM := ⟨[], 0, .sl 3 (.int .i64), [], fun _ x => Option.bind (sortO x) fun y => some ((), y)⟩
theorem okm72 : CtrM.ok Try.prog 72 ctrm72 := by
  refine ⟨rfl, fun M w a x v vals us r x' hM hd ha hv he hh hho hF => ?_⟩
  have ha : vals = [] := ha
  subst ha
  obtain rfl : us = [v] := by
    cases us with
    | nil => cases hv
    | cons u q =>
      have hv : some u = some v := hv
      cases hv
      have he : q = [] := he
      rw [he]
  obtain ⟨y, hy, hF⟩ := bnd (show Option.bind (sortO x) _ = some (r, x') from hF)
  cases hF
  refine (sort_own (M := M) hho hy).mono ?_
  rintro e w' ⟨rfl, h1, h2⟩
  exact ⟨[], rfl, rfl, h1, h2⟩
noncomputable def P.ring_hunt_group (h : Hunt_94) (i s : Int) (f : FMap Int Bool) : Option (List Int × FMap Int Bool) := Option.bind (P.visit h s 30 i f []) fun r => Option.bind (sortO r.2) fun ys => some (ys, r.1)
noncomputable def ctrm54 : CtrM := ⟨[.pt (.st 3), .d (.int .i64), .d (.int .i64)], 3, .mp 3 (.int .i64) .bool, [.d (.sl (.int .i64))], fun a x => P.ring_hunt_group a.1 a.2.1 a.2.2.1 x⟩
theorem gxS : GxOk Try.prog { gxb with fs := [], pf := [], fm := [(72, ctrm72)] } := gx_okm trivial trivial ⟨⟨okm72, Try.call72⟩, trivial⟩
noncomputable def c54t : Code := match Try.f54.body with
  | some (.seq _ (.seq _ (.seq _ (.seq _ c)))) => c
  | _ => .skip
noncomputable def c54s : Code := match c54t with
  | .seq _ (.seq c _) => c
  | _ => .skip
def env54 (h : Hunt_94) (s : Int) (caps : List Value) : List (Nat × SV) := [(7, .rp (.agg [.own 301]) 0), (9, .ptr 9 0), (4, .rp (.agg [.rp (.str 3 h) 0]) 0), (6, .rp (.agg [.int .i64 s]) 0), (10, .rp (.agg [.raw (fv71 caps)]) 0)]
theorem tail54 [Anch] {w0 w : World} {Mu M : List Nat} {h : Hunt_94} {s i : Int} {f : FMap Int Bool} {r1 : FMap Int Bool × List Int} {ys : List Int} {caps : List Value} {L : Env} {R : Ending → World → Prop} (hcl : caps.length = 5) (hi : InK .i64 i) (hv : P.visit h s 30 i f [] = some r1) (hs : sortO r1.2 = some ys)
    (hH : Holds (P := Try.prog) w0 Mu M ⟨(1, .int .i64 i) :: env54 h s caps, resV f [], [], []⟩ L w)
    (hL : Sx.look L 7 = Sx.look (argEnv 1 caps) 1 ∧ Sx.look L 9 = Sx.look (argEnv 1 caps) 2 ∧ Sx.look L 4 = Sx.look (argEnv 1 caps) 3 ∧ Sx.look L 6 = Sx.look (argEnv 1 caps) 4 ∧ Sx.look L 10 = Sx.look (argEnv 1 caps) 5)
    (hR : ∀ L' w', Holds (P := Try.prog) w0 Mu M ⟨[(8, .own 10900), (7, .rp (.agg [.own 301]) 0)], resV r1.1 ys, [], []⟩ L' w' → Sx.look L' 7 = Sx.look (argEnv 1 caps) 1 → ∀ u, Sx.look L' 8 = some u → R (.returned u) w') :
    CW Try.prog 18 c54t [] L w (FinR Try.prog Try.f54 R) (FinR Try.prog Try.f54 R) NoX (FinZ R) := by
  obtain ⟨l1, l2, l3, l4, l5⟩ := hL
  refine cw_seq ?_
  refine cw_regF ?_
  refine Holds.ops (l := [_, _]) (rest := [_]) (G := { gxb with fs := [] }) (σ' := ⟨_, resV f [], _, _⟩) gxV rfl hH fun L4 w4 hE4 h4 => ?_
  have h4 : Holds (P := Try.prog) w0 Mu M ⟨(13, .int .i64 i) :: (12, .raw (fv71 caps)) :: env54 h s caps, resV f [], [], []⟩ L4 w4 := h4.fewer ⟨rfl, rfl, rfl, rfl, rfl, rfl, rfl, trivial⟩
  have ek : ∀ t, t ≠ 12 → t ≠ 13 → Sx.look L4 t = Sx.look L t := fun t t1 t2 => hE4 t (by
    intro hm
    have hm : t ∈ [12, 13] := hm
    simp at hm; omega)
  have l13 := (h4.slotI (t := 13) rfl).1
  have l12 := h4.slotR (t := 12) rfl
  have h5 : HV w0 Mu M h s caps [] f [] (argEnv 1 caps) w4 := by
    obtain ⟨S, ρ, γ, μ, ι, hS⟩ := h4
    refine ⟨S, ρ, γ, μ, ι, hS.hp, hS.res, hS.inj, hS.row, fun t u ht => ?_, hS.anch⟩
    have go : ∀ t' u, fnd ((13, SV.int .i64 i) :: (12, .raw (fv71 caps)) :: env54 h s caps) t' = some u → Sx.look L4 t' = Sx.look (argEnv 1 caps) t → ∃ v, Sx.look (argEnv 1 caps) t = some v ∧ Ok ρ (fnd (resV f [])) (mm S M) w4 u v := fun t' u hu hl => by
      obtain ⟨v, h6, h7⟩ := hS.env t' u hu
      exact ⟨v, hl ▸ h6, h7⟩
    have ht : fnd (envV h s caps) t = some u := ht
    unfold envV at ht
    rw [fnd_cons] at ht
    split at ht
    · rename_i e; subst e; cases ht; exact go 7 _ rfl (by rw [ek 7 (by decide) (by decide), l1])
    rw [fnd_cons] at ht
    split at ht
    · rename_i e; subst e; cases ht; exact go 9 _ rfl (by rw [ek 9 (by decide) (by decide), l2])
    rw [fnd_cons] at ht
    split at ht
    · rename_i e; subst e; cases ht; exact go 4 _ rfl (by rw [ek 4 (by decide) (by decide), l3])
    rw [fnd_cons] at ht
    split at ht
    · rename_i e; subst e; cases ht; exact go 6 _ rfl (by rw [ek 6 (by decide) (by decide), l4])
    rw [fnd_cons] at ht
    split at ht
    · rename_i e; subst e; cases ht; exact go 10 _ rfl (by rw [ek 10 (by decide) (by decide), l5])
    cases ht
  refine s_callV (vs := [.int .i64 i]) (vf := fv71 caps) l12 (by simp only [evs, ev, l13]) rfl ?_
  refine CallsV.go Try.call71 rfl (visit_ok h s w0 Mu M caps hcl 30 i f [] r1 w4 hi hv h5) ?_
  rintro e w5 ⟨rfl, h5⟩
  refine ⟨_, rfl, Reg.nil ?_⟩
  have h6 : Holds (P := Try.prog) w0 Mu M ⟨[(9, .ptr 9 0), (7, .rp (.agg [.own 301]) 0)], resV r1.1 r1.2, [], []⟩ ((14, Value.tuple #[]) :: L4) w5 := by
    obtain ⟨S, ρ, γ, μ, ι, hS⟩ := h5
    refine ⟨S, ρ, γ, μ, ι, hS.hp, hS.res, hS.inj, hS.row, fun t u ht => ?_, hS.anch⟩
    have ht : fnd [(9, SV.ptr 9 0), (7, .rp (.agg [.own 301]) 0)] t = some u := ht
    rw [fnd_cons] at ht
    split at ht
    · rename_i e; subst e; cases ht
      obtain ⟨v, h7, h8⟩ := hS.env 2 (.ptr 9 0) rfl
      exact ⟨v, by rw [look_cons, if_neg (by decide), ek 9 (by decide) (by decide), l2]; exact h7, h8⟩
    rw [fnd_cons] at ht
    split at ht
    · rename_i e; subst e; cases ht
      obtain ⟨v, h7, h8⟩ := hS.env 1 (.rp (.agg [.own 301]) 0) rfl
      exact ⟨v, by rw [look_cons, if_neg (by decide), ek 7 (by decide) (by decide), l1]; exact h7, h8⟩
    cases ht
  have l7 : Sx.look ((14, Value.tuple #[]) :: L4) 7 = Sx.look (argEnv 1 caps) 1 := by rw [look_cons, if_neg (by decide), ek 7 (by decide) (by decide), l1]
  refine cw_seq ?_
  have he : exec { gxb with fs := [], pf := [], fm := [(72, ctrm72)] } 18 (fun _ => (none : Option Unit)) c54s .x some (fun _ _ => none) (fun _ => none) ⟨[(9, .ptr 9 0), (7, .rp (.agg [.own 301]) 0)], resV r1.1 r1.2, [], []⟩ = Option.bind (Option.bind (sortO r1.2) fun y => some ((), y)) fun r => some ⟨[(16, .tup []), (15, .own 10900), (9, .ptr 9 0), (7, .rp (.agg [.own 301]) 0)], resV r1.1 r.2, [], [(10900, 0)]⟩ := by kernel_rfl
  refine Holds.codeB (c := c54s) gxS (x := ((), ys)) (by rw [hs]; rfl) he rfl h6 fun L7 w7 hE7 h7 => ?_
  have ek7 : ∀ t, t ≠ 15 → t ≠ 16 → Sx.look L7 t = Sx.look ((14, Value.tuple #[]) :: L4) t := fun t t1 t2 => hE7 t (by
    intro hm
    have hm : t ∈ [15, 16] := hm
    simp at hm; omega)
  refine cw_seq ?_
  refine Holds.reg (G := { gxb with fs := [] }) (σ' := ⟨_, resV r1.1 ys, _, _⟩) gxV rfl h7 fun L8 w8 hE8 h8 => ?_
  have h8 : Holds (P := Try.prog) w0 Mu M ⟨[(8, .own 10900), (7, .rp (.agg [.own 301]) 0)], resV r1.1 ys, [], []⟩ L8 w8 := h8.fewer ⟨rfl, rfl, trivial⟩
  have l7' : Sx.look L8 7 = Sx.look (argEnv 1 caps) 1 := by rw [hE8 7 (by decide), ek7 7 (by decide) (by decide), l7]
  refine cw_ret ?_
  obtain ⟨S, ρ, γ, μ, ι, hS⟩ := h8
  obtain ⟨u, hu, _⟩ := hS.env 8 (.own 10900) rfl
  exact fin_any (rs := [.tmp 8]) (vs := [u]) rfl (.cons (.tmp hu) .nil) rfl (hR L8 w8 ⟨S, ρ, γ, μ, ι, hS⟩ l7' u hu)
end Go.Proofs.Ytdbogmmdogjhpaa
set_option maxRecDepth 20000
set_option maxHeartbeats 4000000
namespace Go.Rx
open Go Go.Sx Go.RowKit
section
variable [Trk] [Sg] [Sf] {P : Program} [Se P]
theorem EntK.flat {κ α : Type} {kt : TypeId} {K : Ky P kt κ} {E : Enc α} {ag : Bool} (hE : Flat E) {M M' : List Nat} {w w' : World} : ∀ {es : List MapEntry} {xs : List (κ × α)}, EntK K E ag M w es xs → EntK K E ag M' w' es xs
  | [], [], h => h
  | _ :: _, _ :: _, ⟨h1, ⟨cs, h2, h3⟩, h4⟩ => ⟨h1, ⟨cs, hE h2, h3⟩, EntK.flat hE h4⟩
  | [], _ :: _, h => h.elim
  | _ :: _, [], h => h.elim
theorem MapH.flat {κ α : Type} {kt : TypeId} {K : Ky P kt κ} {E : Enc α} {ag : Bool} (hE : Flat E) {M M' : List Nat} {w : World} {b : Nat} {f : FMap κ α} (h : MapH K E ag M w b f) : MapH K E ag M' w b f := by
  obtain ⟨es, c, xs, h1, h2, h3, h4⟩ := h
  exact ⟨es, c, xs, h1, h2, EntK.flat hE h3, h4⟩
variable {ρ : Nat → Value} {R : Nat → Option AR} {M : List Nat} {w : World}
theorem rp_own {i : Nat} {v : Value} (h : Ok (P := P) ρ R M w (.rp (.agg [.own i]) 0) v) : ∃ b o, v = .pointer (some ⟨b, o, none⟩) ∧ RdC M w b o [ρ i] := by
  obtain ⟨b, o, u, vs, h1, h2, ⟨ws, h3, h4⟩, h5⟩ := h
  obtain ⟨u2, c2, r2, h6, ⟨h7, h8, h9⟩, h10, h11⟩ := h4
  have h11 : r2 = [] := h11
  subst h11 h3 h7
  have h12 : c2 = [ρ i] := by
    rw [h8] at h10
    simpa using (congrArg Array.toList h10).symm
  subst h12
  have h13 : [ρ i] = vs := by
    have h14 : Value.cells (.agg (List.toArray ws)) = List.toArray ws := rfl
    rw [h14] at h5
    have := congrArg Array.toList h5
    simpa [h6] using this
  exact ⟨b, o, h1, h13 ▸ h2⟩
theorem HS.toAnch (A B : Anch) {w0 : World} {Mu : List Nat} {σ : AS} {L : Env} {S : List Res} {γ : Nat → List Value} {μ : Nat → List Nat} {ι : Nat → Nat} (h : @HS _ _ _ P _ A w0 Mu M σ L w S ρ γ μ ι) (hB : B.Q (mm S M) w) : @HS _ _ _ P _ B w0 Mu M σ L w S ρ γ μ ι := by
  cases h with | mk a b c d e f => exact @HS.mk _ _ _ P _ B _ _ _ _ _ _ _ _ _ _ _ a b c d e hB
theorem RdC.one2 {M M' : List Nat} {b o : Nat} {u v : Value} (h : RdC M w b o [u]) (h' : RdC M' w b o [v]) : u = v := by
  have h1 := Cells.head h.cells
  have h2 := Cells.head h'.cells
  rw [h1] at h2
  simpa using h2
end
end Go.Rx
namespace Go.Proofs.Ytdbogmmdogjhpaa
open Go Go.Sx Go.Rx Go.RowKit Go.Sort
theorem us4 {us vals : List Value} {v : Value} {h : Hunt_94} {i s : Int} {M : List Nat} {w : World} (ha : ArgsOk (P := Try.prog) M w ctrm54.ps (h, i, s, ()) vals) (hv : us[ctrm54.i]? = some v) (he : us.eraseIdx ctrm54.i = vals) : ∃ vp, us = [vp, .int .i64 i, .int .i64 s, v] ∧ PtOk (P := Try.prog) M w (.pt (.st 3)) h vp ∧ InK .i64 i ∧ InK .i64 s := by
  obtain ⟨vp, r1, rfl, h1, vi, r2, rfl, h2, vs, r3, rfl, h3, h4⟩ := ha
  have h4 : r3 = [] := h4
  subst h4
  have h2 := ofD_ok (P := Try.prog) (ρ := fun _ => undef) (R := fun _ => none) (.int .i64) (x := i) h2
  have h3 := ofD_ok (P := Try.prog) (ρ := fun _ => undef) (R := fun _ => none) (.int .i64) (x := s) h3
  have g2 : vi = .int .i64 i ∧ InK .i64 i := h2
  have g3 : vs = .int .i64 s ∧ InK .i64 s := h3
  obtain ⟨rfl, k2⟩ := g2
  obtain ⟨rfl, k3⟩ := g3
  refine ⟨vp, ?_, h1, k2, k3⟩
  match us, hv, he with
  | [], hv, _ => cases hv
  | [_], hv, _ => cases hv
  | [_, _], hv, _ => cases hv
  | [_, _, _], hv, _ => cases hv
  | a :: b :: c :: d :: r, hv, he =>
    have hv : some d = some v := hv
    have he : a :: b :: c :: r = [vp, .int .i64 i, .int .i64 s] := he
    cases hv
    cases he
    rfl
def res0 (h : Hunt_94) (s : Int) (x : FMap Int Bool) : List (Nat × AR) := [(10, .row 122 [.fn 71 [.ptr 7 0, .ptr 9 0, .ptr 4 0, .ptr 6 0, .ptr 10 0]]), (9, .row 42 [.nilS]), (7, .row 69 [.own 301]), (6, .row 3 [.int .i64 s]), (4, .row 86 [.rp (.str 3 h) 0]), (301, .own false (.mp 3 (.int .i64) .bool) x)]
def env0 (i : Int) : List (Nat × SV) := [(1, .int .i64 i), (3, .own 301), (4, .ptr 4 0), (6, .ptr 6 0), (7, .ptr 7 0), (9, .ptr 9 0), (10, .ptr 10 0)]
theorem start54 [Anch] {w : World} {M : List Nat} {bm : Nat} {h : Hunt_94} {i s : Int} {x : FMap Int Bool} {vp : Value} (hA : AnOk [bm] w) (hsz : bm < w.heap.size) (hp : PtOk (P := Try.prog) (bm :: M) w (.pt (.st 3)) h vp) (hi : InK .i64 i) (hs : InK .i64 s)
    (hho : (ocR (P := Try.prog) [] (.map (some bm)) (.mp 3 (.int .i64) .bool) x).holds (bm :: M) w) : Holds (P := Try.prog) { w with heap := #[] } [] [] ⟨[(0, .rp (.str 3 h) 0), (1, .int .i64 i), (2, .int .i64 s), (3, .own 301)], [(301, .own false (.mp 3 (.int .i64) .bool) x)], [], []⟩ (argEnv 0 [vp, .int .i64 i, .int .i64 s, .map (some bm)]) w := by
  have hsub : ∀ b ∈ [bm], b ∈ bm :: M := fun b hb => List.mem_cons.2 (.inl (List.mem_singleton.1 hb))
  have hmm : mm [ocR (P := Try.prog) [] (.map (some bm)) (.mp 3 (.int .i64) .bool) x] [] = [bm] := rfl
  have hfp : (ocR (P := Try.prog) [] (.map (some bm)) (.mp 3 (.int .i64) .bool) x).fp = [bm] := rfl
  refine ⟨[ocR [] (.map (some bm)) (.mp 3 (.int .i64) .bool) x], fun _ => .map (some bm), fun _ => [], fun _ => [], fun _ => 0, ⟨⟨rfl, rfl, rfl, Nat.zero_le _, fun b hb => absurd hb (Nat.not_lt_zero b), fun _ => Nat.le_refl _⟩, ?_, ⟨⟨rfl, rfl, rfl, Nat.zero_le _, fun b hb => absurd hb (Nat.not_lt_zero b), fun _ => Nat.le_refl _⟩, fun b _ => .inr (Nat.zero_le _)⟩, (fun _ h => by cases h), (fun _ _ _ _ h => by cases h), fun r hr => ?_, fun a b r r' h1 h2 hne => ?_, fun r hr => ?_⟩, fun j a hj => ?_, fun j k a b hj hk _ => ?_, fun j a hj => ?_, fun t u ht => ?_, hA⟩
  · rw [hmm]; intro b hb; rw [List.mem_singleton.1 hb]; exact hsz
  · rw [List.mem_singleton.1 hr]; exact ⟨(fun _ h => by cases h), fun _ _ => .inr (Nat.zero_le _)⟩
  · cases a with
    | succ a => cases h1
    | zero => cases b with
      | succ b => cases h2
      | zero => exact absurd rfl hne
  · rw [List.mem_singleton.1 hr, hmm]
    exact (ocR (P := Try.prog) [] (.map (some bm)) (.mp 3 (.int .i64) .bool) x).adv (Adv.drop hsub) (fun _ _ => rfl) hho
  · have hj : fnd [(301, AR.own false (.mp 3 (.int .i64) .bool) x)] j = some a := hj
    rw [fnd_cons] at hj
    split at hj
    · cases hj; rfl
    · cases hj
  · have hj : fnd [(301, AR.own false (.mp 3 (.int .i64) .bool) x)] j = some a := hj
    have hk : fnd [(301, AR.own false (.mp 3 (.int .i64) .bool) x)] k = some b := hk
    rw [fnd_cons] at hj hk
    split at hj
    · split at hk
      · omega
      · cases hk
    · cases hj
  · have hj : fnd [(301, AR.own false (.mp 3 (.int .i64) .bool) x)] j = some a := hj
    rw [fnd_cons] at hj
    split at hj
    · cases hj; exact ⟨bm, rfl⟩
    · cases hj
  · have ht : fnd [(0, SV.rp (.str 3 h) 0), (1, .int .i64 i), (2, .int .i64 s), (3, .own 301)] t = some u := ht
    rw [fnd_cons] at ht
    split at ht
    · rename_i e; subst e; cases ht
      obtain ⟨b, o, vs, h1, h2, h3⟩ := hp
      refine ⟨vp, rfl, b, o, .agg (List.toArray vs), vs, h1, h2.adv (Adv.drop hsub), ?_, rfl⟩
      exact ⟨vs, (enc (P := Try.prog) (.st 3)).adv h3 (Adv.drop hsub), .inl ⟨rfl, rfl⟩⟩
    rw [fnd_cons] at ht
    split at ht
    · rename_i e; subst e; cases ht; exact ⟨_, rfl, rfl, hi⟩
    rw [fnd_cons] at ht
    split at ht
    · rename_i e; subst e; cases ht; exact ⟨_, rfl, rfl, hs⟩
    rw [fnd_cons] at ht
    split at ht
    · rename_i e; subst e; cases ht; exact ⟨_, rfl, rfl, rfl, rfl⟩
    cases ht
theorem ptr_at {ρ : Nat → Value} {R : Nat → Option AR} {M : List Nat} {w : World} {j : Nat} {u : Value} (h : Ok (P := Try.prog) ρ R M w (.ptr j 0) u) : u = ρ j := by
  obtain ⟨b, h1, h2⟩ := h
  rw [h1, h2]
theorem mid54 [Anch] {w0 w : World} {Mu M : List Nat} {h : Hunt_94} {i s : Int} {x : FMap Int Bool} {L : Env} {v : Value} (hH : Holds (P := Try.prog) w0 Mu M ⟨env0 i, res0 h s x, [], []⟩ L w) (h3 : Sx.look L 3 = some v) : ∃ caps b o, caps.length = 5 ∧
    (Sx.look L 7 = Sx.look (argEnv 1 caps) 1 ∧ Sx.look L 9 = Sx.look (argEnv 1 caps) 2 ∧ Sx.look L 4 = Sx.look (argEnv 1 caps) 3 ∧ Sx.look L 6 = Sx.look (argEnv 1 caps) 4 ∧ Sx.look L 10 = Sx.look (argEnv 1 caps) 5) ∧ Sx.look (argEnv 1 caps) 1 = some (.pointer (some ⟨b, o, none⟩)) ∧
    ∃ S ρ γ μ ι, HS (P := Try.prog) w0 Mu M ⟨(1, .int .i64 i) :: env54 h s caps, [(10900, .own false (.sl 3 (.int .i64)) []), (9, .row 42 [.own 10900]), (301, .own false (.mp 3 (.int .i64) .bool) x)], [], []⟩ L w S ρ γ μ ι ∧ RdC (mm S M) w b o [v] := by
  obtain ⟨S, ρ, γ, μ, ι, hS⟩ := hH
  have e : ∀ t, fnd (env0 i) t = some (.ptr t 0) → Sx.look L t = some (ρ t) := fun t ht => by
    obtain ⟨u, h1, h2⟩ := hS.env t (.ptr t 0) ht
    rw [h1, ptr_at h2]
  have e4 := e 4 rfl
  have e6 := e 6 rfl
  have e7 := e 7 rfl
  have e9 := e 9 rfl
  have e10 := e 10 rfl
  have e3 : ρ 301 = v := by
    obtain ⟨u, h1, h2, _⟩ := hS.env 3 (.own 301) rfl
    rw [h1] at h3; cases h3; exact h2.symm
  have g10 : γ 10 = [fv71 [ρ 7, ρ 9, ρ 4, ρ 6, ρ 10]] := by
    obtain ⟨u, c, r, h1, ⟨vs, rfl, h2⟩, h4, h5⟩ := (hS.row 10 _ rfl).2
    have h5 : r = [] := h5
    subst h5
    obtain ⟨u1, r1, rfl, a1, u2, r2, rfl, a2, u3, r3, rfl, a3, u4, r4, rfl, a4, u5, r5, rfl, a5, a6⟩ := h2
    have a6 : r5 = [] := a6
    rw [a6, ptr_at a1, ptr_at a2, ptr_at a3, ptr_at a4, ptr_at a5] at h4
    have h6 : [fv71 [ρ 7, ρ 9, ρ 4, ρ 6, ρ 10]] = c := congrArg Array.toList h4
    rw [h1, ← h6, List.append_nil]
  obtain ⟨ι1, hS1⟩ := hS.delRow (i := 10) (l' := [.raw (fv71 [ρ 7, ρ 9, ρ 4, ρ 6, ρ 10])]) rfl fun R => by
    rw [g10]; exact ⟨_, [_], [], rfl, ⟨rfl, rfl, rfl⟩, rfl, rfl⟩
  have r7 : ∀ R, OkL (P := Try.prog) ρ R (mm (S.eraseIdx (ι 10)) M) w [.own 301] (γ 7) := fun R => (hS1.row 7 _ rfl).2
  obtain ⟨ι2, hS2⟩ := hS1.delRow (i := 7) rfl r7
  generalize S.eraseIdx (ι 10) = S1 at hS1 hS2 r7
  generalize S1.eraseIdx (ι1 7) = S2 at hS2
  have r6 : ∀ R, OkL (P := Try.prog) ρ R (mm S2 M) w [.int .i64 s] (γ 6) := fun R => (hS2.row 6 _ rfl).2
  obtain ⟨ι3, hS3⟩ := hS2.delRow (i := 6) rfl r6
  generalize S2.eraseIdx (ι2 6) = S3 at hS3
  have r4 : ∀ R, OkL (P := Try.prog) ρ R (mm S3 M) w [.rp (.str 3 h) 0] (γ 4) := fun R => (hS3.row 4 _ rfl).2
  obtain ⟨ι4, hS4⟩ := hS3.delRow (i := 4) rfl r4
  generalize S3.eraseIdx (ι3 4) = S4 at hS4
  have g9 : γ 9 = [.slice none 0 0] := by
    obtain ⟨u, c, r, h1, h2, h4, h5⟩ := (hS4.row 9 _ rfl).2
    have h5 : r = [] := h5
    have h2 : u = .slice none 0 0 := h2
    subst h5 h2
    have h6 : [Value.slice none 0 0] = c := congrArg Array.toList h4
    rw [h1, ← h6]; rfl
  have hS5 := hS4.new (i := 10900) (r := .own false (.sl 3 (.int .i64)) []) (v := .slice none 0 0) (cs := []) (mu := []) (hS4.hp.addNil (intE .i64) 3) (Hp.addNilA _ _) trivial
  have hx : (resOf (P := Try.prog) (upf ρ 10900 (.slice none 0 0) 9) (upf γ 10900 [] 9) (upf μ 10900 [] 9) (.row 42 [.own 10900])) = resOf (P := Try.prog) (upf ρ 10900 (.slice none 0 0) 9) (upf γ 10900 [] 9) (upf μ 10900 [] 9) (.row 42 [.nilS]) := rfl
  generalize hS' : resOf (P := Try.prog) (.slice none 0 0) [] [] (.own false (.sl 3 (.int .i64)) []) :: S4 = S5 at hS5
  have h9 : S5[(fun j => if j = 10900 then 0 else ι4 j + 1) 9]? = some (resOf (P := Try.prog) (upf ρ 10900 (.slice none 0 0) 9) (upf γ 10900 [] 9) (upf μ 10900 [] 9) (.row 42 [.nilS])) := hS5.res 9 (.row 42 [.nilS]) rfl
  have hset : S5.set ((fun j => if j = 10900 then 0 else ι4 j + 1) 9) (resOf (P := Try.prog) (upf ρ 10900 (.slice none 0 0) 9) (upf γ 10900 [] 9) (upf μ 10900 [] 9) (.row 42 [.own 10900])) = S5 := by
    rw [hx]
    refine List.ext_getElem? fun j => ?_
    rw [List.getElem?_set]
    split
    · rename_i e; subst e
      split
      · rw [h9]
      · rename_i hlt; rw [List.getElem?_eq_none (by omega)]
    · rfl
  have hS6 := hS5.upd (i := 9) (r := .row 42 [.own 10900]) (cs := upf γ 10900 [] 9) (c := []) (g := fun _ => .row 42 [.own 10900]) rfl rfl (by rw [hset]; exact hS5.hp) (by rw [hset]; exact Adv.refl _ _) (fun p e t xs he => by cases he) (by
    obtain ⟨b, hb⟩ := (hS5.row 9 _ rfl).1
    refine ⟨⟨b, hb⟩, ?_⟩
    have g9' : upf γ 10900 [] 9 = [.slice none 0 0] := by rw [upf_ne (by decide), g9]
    rw [g9']
    exact ⟨.slice none 0 0, [.slice none 0 0], [], rfl, ⟨rfl, rfl, rfl⟩, rfl, rfl⟩)
  rw [hset] at hS6
  obtain ⟨u7, q1, q2⟩ := hS6.env 7 (.rp (.agg [.own 301]) 0) rfl
  obtain ⟨b, o, q3, q4⟩ := rp_own q2
  have q5 : upf ρ 10900 (.slice none 0 0) 301 = v := by rw [upf_ne (by decide), e3]
  rw [q5] at q4
  refine ⟨[ρ 7, ρ 9, ρ 4, ρ 6, ρ 10], b, o, rfl, ⟨e7, e9, e4, e6, e10⟩, ?_, S5, _, _, _, _, ⟨hS6.hp, hS6.res, hS6.inj, hS6.row, fun t u ht => ?_, hS6.anch⟩, q4⟩
  · show some (ρ 7) = _
    rw [← e7, q1, q3]
  · have go : ∀ u, fnd _ t = some u → _ := hS6.env t
    refine go u ?_
    have ht : fnd ((1, SV.int .i64 i) :: env54 h s [ρ 7, ρ 9, ρ 4, ρ 6, ρ 10]) t = some u := ht
    unfold env54 at ht
    rw [fnd_cons] at ht
    split at ht
    · rename_i e; subst e; cases ht; rfl
    rw [fnd_cons] at ht
    split at ht
    · rename_i e; subst e; cases ht; rfl
    rw [fnd_cons] at ht
    split at ht
    · rename_i e; subst e; cases ht; rfl
    rw [fnd_cons] at ht
    split at ht
    · rename_i e; subst e; cases ht; rfl
    rw [fnd_cons] at ht
    split at ht
    · rename_i e; subst e; cases ht; rfl
    rw [fnd_cons] at ht
    split at ht
    · rename_i e; subst e; cases ht; rfl
    cases ht
theorem okm54 : CtrM.ok Try.prog 54 ctrm54 := by
  refine ⟨rfl, fun M w a x v vals us r x' hM hd ha hv he hh hho hF => ?_⟩
  obtain ⟨h, i, s, u⟩ := a
  obtain ⟨vp, rfl, hp, hi, hs⟩ := us4 ha hv he
  obtain ⟨bm, rfl⟩ : ∃ b, v = .map (some b) := hh
  have hF : P.ring_hunt_group h i s x = some (r, x') := hF
  obtain ⟨r1, hv1, hF⟩ := bnd (show Option.bind (P.visit h s 30 i x []) _ = some (r, x') from hF)
  obtain ⟨ys, hs1, hF⟩ := bnd (show Option.bind (sortO r1.2) _ = some (r, x') from hF)
  cases hF
  have hM : MLt (bm :: M) w := hM
  have hho : (ocR (P := Try.prog) [] (.map (some bm)) (.mp 3 (.int .i64) .bool) x).holds (bm :: M) w := hho
  have hsz : bm < w.heap.size := hM bm (List.mem_cons_self ..)
  refine calls_cw (l := [vp, .int .i64 i, .int .i64 s, .map (some bm)]) Try.func54 rfl rfl rfl ?_
  let A1 : Anch := ⟨fun M' w' => Adv [bm] M' w w', fun h1 h2 => h1.trans h2⟩
  have h0 := @start54 A1 w M bm h i s x vp (Adv.refl _ _) hsz hp hi hs hho
  have l3 : Sx.look (argEnv 0 [vp, .int .i64 i, .int .i64 s, .map (some bm)]) 3 = some (.map (some bm)) := rfl
  generalize argEnv 0 [vp, .int .i64 i, .int .i64 s, .map (some bm)] = L at h0 l3
  generalize { w with heap := #[] } = w0 at h0
  refine cw_seq ?_
  refine @Holds.reg _ _ _ _ _ A1 _ _ _ _ _ { gxb with fs := [] } _ _ _ _ _ _ _ gxV _ _ _ _ rfl h0 fun L1 w1 hE1 h1 => ?_
  refine cw_seq ?_
  refine @Holds.reg _ _ _ _ _ A1 _ _ _ _ _ { gxb with fs := [] } _ _ _ _ _ _ _ gxV _ _ _ _ rfl h1 fun L2 w2 hE2 h2 => ?_
  refine cw_seq ?_
  refine @Holds.reg _ _ _ _ _ A1 _ _ _ _ _ { gxb with fs := [] } _ _ _ _ _ _ _ gxV _ _ _ _ rfl h2 fun L3 w3 hE3 h3 => ?_
  refine cw_seq ?_
  refine @Holds.reg _ _ _ _ _ A1 _ _ _ _ _ { gxb with fs := [] } _ _ _ _ _ _ _ gxV _ _ _ _ rfl h3 fun L4 w4 hE4 h4 => ?_
  have k3 : Sx.look L4 3 = some (.map (some bm)) := by rw [hE4 3 (by decide), hE3 3 (by decide), hE2 3 (by decide), hE1 3 (by decide), l3]
  have h5 : @Holds _ _ _ _ _ A1 w0 [] [] ⟨env0 i, res0 h s x, [], []⟩ L4 w4 := @Holds.fewer _ _ _ _ _ A1 _ _ _ _ _ _ _ _ _ _ _ _ h4 ⟨rfl, rfl, rfl, rfl, rfl, rfl, rfl, trivial⟩
  clear h0 h1 h2 h3 h4
  obtain ⟨caps, b7, o7, hcl, hL, hl7, S, ρ, γ, μ, ι, hS, hr7⟩ := @mid54 A1 _ _ _ _ _ _ _ _ _ _ h5 k3
  let A2 : Anch := ⟨fun M' w' => Adv [bm] M' w w' ∧ RdC M' w' b7 o7 [.map (some bm)], fun h1 h2 => ⟨h1.1.trans h2, h1.2.adv h2⟩⟩
  have h6 : @Holds _ _ _ _ _ A2 w0 [] [] ⟨(1, .int .i64 i) :: env54 h s caps, resV x [], [], []⟩ L4 w4 := by
    refine @Holds.res _ _ _ _ _ A2 _ _ _ _ _ _ _ _ _ _ _ _ (show @Holds _ _ _ _ _ A2 w0 [] [] ⟨(1, .int .i64 i) :: env54 h s caps, [(10900, .own false (.sl 3 (.int .i64)) []), (9, .row 42 [.own 10900]), (301, .own false (.mp 3 (.int .i64) .bool) x)], [], []⟩ L4 w4 from ⟨S, ρ, γ, μ, ι, HS.toAnch A1 A2 hS ⟨@HS.anch _ _ _ _ _ A1 _ _ _ _ _ _ _ _ _ _ _ hS, hr7⟩⟩) fun j => ?_
    unfold resV
    simp only [fnd_cons]
    by_cases a1 : 301 = j
    · subst a1; rfl
    · by_cases a2 : 9 = j
      · subst a2; rfl
      · by_cases a3 : 10900 = j
        · subst a3; rfl
        · simp [a1, a2, a3]
  refine @tail54 A2 _ _ _ _ _ _ _ _ _ _ _ _ _ hcl hi hv1 hs1 h6 hL ?_
  rintro L' w' ⟨S, ρ, γ, μ, ι, hS⟩ l7 u hu
  obtain ⟨hA, hR7⟩ : Adv [bm] (mm S []) w w' ∧ RdC (mm S []) w' b7 o7 [.map (some bm)] := hS.anch
  have e301 : ρ 301 = .map (some bm) := by
    obtain ⟨u7, q1, q2⟩ := hS.env 7 (.rp (.agg [.own 301]) 0) rfl
    obtain ⟨b, o, q3, q4⟩ := rp_own q2
    rw [l7, hl7] at q1
    cases q1
    cases q3
    exact RdC.one2 q4 hR7
  have eu : u = ρ 10900 := by
    obtain ⟨u8, q1, q2, _⟩ := hS.env 8 (.own 10900) rfl
    rw [hu] at q1; cases q1; exact q2
  have k301 : S[ι 301]? = some (ocR (P := Try.prog) [] (ρ 301) (.mp 3 (.int .i64) .bool) r1.1) := hS.res 301 _ rfl
  have k109 : S[ι 10900]? = some (ocR (P := Try.prog) [] (ρ 10900) (.sl 3 (.int .i64)) r) := hS.res 10900 _ rfl
  rw [e301] at k301
  have hne : ι 10900 ≠ ι 301 := fun e => absurd (hS.inj 10900 301 _ _ rfl rfl e) (by decide)
  have hown : Sx.Own (intE .i64) 3 0 (mm S []) w' (ρ 10900) r := hS.hp.get _ k109
  have hmp : MapH _ _ _ (mm S []) w' bm r1.1 := hS.hp.get _ k301
  have hob : ∀ b ∈ ob (ρ 10900), b ≠ bm ∧ b ∉ M := fun b hb => by
    have h1 : b ≠ bm := fun e => hS.hp.dis _ _ _ _ k109 k301 hne b hb (e ▸ List.mem_singleton.2 rfl)
    refine ⟨h1, fun hm => ?_⟩
    have h2 : b ∈ mm S [] := mem_mm.2 (.inl ⟨_, List.mem_of_getElem? k109, hb⟩)
    rcases hA.new b h2 with h3 | h3
    · exact h1 (List.mem_singleton.1 h3)
    · have := hM b (List.mem_cons_of_mem _ hm); omega
  refine ⟨[u], rfl, ⟨u, rfl, ?_⟩, hA.kp, ?_⟩
  · rw [eu]
    have h1 : Sx.Own (intE .i64) 3 0 (bm :: M) w' (ρ 10900) r := hown.flat (fun h => h) fun _ _ => rfl
    exact ⟨[ρ 10900], ⟨ρ 10900, rfl, h1.rd fun b hb hm => (List.mem_cons.1 hm).elim (hob b hb).1 (hob b hb).2⟩, .inr ⟨rfl, rfl⟩⟩
  · exact MapH.flat (fun h => h) hmp
end Go.Proofs.Ytdbogmmdogjhpaa
