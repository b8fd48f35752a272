/-
  Part DisputeLate 7 of the texts that the statement's proof stands on: what memory holds, how code is walked, what the functions reckon. In the order in which they build.
-/
import Derived.Test.YtgioiejbphljoaaGreatDoorProg
import Derived.Shelf.SlSortCmp.WholeK
import Derived.Shelf.SlSortCmp.NoneTotal
import Derived.Test.YtgioiejbphljoaaGreatDoorDiDisputeLate6
set_option linter.unusedVariables false
set_option linter.unusedSectionVars false
namespace Go.Rx
open Go Go.Sx Go.RowKit Go.ChangeMaps
variable [Trk] [Sg] [Sf] {P:Program} [Se P]
theorem ADZ {W:List Nat} {hd:Sh} {σ:AS} {x:N2 hd.cs} {t:Nat} {s:SV} (ht:A1 (B5 W hd σ x).env t=some s) (hW:t∈W):t∈I2 hd.cs:=by
 have h:A1 (allV ABA (T8 hd.cs x)++ACG W hd.keep σ.env) t=some s:=ht
 rw[fnd_app] at h
 cases h1:A1 (allV ABA (T8 hd.cs x)) t with
 |none=>
  rw[h1] at h
  simp only at h
  rw[fnd_keepE,if_pos hW] at h
  cases h
 |some y=>
  obtain⟨p,hp,hy⟩:=allV_mem.1 (ABS h1)
  have h2:=AFK hy
  have h3:=AFo hp
  exact ABC (c:=p.1.2) (by rw[<-h2];exact h3)
abbrev AMs (a:Anch) (Q:List Nat->World->Prop) (h:∀ {M M':List Nat} {w w':World},Q M w->Adv M M' w w'->Q M' w'):Anch:=⟨fun M w=>a.Q M w/\Q M w,fun h1 k=>⟨a.adv h1.1 k,h h1.2 k⟩⟩
section
variable [Anch] {w0 w:World} {M:List Nat} {σ:AS} {L:A7} {N:Nat} {Γ:Type} {pr:AS->Option Γ} {ds:List Deferred} {A B:A3} {X:Nat->A3} {Z:List PanicEntry->A3}
def AKr (P:Program) [Se P] (w0:World) (M:List Nat) (u:MU) {m:Nat} {k v:Ty} (K:Ky P m (den k)) (r b c:Nat) (es:Array MapEntry) (xs:List (den k×den v)) (Wr:List Nat) (L0:A7) (τ:AS) (L:A7) (W:World) (l:List (den k×den v)):Prop:=
 EnvS Wr L0 L/\Sx.A5 L u.t=some (.pointer (some ⟨r,0,none⟩))/\∃ seen S ρ γ μ ι,@HS _ _ _ P _ (AQQ (α:=den v) inferInstance K (enc v) v.agg b es c xs) (fx1 r (.mapIter (some b) c seen c)) w0 [] (r :: M) τ L W S ρ γ μ ι/\l.Perm (I0 (es.toList.zip xs) seen)
theorem AOF [Sl (P:=P)] {G:Gx} (hG:GxOk P G) {u:MU} {hd:Sh} {l:An} {m:Nat} {k v:Ty} {K:Ky P m (den k)} (hKo:∀ M w (a:den k),K.ok a->OkD (P:=P) M w k a (K.val a)) (hc:AIQ N u hd l=true) {r b c:Nat} {es:Array MapEntry} {xs l0:List (den k×den v)} (hr:w0.heap.size<=r) (hM0:MLt M w0) {L0:A7} {s:N2 hd.cs} {nty cty ety:TypeId} {npos cpos epos:String} {naf caf eaf:Array Edge} {i1 i2:Nat} (u2:u.all2=⟨some u.e,.entry (.tmp u.t),ety,epos,eaf,none⟩ :: u.ops2)
  (hI:AKr P w0 M u K r b c es xs (u.t :: F6 u hd l) L0 (B5 (u.t :: F6 u hd l) hd σ s) L w l0)
  (hend:∀ L' w',l0=[]->EnvS (u.t :: F6 u hd l) L0 L'->Holds (P:=P) w0 [] M (B5 (u.t :: F6 u hd l) hd σ s) L' w'->A ds L' w')
  (hgo:∀ y l',l0.Perm (y :: l')->∃ s',ACx G N pr u hd l (u.t :: F6 u hd l) σ k v s y=some s')
  {I:List (den k×den v)->N2 hd.cs->A7->World->Prop} (hnext:∀ y l' s' L' w',l0.Perm (y :: l')->ACx G N pr u hd l (u.t :: F6 u hd l) σ k v s y=some s'->AKr P w0 M u K r b c es xs (u.t :: F6 u hd l) L0 (B5 (u.t :: F6 u hd l) hd σ s') L' w' l'->I l' s' L' w') :
  CW P N (.seq (.region i1 (List.toArray [⟨some u.n,.next (.tmp u.t) false,nty,npos,naf,none⟩,⟨some u.c,.extract (.tmp u.n) 0,cty,cpos,caf,none⟩]) false) (.seq (.cond (.tmp u.c) .skip (.exit u.j)) (.block u.j2 (.seq (.region i2 (List.toArray u.all2) false) u.rest)))) ds L w
   (fun ds' L' w'=>ds'=ds/\∃ l' s',I l' s' L' w'/\l'.length < l0.length) B (exB u.j A X) Z:=by
 simp only[AIQ,Bool.and_eq_true,Bool.not_eq_true'] at hc
 obtain⟨⟨⟨⟨⟨⟨⟨c1,c2⟩,c3⟩,c4⟩,c5⟩,c6⟩,c7⟩,c8⟩:=hc
 have d6:u.t∉F6 u hd l:=fun h=>by rw[has_iff.2 h] at c6;cases c6
 have d7:u.n∉I2 hd.cs:=fun h=>by rw[has_iff.2 h] at c7;cases c7
 have d8:u.c∉I2 hd.cs:=fun h=>by rw[has_iff.2 h] at c8;cases c8
 have wn:u.n∈u.t :: F6 u hd l:=List.mem_cons_of_mem _ (List.mem_cons_self ..)
 have wc:u.c∈u.t :: F6 u hd l:=List.mem_cons_of_mem _ (List.mem_cons_of_mem _ (List.mem_cons_self ..))
 have we:u.e∈F6 u hd l:=List.mem_cons_of_mem _ (List.mem_cons_of_mem _ (List.mem_cons_self ..))
 have wsl:∀ t∈I2 hd.cs,t∈u.t :: F6 u hd l:=fun t ht=>List.mem_cons_of_mem _ (List.mem_cons_of_mem _ (List.mem_cons_of_mem _ (List.mem_cons_of_mem _ (List.mem_append_left _ ht))))
 have wop:∀ t∈C2 u.ops2,t∈F6 u hd l:=fun t ht=>List.mem_cons_of_mem _ (List.mem_cons_of_mem _ (List.mem_cons_of_mem _ (List.mem_append_right _ (List.mem_append_left _ ht))))
 have wrs:∀ t∈C8 u.rest++C6 l,t∈F6 u hd l:=fun t ht=>List.mem_cons_of_mem _ (List.mem_cons_of_mem _ (List.mem_cons_of_mem _ (List.mem_append_right _ (List.mem_append_right _ ht))))
 have tn:u.t≠u.n:=fun e=>d6 (e▸List.mem_cons_self ..)
 have tc:u.t≠u.c:=fun e=>d6 (e▸List.mem_cons_of_mem _ (List.mem_cons_self ..))
 have te:u.t≠u.e:=fun e=>d6 (e▸we)
 obtain⟨hE0,hlk,seen,S,ρ,γ,μ,ι,hS,hpm⟩:=hI
 have hS0:=hS
 obtain⟨s1,_,_,_,_,s6⟩:=hS0
 have hX9:RdX K (enc (P:=P) v) v.agg (mm S (r :: M)) w b es c xs:=s6.1.2
 obtain⟨_,_,_,_,_,_,_,_,s9⟩:=id s1
 have hfx:w.heap[r]?=some (.mapIter (some b) c seen c):=(s9 r _ (if_pos rfl)).2
 have hp0:Hp w0 [] M (T3 (κ:=den k) (α:=den v) r b c es xs none l0 :: S) w:=ATN s1 rfl rfl hr hM0 fun _=>⟨seen,hfx,hpm,fun _ h=>by cases h⟩
 have hX0:RdX K (enc (P:=P) v) v.agg (mm (T3 (κ:=den k) (α:=den v) r b c es xs none l0 :: S) M) w b es c xs:=hX9.adv (Adv.drop fun x hx=>(X2 rfl).2 hx)
 have out:∀ (v1 v2:Value) t q,A1 (B5 (u.t :: F6 u hd l) hd σ s).env t=some q->Sx.A5 ((u.c,v2) :: (u.n,v1) :: L) t=Sx.A5 L t:=fun v1 v2 t q ht=>by
  rw[look_cons,if_neg (fun e=>d8 (ADZ (e▸ht) wc)),look_cons,if_neg (fun e=>d7 (ADZ (e▸ht) wn))]
 refine A6 (A9 (ASO 0 hp0 hX0 rfl hlk c2 (fun hl=>?_) (fun y l' kv vv w1 hp hp1 hA1=>?_)))
 . refine AGJ (vs:=[.bool false]) (i:=0) (by show Sx.A5 _ _=_;rw[look_cons,if_pos rfl]) rfl c3 (Reg.nil (A6 (ABJ (by show Sx.A5 _ _=_;rw[look_cons,if_pos rfl]) (ABI (S8 (hend _ _ hl (hE0.trans (((EnvS.put u.n L _).mono fun t ht=>by rw[List.mem_singleton.1 ht];exact wn).trans ((EnvS.put u.c _ _).mono fun t ht=>by rw[List.mem_singleton.1 ht];exact wc))) ?_))))))
   have hp2:Hp w0 [] M S w:=hp0.sub (List.sublist_cons_self ..)
   have hS2:=hS.conv hp2 (Adv.drop fun x hx=>mem_mm.2 ((mem_mm.1 hx).imp id (List.mem_cons_of_mem _))) (fun _=>rfl) (fun _ _ e=>e) (out (.tuple #[.bool false]) (.bool false))
   exact⟨S,ρ,γ,μ,ι,hS2.anchX _ _ fun h=>h.1⟩
 . refine AGJ (vs:=[.bool true,kv,vv]) (i:=0) (by show Sx.A5 _ _=_;rw[look_cons,if_pos rfl]) rfl c3 (Reg.nil (A6 (ACV (by show Sx.A5 _ _=_;rw[look_cons,if_pos rfl]) (O6 ?_))))
   refine X8 (n:=3) (ACt (AVB (G5 (A6 (A9 ?_)))))
   suffices key:Reg P N (List.toArray u.all2) .seq (⟨some u.e,.entry (.tmp u.t),ety,epos,eaf,none⟩ :: u.ops2) ds ((u.c,.bool true) :: (u.n,.tuple #[.bool true,kv,vv]) :: L) w1 (fun ds' L' w'=>CW P N u.rest ds' L' w' (fun ds' L' w'=>ds'=ds/\∃ l' s',I l' s' L' w'/\l'.length < l0.length) B (exB u.j2 (fun ds' L' w'=>ds'=ds/\∃ l' s',I l' s' L' w'/\l'.length < l0.length) NoX) Z) B (exB u.j2 (fun ds' L' w'=>ds'=ds/\∃ l' s',I l' s' L' w'/\l'.length < l0.length) NoX) Z by rw[<-u2] at key;exact key
   have hp1:Hp w0 [] M (T3 (κ:=den k) (α:=den v) r b c es xs (some y) l' :: S) w1:=hp1
   have hA1:Adv (mm (T3 (κ:=den k) (α:=den v) r b c es xs none l0 :: S) M) (mm (T3 (κ:=den k) (α:=den v) r b c es xs (some y) l' :: S) M) w w1:=hA1
   have hA2:Adv (mm S (r :: M)) (mm S (r :: M)) w w1:=⟨hA1.kp.mono fun x hx=>.inl ((X2 rfl).2 hx),fun x hx=>(hA1.new x ((X2 rfl).1 hx)).imp (X2 rfl).2 id⟩
   have hl1:Sx.A5 ((u.c,.bool true) :: (u.n,.tuple #[.bool true,kv,vv]) :: L) u.t=some (.pointer (some ⟨r,0,none⟩)):=by rw[look_cons,if_neg (fun e=>tc e.symm),look_cons,if_neg (fun e=>tn e.symm)];exact hlk
   refine ASP 0 hp1 (hX0.adv hA1) rfl hl1 c4 fun v5 hok hv=>?_
   obtain⟨seen1,hr1,hpm1,_⟩:=hp1.get 0 rfl
   obtain⟨s',hrd⟩:=hgo y l' hp
   have hS1:=hS.conv (AOE hp1 rfl hr1) hA2 (fun _=>rfl) (fun _ _ e=>e) (out (.tuple #[.bool true,kv,vv]) (.bool true))
   have hv2:OkD (P:=P) (mm S (r :: M)) w1 v y.2 v5:=Vl.adv (Adv.drop fun x hx=>(X2 rfl).1 hx) hv
   letI AK:Anch:=AQQ (α:=den v) inferInstance K (enc (P:=P) v) v.agg b es c xs
   letI FX:Fx:=fx1 r (.mapIter (some b) c seen1 c)
   have hS2:=HS.put (d:=u.e) (s:=.tup [F5 k y.1,F5 v y.2]) (v:=.tuple #[K.val y.1,v5]) hS1 ⟨[K.val y.1,v5],rfl,_,_,rfl,D6 k (hKo _ _ _ hok),_,_,rfl,D6 v hv2,rfl⟩
   have fin:∀ σ3 L3 σ4 L4 w4,H6 hd σ4=some s'->Rel P (F6 u hd l) { B5 (u.t :: F6 u hd l) hd σ s with env:=(u.e,.tup [F5 k y.1,F5 v y.2]) :: (B5 (u.t :: F6 u hd l) hd σ s).env } σ3->EnvS (F6 u hd l) ((u.e,.tuple #[K.val y.1,v5]) :: (u.c,.bool true) :: (u.n,.tuple #[.bool true,kv,vv]) :: L) L3->Rel P (C8 u.rest++C6 l) σ3 σ4->EnvS (C8 u.rest++C6 l) L3 L4->Holds (P:=P) w0 [] (r :: M) σ4 L4 w4->ds=ds/\∃ l' s',I l' s' L4 w4/\l'.length < l0.length:=fun σ3 L3 σ4 L4 w4 h4 hR3 hE3 hR4 hE4 hH4=>by
    obtain⟨S4,ρ4,γ4,μ4,ι4,hS4⟩:=hH4
    have hR1:Rel P (u.t :: F6 u hd l) σ (B5 (u.t :: F6 u hd l) hd σ s):=ACI wsl fun _ h=>h
    have hR2:Rel P (u.t :: F6 u hd l) (B5 (u.t :: F6 u hd l) hd σ s) { B5 (u.t :: F6 u hd l) hd σ s with env:=(u.e,.tup [F5 k y.1,F5 v y.2]) :: (B5 (u.t :: F6 u hd l) hd σ s).env }:=⟨fun _ h=>h,fun _ h=>h,fun i a h _=>⟨a,h,RelA.refl a⟩,fun t ht q hq=>⟨q,by
     show A1 ((u.e,_) :: _) t=_
     rw[fnd_cons,if_neg (fun (e:u.e=t)=>ht (e▸List.mem_cons_of_mem _ we))];exact hq,Wk.refl q⟩⟩
    have hR:Rel P (u.t :: F6 u hd l) σ σ4:=hR1.trans (hR2.trans ((hR3.mono fun t ht=>List.mem_cons_of_mem _ ht).trans (hR4.mono fun t ht=>List.mem_cons_of_mem _ (wrs t ht))))
    obtain⟨S5,ρ5,γ5,μ5,ι5,hS5⟩:=R5 (W:=u.t :: F6 u hd l) (σ:=σ) hS4 hR h4
    have hl4:Sx.A5 L4 u.t=some (.pointer (some ⟨r,0,none⟩)):=by
     rw[hE4 u.t (fun h=>d6 (wrs _ h)),hE3 u.t d6,look_cons,if_neg (fun e=>te e.symm)];exact hl1
    have hE9:EnvS (u.t :: F6 u hd l) L0 L4:=hE0.trans (((EnvS.put u.n L _).mono fun t ht=>by rw[List.mem_singleton.1 ht];exact wn).trans (((EnvS.put u.c _ _).mono fun t ht=>by rw[List.mem_singleton.1 ht];exact wc).trans (((EnvS.put u.e _ _).mono fun t ht=>by rw[List.mem_singleton.1 ht];exact List.mem_cons_of_mem _ we).trans ((hE3.mono fun t ht=>List.mem_cons_of_mem _ ht).trans (hE4.mono fun t ht=>List.mem_cons_of_mem _ (wrs t ht))))))
    exact⟨rfl,l',s',hnext y l' s' L4 w4 hp hrd ⟨hE9,hl4,seen1,S5,ρ5,γ5,μ5,ι5,hS5,hpm1⟩,by have:=hp.length_eq;simp at this;omega⟩
   refine R4 (P:=P) (w0:=w0) (Mu:=[]) (M:=r :: M) (W:=F6 u hd l) hG u.ops2 _ _ _ hrd wop ⟨S,ρ,γ,μ,ι,hS2⟩ fun σ3 L3 w3 hK3 hR3 hE3 hH3=>?_
   refine X8 (n:=3) (G9 hG u.rest l _ _ _ _ _ _ _ _ _ _ _ _ _ hK3 hH3 (fun σ4 L4 w4 h4 hR4 hE4 hH4=>fin σ3 L3 σ4 L4 w4 h4 hR3 hE3 hR4 hE4 hH4) (fun i σ4 L4 w4 h5 hR4 hE4 hH4=>?_) (fun _ _ _ _ _ h=>by cases h) (PZ.no.block c5))
   have h6:(bif Nat.beq i u.j2 then H6 hd σ4 else none)=some s':=h5
   clear h5
   cases hb:Nat.beq i u.j2 with
   |false=>rw[hb,cond_false] at h6;exact (A2 h6).elim
   |true=>
    rw[hb,cond_true] at h6
    have:=Nat.eq_of_beq_eq_true hb
    subst this
    exact S8 (fin σ3 L3 σ4 L4 w4 h6 hR3 hE3 hR4 hE4 hH4)
end
end Go.Rx
namespace Go.Rx
open Go Go.Sx Go.RowKit Go.ChangeMaps
section
variable [Sg] [Sf] (G:Gx)
noncomputable def ATO (f:Func) (an:An) (ps:List Pt) (cs:List Ck) (a:D5 ps):Option (D7 cs):=match f.body with
 |some c=>V7 G f.ntmps (U0 G cs f.results.toList) c an (U0 G cs f.results.toList) some ⟨ABF 0 ps a,[],[],[]⟩
 |none=>none
end
variable [Trk] [Sg] [Sf] {P:Program} [Se P]
section
variable [Anch] {w0 w:World} {M:List Nat} {σ:AS} {L:A7} {N:Nat} {Γ:Type} {pr:AS->Option Γ} {ds:List Deferred} {A B:A3} {X:Nat->A3} {Z:List PanicEntry->A3}
theorem ARb [Sl (P:=P)] {G:Gx} (hG:GxOk P G) {a b:Code} {u:MU} (hu:AAs a b=some u) {an:An} {Y:Type} {KN:AS->Option Y} {z:Y} (h:mapM G N pr u an KN σ=some z) (hH:Holds (P:=P) w0 [] M σ L w) (hA:∀ σ' L' w',KN σ'=some z->EnvS (wrE (.seq a b) an) L L'->Holds (P:=P) w0 [] M σ' L' w'->A ds L' w'):CW P N (.seq a b) ds L w A B X Z:=by
 have hw:∀ hd ks l,wrE (.seq a b) (.lp hd ks l)=C2 u.pre++(u.t :: F6 u hd l):=fun hd ks l=>by
  show (match AAs a b with
   |some u=>_
   |none=>_)=_
  rw[hu]
 obtain⟨i,i1,i2,rty,rpos,raf,nty,npos,naf,cty,cpos,caf,ety,epos,eaf,rfl,rfl,u1,u2⟩:=APd hu
 cases an with
 |x=>exact (A2 h).elim
 |nd _ _=>exact (A2 h).elim
 |jn _ _=>exact (A2 h).elim
 |lp hd ks l=>
  have main:∀ σ1 L1 w1,(match lk G.mp u.mt,B4 σ1.env u.x with
   |some (m,_,k,v),some sx=>match C1 (A1 σ1.res) (.mp m k v) sx,frz (A1 σ1.res) (A8 sx),AIQ N u hd l with
    |some f,some fz,true=>match H6 hd (apps none fz σ1).start with
     |some s0=>AAV (show A4 (den k) (den v) from f) fun xs=>Option.bind (List.foldlM (ACx G N pr u hd l (u.t :: F6 u hd l) (apps none fz σ1).start k v) s0 xs) fun s=>KN (B5 (u.t :: F6 u hd l) hd (apps none fz σ1).start s)
     |none=>none
    |_,_,_=>none
   |_,_=>none)=some z->EnvS (C2 u.pre) L L1->Holds (P:=P) w0 [] M σ1 L1 w1->Reg P N (List.toArray u.all) .seq [⟨some u.t,.range u.mt u.x,rty,rpos,raf,none⟩] ds L1 w1 (fun ds' L' w'=>CW P N (.block u.j (.loop (.seq (.region i1 (List.toArray [⟨some u.n,.next (.tmp u.t) false,nty,npos,naf,none⟩,⟨some u.c,.extract (.tmp u.n) 0,cty,cpos,caf,none⟩]) false) (.seq (.cond (.tmp u.c) .skip (.exit u.j)) (.block u.j2 (.seq (.region i2 (List.toArray u.all2) false) u.rest)))))) ds' L' w' A B X Z) B X Z:=by
   intro σ1 L1 w1 hK hE1 hH1
   cases hl:lk G.mp u.mt with
   |none=>rw[hl] at hK;exact (A2 hK).elim
   |some q=>
    obtain⟨m,e,k,v⟩:=q
    rw[hl] at hK
    cases hx:B4 σ1.env u.x with
    |none=>rw[hx] at hK;exact (A2 hK).elim
    |some sx=>
     rw[hx] at hK
     simp only at hK
     generalize ht:C1 (A1 σ1.res) (.mp m k v) sx=o1 at hK
     generalize hz:frz (A1 σ1.res) (A8 sx)=o2 at hK
     generalize hc:AIQ N u hd l=o3 at hK
     cases o1 with
     |none=>exact (A2 hK).elim
     |some f=>
     cases o2 with
     |none=>exact (A2 hK).elim
     |some fz=>
     cases o3 with
     |false=>exact (A2 hK).elim
     |true=>
     simp only at hK
     cases h0:H6 hd (apps none fz σ1).start with
     |none=>rw[h0] at hK;exact (A2 hK).elim
     |some s0=>
     rw[h0] at hK
     simp only at hK
     have hc2:=hc
     simp only[AIQ,Bool.and_eq_true,Bool.not_eq_true'] at hc2
     obtain⟨⟨⟨⟨⟨⟨⟨c1,_⟩,_⟩,_⟩,_⟩,c6⟩,_⟩,_⟩:=hc2
     have d6:u.t∉F6 u hd l:=fun h=>by rw[has_iff.2 h] at c6;cases c6
     obtain⟨K,hKy,hKv,hut,hzv,hKo⟩:=AGY hG.mp hl
     obtain⟨S,ρ,γ,μ,ι,hS⟩:=hH1
     obtain⟨vx,e1,e2⟩:=hS.ev hx
     obtain⟨S1,ι1,k1,k2,k3⟩:=hS.frzO (d:=none) hz
     have k4:OkD (P:=P) (mm S1 M) w1 (.mp m k v) f vx:=H3 k3 (.mp m k v) sx k2.1 ht e2
     have k5:RdF K (enc (P:=P) v) v.agg (mm S1 M) w1 vx f:=by
      obtain⟨cs,⟨u',K',rfl,hK',hf⟩,⟨hh,_⟩|⟨_,hh⟩⟩:=k4
      . cases hh
      . rw[hKy] at hK';cases hK'
        rw[<-List.singleton_inj.1 hh]
        exact hf
     have k6:@HS _ _ _ P _ (AMs inferInstance (fun M w=>RdF K (enc (P:=P) v) v.agg M w vx f) (fun h a=>h.adv a)) _ w0 [] M (apps none fz σ1).start L1 w1 S1 ρ γ μ ι1:=HS.anchX _ _ (⟨k1.hp,k1.res,k1.inj,k1.row,k1.env,k1.anch⟩:HS (P:=P) w0 [] M (apps none fz σ1).start L1 w1 S1 ρ γ μ ι1) fun h=>⟨h,k5⟩
     obtain⟨S3,ρ3,γ3,μ3,ι3,k7⟩:@Holds _ _ _ P _ (AMs inferInstance (fun M w=>RdF K (enc (P:=P) v) v.agg M w vx f) (fun h a=>h.adv a)) _ w0 [] M (B5 (u.t :: F6 u hd l) hd (apps none fz σ1).start s0) L1 w1:=by
      letI:Anch:=AMs inferInstance (fun M w=>RdF K (enc (P:=P) v) v.agg M w vx f) (fun h a=>h.adv a)
      exact R5 k6 (Rel.refl _) h0
     obtain⟨q1,_,_,_,_,q6⟩:=id k7
     have hRd:RdF K (enc (P:=P) v) v.agg (mm S3 M) w1 vx f:=q6.1.2
     refine ASN q1 hRd e1 hut c1 fun r b c es xs w2 hX hLs hp2 hA2=>Reg.nil ?_
     obtain⟨seen,hr0,hpm,_⟩:=hp2.get 0 rfl
     have hrw:w0.heap.size<=r:=((hp2.own _ (List.mem_cons_self ..)).2 r (List.mem_singleton.2 rfl)).elim (fun h=>by cases h) id
     have hM0:MLt M w0:=q1.base0
     have hA3:Adv (mm S3 M) (mm S3 (r :: M)) w1 w2:=hA2.trans (Adv.drop fun x hx=>(X2 rfl).1 hx)
     have hwt:u.t∈u.t :: F6 u hd l:=List.mem_cons_self ..
     have hsl:∀ t∈I2 hd.cs,t∈F6 u hd l:=fun t ht=>List.mem_cons_of_mem _ (List.mem_cons_of_mem _ (List.mem_cons_of_mem _ (List.mem_append_left _ ht)))
     have hI0:AKr P w0 M u K r b c es xs (u.t :: F6 u hd l) L1 (B5 (u.t :: F6 u hd l) hd (apps none fz σ1).start s0) ((u.t,.pointer (some ⟨r,0,none⟩)) :: L1) w2 xs:=by
      refine⟨(EnvS.put u.t L1 _).mono fun t ht=>by rw[List.mem_singleton.1 ht];exact hwt,by rw[look_cons,if_pos rfl],seen,S3,ρ3,γ3,μ3,ι3,?_,hpm⟩
      have k8:=k7.conv (L':=(u.t,.pointer (some ⟨r,0,none⟩)) :: L1) (AOE hp2 rfl hr0) hA3 (fun _=>rfl) (fun _ _ e=>e) fun t q ht=>by
       rw[look_cons,if_neg (fun (e:u.t=t)=>d6 (hsl _ (by subst e;exact ADZ ht hwt)))]
      exact @HS.anchX _ _ _ P _ (fx1 r _) _ _ _ _ _ _ _ _ _ _ _ _ _ k8 fun h=>⟨h.1,hX.adv hA3⟩
     obtain⟨Bd,hBd,hall⟩:=AJp hK hLs
     subst hBd
     refine G5 (ABK (ι:=A7×N2 hd.cs×List (den k×den v)) (fun i=>i.1) (fun i W=>AKr P w0 M u K r b c es xs (u.t :: F6 u hd l) L1 (B5 (u.t :: F6 u hd l) hd (apps none fz σ1).start i.2.1) i.1 W i.2.2/\∃ d:List (den k×den v),(d++i.2.2).Perm xs/\List.foldlM (ACx G N pr u hd l (u.t :: F6 u hd l) (apps none fz σ1).start k v) s0 d=some i.2.1) (fun i=>i.2.2.length) (_,s0,xs) ⟨hI0,[],List.Perm.refl _,rfl⟩ (Sub.refl _) ?_)
     rintro⟨L3,s,l3⟩ w3 ⟨hI,d,hd1,hd2⟩
     have hd1:(d++l3).Perm xs:=hd1
     refine AQi (AOF (pr:=pr) (B:=B) (X:=X) (Z:=Z) hG hKo hc hrw hM0 u2 hI (A:=A) (I:=fun l' s' L' W=>AKr P w0 M u K r b c es xs (u.t :: F6 u hd l) L1 (B5 (u.t :: F6 u hd l) hd (apps none fz σ1).start s') L' W l'/\∃ d:List (den k×den v),(d++l').Perm xs/\List.foldlM (ACx G N pr u hd l (u.t :: F6 u hd l) (apps none fz σ1).start k v) s0 d=some s') (fun L' w' hl hE9 hH=>?_) (fun y l' hp=>?_) (fun y l' s' L' w' hp hr' hI'=>⟨hI',d++[y],?_,?_⟩)) fun e a w hq=>?_
     . subst hl
       obtain⟨s9,h9,hk9⟩:=hall d (by simpa using hd1)
       rw[hd2] at h9
       cases h9
       exact hA _ _ _ hk9 (by rw[hw];exact (hE1.mono fun t ht=>List.mem_append_left _ ht).trans (hE9.mono fun t ht=>List.mem_append_right _ ht)) hH
     . obtain⟨s9,h9,_⟩:=hall (d++(y :: l')) (((List.Perm.refl d).append hp.symm).trans hd1)
       rw[List.foldlM_append,hd2] at h9
       simp only[Option.bind_eq_bind,Option.bind_some,List.foldlM_cons] at h9
       cases hb:ACx G N pr u hd l (u.t :: F6 u hd l) (apps none fz σ1).start k v s y with
       |none=>rw[hb] at h9;cases h9
       |some s'=>exact⟨s',rfl⟩
     . rw[List.append_assoc];exact ((List.Perm.refl d).append hp.symm).trans hd1
     . rw[List.foldlM_append,hd2]
       simp only[Option.bind_eq_bind,Option.bind_some,List.foldlM_cons,hr',List.foldlM_nil]
       rfl
     . cases e with
       |normal=>
        obtain⟨ds',L',ha,rfl,l',s',hI',hlt⟩:=hq
        exact⟨_,L',ha,rfl,(L',s',l'),hI',Sub.refl _,hlt⟩
       |_=>exact hq
  refine A6 (A9 ?_)
  have key:=R4 (P:=P) (w0:=w0) (Mu:=[]) (M:=M) (A:=fun ds1 L1 w1=>Reg P N (List.toArray u.all) .seq [⟨some u.t,.range u.mt u.x,rty,rpos,raf,none⟩] ds1 L1 w1 (fun ds' L' w'=>CW P N (.block u.j (.loop (.seq (.region i1 (List.toArray [⟨some u.n,.next (.tmp u.t) false,nty,npos,naf,none⟩,⟨some u.c,.extract (.tmp u.n) 0,cty,cpos,caf,none⟩]) false) (.seq (.cond (.tmp u.c) .skip (.exit u.j)) (.block u.j2 (.seq (.region i2 (List.toArray u.all2) false) u.rest)))))) ds' L' w' A B X Z) B X Z) (B:=B) (X:=X) (Z:=Z) (W:=C2 u.pre) hG u.pre σ L w h (fun t ht=>ht) hH fun σ1 L1 w1 hK _ hE1 hH1=>main σ1 L1 w1 hK hE1 hH1
  rw[u1] at key ⊢
  exact fun a ha=>V6 (fun a w h=>by
   obtain⟨ds',L',hk,hr⟩:=h
   exact hr a hk) u.pre a w (key a ha)
theorem AGt [Sl (P:=P)] {G:Gx} (hG:GxOk P G):∀ (c:Code) (an:An) {Y:Type} {KN:AS->Option Y} {KR:Γ->Option Y} {σ:AS} {L:A7} {w:World} {z:Y} {A B:A3} {X:Nat->A3} {Z:List PanicEntry->A3},V7 G N pr c an KN KR σ=some z->Holds (P:=P) w0 [] M σ L w ->
  (∀ σ' L' w',KN σ'=some z->EnvS (wrE c an) L L'->Holds (P:=P) w0 [] M σ' L' w'->A ds L' w')->(∀ r σ' L' w',pr σ'=some r->KR r=some z->Holds (P:=P) w0 [] M σ' L' w'->B ds L' w')->CW P N c ds L w A B X Z:=by
 intro c
 have plain:∀ (c:Code) (an:An) {Y:Type} {KN:AS->Option Y} {KR:Γ->Option Y} {σ:AS} {L:A7} {w:World} {z:Y} {A B:A3} {X:Nat->A3} {Z:List PanicEntry->A3},exec G N pr c an KN (fun _ _=>none) KR σ=some z->Holds (P:=P) w0 [] M σ L w ->
   (∀ σ' L' w',KN σ'=some z->EnvS (C8 c++C6 an) L L'->Holds (P:=P) w0 [] M σ' L' w'->A ds L' w')->(∀ r σ' L' w',pr σ'=some r->KR r=some z->Holds (P:=P) w0 [] M σ' L' w'->B ds L' w')->CW P N c ds L w A B X Z:=fun c an {_ _ _ _ _ _ _ _ _ _ _} h hH hA hB=>
  X8 (n:=3) (ACt (G9 hG c an _ _ _ _ _ _ _ _ _ _ _ _ _ h hH (fun σ1 L1 w1 h1 _ hE1 hH1=>hA σ1 L1 w1 h1 hE1 hH1) (fun i σ2 L2 w2 h2=>by cases h2) (fun r σ2 L2 w2 h2 h3 _ hH2=>hB r σ2 L2 w2 h2 h3 hH2) PZ.no))
 induction c with
 |seq a b iha ihb=>
  intro an Y KN KR σ L w z A B X Z h hH hA hB
  have h:(match AAs a b with
   |some u=>mapM G N pr u an KN σ
   |none=>match ABb a with
    |true=>V7 G N pr a an.l (fun σ'=>V7 G N pr b an.r KN KR σ') KR σ
    |false=>exec G N pr a an.l (fun σ'=>V7 G N pr b an.r KN KR σ') (fun _ _=>none) KR σ)=some z:=h
  have hw:wrE (.seq a b) an=(match (generalizing:=false) AAs a b with
   |some u=>match (generalizing:=false) an with
    |.lp hd _ l=>C2 u.pre++(u.t :: F6 u hd l)
    |_=>[]
   |none=>match (generalizing:=false) ABb a with
    |true=>wrE a an.l++wrE b an.r
    |false=>(C8 a++C6 an.l)++wrE b an.r):=rfl
  cases hu:AAs a b with
  |some u=>rw[hu] at h;exact ARb hG hu h hH hA
  |none=>
   rw[hu] at h hw
   simp only at h hw
   cases ha:ABb a with
   |true=>
    rw[ha] at h hw
    exact A6 (iha an.l h hH (fun σ1 L1 w1 h1 hE1 hH1=>ihb an.r h1 hH1 (fun σ2 L2 w2 h2 hE2 hH2=>hA σ2 L2 w2 h2 (by rw[hw];exact (hE1.mono fun t ht=>List.mem_append_left _ ht).trans (hE2.mono fun t ht=>List.mem_append_right _ ht)) hH2) hB) hB)
   |false=>
    rw[ha] at h hw
    exact A6 (plain a an.l h hH (fun σ1 L1 w1 h1 hE1 hH1=>ihb an.r h1 hH1 (fun σ2 L2 w2 h2 hE2 hH2=>hA σ2 L2 w2 h2 (by rw[hw];exact (hE1.mono fun t ht=>List.mem_append_left _ ht).trans (hE2.mono fun t ht=>List.mem_append_right _ ht)) hH2) hB) hB)
 |_=>intro an Y KN KR σ L w z A B X Z h hH hA hB;exact plain _ an h hH hA hB
end
theorem ARc [Sl (P:=P)] {G:Gx} (hG:GxOk P G) {k:Nat} {f:Func} {c:Code} {an:An} {ps:List Pt} {cs:List Ck} {F:D5 ps->Option (D7 cs)} (hf:P.funcs[k]?=some f) (hb:f.body=some c) (hl:Nat.ble ps.length f.ntmps=true) (hn:Nat.ble cs.length 4=true) (ho:Nat.ble (own1 cs) 1=true) (hF:∀ a,F a=ATO G f an ps cs a):Ctr.ok P k ⟨ps,cs,F⟩:=by
 refine⟨Nat.le_of_ble_eq_true ho,fun M w a vals r hM hg ha hr=>?_⟩
 have hr:F a=some r:=hr
 rw[hF] at hr
 unfold ATO at hr
 rw[hb] at hr
 have hlen:∀ (ps:List Pt) {a:D5 ps} {vals:List Value},ArgsOk M w ps a vals->vals.length=ps.length:=by
  intro ps
  induction ps with
  |nil=>intro a vals h;have h:vals=[]:=h;rw[h];rfl
  |cons p ps ih=>intro a vals h;obtain⟨v,r,rfl,_,h3⟩:=h;simp[ih h3]
 have h0:Holds (P:=P) w [] M ⟨ABF 0 ps a,[],[],[]⟩ (P0 0 vals) w:=by
  refine⟨[],fun _=>undef,fun _=>[],fun _=>[],fun _=>0,⟨Hp.start hM,(fun i a h=>by cases h),(fun i j a b h=>by cases h),(fun i a h=>by cases h),fun t s h=>?_,⟨trivial,hg⟩⟩⟩
  exact AFx ps 0 ha t s h
 have fin:∀ σ' L' w',U0 G cs f.results.toList σ'=some r->Holds (P:=P) w [] M σ' L' w'->ABL P f (fun e w'=>∃ vs,e=.returned (ABz vs)/\KsOk (P:=P) M (X0 cs vs++M) w w' cs r vs/\Ext w w') [] L' w':=fun σ' L' w' h1 hH=>by
  obtain⟨vs,h2,h3,h4,h5⟩:=ALq hG hH h1
  exact M9 (by simp) h2 (by rw[h3];exact hn) ⟨vs,by rw[AEa],h4,h5⟩
 refine F9 hf hb rfl (by rw[hlen ps ha];exact hl) ?_
 exact AGt hG c an hr h0 (fun σ' L' w' h1 _ hH=>fin σ' L' w' h1 hH) fun r' σ' L' w' hp hk hH=>by
  have hk:r'=r:=Option.some.inj hk
  subst hk
  exact fin σ' L' w' hp hH
end Go.Rx
set_option maxRecDepth 20000
set_option maxHeartbeats 4000000
namespace Go.Proofs.YtgioiejbphljoaaGreatDoor
open Go Go.Sx Go.Rx Go.RowKit
variable [Trk]
@[ext] structure Terms where
 answer:Int
 mark:Int
 lately:Int
def TermsE:Enc Terms:=Q2 (fun x=>(x.answer,(x.mark,x.lately))) (B2 (B3 .i64) (B2 (B3 .i64) ((B3 .i64))))
attribute [grind ext] Terms.ext
instance:DecidableEq Terms:=fun x y=>decidable_of_iff (x.answer=y.answer/\x.mark=y.mark/\x.lately=y.lately) ⟨fun⟨h0,h1,h2⟩=>Terms.ext h0 h1 h2,fun h=>by subst h;exact⟨rfl,rfl,rfl⟩⟩
theorem AKs {M:List Nat} {w:World} {cs:List Value} {x:Terms}:TermsE.R M w cs x↔cs=[Value.int IntKind.i64 x.answer,Value.int IntKind.i64 x.mark,Value.int IntKind.i64 x.lately]/\InK .i64 x.answer/\InK .i64 x.mark/\InK .i64 x.lately:=by
 simp only[TermsE,mapE_R,prodE_R,intE_R,boolE_R,AAn]
 constructor
 . rintro⟨_,_,rfl,⟨rfl,h0⟩,⟨_,_,rfl,⟨rfl,h1⟩,⟨rfl,h2⟩⟩⟩
   exact⟨rfl,h0,h1,h2⟩
 . rintro⟨rfl,h0,h1,h2⟩
   exact⟨[Value.int IntKind.i64 x.answer],[Value.int IntKind.i64 x.mark,Value.int IntKind.i64 x.lately],rfl,⟨rfl,h0⟩,⟨[Value.int IntKind.i64 x.mark],[Value.int IntKind.i64 x.lately],rfl,⟨rfl,h1⟩,⟨rfl,h2⟩⟩⟩
theorem APe (x y:Terms) (w:World):(Op.equalIn 10000 23 (.agg (List.toArray [Value.int IntKind.i64 x.answer,Value.int IntKind.i64 x.mark,Value.int IntKind.i64 x.lately])) (.agg (List.toArray [Value.int IntKind.i64 y.answer,Value.int IntKind.i64 y.mark,Value.int IntKind.i64 y.lately]))).run Tryz.prog w=.ok (decide (x=y)) w:=by
 have hf:Tryz.prog.underlying 23=some (.struct (Tryz.prog.fieldsOf 23)):=by simp[Program.fieldsOf,Tryz.underlying23]
 rw[show (10000:Nat)=9999+1 from rfl,run_equalIn_agg w 9999 23 _ _ hf Tryz.stoodInHeld23]
 have h0:decide (x=y)=(decide (x.answer=y.answer)&&decide (x.mark=y.mark)&&decide (x.lately=y.lately)):=by
  rw[Bool.eq_iff_iff];simp only[decide_eq_true_eq,Bool.and_eq_true];constructor
  . rintro rfl;simp
  . intro h;apply Terms.ext <;> simp_all
 rw[h0]
 simp[Program.fieldsOf,Tryz.underlying23,Op.eqFields,part,Tryz.isAgg3,run_equalIn_int w 9998 3 .i64 .i64 _ _ Tryz.underlying3]
 repeat' split
 all_goals simp_all
@[ext] structure Report where
 id:Int
 source:Int
 account:Int
 made:Int
 about:Int
 kind:Int
 cents:Int
 of_:Int
def ReportE:Enc Report:=Q2 (fun x=>(x.id,(x.source,(x.account,(x.made,(x.about,(x.kind,(x.cents,x.of_)))))))) (B2 (B3 .i64) (B2 (B3 .i64) (B2 (B3 .i64) (B2 (B3 .i64) (B2 (B3 .i64) (B2 (B3 .u8) (B2 (B3 .i64) ((B3 .i64)))))))))
attribute [grind ext] Report.ext
instance:DecidableEq Report:=fun x y=>decidable_of_iff (x.id=y.id/\x.source=y.source/\x.account=y.account/\x.made=y.made/\x.about=y.about/\x.kind=y.kind/\x.cents=y.cents/\x.of_=y.of_) ⟨fun⟨h0,h1,h2,h3,h4,h5,h6,h7⟩=>Report.ext h0 h1 h2 h3 h4 h5 h6 h7,fun h=>by subst h;exact⟨rfl,rfl,rfl,rfl,rfl,rfl,rfl,rfl⟩⟩
theorem ReportE_R {M:List Nat} {w:World} {cs:List Value} {x:Report}:ReportE.R M w cs x↔cs=[Value.int IntKind.i64 x.id,Value.int IntKind.i64 x.source,Value.int IntKind.i64 x.account,Value.int IntKind.i64 x.made,Value.int IntKind.i64 x.about,Value.int IntKind.u8 x.kind,Value.int IntKind.i64 x.cents,Value.int IntKind.i64 x.of_]/\InK .i64 x.id/\InK .i64 x.source/\InK .i64 x.account/\InK .i64 x.made/\InK .i64 x.about/\InK .u8 x.kind/\InK .i64 x.cents/\InK .i64 x.of_:=by
 simp only[ReportE,mapE_R,prodE_R,intE_R,boolE_R,AAn]
 constructor
 . rintro⟨_,_,rfl,⟨rfl,h0⟩,⟨_,_,rfl,⟨rfl,h1⟩,⟨_,_,rfl,⟨rfl,h2⟩,⟨_,_,rfl,⟨rfl,h3⟩,⟨_,_,rfl,⟨rfl,h4⟩,⟨_,_,rfl,⟨rfl,h5⟩,⟨_,_,rfl,⟨rfl,h6⟩,⟨rfl,h7⟩⟩⟩⟩⟩⟩⟩⟩
   exact⟨rfl,h0,h1,h2,h3,h4,h5,h6,h7⟩
 . rintro⟨rfl,h0,h1,h2,h3,h4,h5,h6,h7⟩
   exact⟨[Value.int IntKind.i64 x.id],[Value.int IntKind.i64 x.source,Value.int IntKind.i64 x.account,Value.int IntKind.i64 x.made,Value.int IntKind.i64 x.about,Value.int IntKind.u8 x.kind,Value.int IntKind.i64 x.cents,Value.int IntKind.i64 x.of_],rfl,⟨rfl,h0⟩,⟨[Value.int IntKind.i64 x.source],[Value.int IntKind.i64 x.account,Value.int IntKind.i64 x.made,Value.int IntKind.i64 x.about,Value.int IntKind.u8 x.kind,Value.int IntKind.i64 x.cents,Value.int IntKind.i64 x.of_],rfl,⟨rfl,h1⟩,⟨[Value.int IntKind.i64 x.account],[Value.int IntKind.i64 x.made,Value.int IntKind.i64 x.about,Value.int IntKind.u8 x.kind,Value.int IntKind.i64 x.cents,Value.int IntKind.i64 x.of_],rfl,⟨rfl,h2⟩,⟨[Value.int IntKind.i64 x.made],[Value.int IntKind.i64 x.about,Value.int IntKind.u8 x.kind,Value.int IntKind.i64 x.cents,Value.int IntKind.i64 x.of_],rfl,⟨rfl,h3⟩,⟨[Value.int IntKind.i64 x.about],[Value.int IntKind.u8 x.kind,Value.int IntKind.i64 x.cents,Value.int IntKind.i64 x.of_],rfl,⟨rfl,h4⟩,⟨[Value.int IntKind.u8 x.kind],[Value.int IntKind.i64 x.cents,Value.int IntKind.i64 x.of_],rfl,⟨rfl,h5⟩,⟨[Value.int IntKind.i64 x.cents],[Value.int IntKind.i64 x.of_],rfl,⟨rfl,h6⟩,⟨rfl,h7⟩⟩⟩⟩⟩⟩⟩⟩
theorem AOG (x y:Report) (w:World):(Op.equalIn 10000 45 (.agg (List.toArray [Value.int IntKind.i64 x.id,Value.int IntKind.i64 x.source,Value.int IntKind.i64 x.account,Value.int IntKind.i64 x.made,Value.int IntKind.i64 x.about,Value.int IntKind.u8 x.kind,Value.int IntKind.i64 x.cents,Value.int IntKind.i64 x.of_])) (.agg (List.toArray [Value.int IntKind.i64 y.id,Value.int IntKind.i64 y.source,Value.int IntKind.i64 y.account,Value.int IntKind.i64 y.made,Value.int IntKind.i64 y.about,Value.int IntKind.u8 y.kind,Value.int IntKind.i64 y.cents,Value.int IntKind.i64 y.of_]))).run Tryz.prog w=.ok (decide (x=y)) w:=by
 have hf:Tryz.prog.underlying 45=some (.struct (Tryz.prog.fieldsOf 45)):=by simp[Program.fieldsOf,Tryz.underlying45]
 rw[show (10000:Nat)=9999+1 from rfl,run_equalIn_agg w 9999 45 _ _ hf Tryz.stoodInHeld45]
 have h0:decide (x=y)=(decide (x.id=y.id)&&decide (x.source=y.source)&&decide (x.account=y.account)&&decide (x.made=y.made)&&decide (x.about=y.about)&&decide (x.kind=y.kind)&&decide (x.cents=y.cents)&&decide (x.of_=y.of_)):=by
  rw[Bool.eq_iff_iff];simp only[decide_eq_true_eq,Bool.and_eq_true];constructor
  . rintro rfl;simp
  . intro h;apply Report.ext <;> simp_all
 rw[h0]
 simp[Program.fieldsOf,Tryz.underlying45,Op.eqFields,part,Tryz.isAgg3,run_equalIn_int w 9998 3 .i64 .i64 _ _ Tryz.underlying3,Tryz.isAgg5,run_equalIn_int w 9998 5 .u8 .u8 _ _ Tryz.underlying5]
 repeat' split
 all_goals simp_all
@[ext] structure Dispute where
 id:Int
 report:Int
 day:Int
def DisputeE:Enc Dispute:=Q2 (fun x=>(x.id,(x.report,x.day))) (B2 (B3 .i64) (B2 (B3 .i64) ((B3 .i64))))
attribute [grind ext] Dispute.ext
instance:DecidableEq Dispute:=fun x y=>decidable_of_iff (x.id=y.id/\x.report=y.report/\x.day=y.day) ⟨fun⟨h0,h1,h2⟩=>Dispute.ext h0 h1 h2,fun h=>by subst h;exact⟨rfl,rfl,rfl⟩⟩
theorem DisputeE_R {M:List Nat} {w:World} {cs:List Value} {x:Dispute}:DisputeE.R M w cs x↔cs=[Value.int IntKind.i64 x.id,Value.int IntKind.i64 x.report,Value.int IntKind.i64 x.day]/\InK .i64 x.id/\InK .i64 x.report/\InK .i64 x.day:=by
 simp only[DisputeE,mapE_R,prodE_R,intE_R,boolE_R,AAn]
 constructor
 . rintro⟨_,_,rfl,⟨rfl,h0⟩,⟨_,_,rfl,⟨rfl,h1⟩,⟨rfl,h2⟩⟩⟩
   exact⟨rfl,h0,h1,h2⟩
 . rintro⟨rfl,h0,h1,h2⟩
   exact⟨[Value.int IntKind.i64 x.id],[Value.int IntKind.i64 x.report,Value.int IntKind.i64 x.day],rfl,⟨rfl,h0⟩,⟨[Value.int IntKind.i64 x.report],[Value.int IntKind.i64 x.day],rfl,⟨rfl,h1⟩,⟨rfl,h2⟩⟩⟩
theorem AMt (x y:Dispute) (w:World):(Op.equalIn 10000 53 (.agg (List.toArray [Value.int IntKind.i64 x.id,Value.int IntKind.i64 x.report,Value.int IntKind.i64 x.day])) (.agg (List.toArray [Value.int IntKind.i64 y.id,Value.int IntKind.i64 y.report,Value.int IntKind.i64 y.day]))).run Tryz.prog w=.ok (decide (x=y)) w:=by
 have hf:Tryz.prog.underlying 53=some (.struct (Tryz.prog.fieldsOf 53)):=by simp[Program.fieldsOf,Tryz.underlying53]
 rw[show (10000:Nat)=9999+1 from rfl,run_equalIn_agg w 9999 53 _ _ hf Tryz.stoodInHeld53]
 have h0:decide (x=y)=(decide (x.id=y.id)&&decide (x.report=y.report)&&decide (x.day=y.day)):=by
  rw[Bool.eq_iff_iff];simp only[decide_eq_true_eq,Bool.and_eq_true];constructor
  . rintro rfl;simp
  . intro h;apply Dispute.ext <;> simp_all
 rw[h0]
 simp[Program.fieldsOf,Tryz.underlying53,Op.eqFields,part,Tryz.isAgg3,run_equalIn_int w 9998 3 .i64 .i64 _ _ Tryz.underlying3]
 repeat' split
 all_goals simp_all
@[ext] structure Answer where
 id:Int
 dispute:Int
 day:Int
 says:Int
 about:Int
 cents:Int
def AnswerE:Enc Answer:=Q2 (fun x=>(x.id,(x.dispute,(x.day,(x.says,(x.about,x.cents)))))) (B2 (B3 .i64) (B2 (B3 .i64) (B2 (B3 .i64) (B2 (B3 .u8) (B2 (B3 .i64) ((B3 .i64)))))))
attribute [grind ext] Answer.ext
instance:DecidableEq Answer:=fun x y=>decidable_of_iff (x.id=y.id/\x.dispute=y.dispute/\x.day=y.day/\x.says=y.says/\x.about=y.about/\x.cents=y.cents) ⟨fun⟨h0,h1,h2,h3,h4,h5⟩=>Answer.ext h0 h1 h2 h3 h4 h5,fun h=>by subst h;exact⟨rfl,rfl,rfl,rfl,rfl,rfl⟩⟩
theorem AnswerE_R {M:List Nat} {w:World} {cs:List Value} {x:Answer}:AnswerE.R M w cs x↔cs=[Value.int IntKind.i64 x.id,Value.int IntKind.i64 x.dispute,Value.int IntKind.i64 x.day,Value.int IntKind.u8 x.says,Value.int IntKind.i64 x.about,Value.int IntKind.i64 x.cents]/\InK .i64 x.id/\InK .i64 x.dispute/\InK .i64 x.day/\InK .u8 x.says/\InK .i64 x.about/\InK .i64 x.cents:=by
 simp only[AnswerE,mapE_R,prodE_R,intE_R,boolE_R,AAn]
 constructor
 . rintro⟨_,_,rfl,⟨rfl,h0⟩,⟨_,_,rfl,⟨rfl,h1⟩,⟨_,_,rfl,⟨rfl,h2⟩,⟨_,_,rfl,⟨rfl,h3⟩,⟨_,_,rfl,⟨rfl,h4⟩,⟨rfl,h5⟩⟩⟩⟩⟩⟩
   exact⟨rfl,h0,h1,h2,h3,h4,h5⟩
 . rintro⟨rfl,h0,h1,h2,h3,h4,h5⟩
   exact⟨[Value.int IntKind.i64 x.id],[Value.int IntKind.i64 x.dispute,Value.int IntKind.i64 x.day,Value.int IntKind.u8 x.says,Value.int IntKind.i64 x.about,Value.int IntKind.i64 x.cents],rfl,⟨rfl,h0⟩,⟨[Value.int IntKind.i64 x.dispute],[Value.int IntKind.i64 x.day,Value.int IntKind.u8 x.says,Value.int IntKind.i64 x.about,Value.int IntKind.i64 x.cents],rfl,⟨rfl,h1⟩,⟨[Value.int IntKind.i64 x.day],[Value.int IntKind.u8 x.says,Value.int IntKind.i64 x.about,Value.int IntKind.i64 x.cents],rfl,⟨rfl,h2⟩,⟨[Value.int IntKind.u8 x.says],[Value.int IntKind.i64 x.about,Value.int IntKind.i64 x.cents],rfl,⟨rfl,h3⟩,⟨[Value.int IntKind.i64 x.about],[Value.int IntKind.i64 x.cents],rfl,⟨rfl,h4⟩,⟨rfl,h5⟩⟩⟩⟩⟩⟩
theorem AOH (x y:Answer) (w:World):(Op.equalIn 10000 60 (.agg (List.toArray [Value.int IntKind.i64 x.id,Value.int IntKind.i64 x.dispute,Value.int IntKind.i64 x.day,Value.int IntKind.u8 x.says,Value.int IntKind.i64 x.about,Value.int IntKind.i64 x.cents])) (.agg (List.toArray [Value.int IntKind.i64 y.id,Value.int IntKind.i64 y.dispute,Value.int IntKind.i64 y.day,Value.int IntKind.u8 y.says,Value.int IntKind.i64 y.about,Value.int IntKind.i64 y.cents]))).run Tryz.prog w=.ok (decide (x=y)) w:=by
 have hf:Tryz.prog.underlying 60=some (.struct (Tryz.prog.fieldsOf 60)):=by simp[Program.fieldsOf,Tryz.underlying60]
 rw[show (10000:Nat)=9999+1 from rfl,run_equalIn_agg w 9999 60 _ _ hf Tryz.stoodInHeld60]
 have h0:decide (x=y)=(decide (x.id=y.id)&&decide (x.dispute=y.dispute)&&decide (x.day=y.day)&&decide (x.says=y.says)&&decide (x.about=y.about)&&decide (x.cents=y.cents)):=by
  rw[Bool.eq_iff_iff];simp only[decide_eq_true_eq,Bool.and_eq_true];constructor
  . rintro rfl;simp
  . intro h;apply Answer.ext <;> simp_all
 rw[h0]
 simp[Program.fieldsOf,Tryz.underlying60,Op.eqFields,part,Tryz.isAgg3,run_equalIn_int w 9998 3 .i64 .i64 _ _ Tryz.underlying3,Tryz.isAgg5,run_equalIn_int w 9998 5 .u8 .u8 _ _ Tryz.underlying5]
 repeat' split
 all_goals simp_all
@[ext] structure Desk where
 terms:Terms
 reports:(List Report)
 disputes:(List Dispute)
 answers:(List Answer)
 deriving DecidableEq
def DeskE:Enc Desk:=Q2 (fun x=>(x.terms.answer,(x.terms.mark,(x.terms.lately,(x.reports,(x.disputes,x.answers)))))) (B2 (B3 .i64) (B2 (B3 .i64) (B2 (B3 .i64) (B2 (E0 ReportE) (B2 (E0 DisputeE) (E0 AnswerE))))))
@[ext] structure Asked where
 id:Int
 who:Int
 account:Int
 day:Int
def AskedE:Enc Asked:=Q2 (fun x=>(x.id,(x.who,(x.account,x.day)))) (B2 (B3 .i64) (B2 (B3 .i64) (B2 (B3 .i64) ((B3 .i64)))))
attribute [grind ext] Asked.ext
instance:DecidableEq Asked:=fun x y=>decidable_of_iff (x.id=y.id/\x.who=y.who/\x.account=y.account/\x.day=y.day) ⟨fun⟨h0,h1,h2,h3⟩=>Asked.ext h0 h1 h2 h3,fun h=>by subst h;exact⟨rfl,rfl,rfl,rfl⟩⟩
theorem AGu {M:List Nat} {w:World} {cs:List Value} {x:Asked}:AskedE.R M w cs x↔cs=[Value.int IntKind.i64 x.id,Value.int IntKind.i64 x.who,Value.int IntKind.i64 x.account,Value.int IntKind.i64 x.day]/\InK .i64 x.id/\InK .i64 x.who/\InK .i64 x.account/\InK .i64 x.day:=by
 simp only[AskedE,mapE_R,prodE_R,intE_R,boolE_R,AAn]
 constructor
 . rintro⟨_,_,rfl,⟨rfl,h0⟩,⟨_,_,rfl,⟨rfl,h1⟩,⟨_,_,rfl,⟨rfl,h2⟩,⟨rfl,h3⟩⟩⟩⟩
   exact⟨rfl,h0,h1,h2,h3⟩
 . rintro⟨rfl,h0,h1,h2,h3⟩
   exact⟨[Value.int IntKind.i64 x.id],[Value.int IntKind.i64 x.who,Value.int IntKind.i64 x.account,Value.int IntKind.i64 x.day],rfl,⟨rfl,h0⟩,⟨[Value.int IntKind.i64 x.who],[Value.int IntKind.i64 x.account,Value.int IntKind.i64 x.day],rfl,⟨rfl,h1⟩,⟨[Value.int IntKind.i64 x.account],[Value.int IntKind.i64 x.day],rfl,⟨rfl,h2⟩,⟨rfl,h3⟩⟩⟩⟩
theorem APf (x y:Asked) (w:World):(Op.equalIn 10000 47 (.agg (List.toArray [Value.int IntKind.i64 x.id,Value.int IntKind.i64 x.who,Value.int IntKind.i64 x.account,Value.int IntKind.i64 x.day])) (.agg (List.toArray [Value.int IntKind.i64 y.id,Value.int IntKind.i64 y.who,Value.int IntKind.i64 y.account,Value.int IntKind.i64 y.day]))).run Tryz.prog w=.ok (decide (x=y)) w:=by
 have hf:Tryz.prog.underlying 47=some (.struct (Tryz.prog.fieldsOf 47)):=by simp[Program.fieldsOf,Tryz.underlying47]
 rw[show (10000:Nat)=9999+1 from rfl,run_equalIn_agg w 9999 47 _ _ hf Tryz.stoodInHeld47]
 have h0:decide (x=y)=(decide (x.id=y.id)&&decide (x.who=y.who)&&decide (x.account=y.account)&&decide (x.day=y.day)):=by
  rw[Bool.eq_iff_iff];simp only[decide_eq_true_eq,Bool.and_eq_true];constructor
  . rintro rfl;simp
  . intro h;apply Asked.ext <;> simp_all
 rw[h0]
 simp[Program.fieldsOf,Tryz.underlying47,Op.eqFields,part,Tryz.isAgg3,run_equalIn_int w 9998 3 .i64 .i64 _ _ Tryz.underlying3]
 repeat' split
 all_goals simp_all
@[ext] structure Letter where
 dispute:Int
 who:Int
 asked:Int
def LetterE:Enc Letter:=Q2 (fun x=>(x.dispute,(x.who,x.asked))) (B2 (B3 .i64) (B2 (B3 .i64) ((B3 .i64))))
attribute [grind ext] Letter.ext
instance:DecidableEq Letter:=fun x y=>decidable_of_iff (x.dispute=y.dispute/\x.who=y.who/\x.asked=y.asked) ⟨fun⟨h0,h1,h2⟩=>Letter.ext h0 h1 h2,fun h=>by subst h;exact⟨rfl,rfl,rfl⟩⟩
theorem LetterE_R {M:List Nat} {w:World} {cs:List Value} {x:Letter}:LetterE.R M w cs x↔cs=[Value.int IntKind.i64 x.dispute,Value.int IntKind.i64 x.who,Value.int IntKind.i64 x.asked]/\InK .i64 x.dispute/\InK .i64 x.who/\InK .i64 x.asked:=by
 simp only[LetterE,mapE_R,prodE_R,intE_R,boolE_R,AAn]
 constructor
 . rintro⟨_,_,rfl,⟨rfl,h0⟩,⟨_,_,rfl,⟨rfl,h1⟩,⟨rfl,h2⟩⟩⟩
   exact⟨rfl,h0,h1,h2⟩
 . rintro⟨rfl,h0,h1,h2⟩
   exact⟨[Value.int IntKind.i64 x.dispute],[Value.int IntKind.i64 x.who,Value.int IntKind.i64 x.asked],rfl,⟨rfl,h0⟩,⟨[Value.int IntKind.i64 x.who],[Value.int IntKind.i64 x.asked],rfl,⟨rfl,h1⟩,⟨rfl,h2⟩⟩⟩
theorem AOI (x y:Letter) (w:World):(Op.equalIn 10000 70 (.agg (List.toArray [Value.int IntKind.i64 x.dispute,Value.int IntKind.i64 x.who,Value.int IntKind.i64 x.asked])) (.agg (List.toArray [Value.int IntKind.i64 y.dispute,Value.int IntKind.i64 y.who,Value.int IntKind.i64 y.asked]))).run Tryz.prog w=.ok (decide (x=y)) w:=by
 have hf:Tryz.prog.underlying 70=some (.struct (Tryz.prog.fieldsOf 70)):=by simp[Program.fieldsOf,Tryz.underlying70]
 rw[show (10000:Nat)=9999+1 from rfl,run_equalIn_agg w 9999 70 _ _ hf Tryz.stoodInHeld70]
 have h0:decide (x=y)=(decide (x.dispute=y.dispute)&&decide (x.who=y.who)&&decide (x.asked=y.asked)):=by
  rw[Bool.eq_iff_iff];simp only[decide_eq_true_eq,Bool.and_eq_true];constructor
  . rintro rfl;simp
  . intro h;apply Letter.ext <;> simp_all
 rw[h0]
 simp[Program.fieldsOf,Tryz.underlying70,Op.eqFields,part,Tryz.isAgg3,run_equalIn_int w 9998 3 .i64 .i64 _ _ Tryz.underlying3]
 repeat' split
 all_goals simp_all
@[ext] structure Told where
 known:Int
 cents:Int
 since:Int
 by_:(List Int)
 deriving DecidableEq
def AJQ:Enc Told:=Q2 (fun x=>(x.known,(x.cents,(x.since,x.by_)))) (B2 (B3 .u8) (B2 (B3 .i64) (B2 (B3 .i64) (E0 (B3 .i64)))))
@[ext] structure Span where
 lo:Int
 hi:Int
def SpanE:Enc Span:=Q2 (fun x=>(x.lo,x.hi)) (B2 (B3 .i64) ((B3 .i64)))
attribute [grind ext] Span.ext
instance:DecidableEq Span:=fun x y=>decidable_of_iff (x.lo=y.lo/\x.hi=y.hi) ⟨fun⟨h0,h1⟩=>Span.ext h0 h1,fun h=>by subst h;exact⟨rfl,rfl⟩⟩
theorem ALs {M:List Nat} {w:World} {cs:List Value} {x:Span}:SpanE.R M w cs x↔cs=[Value.int IntKind.i64 x.lo,Value.int IntKind.i64 x.hi]/\InK .i64 x.lo/\InK .i64 x.hi:=by
 simp only[SpanE,mapE_R,prodE_R,intE_R,boolE_R,AAn]
 constructor
 . rintro⟨_,_,rfl,⟨rfl,h0⟩,⟨rfl,h1⟩⟩
   exact⟨rfl,h0,h1⟩
 . rintro⟨rfl,h0,h1⟩
   exact⟨[Value.int IntKind.i64 x.lo],[Value.int IntKind.i64 x.hi],rfl,⟨rfl,h0⟩,⟨rfl,h1⟩⟩
theorem ARd (x y:Span) (w:World):(Op.equalIn 10000 88 (.agg (List.toArray [Value.int IntKind.i64 x.lo,Value.int IntKind.i64 x.hi])) (.agg (List.toArray [Value.int IntKind.i64 y.lo,Value.int IntKind.i64 y.hi]))).run Tryz.prog w=.ok (decide (x=y)) w:=by
 have hf:Tryz.prog.underlying 88=some (.struct (Tryz.prog.fieldsOf 88)):=by simp[Program.fieldsOf,Tryz.underlying88]
 rw[show (10000:Nat)=9999+1 from rfl,run_equalIn_agg w 9999 88 _ _ hf Tryz.stoodInHeld88]
 have h0:decide (x=y)=(decide (x.lo=y.lo)&&decide (x.hi=y.hi)):=by
  rw[Bool.eq_iff_iff];simp only[decide_eq_true_eq,Bool.and_eq_true];constructor
  . rintro rfl;simp
  . intro h;apply Span.ext <;> simp_all
 rw[h0]
 simp[Program.fieldsOf,Tryz.underlying88,Op.eqFields,part,Tryz.isAgg3,run_equalIn_int w 9998 3 .i64 .i64 _ _ Tryz.underlying3]
 repeat' split
 all_goals simp_all
@[ext] structure State where
 opened:Told
 limit:Told
 owed:Told
 late:Told
 default:Told
 closed:Told
 paid:Span
 is_:Int
 deriving DecidableEq
def AHm:Enc State:=Q2 (fun x=>(x.opened.known,(x.opened.cents,(x.opened.since,(x.opened.by_,(x.limit.known,(x.limit.cents,(x.limit.since,(x.limit.by_,(x.owed.known,(x.owed.cents,(x.owed.since,(x.owed.by_,(x.late.known,(x.late.cents,(x.late.since,(x.late.by_,(x.default.known,(x.default.cents,(x.default.since,(x.default.by_,(x.closed.known,(x.closed.cents,(x.closed.since,(x.closed.by_,(x.paid.lo,(x.paid.hi,x.is_))))))))))))))))))))))))))) (B2 (B3 .u8) (B2 (B3 .i64) (B2 (B3 .i64) (B2 (E0 (B3 .i64)) (B2 (B3 .u8) (B2 (B3 .i64) (B2 (B3 .i64) (B2 (E0 (B3 .i64)) (B2 (B3 .u8) (B2 (B3 .i64) (B2 (B3 .i64) (B2 (E0 (B3 .i64)) (B2 (B3 .u8) (B2 (B3 .i64) (B2 (B3 .i64) (B2 (E0 (B3 .i64)) (B2 (B3 .u8) (B2 (B3 .i64) (B2 (B3 .i64) (B2 (E0 (B3 .i64)) (B2 (B3 .u8) (B2 (B3 .i64) (B2 (B3 .i64) (B2 (E0 (B3 .i64)) (B2 (B3 .i64) (B2 (B3 .i64) (B3 .u8)))))))))))))))))))))))))))
@[ext] structure Desk_99 where
 desk:Desk
 facts:(A4 Int Report)
 answers:(A4 Int (List Answer))
def APg:Enc Desk_99:=Q2 (fun x=>(x.desk.terms.answer,(x.desk.terms.mark,(x.desk.terms.lately,(x.desk.reports,(x.desk.disputes,(x.desk.answers,(x.facts,x.answers)))))))) (B2 (B3 .i64) (B2 (B3 .i64) (B2 (B3 .i64) (B2 (E0 ReportE) (B2 (E0 DisputeE) (B2 (E0 AnswerE) (B2 (mpE (some (V2 .i64 Tryz.underlying3)) ReportE true) (mpE (some (V2 .i64 Tryz.underlying3)) (E0 AnswerE) false))))))))
@[ext] structure Arr116 where
 x0:Int
 x1:Int
 deriving DecidableEq
def AFy:Enc Arr116:=Q2 (fun x=>(x.x0,x.x1)) (B2 (B3 .i64) (B3 .i64))
@[ext] structure Verdict where
 day:Int
 is_:Int
 by_:Answer
 deriving DecidableEq
def AEb:Enc Verdict:=Q2 (fun x=>(x.day,(x.is_,(x.by_.id,(x.by_.dispute,(x.by_.day,(x.by_.says,(x.by_.about,x.by_.cents)))))))) (B2 (B3 .i64) (B2 (B3 .u8) (B2 (B3 .i64) (B2 (B3 .i64) (B2 (B3 .i64) (B2 (B3 .u8) (B2 (B3 .i64) (B3 .i64))))))))
@[ext] structure Store where
 reports:(A4 Int Report)
def ATP:Enc Store:=Q2 (fun x=>x.reports) (mpE (some (V2 .i64 Tryz.underlying3)) ReportE true)
@[ext] structure Desk_139 where
 store:Store
 gone:(A4 Int Int)
 fixed:(A4 Int Int)
def AOJ:Enc Desk_139:=Q2 (fun x=>(x.store.reports,(x.gone,x.fixed))) (B2 (mpE (some (V2 .i64 Tryz.underlying3)) ReportE true) (B2 (mpE (some (V2 .i64 Tryz.underlying3)) (B3 .i64) false) (mpE (some (V2 .i64 Tryz.underlying3)) (B3 .i64) false)))
@[ext] structure Book where
 facts:(List Report)
 deriving DecidableEq
def AJR:Enc Book:=Q2 (fun x=>x.facts) (E0 ReportE)
@[ext] structure Payer where
 day:Int
 source:Int
 deriving DecidableEq
def AHn:Enc Payer:=Q2 (fun x=>(x.day,x.source)) (B2 (B3 .i64) (B3 .i64))
instance:Sg where
 S:=fun
  |0=>Terms
  |1=>Report
  |2=>Dispute
  |3=>Answer
  |4=>Desk
  |5=>Asked
  |6=>Letter
  |7=>Told
  |8=>Span
  |9=>State
  |10=>Desk_99
  |11=>Arr116
  |12=>Verdict
  |13=>Store
  |14=>Desk_139
  |15=>Book
  |16=>Payer
  |_+17=>Bool
def glob0:List Int:=[0,0,1000000000000,1000000000000,1000000000000,10000,1000000000000,0,1000000000000,0]
noncomputable def AFz:A4 Int Int:=(B7 (B7 (B7 fnone 1 2) 2 3) 3 4)
noncomputable instance:Sf where
 ft:=fun
  |0=>[(.int .i64),(.int .i64),(.int .i64)]
  |1=>[(.int .i64),(.int .i64),(.int .i64),(.int .i64),(.int .i64),(.int .u8),(.int .i64),(.int .i64)]
  |2=>[(.int .i64),(.int .i64),(.int .i64)]
  |3=>[(.int .i64),(.int .i64),(.int .i64),(.int .u8),(.int .i64),(.int .i64)]
  |4=>[(.int .i64),(.int .i64),(.int .i64),(.sl (.st 1)),(.sl (.st 2)),(.sl (.st 3))]
  |5=>[(.int .i64),(.int .i64),(.int .i64),(.int .i64)]
  |6=>[(.int .i64),(.int .i64),(.int .i64)]
  |7=>[(.int .u8),(.int .i64),(.int .i64),(.sl (.int .i64))]
  |8=>[(.int .i64),(.int .i64)]
  |9=>[(.int .u8),(.int .i64),(.int .i64),(.sl (.int .i64)),(.int .u8),(.int .i64),(.int .i64),(.sl (.int .i64)),(.int .u8),(.int .i64),(.int .i64),(.sl (.int .i64)),(.int .u8),(.int .i64),(.int .i64),(.sl (.int .i64)),(.int .u8),(.int .i64),(.int .i64),(.sl (.int .i64)),(.int .u8),(.int .i64),(.int .i64),(.sl (.int .i64)),(.int .i64),(.int .i64),(.int .u8)]
  |10=>[(.int .i64),(.int .i64),(.int .i64),(.sl (.st 1)),(.sl (.st 2)),(.sl (.st 3)),(.mp 3 (.int .i64) (.st 1)),(.mp 3 (.int .i64) (.sl (.st 3)))]
  |11=>[(.int .i64),(.int .i64)]
  |12=>[(.int .i64),(.int .u8),(.int .i64),(.int .i64),(.int .i64),(.int .u8),(.int .i64),(.int .i64)]
  |13=>[(.mp 3 (.int .i64) (.st 1))]
  |14=>[(.mp 3 (.int .i64) (.st 1)),(.mp 3 (.int .i64) (.int .i64)),(.mp 3 (.int .i64) (.int .i64))]
  |15=>[(.sl (.st 1))]
  |16=>[(.int .i64),(.int .i64)]
  |_+17=>[.bool]
 un:=fun
  |0=>fun (x:Terms)=>(x.answer,(x.mark,x.lately))
  |1=>fun (x:Report)=>(x.id,(x.source,(x.account,(x.made,(x.about,(x.kind,(x.cents,x.of_)))))))
  |2=>fun (x:Dispute)=>(x.id,(x.report,x.day))
  |3=>fun (x:Answer)=>(x.id,(x.dispute,(x.day,(x.says,(x.about,x.cents)))))
  |4=>fun (x:Desk)=>(x.terms.answer,(x.terms.mark,(x.terms.lately,(x.reports,(x.disputes,x.answers)))))
  |5=>fun (x:Asked)=>(x.id,(x.who,(x.account,x.day)))
  |6=>fun (x:Letter)=>(x.dispute,(x.who,x.asked))
  |7=>fun (x:Told)=>(x.known,(x.cents,(x.since,x.by_)))
  |8=>fun (x:Span)=>(x.lo,x.hi)
  |9=>fun (x:State)=>(x.opened.known,(x.opened.cents,(x.opened.since,(x.opened.by_,(x.limit.known,(x.limit.cents,(x.limit.since,(x.limit.by_,(x.owed.known,(x.owed.cents,(x.owed.since,(x.owed.by_,(x.late.known,(x.late.cents,(x.late.since,(x.late.by_,(x.default.known,(x.default.cents,(x.default.since,(x.default.by_,(x.closed.known,(x.closed.cents,(x.closed.since,(x.closed.by_,(x.paid.lo,(x.paid.hi,x.is_))))))))))))))))))))))))))
  |10=>fun (x:Desk_99)=>(x.desk.terms.answer,(x.desk.terms.mark,(x.desk.terms.lately,(x.desk.reports,(x.desk.disputes,(x.desk.answers,(x.facts,x.answers)))))))
  |11=>fun (x:Arr116)=>(x.x0,x.x1)
  |12=>fun (x:Verdict)=>(x.day,(x.is_,(x.by_.id,(x.by_.dispute,(x.by_.day,(x.by_.says,(x.by_.about,x.by_.cents)))))))
  |13=>fun (x:Store)=>x.reports
  |14=>fun (x:Desk_139)=>(x.store.reports,(x.gone,x.fixed))
  |15=>fun (x:Book)=>x.facts
  |16=>fun (x:Payer)=>(x.day,x.source)
  |_+17=>fun (x:Bool)=>x
 mkS:=fun
  |0=>fun (x:Int×Int×Int)=>(Terms.mk x.1 x.2.1 x.2.2)
  |1=>fun (x:Int×Int×Int×Int×Int×Int×Int×Int)=>(Report.mk x.1 x.2.1 x.2.2.1 x.2.2.2.1 x.2.2.2.2.1 x.2.2.2.2.2.1 x.2.2.2.2.2.2.1 x.2.2.2.2.2.2.2)
  |2=>fun (x:Int×Int×Int)=>(Dispute.mk x.1 x.2.1 x.2.2)
  |3=>fun (x:Int×Int×Int×Int×Int×Int)=>(Answer.mk x.1 x.2.1 x.2.2.1 x.2.2.2.1 x.2.2.2.2.1 x.2.2.2.2.2)
  |4=>fun (x:Int×Int×Int×(List Report)×(List Dispute)×(List Answer))=>(Desk.mk (Terms.mk x.1 x.2.1 x.2.2.1) x.2.2.2.1 x.2.2.2.2.1 x.2.2.2.2.2)
  |5=>fun (x:Int×Int×Int×Int)=>(Asked.mk x.1 x.2.1 x.2.2.1 x.2.2.2)
  |6=>fun (x:Int×Int×Int)=>(Letter.mk x.1 x.2.1 x.2.2)
  |7=>fun (x:Int×Int×Int×(List Int))=>(Told.mk x.1 x.2.1 x.2.2.1 x.2.2.2)
  |8=>fun (x:Int×Int)=>(Span.mk x.1 x.2)
  |9=>fun (x:Int×Int×Int×(List Int)×Int×Int×Int×(List Int)×Int×Int×Int×(List Int)×Int×Int×Int×(List Int)×Int×Int×Int×(List Int)×Int×Int×Int×(List Int)×Int×Int×Int)=>(State.mk (Told.mk x.1 x.2.1 x.2.2.1 x.2.2.2.1) (Told.mk x.2.2.2.2.1 x.2.2.2.2.2.1 x.2.2.2.2.2.2.1 x.2.2.2.2.2.2.2.1) (Told.mk x.2.2.2.2.2.2.2.2.1 x.2.2.2.2.2.2.2.2.2.1 x.2.2.2.2.2.2.2.2.2.2.1 x.2.2.2.2.2.2.2.2.2.2.2.1) (Told.mk x.2.2.2.2.2.2.2.2.2.2.2.2.1 x.2.2.2.2.2.2.2.2.2.2.2.2.2.1 x.2.2.2.2.2.2.2.2.2.2.2.2.2.2.1 x.2.2.2.2.2.2.2.2.2.2.2.2.2.2.2.1) (Told.mk x.2.2.2.2.2.2.2.2.2.2.2.2.2.2.2.2.1 x.2.2.2.2.2.2.2.2.2.2.2.2.2.2.2.2.2.1 x.2.2.2.2.2.2.2.2.2.2.2.2.2.2.2.2.2.2.1 x.2.2.2.2.2.2.2.2.2.2.2.2.2.2.2.2.2.2.2.1) (Told.mk x.2.2.2.2.2.2.2.2.2.2.2.2.2.2.2.2.2.2.2.2.1 x.2.2.2.2.2.2.2.2.2.2.2.2.2.2.2.2.2.2.2.2.2.1 x.2.2.2.2.2.2.2.2.2.2.2.2.2.2.2.2.2.2.2.2.2.2.1 x.2.2.2.2.2.2.2.2.2.2.2.2.2.2.2.2.2.2.2.2.2.2.2.1) (Span.mk x.2.2.2.2.2.2.2.2.2.2.2.2.2.2.2.2.2.2.2.2.2.2.2.2.1 x.2.2.2.2.2.2.2.2.2.2.2.2.2.2.2.2.2.2.2.2.2.2.2.2.2.1) x.2.2.2.2.2.2.2.2.2.2.2.2.2.2.2.2.2.2.2.2.2.2.2.2.2.2)
  |10=>fun (x:Int×Int×Int×(List Report)×(List Dispute)×(List Answer)×(A4 Int Report)×(A4 Int (List Answer)))=>(Desk_99.mk (Desk.mk (Terms.mk x.1 x.2.1 x.2.2.1) x.2.2.2.1 x.2.2.2.2.1 x.2.2.2.2.2.1) x.2.2.2.2.2.2.1 x.2.2.2.2.2.2.2)
  |11=>fun (x:Int×Int)=>(Arr116.mk x.1 x.2)
  |12=>fun (x:Int×Int×Int×Int×Int×Int×Int×Int)=>(Verdict.mk x.1 x.2.1 (Answer.mk x.2.2.1 x.2.2.2.1 x.2.2.2.2.1 x.2.2.2.2.2.1 x.2.2.2.2.2.2.1 x.2.2.2.2.2.2.2))
  |13=>fun (x:(A4 Int Report))=>(Store.mk x)
  |14=>fun (x:(A4 Int Report)×(A4 Int Int)×(A4 Int Int))=>(Desk_139.mk (Store.mk x.1) x.2.1 x.2.2)
  |15=>fun (x:(List Report))=>(Book.mk x)
  |16=>fun (x:Int×Int)=>(Payer.mk x.1 x.2)
  |_+17=>fun (x:Bool)=>x
 eq:=fun
  |0=>fun (x y:Terms)=>decide (x=y)
  |1=>fun (x y:Report)=>decide (x=y)
  |2=>fun (x y:Dispute)=>decide (x=y)
  |3=>fun (x y:Answer)=>decide (x=y)
  |4=>fun (x y:Desk)=>decide (x=y)
  |5=>fun (x y:Asked)=>decide (x=y)
  |6=>fun (x y:Letter)=>decide (x=y)
  |7=>fun (x y:Told)=>decide (x=y)
  |8=>fun (x y:Span)=>decide (x=y)
  |9=>fun (x y:State)=>decide (x=y)
  |10=>fun (x y:Desk_99)=>false
  |11=>fun (x y:Arr116)=>decide (x=y)
  |12=>fun (x y:Verdict)=>decide (x=y)
  |13=>fun (x y:Store)=>false
  |14=>fun (x y:Desk_139)=>false
  |15=>fun (x y:Book)=>decide (x=y)
  |16=>fun (x y:Payer)=>decide (x=y)
  |_+17=>fun _ _=>false
 dec:=fun
  |0=>inferInstanceAs (DecidableEq Terms)
  |1=>inferInstanceAs (DecidableEq Report)
  |2=>inferInstanceAs (DecidableEq Dispute)
  |3=>inferInstanceAs (DecidableEq Answer)
  |4=>inferInstanceAs (DecidableEq Desk)
  |5=>inferInstanceAs (DecidableEq Asked)
  |6=>inferInstanceAs (DecidableEq Letter)
  |7=>inferInstanceAs (DecidableEq Told)
  |8=>inferInstanceAs (DecidableEq Span)
  |9=>inferInstanceAs (DecidableEq State)
  |10=>fun _ _=>Classical.propDecidable _
  |11=>inferInstanceAs (DecidableEq Arr116)
  |12=>inferInstanceAs (DecidableEq Verdict)
  |13=>fun _ _=>Classical.propDecidable _
  |14=>fun _ _=>Classical.propDecidable _
  |15=>inferInstanceAs (DecidableEq Book)
  |16=>inferInstanceAs (DecidableEq Payer)
  |_+17=>inferInstanceAs (DecidableEq Bool)
 un_mk:=fun n x=>by
  match n,x with
  |0,_=>rfl
  |1,_=>rfl
  |2,_=>rfl
  |3,_=>rfl
  |4,_=>rfl
  |5,_=>rfl
  |6,_=>rfl
  |7,_=>rfl
  |8,_=>rfl
  |9,_=>rfl
  |10,_=>rfl
  |11,_=>rfl
  |12,_=>rfl
  |13,_=>rfl
  |14,_=>rfl
  |15,_=>rfl
  |16,_=>rfl
  |_+17,_=>rfl
 leaf:=fun n=>by
  match n with
  |0=>rfl
  |1=>rfl
  |2=>rfl
  |3=>rfl
  |4=>rfl
  |5=>rfl
  |6=>rfl
  |7=>rfl
  |8=>rfl
  |9=>rfl
  |10=>rfl
  |11=>rfl
  |12=>rfl
  |13=>rfl
  |14=>rfl
  |15=>rfl
  |16=>rfl
  |_+17=>rfl
 nm:=fun
  |0=>true
  |1=>true
  |2=>true
  |3=>true
  |4=>true
  |5=>true
  |6=>true
  |7=>true
  |8=>true
  |9=>true
  |10=>false
  |11=>true
  |12=>true
  |13=>false
  |14=>false
  |15=>true
  |16=>true
  |_+17=>false
 gv:=fun
  |0=>some (.rp (.ary .i64 10 glob0) 0)
  |1=>some (.rp (.agg [.fn 202 [],.fn 203 [],.fn 204 [],.fn 208 []]) 0)
  |2=>some (.rp (.dat (.mp 5 (.int .u8) (.int .u8)) AFz) 0)
  |_=>none
instance:Se Tryz.prog where
 E:=fun
  |0=>TermsE
  |1=>ReportE
  |2=>DisputeE
  |3=>AnswerE
  |4=>DeskE
  |5=>AskedE
  |6=>LetterE
  |7=>AJQ
  |8=>SpanE
  |9=>AHm
  |10=>APg
  |11=>AFy
  |12=>AEb
  |13=>ATP
  |14=>AOJ
  |15=>AJR
  |16=>AHn
  |_+17=>boolE
 ky:=fun m k=>match m,k with
  |3,.int .i64=>some (V2 .i64 Tryz.underlying3)
  |5,.int .u8=>some (V2 .u8 Tryz.underlying5)
  |_,_=>none
instance:Sl (P:=Tryz.prog) where
 is:=fun n M w cs x=>by
  match n,x with
  |0,_=>exact Iff.rfl
  |1,_=>exact Iff.rfl
  |2,_=>exact Iff.rfl
  |3,_=>exact Iff.rfl
  |4,_=>exact Iff.rfl
  |5,_=>exact Iff.rfl
  |6,_=>exact Iff.rfl
  |7,_=>exact Iff.rfl
  |8,_=>exact Iff.rfl
  |9,_=>exact Iff.rfl
  |10,_=>exact Iff.rfl
  |11,_=>exact Iff.rfl
  |12,_=>exact Iff.rfl
  |13,_=>exact Iff.rfl
  |14,_=>exact Iff.rfl
  |15,_=>exact Iff.rfl
  |16,_=>exact Iff.rfl
  |_+17,_=>exact Iff.rfl
instance:TnE TermsE:=by unfold TermsE;infer_instance
instance:TnE ReportE:=by unfold ReportE;infer_instance
instance:TnE DisputeE:=by unfold DisputeE;infer_instance
instance:TnE AnswerE:=by unfold AnswerE;infer_instance
instance:TnE DeskE:=by unfold DeskE;infer_instance
instance:TnE AskedE:=by unfold AskedE;infer_instance
instance:TnE LetterE:=by unfold LetterE;infer_instance
instance:TnE AJQ:=by unfold AJQ;infer_instance
instance:TnE SpanE:=by unfold SpanE;infer_instance
instance:TnE AHm:=by unfold AHm;infer_instance
instance:TnE AFy:=by unfold AFy;infer_instance
instance:TnE AEb:=by unfold AEb;infer_instance
instance:TnE AJR:=by unfold AJR;infer_instance
instance:TnE AHn:=by unfold AHn;infer_instance
instance:Sn Tryz.prog where
 tn:=fun n h=>by
  match n,h with
  |0,_=>exact inferInstanceAs (TnE TermsE)
  |1,_=>exact inferInstanceAs (TnE ReportE)
  |2,_=>exact inferInstanceAs (TnE DisputeE)
  |3,_=>exact inferInstanceAs (TnE AnswerE)
  |4,_=>exact inferInstanceAs (TnE DeskE)
  |5,_=>exact inferInstanceAs (TnE AskedE)
  |6,_=>exact inferInstanceAs (TnE LetterE)
  |7,_=>exact inferInstanceAs (TnE AJQ)
  |8,_=>exact inferInstanceAs (TnE SpanE)
  |9,_=>exact inferInstanceAs (TnE AHm)
  |10,h=>cases h
  |11,_=>exact inferInstanceAs (TnE AFy)
  |12,_=>exact inferInstanceAs (TnE AEb)
  |13,h=>cases h
  |14,h=>cases h
  |15,_=>exact inferInstanceAs (TnE AJR)
  |16,_=>exact inferInstanceAs (TnE AHn)
  |_+17,h=>cases h
theorem rsl24:SlT Tryz.prog 24 45 (enc (P:=Tryz.prog) (.st 1)).n 64:=⟨Tryz.underlying24,Tryz.t45,_,by kernel_rfl,rfl,rfl,rfl,rfl⟩
theorem rsl25:SlT Tryz.prog 25 53 (enc (P:=Tryz.prog) (.st 2)).n 24:=⟨Tryz.underlying25,Tryz.t53,_,by kernel_rfl,rfl,rfl,rfl,rfl⟩
theorem rsl26:SlT Tryz.prog 26 60 (enc (P:=Tryz.prog) (.st 3)).n 48:=⟨Tryz.underlying26,Tryz.t60,_,by kernel_rfl,rfl,rfl,rfl,rfl⟩
theorem rsl29:SlT Tryz.prog 29 47 (enc (P:=Tryz.prog) (.st 5)).n 32:=⟨Tryz.underlying29,Tryz.t47,_,by kernel_rfl,rfl,rfl,rfl,rfl⟩
theorem rsl37:SlT Tryz.prog 37 70 (enc (P:=Tryz.prog) (.st 6)).n 24:=⟨Tryz.underlying37,Tryz.t70,_,by kernel_rfl,rfl,rfl,rfl,rfl⟩
theorem rsl56:SlT Tryz.prog 56 3 (enc (P:=Tryz.prog) (.int .i64)).n 8:=⟨Tryz.underlying56,Tryz.t3,_,by kernel_rfl,rfl,rfl,rfl,rfl⟩
theorem rsl65:SlT Tryz.prog 65 28 (enc (P:=Tryz.prog) (.st 4)).n 96:=⟨Tryz.underlying65,Tryz.t28,_,by kernel_rfl,rfl,rfl,rfl,rfl⟩
theorem rsl81:SlT Tryz.prog 81 82 (enc (P:=Tryz.prog) (.int .u32)).n 4:=⟨Tryz.underlying81,Tryz.t82,_,by kernel_rfl,rfl,rfl,rfl,rfl⟩
theorem rsl167:SlT Tryz.prog 167 118 (enc (P:=Tryz.prog) (.fno 118)).n 8:=⟨Tryz.underlying167,Tryz.t118,_,by kernel_rfl,rfl,rfl,rfl,rfl⟩
theorem rsl175:SlT Tryz.prog 175 130 (enc (P:=Tryz.prog) (.fno 130)).n 8:=⟨Tryz.underlying175,Tryz.t130,_,by kernel_rfl,rfl,rfl,rfl,rfl⟩
theorem rsl191:SlT Tryz.prog 191 160 (enc (P:=Tryz.prog) (.fno 160)).n 8:=⟨Tryz.underlying191,Tryz.t160,_,by kernel_rfl,rfl,rfl,rfl,rfl⟩
theorem rsl194:SlT Tryz.prog 194 24 (enc (P:=Tryz.prog) (.sl (.st 1))).n 24:=⟨Tryz.underlying194,Tryz.t24,_,by kernel_rfl,rfl,rfl,rfl,rfl⟩
def gxb:Gx where
 tb:=⟨[(23,[(0,3),(1,3),(2,3)]),(28,[(0,23),(3,24),(4,25),(5,26)]),(45,[(0,3),(1,3),(2,3),(3,3),(4,3),(5,5),(6,3),(7,3)]),(47,[(0,3),(1,3),(2,3),(3,3)]),(53,[(0,3),(1,3),(2,3)]),(60,[(0,3),(1,3),(2,3),(3,5),(4,3),(5,3)]),(70,[(0,3),(1,3),(2,3)]),(86,[(0,5),(1,3),(2,3),(3,56)]),(88,[(0,3),(1,3)]),(90,[(0,86),(4,86),(8,86),(12,86),(16,86),(20,86),(24,88),(26,5)]),(99,[(0,28),(6,96),(7,97)]),(111,[(0,3),(1,5),(2,60)]),(137,[(0,96)]),(139,[(0,137),(1,71),(2,71)]),(146,[(0,24)]),(153,[(0,5),(1,150),(2,151)]),(189,[(0,3),(1,3)])],[(3,0),(4,0),(5,0),(23,4),(24,0),(25,0),(26,0),(28,7),(29,0),(32,0),(37,0),(45,9),(47,5),(53,4),(56,0),(60,7),(65,0),(70,4),(71,0),(81,0),(82,0),(86,5),(88,3),(90,28),(96,0),(97,0),(99,9),(106,0),(108,0),(111,9),(114,0),(116,3),(118,0),(125,0),(130,0),(135,0),(137,2),(139,4),(144,0),(146,2),(148,0),(150,0),(151,0),(153,4),(154,0),(155,0),(156,0),(160,0),(164,0),(165,0),(166,0),(167,0),(170,0),(175,0),(177,0),(181,11),(184,5),(186,0),(189,3),(191,0),(193,0),(194,0),(199,0),(202,0),(209,0),(217,0),(230,0),(234,0),(241,0),(263,0),(265,0),(267,0)]⟩
 sl:=[(24,45,(.st 1),64),(25,53,(.st 2),24),(26,60,(.st 3),48),(29,47,(.st 5),32),(37,70,(.st 6),24),(56,3,(.int .i64),8),(65,28,(.st 4),96),(81,82,(.int .u32),4),(167,118,(.fno 118),8),(175,130,(.fno 130),8),(191,160,(.fno 160),8),(194,24,(.sl (.st 1)),24)]
 sz:=[(3,1),(4,1),(5,1),(23,3),(24,1),(25,1),(26,1),(28,6),(29,1),(32,1),(37,1),(45,8),(47,4),(53,3),(56,1),(60,6),(65,1),(70,3),(71,1),(81,1),(82,1),(86,4),(88,2),(90,27),(96,1),(97,1),(99,8),(106,1),(111,8),(116,2),(137,1),(139,3),(146,1),(156,1),(167,1),(175,1),(181,10),(186,1),(189,2),(191,1),(194,1),(199,1),(202,1),(209,1),(217,1),(230,1),(263,1),(108,1),(114,1),(118,1),(125,1),(130,1),(135,1),(144,1),(150,1),(151,1),(154,1),(155,1),(160,1),(164,1),(165,1),(166,1),(170,1),(177,1),(193,1),(234,1),(241,1),(265,1),(267,1)]
 ty:=[(3,(.int .i64)),(4,.bool),(5,(.int .u8)),(23,(.st 0)),(24,(.sl (.st 1))),(25,(.sl (.st 2))),(26,(.sl (.st 3))),(28,(.st 4)),(29,(.sl (.st 5))),(32,(.int .i64)),(37,(.sl (.st 6))),(45,(.st 1)),(47,(.st 5)),(53,(.st 2)),(56,(.sl (.int .i64))),(60,(.st 3)),(65,(.sl (.st 4))),(70,(.st 6)),(71,(.mp 3 (.int .i64) (.int .i64))),(81,(.sl (.int .u32))),(82,(.int .u32)),(86,(.st 7)),(88,(.st 8)),(90,(.st 9)),(96,(.mp 3 (.int .i64) (.st 1))),(97,(.mp 3 (.int .i64) (.sl (.st 3)))),(99,(.st 10)),(106,(.mp 116 (.st 11) (.int .i64))),(111,(.st 12)),(116,(.st 11)),(137,(.st 13)),(139,(.st 14)),(146,(.st 15)),(156,(.mp 3 (.int .i64) (.st 8))),(167,(.sl (.fno 118))),(175,(.sl (.fno 130))),(181,(.arr .i64 10)),(186,(.mp 189 (.st 16) (.int .i64))),(189,(.st 16)),(191,(.sl (.fno 160))),(194,(.sl (.sl (.st 1)))),(199,(.int .u64)),(202,(.mp 5 (.int .u8) (.int .u8))),(209,(.int .i64)),(217,(.int .u64)),(230,(.int .u64)),(263,(.mp 3 (.int .i64) .bool))]
 fs:=[]
 bd:=[(23,[(0,1),(1,1),(2,1)]),(28,[(0,3),(3,1),(4,1),(5,1)]),(45,[(0,1),(1,1),(2,1),(3,1),(4,1),(5,1),(6,1),(7,1)]),(47,[(0,1),(1,1),(2,1),(3,1)]),(53,[(0,1),(1,1),(2,1)]),(60,[(0,1),(1,1),(2,1),(3,1),(4,1),(5,1)]),(70,[(0,1),(1,1),(2,1)]),(86,[(0,1),(1,1),(2,1),(3,1)]),(88,[(0,1),(1,1)]),(90,[(0,4),(4,4),(8,4),(12,4),(16,4),(20,4),(24,2),(26,1)]),(99,[(0,6),(6,1),(7,1)]),(111,[(0,1),(1,1),(2,6)]),(137,[(0,1)]),(139,[(0,1),(1,1),(2,1)]),(153,[(0,1),(1,1),(2,1)]),(189,[(0,1),(1,1)])]
 eq:=[(23,0),(45,1),(47,5),(53,2),(60,3),(70,6),(88,8)]
 mp:=[(71,3,3,(.int .i64),(.int .i64)),(96,3,45,(.int .i64),(.st 1)),(97,3,26,(.int .i64),(.sl (.st 3))),(156,3,88,(.int .i64),(.st 8)),(202,5,5,(.int .u8),(.int .u8)),(263,3,4,(.int .i64),.bool)]
 ar:=[(116,2,1),(181,10,1)]
 pz:=[(108,1),(114,1),(118,1),(125,1),(130,1),(135,1),(144,1),(150,1),(151,1),(154,0),(155,0),(160,1),(164,1),(165,1),(166,1),(170,1),(177,1),(193,1),(234,0),(241,0),(265,1),(267,1)]
 pf:=[]
 fm:=[]
 fd:=[]
theorem gx_st:StOk Tryz.prog gxb.tb.st:=⟨⟨_,Tryz.underlying23,⟨⟨_,_,rfl,rfl,rfl,Tryz.sizeOf3⟩,⟨⟨_,_,rfl,rfl,rfl,Tryz.sizeOf3⟩,⟨⟨_,_,rfl,rfl,rfl,Tryz.sizeOf3⟩,trivial⟩⟩⟩⟩,⟨⟨_,Tryz.underlying28,⟨⟨_,_,rfl,rfl,rfl,Tryz.sizeOf23⟩,⟨⟨_,_,rfl,rfl,rfl,Tryz.sizeOf24⟩,⟨⟨_,_,rfl,rfl,rfl,Tryz.sizeOf25⟩,⟨⟨_,_,rfl,rfl,rfl,Tryz.sizeOf26⟩,trivial⟩⟩⟩⟩⟩,⟨⟨_,Tryz.underlying45,⟨⟨_,_,rfl,rfl,rfl,Tryz.sizeOf3⟩,⟨⟨_,_,rfl,rfl,rfl,Tryz.sizeOf3⟩,⟨⟨_,_,rfl,rfl,rfl,Tryz.sizeOf3⟩,⟨⟨_,_,rfl,rfl,rfl,Tryz.sizeOf3⟩,⟨⟨_,_,rfl,rfl,rfl,Tryz.sizeOf3⟩,⟨⟨_,_,rfl,rfl,rfl,Tryz.sizeOf5⟩,⟨⟨_,_,rfl,rfl,rfl,Tryz.sizeOf3⟩,⟨⟨_,_,rfl,rfl,rfl,Tryz.sizeOf3⟩,trivial⟩⟩⟩⟩⟩⟩⟩⟩⟩,⟨⟨_,Tryz.underlying47,⟨⟨_,_,rfl,rfl,rfl,Tryz.sizeOf3⟩,⟨⟨_,_,rfl,rfl,rfl,Tryz.sizeOf3⟩,⟨⟨_,_,rfl,rfl,rfl,Tryz.sizeOf3⟩,⟨⟨_,_,rfl,rfl,rfl,Tryz.sizeOf3⟩,trivial⟩⟩⟩⟩⟩,⟨⟨_,Tryz.underlying53,⟨⟨_,_,rfl,rfl,rfl,Tryz.sizeOf3⟩,⟨⟨_,_,rfl,rfl,rfl,Tryz.sizeOf3⟩,⟨⟨_,_,rfl,rfl,rfl,Tryz.sizeOf3⟩,trivial⟩⟩⟩⟩,⟨⟨_,Tryz.underlying60,⟨⟨_,_,rfl,rfl,rfl,Tryz.sizeOf3⟩,⟨⟨_,_,rfl,rfl,rfl,Tryz.sizeOf3⟩,⟨⟨_,_,rfl,rfl,rfl,Tryz.sizeOf3⟩,⟨⟨_,_,rfl,rfl,rfl,Tryz.sizeOf5⟩,⟨⟨_,_,rfl,rfl,rfl,Tryz.sizeOf3⟩,⟨⟨_,_,rfl,rfl,rfl,Tryz.sizeOf3⟩,trivial⟩⟩⟩⟩⟩⟩⟩,⟨⟨_,Tryz.underlying70,⟨⟨_,_,rfl,rfl,rfl,Tryz.sizeOf3⟩,⟨⟨_,_,rfl,rfl,rfl,Tryz.sizeOf3⟩,⟨⟨_,_,rfl,rfl,rfl,Tryz.sizeOf3⟩,trivial⟩⟩⟩⟩,⟨⟨_,Tryz.underlying86,⟨⟨_,_,rfl,rfl,rfl,Tryz.sizeOf5⟩,⟨⟨_,_,rfl,rfl,rfl,Tryz.sizeOf3⟩,⟨⟨_,_,rfl,rfl,rfl,Tryz.sizeOf3⟩,⟨⟨_,_,rfl,rfl,rfl,Tryz.sizeOf56⟩,trivial⟩⟩⟩⟩⟩,⟨⟨_,Tryz.underlying88,⟨⟨_,_,rfl,rfl,rfl,Tryz.sizeOf3⟩,⟨⟨_,_,rfl,rfl,rfl,Tryz.sizeOf3⟩,trivial⟩⟩⟩,⟨⟨_,Tryz.underlying90,⟨⟨_,_,rfl,rfl,rfl,Tryz.sizeOf86⟩,⟨⟨_,_,rfl,rfl,rfl,Tryz.sizeOf86⟩,⟨⟨_,_,rfl,rfl,rfl,Tryz.sizeOf86⟩,⟨⟨_,_,rfl,rfl,rfl,Tryz.sizeOf86⟩,⟨⟨_,_,rfl,rfl,rfl,Tryz.sizeOf86⟩,⟨⟨_,_,rfl,rfl,rfl,Tryz.sizeOf86⟩,⟨⟨_,_,rfl,rfl,rfl,Tryz.sizeOf88⟩,⟨⟨_,_,rfl,rfl,rfl,Tryz.sizeOf5⟩,trivial⟩⟩⟩⟩⟩⟩⟩⟩⟩,⟨⟨_,Tryz.underlying99,⟨⟨_,_,rfl,rfl,rfl,Tryz.sizeOf28⟩,⟨⟨_,_,rfl,rfl,rfl,Tryz.sizeOf96⟩,⟨⟨_,_,rfl,rfl,rfl,Tryz.sizeOf97⟩,trivial⟩⟩⟩⟩,⟨⟨_,Tryz.underlying111,⟨⟨_,_,rfl,rfl,rfl,Tryz.sizeOf3⟩,⟨⟨_,_,rfl,rfl,rfl,Tryz.sizeOf5⟩,⟨⟨_,_,rfl,rfl,rfl,Tryz.sizeOf60⟩,trivial⟩⟩⟩⟩,⟨⟨_,Tryz.underlying137,⟨⟨_,_,rfl,rfl,rfl,Tryz.sizeOf96⟩,trivial⟩⟩,⟨⟨_,Tryz.underlying139,⟨⟨_,_,rfl,rfl,rfl,Tryz.sizeOf137⟩,⟨⟨_,_,rfl,rfl,rfl,Tryz.sizeOf71⟩,⟨⟨_,_,rfl,rfl,rfl,Tryz.sizeOf71⟩,trivial⟩⟩⟩⟩,⟨⟨_,Tryz.underlying146,⟨⟨_,_,rfl,rfl,rfl,Tryz.sizeOf24⟩,trivial⟩⟩,⟨⟨_,Tryz.underlying153,⟨⟨_,_,rfl,rfl,rfl,Tryz.sizeOf5⟩,⟨⟨_,_,rfl,rfl,rfl,Tryz.sizeOf150⟩,⟨⟨_,_,rfl,rfl,rfl,Tryz.sizeOf151⟩,trivial⟩⟩⟩⟩,⟨⟨_,Tryz.underlying189,⟨⟨_,_,rfl,rfl,rfl,Tryz.sizeOf3⟩,⟨⟨_,_,rfl,rfl,rfl,Tryz.sizeOf3⟩,trivial⟩⟩⟩,trivial⟩⟩⟩⟩⟩⟩⟩⟩⟩⟩⟩⟩⟩⟩⟩⟩⟩
theorem gx_ag:AgOk Tryz.prog gxb.tb.ag:=⟨Tryz.isAgg3,⟨Tryz.isAgg4,⟨Tryz.isAgg5,⟨⟨Tryz.isAgg23,Tryz.sizeOf23⟩,⟨Tryz.isAgg24,⟨Tryz.isAgg25,⟨Tryz.isAgg26,⟨⟨Tryz.isAgg28,Tryz.sizeOf28⟩,⟨Tryz.isAgg29,⟨Tryz.isAgg32,⟨Tryz.isAgg37,⟨⟨Tryz.isAgg45,Tryz.sizeOf45⟩,⟨⟨Tryz.isAgg47,Tryz.sizeOf47⟩,⟨⟨Tryz.isAgg53,Tryz.sizeOf53⟩,⟨Tryz.isAgg56,⟨⟨Tryz.isAgg60,Tryz.sizeOf60⟩,⟨Tryz.isAgg65,⟨⟨Tryz.isAgg70,Tryz.sizeOf70⟩,⟨Tryz.isAgg71,⟨Tryz.isAgg81,⟨Tryz.isAgg82,⟨⟨Tryz.isAgg86,Tryz.sizeOf86⟩,⟨⟨Tryz.isAgg88,Tryz.sizeOf88⟩,⟨⟨Tryz.isAgg90,Tryz.sizeOf90⟩,⟨Tryz.isAgg96,⟨Tryz.isAgg97,⟨⟨Tryz.isAgg99,Tryz.sizeOf99⟩,⟨Tryz.isAgg106,⟨Tryz.isAgg108,⟨⟨Tryz.isAgg111,Tryz.sizeOf111⟩,⟨Tryz.isAgg114,⟨⟨Tryz.isAgg116,Tryz.sizeOf116⟩,⟨Tryz.isAgg118,⟨Tryz.isAgg125,⟨Tryz.isAgg130,⟨Tryz.isAgg135,⟨⟨Tryz.isAgg137,Tryz.sizeOf137⟩,⟨⟨Tryz.isAgg139,Tryz.sizeOf139⟩,⟨Tryz.isAgg144,⟨⟨Tryz.isAgg146,Tryz.sizeOf146⟩,⟨Tryz.isAgg148,⟨Tryz.isAgg150,⟨Tryz.isAgg151,⟨⟨Tryz.isAgg153,Tryz.sizeOf153⟩,⟨Tryz.isAgg154,⟨Tryz.isAgg155,⟨Tryz.isAgg156,⟨Tryz.isAgg160,⟨Tryz.isAgg164,⟨Tryz.isAgg165,⟨Tryz.isAgg166,⟨Tryz.isAgg167,⟨Tryz.isAgg170,⟨Tryz.isAgg175,⟨Tryz.isAgg177,⟨⟨Tryz.isAgg181,Tryz.sizeOf181⟩,⟨⟨Tryz.isAgg184,Tryz.sizeOf184⟩,⟨Tryz.isAgg186,⟨⟨Tryz.isAgg189,Tryz.sizeOf189⟩,⟨Tryz.isAgg191,⟨Tryz.isAgg193,⟨Tryz.isAgg194,⟨Tryz.isAgg199,⟨Tryz.isAgg202,⟨Tryz.isAgg209,⟨Tryz.isAgg217,⟨Tryz.isAgg230,⟨Tryz.isAgg234,⟨Tryz.isAgg241,⟨Tryz.isAgg263,⟨Tryz.isAgg265,⟨Tryz.isAgg267,trivial⟩⟩⟩⟩⟩⟩⟩⟩⟩⟩⟩⟩⟩⟩⟩⟩⟩⟩⟩⟩⟩⟩⟩⟩⟩⟩⟩⟩⟩⟩⟩⟩⟩⟩⟩⟩⟩⟩⟩⟩⟩⟩⟩⟩⟩⟩⟩⟩⟩⟩⟩⟩⟩⟩⟩⟩⟩⟩⟩⟩⟩⟩⟩⟩⟩⟩⟩⟩⟩⟩⟩⟩
theorem gx_sl:SlOk Tryz.prog gxb.sl:=⟨rsl24,⟨rsl25,⟨rsl26,⟨rsl29,⟨rsl37,⟨rsl56,⟨rsl65,⟨rsl81,⟨rsl167,⟨rsl175,⟨rsl191,⟨rsl194,trivial⟩⟩⟩⟩⟩⟩⟩⟩⟩⟩⟩⟩
theorem gx_sz:SzOk Tryz.prog gxb.sz:=⟨Tryz.sizeOf3,⟨Tryz.sizeOf4,⟨Tryz.sizeOf5,⟨Tryz.sizeOf23,⟨Tryz.sizeOf24,⟨Tryz.sizeOf25,⟨Tryz.sizeOf26,⟨Tryz.sizeOf28,⟨Tryz.sizeOf29,⟨Tryz.sizeOf32,⟨Tryz.sizeOf37,⟨Tryz.sizeOf45,⟨Tryz.sizeOf47,⟨Tryz.sizeOf53,⟨Tryz.sizeOf56,⟨Tryz.sizeOf60,⟨Tryz.sizeOf65,⟨Tryz.sizeOf70,⟨Tryz.sizeOf71,⟨Tryz.sizeOf81,⟨Tryz.sizeOf82,⟨Tryz.sizeOf86,⟨Tryz.sizeOf88,⟨Tryz.sizeOf90,⟨Tryz.sizeOf96,⟨Tryz.sizeOf97,⟨Tryz.sizeOf99,⟨Tryz.sizeOf106,⟨Tryz.sizeOf111,⟨Tryz.sizeOf116,⟨Tryz.sizeOf137,⟨Tryz.sizeOf139,⟨Tryz.sizeOf146,⟨Tryz.sizeOf156,⟨Tryz.sizeOf167,⟨Tryz.sizeOf175,⟨Tryz.sizeOf181,⟨Tryz.sizeOf186,⟨Tryz.sizeOf189,⟨Tryz.sizeOf191,⟨Tryz.sizeOf194,⟨Tryz.sizeOf199,⟨Tryz.sizeOf202,⟨Tryz.sizeOf209,⟨Tryz.sizeOf217,⟨Tryz.sizeOf230,⟨Tryz.sizeOf263,⟨Tryz.sizeOf108,⟨Tryz.sizeOf114,⟨Tryz.sizeOf118,⟨Tryz.sizeOf125,⟨Tryz.sizeOf130,⟨Tryz.sizeOf135,⟨Tryz.sizeOf144,⟨Tryz.sizeOf150,⟨Tryz.sizeOf151,⟨Tryz.sizeOf154,⟨Tryz.sizeOf155,⟨Tryz.sizeOf160,⟨Tryz.sizeOf164,⟨Tryz.sizeOf165,⟨Tryz.sizeOf166,⟨Tryz.sizeOf170,⟨Tryz.sizeOf177,⟨Tryz.sizeOf193,⟨Tryz.sizeOf234,⟨Tryz.sizeOf241,⟨Tryz.sizeOf265,⟨Tryz.sizeOf267,trivial⟩⟩⟩⟩⟩⟩⟩⟩⟩⟩⟩⟩⟩⟩⟩⟩⟩⟩⟩⟩⟩⟩⟩⟩⟩⟩⟩⟩⟩⟩⟩⟩⟩⟩⟩⟩⟩⟩⟩⟩⟩⟩⟩⟩⟩⟩⟩⟩⟩⟩⟩⟩⟩⟩⟩⟩⟩⟩⟩⟩⟩⟩⟩⟩⟩⟩⟩⟩⟩
theorem gx_ty:TyOk Tryz.prog gxb.ty:=⟨⟨(fun k h=>by cases h;exact Tryz.underlying3),(fun h=>by cases h),Tryz.zeroValue3⟩,⟨⟨(fun k h=>by cases h),(fun _=>Tryz.underlying4),Tryz.zeroValue4⟩,⟨⟨(fun k h=>by cases h;exact Tryz.underlying5),(fun h=>by cases h),Tryz.zeroValue5⟩,⟨⟨(fun k h=>by cases h),(fun h=>by cases h),Tryz.zeroValue23⟩,⟨⟨(fun k h=>by cases h),(fun h=>by cases h),Tryz.zeroValue24⟩,⟨⟨(fun k h=>by cases h),(fun h=>by cases h),Tryz.zeroValue25⟩,⟨⟨(fun k h=>by cases h),(fun h=>by cases h),Tryz.zeroValue26⟩,⟨⟨(fun k h=>by cases h),(fun h=>by cases h),Tryz.zeroValue28⟩,⟨⟨(fun k h=>by cases h),(fun h=>by cases h),Tryz.zeroValue29⟩,⟨⟨(fun k h=>by cases h;exact Tryz.underlying32),(fun h=>by cases h),Tryz.zeroValue32⟩,⟨⟨(fun k h=>by cases h),(fun h=>by cases h),Tryz.zeroValue37⟩,⟨⟨(fun k h=>by cases h),(fun h=>by cases h),Tryz.zeroValue45⟩,⟨⟨(fun k h=>by cases h),(fun h=>by cases h),Tryz.zeroValue47⟩,⟨⟨(fun k h=>by cases h),(fun h=>by cases h),Tryz.zeroValue53⟩,⟨⟨(fun k h=>by cases h),(fun h=>by cases h),Tryz.zeroValue56⟩,⟨⟨(fun k h=>by cases h),(fun h=>by cases h),Tryz.zeroValue60⟩,⟨⟨(fun k h=>by cases h),(fun h=>by cases h),Tryz.zeroValue65⟩,⟨⟨(fun k h=>by cases h),(fun h=>by cases h),Tryz.zeroValue70⟩,⟨⟨(fun k h=>by cases h),(fun h=>by cases h),Tryz.zeroValue71⟩,⟨⟨(fun k h=>by cases h),(fun h=>by cases h),Tryz.zeroValue81⟩,⟨⟨(fun k h=>by cases h;exact Tryz.underlying82),(fun h=>by cases h),Tryz.zeroValue82⟩,⟨⟨(fun k h=>by cases h),(fun h=>by cases h),Tryz.zeroValue86⟩,⟨⟨(fun k h=>by cases h),(fun h=>by cases h),Tryz.zeroValue88⟩,⟨⟨(fun k h=>by cases h),(fun h=>by cases h),Tryz.zeroValue90⟩,⟨⟨(fun k h=>by cases h),(fun h=>by cases h),Tryz.zeroValue96⟩,⟨⟨(fun k h=>by cases h),(fun h=>by cases h),Tryz.zeroValue97⟩,⟨⟨(fun k h=>by cases h),(fun h=>by cases h),Tryz.zeroValue99⟩,⟨⟨(fun k h=>by cases h),(fun h=>by cases h),Tryz.zeroValue106⟩,⟨⟨(fun k h=>by cases h),(fun h=>by cases h),Tryz.zeroValue111⟩,⟨⟨(fun k h=>by cases h),(fun h=>by cases h),Tryz.zeroValue116⟩,⟨⟨(fun k h=>by cases h),(fun h=>by cases h),Tryz.zeroValue137⟩,⟨⟨(fun k h=>by cases h),(fun h=>by cases h),Tryz.zeroValue139⟩,⟨⟨(fun k h=>by cases h),(fun h=>by cases h),Tryz.zeroValue146⟩,⟨⟨(fun k h=>by cases h),(fun h=>by cases h),Tryz.zeroValue156⟩,⟨⟨(fun k h=>by cases h),(fun h=>by cases h),Tryz.zeroValue167⟩,⟨⟨(fun k h=>by cases h),(fun h=>by cases h),Tryz.zeroValue175⟩,⟨⟨(fun k h=>by cases h),(fun h=>by cases h),Tryz.zeroValue181⟩,⟨⟨(fun k h=>by cases h),(fun h=>by cases h),Tryz.zeroValue186⟩,⟨⟨(fun k h=>by cases h),(fun h=>by cases h),Tryz.zeroValue189⟩,⟨⟨(fun k h=>by cases h),(fun h=>by cases h),Tryz.zeroValue191⟩,⟨⟨(fun k h=>by cases h),(fun h=>by cases h),Tryz.zeroValue194⟩,⟨⟨(fun k h=>by cases h;exact Tryz.underlying199),(fun h=>by cases h),Tryz.zeroValue199⟩,⟨⟨(fun k h=>by cases h),(fun h=>by cases h),Tryz.zeroValue202⟩,⟨⟨(fun k h=>by cases h;exact Tryz.underlying209),(fun h=>by cases h),Tryz.zeroValue209⟩,⟨⟨(fun k h=>by cases h;exact Tryz.underlying217),(fun h=>by cases h),Tryz.zeroValue217⟩,⟨⟨(fun k h=>by cases h;exact Tryz.underlying230),(fun h=>by cases h),Tryz.zeroValue230⟩,⟨⟨(fun k h=>by cases h),(fun h=>by cases h),Tryz.zeroValue263⟩,trivial⟩⟩⟩⟩⟩⟩⟩⟩⟩⟩⟩⟩⟩⟩⟩⟩⟩⟩⟩⟩⟩⟩⟩⟩⟩⟩⟩⟩⟩⟩⟩⟩⟩⟩⟩⟩⟩⟩⟩⟩⟩⟩⟩⟩⟩⟩⟩
theorem gx_bd:BdOk Tryz.prog gxb.bd:=⟨⟨_,Tryz.underlying23,fun _=>by simp[Tryz.sizeOf3]⟩,⟨⟨_,Tryz.underlying28,fun _=>by simp[Tryz.sizeOf23,Tryz.sizeOf24,Tryz.sizeOf25,Tryz.sizeOf26]⟩,⟨⟨_,Tryz.underlying45,fun _=>by simp[Tryz.sizeOf3,Tryz.sizeOf5]⟩,⟨⟨_,Tryz.underlying47,fun _=>by simp[Tryz.sizeOf3]⟩,⟨⟨_,Tryz.underlying53,fun _=>by simp[Tryz.sizeOf3]⟩,⟨⟨_,Tryz.underlying60,fun _=>by simp[Tryz.sizeOf3,Tryz.sizeOf5]⟩,⟨⟨_,Tryz.underlying70,fun _=>by simp[Tryz.sizeOf3]⟩,⟨⟨_,Tryz.underlying86,fun _=>by simp[Tryz.sizeOf3,Tryz.sizeOf5,Tryz.sizeOf56]⟩,⟨⟨_,Tryz.underlying88,fun _=>by simp[Tryz.sizeOf3]⟩,⟨⟨_,Tryz.underlying90,fun _=>by simp[Tryz.sizeOf5,Tryz.sizeOf86,Tryz.sizeOf88]⟩,⟨⟨_,Tryz.underlying99,fun _=>by simp[Tryz.sizeOf28,Tryz.sizeOf96,Tryz.sizeOf97]⟩,⟨⟨_,Tryz.underlying111,fun _=>by simp[Tryz.sizeOf3,Tryz.sizeOf5,Tryz.sizeOf60]⟩,⟨⟨_,Tryz.underlying137,fun _=>by simp[Tryz.sizeOf96]⟩,⟨⟨_,Tryz.underlying139,fun _=>by simp[Tryz.sizeOf137,Tryz.sizeOf71]⟩,⟨⟨_,Tryz.underlying153,fun _=>by simp[Tryz.sizeOf150,Tryz.sizeOf151,Tryz.sizeOf5]⟩,⟨⟨_,Tryz.underlying189,fun _=>by simp[Tryz.sizeOf3]⟩,trivial⟩⟩⟩⟩⟩⟩⟩⟩⟩⟩⟩⟩⟩⟩⟩⟩
theorem AVE {M:List Nat} {w:World} {cs cs':List Value} {x y:Terms} (hx:TermsE.R M w cs x) (hy:TermsE.R M w cs' y) (w':World):(Op.equalIn 10000 23 (.agg (List.toArray cs)) (.agg (List.toArray cs'))).run Tryz.prog w'=.ok (decide (x=y)) w':=by
 obtain⟨rfl,_⟩:=(AKs (x:=x)).1 hx
 obtain⟨rfl,_⟩:=(AKs (x:=y)).1 hy
 exact APe x y w'
theorem AVF {M:List Nat} {w:World} {cs cs':List Value} {x y:Report} (hx:ReportE.R M w cs x) (hy:ReportE.R M w cs' y) (w':World):(Op.equalIn 10000 45 (.agg (List.toArray cs)) (.agg (List.toArray cs'))).run Tryz.prog w'=.ok (decide (x=y)) w':=by
 obtain⟨rfl,_⟩:=(ReportE_R (x:=x)).1 hx
 obtain⟨rfl,_⟩:=(ReportE_R (x:=y)).1 hy
 exact AOG x y w'
theorem AVG {M:List Nat} {w:World} {cs cs':List Value} {x y:Asked} (hx:AskedE.R M w cs x) (hy:AskedE.R M w cs' y) (w':World):(Op.equalIn 10000 47 (.agg (List.toArray cs)) (.agg (List.toArray cs'))).run Tryz.prog w'=.ok (decide (x=y)) w':=by
 obtain⟨rfl,_⟩:=(AGu (x:=x)).1 hx
 obtain⟨rfl,_⟩:=(AGu (x:=y)).1 hy
 exact APf x y w'
theorem AVH {M:List Nat} {w:World} {cs cs':List Value} {x y:Dispute} (hx:DisputeE.R M w cs x) (hy:DisputeE.R M w cs' y) (w':World):(Op.equalIn 10000 53 (.agg (List.toArray cs)) (.agg (List.toArray cs'))).run Tryz.prog w'=.ok (decide (x=y)) w':=by
 obtain⟨rfl,_⟩:=(DisputeE_R (x:=x)).1 hx
 obtain⟨rfl,_⟩:=(DisputeE_R (x:=y)).1 hy
 exact AMt x y w'
theorem AVI {M:List Nat} {w:World} {cs cs':List Value} {x y:Answer} (hx:AnswerE.R M w cs x) (hy:AnswerE.R M w cs' y) (w':World):(Op.equalIn 10000 60 (.agg (List.toArray cs)) (.agg (List.toArray cs'))).run Tryz.prog w'=.ok (decide (x=y)) w':=by
 obtain⟨rfl,_⟩:=(AnswerE_R (x:=x)).1 hx
 obtain⟨rfl,_⟩:=(AnswerE_R (x:=y)).1 hy
 exact AOH x y w'
theorem AVJ {M:List Nat} {w:World} {cs cs':List Value} {x y:Letter} (hx:LetterE.R M w cs x) (hy:LetterE.R M w cs' y) (w':World):(Op.equalIn 10000 70 (.agg (List.toArray cs)) (.agg (List.toArray cs'))).run Tryz.prog w'=.ok (decide (x=y)) w':=by
 obtain⟨rfl,_⟩:=(LetterE_R (x:=x)).1 hx
 obtain⟨rfl,_⟩:=(LetterE_R (x:=y)).1 hy
 exact AOI x y w'
theorem AVK {M:List Nat} {w:World} {cs cs':List Value} {x y:Span} (hx:SpanE.R M w cs x) (hy:SpanE.R M w cs' y) (w':World):(Op.equalIn 10000 88 (.agg (List.toArray cs)) (.agg (List.toArray cs'))).run Tryz.prog w'=.ok (decide (x=y)) w':=by
 obtain⟨rfl,_⟩:=(ALs (x:=x)).1 hx
 obtain⟨rfl,_⟩:=(ALs (x:=y)).1 hy
 exact ARd x y w'
theorem gx_eq:EqOk Tryz.prog gxb.eq:=⟨⟨Tryz.eqGuardType23,fun _ _ _ _ _ _ hx hy w'=>AVE hx hy w'⟩,⟨⟨Tryz.eqGuardType45,fun _ _ _ _ _ _ hx hy w'=>AVF hx hy w'⟩,⟨⟨Tryz.eqGuardType47,fun _ _ _ _ _ _ hx hy w'=>AVG hx hy w'⟩,⟨⟨Tryz.eqGuardType53,fun _ _ _ _ _ _ hx hy w'=>AVH hx hy w'⟩,⟨⟨Tryz.eqGuardType60,fun _ _ _ _ _ _ hx hy w'=>AVI hx hy w'⟩,⟨⟨Tryz.eqGuardType70,fun _ _ _ _ _ _ hx hy w'=>AVJ hx hy w'⟩,⟨⟨Tryz.eqGuardType88,fun _ _ _ _ _ _ hx hy w'=>AVK hx hy w'⟩,trivial⟩⟩⟩⟩⟩⟩⟩
theorem gx_mp:MpOk Tryz.prog gxb.mp:=⟨⟨_,rfl,ACQ (hk:=Tryz.underlying3),Tryz.underlying71,Tryz.zeroValue3,int_key2⟩,⟨⟨_,rfl,ACQ (hk:=Tryz.underlying3),Tryz.underlying96,Tryz.zeroValue45,int_key2⟩,⟨⟨_,rfl,ACQ (hk:=Tryz.underlying3),Tryz.underlying97,Tryz.zeroValue26,int_key2⟩,⟨⟨_,rfl,ACQ (hk:=Tryz.underlying3),Tryz.underlying156,Tryz.zeroValue88,int_key2⟩,⟨⟨_,rfl,ACQ (hk:=Tryz.underlying5),Tryz.underlying202,Tryz.zeroValue5,int_key2⟩,⟨⟨_,rfl,ACQ (hk:=Tryz.underlying3),Tryz.underlying263,Tryz.zeroValue4,int_key2⟩,trivial⟩⟩⟩⟩⟩⟩
theorem gx_ar:ArOk Tryz.prog gxb.ar:=⟨⟨_,Tryz.underlying116,Tryz.sizeOf3⟩,⟨⟨_,Tryz.underlying181,Tryz.sizeOf3⟩,trivial⟩⟩
theorem gx_pz:PzOk Tryz.prog gxb.pz:=⟨Tryz.zeroValue108,⟨Tryz.zeroValue114,⟨Tryz.zeroValue118,⟨Tryz.zeroValue125,⟨Tryz.zeroValue130,⟨Tryz.zeroValue135,⟨Tryz.zeroValue144,⟨Tryz.zeroValue150,⟨Tryz.zeroValue151,⟨Tryz.zeroValue154,⟨Tryz.zeroValue155,⟨Tryz.zeroValue160,⟨Tryz.zeroValue164,⟨Tryz.zeroValue165,⟨Tryz.zeroValue166,⟨Tryz.zeroValue170,⟨Tryz.zeroValue177,⟨Tryz.zeroValue193,⟨Tryz.zeroValue234,⟨Tryz.zeroValue241,⟨Tryz.zeroValue265,⟨Tryz.zeroValue267,trivial⟩⟩⟩⟩⟩⟩⟩⟩⟩⟩⟩⟩⟩⟩⟩⟩⟩⟩⟩⟩⟩⟩
theorem gx_mix:Tryz.prog.follows .mixedOrders=true:=by kernel_rfl
theorem ACy {fs:List (Nat×Ctr)} {pf:List (Nat×CtrP)} {fm:List (Nat×CtrM)} (h:FsOk Tryz.prog fs) (hp:PfOk Tryz.prog pf) (hm:FmOk Tryz.prog fm):GxOk Tryz.prog { gxb with fs:=fs,pf:=pf,fm:=fm }:=⟨gx_st,gx_ag,gx_sl,gx_sz,gx_ty,h,gx_bd,gx_eq,gx_mp,gx_ar,gx_pz,hp,hm,gx_mix,trivial⟩
theorem AHo {fs:List (Nat×Ctr)} {pf:List (Nat×CtrP)} {fm:List (Nat×CtrM)} {fd:List (Nat×Rx.Fd)} (h:FsOk Tryz.prog fs) (hp:PfOk Tryz.prog pf) (hm:FmOk Tryz.prog fm) (hd:FdOk Tryz.prog fd):GxOk Tryz.prog { gxb with fs:=fs,pf:=pf,fm:=fm,fd:=fd }:=⟨gx_st,gx_ag,gx_sl,gx_sz,gx_ty,h,gx_bd,gx_eq,gx_mp,gx_ar,gx_pz,hp,hm,gx_mix,hd⟩
theorem ATQ {fs:List (Nat×Ctr)} {pf:List (Nat×CtrP)} (h:FsOk Tryz.prog fs) (hp:PfOk Tryz.prog pf):GxOk Tryz.prog { gxb with fs:=fs,pf:=pf }:=ACy (fm:=[]) h hp trivial
theorem B1 {fs:List (Nat×Ctr)} (h:FsOk Tryz.prog fs):GxOk Tryz.prog { gxb with fs:=fs }:=ATQ (pf:=[]) h trivial
end Go.Proofs.YtgioiejbphljoaaGreatDoor
set_option maxRecDepth 20000
set_option maxHeartbeats 4000000
namespace Go.Proofs.YtgioiejbphljoaaGreatDoor
open Go Go.Sx Go.Rx Go.RowKit
variable [Trk]
noncomputable def AB8 (y:Dispute):Option Int:=some y.day
def AWV:An:=.x
noncomputable def ctr60:Ctr:=⟨[.d (.st 2)],[.d (.int .i64)],fun a=>AB8 a.1⟩
theorem ok60:Ctr.ok Tryz.prog 60 ctr60:=B0 (G:={ gxb with fs:=[] }) (an:=AWV) (B1 trivial) Tryz.func60 rfl rfl rfl rfl (fun a=>by kernel_rfl)
noncomputable def AB9 (y:Dispute):Option Int:=some y.id
def AWW:An:=.x
noncomputable def ctr61:Ctr:=⟨[.d (.st 2)],[.d (.int .i64)],fun a=>AB9 a.1⟩
theorem ok61:Ctr.ok Tryz.prog 61 ctr61:=B0 (G:={ gxb with fs:=[] }) (an:=AWW) (B1 trivial) Tryz.func61 rfl rfl rfl rfl (fun a=>by kernel_rfl)
noncomputable def Y5 (x:Int):Option Bool:=some (!decide (x=x))
def AVL:An:=.x
noncomputable def ctr124:Ctr:=⟨[.d (.int .i64)],[.d .bool],fun a=>Y5 a.1⟩
theorem ok124:Ctr.ok Tryz.prog 124 ctr124:=B0 (G:={ gxb with fs:=[] }) (an:=AVL) (B1 trivial) Tryz.func124 rfl rfl rfl rfl (fun a=>by kernel_rfl)
noncomputable def C9 (x:Int) (y:Int):Option Int:=Option.bind (Y5 x) fun r1=>Option.bind (Y5 y) fun r2=>cond (r1) (cond (r2) (some (0:Int)) (some ((-1):Int))) (cond (r2) (some (1:Int)) (cond (decide (x < y)) (some ((-1):Int)) (cond (decide (y < x)) (some (1:Int)) (some (0:Int)))))
def AWX:An:=.x
noncomputable def ctr88:Ctr:=⟨[.d (.int .i64),.d (.int .i64)],[.d (.int .i64)],fun a=>C9 a.1 a.2.1⟩
theorem ok88:Ctr.ok Tryz.prog 88 ctr88:=B0 (G:={ gxb with fs:=[(124,ctr124)] }) (an:=AWX) (B1 ⟨⟨ok124,Tryz.call124⟩,trivial⟩) Tryz.func88 rfl rfl rfl rfl (fun a=>by kernel_rfl)
noncomputable def fd130:Rx.Fd:=⟨[(.st 2)],(.int .i64),fun n=>if n=60 then fun x0=>AB8 x0 else if n=61 then fun x0=>AB9 x0 else fun _=>none⟩
theorem okd130:∀ n M w,GlOk (P:=Tryz.prog) M w->FnOk (P:=Tryz.prog) M w (.func (.func n) #[] #[]) fd130.a fd130.r (fd130.D n):=fun n M w hg=>by
 by_cases h0:n=60
 . subst h0;exact V4 (G:={ gxb with fs:=[(60,ctr60)] }) (B1 ⟨⟨ok60,Tryz.call60⟩,trivial⟩) hg (M:=M) (fun _ h=>h) (R:=fun _=>none) (ρ:=fun _=>undef) (γ:=fun _=>[]) (caps:=[]) (vs:=[]) RdN.nil (by kernel_rfl) rfl
 by_cases h1:n=61
 . subst h1;exact V4 (G:={ gxb with fs:=[(61,ctr61)] }) (B1 ⟨⟨ok61,Tryz.call61⟩,trivial⟩) hg (M:=M) (fun _ h=>h) (R:=fun _=>none) (ρ:=fun _=>undef) (γ:=fun _=>[]) (caps:=[]) (vs:=[]) RdN.nil (by kernel_rfl) rfl
 have e:fd130.D n=fun _=>none:=by simp[fd130,h0,h1] <;> rfl
 rw[e]
 exact fun _ _ _ _ _ _ _ y hy=>by cases hy
noncomputable def I4 (a:Dispute) (b:Dispute) (a2_:(List Nat)):Option Int:=Option.bind (B8 (S:=(Int)) (R:=(Unit⊕Int)) (fun x7=>cond (decide (x7 < (a2_.length:Int))) (Option.bind (ixo a2_ x7) fun y8=>Option.bind (fd130.D y8 a) fun y9=>Option.bind (fd130.D y8 b) fun y10=>Option.bind (C9 y9 y10) fun r11=>cond ((!decide (r11=0))) (some (Sum.inr (Sum.inr r11))) (Option.bind (chk .i64 (x7+1)) fun n12=>some (Sum.inl n12))) (some (Sum.inr (Sum.inl ())))) (0:Int)) ((Sum.elim (fun _=>some (0:Int)) (fun r13=>some r13)))
def AWY:An:=.nd (.x) (.nd (.nd (.x) (.lp ⟨[(.slot 11,.d (.int .i64))],[4,3]⟩ [.exit 0 ⟨[],[]⟩,.ret] (.x))) (.x))
noncomputable def AVM:Ctr:=⟨[.d (.st 2),.d (.st 2),.pt (.sl (.fno 130))],[.d (.int .i64)],fun a=>I4 a.1 a.2.1 a.2.2.1⟩
theorem ok94:Ctr.ok Tryz.prog 94 AVM:=B0 (G:={ gxb with fs:=[(88,ctr88)],fd:=[(130,fd130)] }) (an:=AWY) (AHo ⟨⟨ok88,Tryz.call88⟩,trivial⟩ trivial trivial ⟨okd130,trivial⟩) Tryz.func94 rfl rfl rfl rfl (fun a=>by kernel_rfl)
noncomputable def ADL (r:Report):Option Int:=some r.about
def AVN:An:=.x
noncomputable def ctr107:Ctr:=⟨[.d (.st 1)],[.d (.int .i64)],fun a=>ADL a.1⟩
theorem ok107:Ctr.ok Tryz.prog 107 ctr107:=B0 (G:={ gxb with fs:=[] }) (an:=AVN) (B1 trivial) Tryz.func107 rfl rfl rfl rfl (fun a=>by kernel_rfl)
noncomputable def AFP (r:Report):Option Int:=some r.id
def AVO:An:=.x
noncomputable def ctr108:Ctr:=⟨[.d (.st 1)],[.d (.int .i64)],fun a=>AFP a.1⟩
theorem ok108:Ctr.ok Tryz.prog 108 ctr108:=B0 (G:={ gxb with fs:=[] }) (an:=AVO) (B1 trivial) Tryz.func108 rfl rfl rfl rfl (fun a=>by kernel_rfl)
noncomputable def Y6 (r:Report):Option Int:=some r.made
def AWZ:An:=.x
noncomputable def ctr78:Ctr:=⟨[.d (.st 1)],[.d (.int .i64)],fun a=>Y6 a.1⟩
theorem ok78:Ctr.ok Tryz.prog 78 ctr78:=B0 (G:={ gxb with fs:=[] }) (an:=AWZ) (B1 trivial) Tryz.func78 rfl rfl rfl rfl (fun a=>by kernel_rfl)
noncomputable def Y7 (r:Report):Option Int:=some r.id
def AWa:An:=.x
noncomputable def ctr79:Ctr:=⟨[.d (.st 1)],[.d (.int .i64)],fun a=>Y7 a.1⟩
theorem ok79:Ctr.ok Tryz.prog 79 ctr79:=B0 (G:={ gxb with fs:=[] }) (an:=AWa) (B1 trivial) Tryz.func79 rfl rfl rfl rfl (fun a=>by kernel_rfl)
noncomputable def fd160:Rx.Fd:=⟨[(.st 1)],(.int .i64),fun n=>if n=78 then fun x0=>Y6 x0 else if n=79 then fun x0=>Y7 x0 else if n=107 then fun x0=>ADL x0 else if n=108 then fun x0=>AFP x0 else fun _=>none⟩
theorem okd160:∀ n M w,GlOk (P:=Tryz.prog) M w->FnOk (P:=Tryz.prog) M w (.func (.func n) #[] #[]) fd160.a fd160.r (fd160.D n):=fun n M w hg=>by
 by_cases h0:n=78
 . subst h0;exact V4 (G:={ gxb with fs:=[(78,ctr78)] }) (B1 ⟨⟨ok78,Tryz.call78⟩,trivial⟩) hg (M:=M) (fun _ h=>h) (R:=fun _=>none) (ρ:=fun _=>undef) (γ:=fun _=>[]) (caps:=[]) (vs:=[]) RdN.nil (by kernel_rfl) rfl
 by_cases h1:n=79
 . subst h1;exact V4 (G:={ gxb with fs:=[(79,ctr79)] }) (B1 ⟨⟨ok79,Tryz.call79⟩,trivial⟩) hg (M:=M) (fun _ h=>h) (R:=fun _=>none) (ρ:=fun _=>undef) (γ:=fun _=>[]) (caps:=[]) (vs:=[]) RdN.nil (by kernel_rfl) rfl
 by_cases h2:n=107
 . subst h2;exact V4 (G:={ gxb with fs:=[(107,ctr107)] }) (B1 ⟨⟨ok107,Tryz.call107⟩,trivial⟩) hg (M:=M) (fun _ h=>h) (R:=fun _=>none) (ρ:=fun _=>undef) (γ:=fun _=>[]) (caps:=[]) (vs:=[]) RdN.nil (by kernel_rfl) rfl
 by_cases h3:n=108
 . subst h3;exact V4 (G:={ gxb with fs:=[(108,ctr108)] }) (B1 ⟨⟨ok108,Tryz.call108⟩,trivial⟩) hg (M:=M) (fun _ h=>h) (R:=fun _=>none) (ρ:=fun _=>undef) (γ:=fun _=>[]) (caps:=[]) (vs:=[]) RdN.nil (by kernel_rfl) rfl
 have e:fd160.D n=fun _=>none:=by simp[fd160,h0,h1,h2,h3] <;> rfl
 rw[e]
 exact fun _ _ _ _ _ _ _ y hy=>by cases hy
noncomputable def I6 (a:Report) (b:Report) (a2_:(List Nat)):Option Int:=Option.bind (B8 (S:=(Int)) (R:=(Unit⊕Int)) (fun x7=>cond (decide (x7 < (a2_.length:Int))) (Option.bind (ixo a2_ x7) fun y8=>Option.bind (fd160.D y8 a) fun y9=>Option.bind (fd160.D y8 b) fun y10=>Option.bind (C9 y9 y10) fun r11=>cond ((!decide (r11=0))) (some (Sum.inr (Sum.inr r11))) (Option.bind (chk .i64 (x7+1)) fun n12=>some (Sum.inl n12))) (some (Sum.inr (Sum.inl ())))) (0:Int)) ((Sum.elim (fun _=>some (0:Int)) (fun r13=>some r13)))
def AVP:An:=.nd (.x) (.nd (.nd (.x) (.lp ⟨[(.slot 11,.d (.int .i64))],[4,3]⟩ [.exit 0 ⟨[],[]⟩,.ret] (.x))) (.x))
noncomputable def ATR:Ctr:=⟨[.d (.st 1),.d (.st 1),.pt (.sl (.fno 160))],[.d (.int .i64)],fun a=>I6 a.1 a.2.1 a.2.2.1⟩
theorem ok119:Ctr.ok Tryz.prog 119 ATR:=B0 (G:={ gxb with fs:=[(88,ctr88)],fd:=[(160,fd160)] }) (an:=AVP) (AHo ⟨⟨ok88,Tryz.call88⟩,trivial⟩ trivial trivial ⟨okd160,trivial⟩) Tryz.func119 rfl rfl rfl rfl (fun a=>by kernel_rfl)
noncomputable def AAz (l:Letter):Option Int:=some l.dispute
def AWb:An:=.x
noncomputable def ctr49:Ctr:=⟨[.d (.st 6)],[.d (.int .i64)],fun a=>AAz a.1⟩
theorem ok49:Ctr.ok Tryz.prog 49 ctr49:=B0 (G:={ gxb with fs:=[] }) (an:=AWb) (B1 trivial) Tryz.func49 rfl rfl rfl rfl (fun a=>by kernel_rfl)
noncomputable def AA0 (l:Letter):Option Int:=some l.who
def AWc:An:=.x
noncomputable def ctr50:Ctr:=⟨[.d (.st 6)],[.d (.int .i64)],fun a=>AA0 a.1⟩
theorem ok50:Ctr.ok Tryz.prog 50 ctr50:=B0 (G:={ gxb with fs:=[] }) (an:=AWc) (B1 trivial) Tryz.func50 rfl rfl rfl rfl (fun a=>by kernel_rfl)
noncomputable def fd118:Rx.Fd:=⟨[(.st 6)],(.int .i64),fun n=>if n=49 then fun x0=>AAz x0 else if n=50 then fun x0=>AA0 x0 else fun _=>none⟩
theorem okd118:∀ n M w,GlOk (P:=Tryz.prog) M w->FnOk (P:=Tryz.prog) M w (.func (.func n) #[] #[]) fd118.a fd118.r (fd118.D n):=fun n M w hg=>by
 by_cases h0:n=49
 . subst h0;exact V4 (G:={ gxb with fs:=[(49,ctr49)] }) (B1 ⟨⟨ok49,Tryz.call49⟩,trivial⟩) hg (M:=M) (fun _ h=>h) (R:=fun _=>none) (ρ:=fun _=>undef) (γ:=fun _=>[]) (caps:=[]) (vs:=[]) RdN.nil (by kernel_rfl) rfl
 by_cases h1:n=50
 . subst h1;exact V4 (G:={ gxb with fs:=[(50,ctr50)] }) (B1 ⟨⟨ok50,Tryz.call50⟩,trivial⟩) hg (M:=M) (fun _ h=>h) (R:=fun _=>none) (ρ:=fun _=>undef) (γ:=fun _=>[]) (caps:=[]) (vs:=[]) RdN.nil (by kernel_rfl) rfl
 have e:fd118.D n=fun _=>none:=by simp[fd118,h0,h1] <;> rfl
 rw[e]
 exact fun _ _ _ _ _ _ _ y hy=>by cases hy
noncomputable def I7 (a:Letter) (b:Letter) (a2_:(List Nat)):Option Int:=Option.bind (B8 (S:=(Int)) (R:=(Unit⊕Int)) (fun x7=>cond (decide (x7 < (a2_.length:Int))) (Option.bind (ixo a2_ x7) fun y8=>Option.bind (fd118.D y8 a) fun y9=>Option.bind (fd118.D y8 b) fun y10=>Option.bind (C9 y9 y10) fun r11=>cond ((!decide (r11=0))) (some (Sum.inr (Sum.inr r11))) (Option.bind (chk .i64 (x7+1)) fun n12=>some (Sum.inl n12))) (some (Sum.inr (Sum.inl ())))) (0:Int)) ((Sum.elim (fun _=>some (0:Int)) (fun r13=>some r13)))
def AWd:An:=.nd (.x) (.nd (.nd (.x) (.lp ⟨[(.slot 11,.d (.int .i64))],[4,3]⟩ [.exit 0 ⟨[],[]⟩,.ret] (.x))) (.x))
noncomputable def AVQ:Ctr:=⟨[.d (.st 6),.d (.st 6),.pt (.sl (.fno 118))],[.d (.int .i64)],fun a=>I7 a.1 a.2.1 a.2.2.1⟩
theorem ok87:Ctr.ok Tryz.prog 87 AVQ:=B0 (G:={ gxb with fs:=[(88,ctr88)],fd:=[(118,fd118)] }) (an:=AWd) (AHo ⟨⟨ok88,Tryz.call88⟩,trivial⟩ trivial trivial ⟨okd118,trivial⟩) Tryz.func87 rfl rfl rfl rfl (fun a=>by kernel_rfl)
noncomputable def I8 (a:Report) (b:Report) (a2_:(List Nat)):Option Int:=Option.bind (B8 (S:=(Int)) (R:=(Unit⊕Int)) (fun x7=>cond (decide (x7 < (a2_.length:Int))) (Option.bind (ixo a2_ x7) fun y8=>Option.bind (fd160.D y8 a) fun y9=>Option.bind (fd160.D y8 b) fun y10=>Option.bind (C9 y9 y10) fun r11=>cond ((!decide (r11=0))) (some (Sum.inr (Sum.inr r11))) (Option.bind (chk .i64 (x7+1)) fun n12=>some (Sum.inl n12))) (some (Sum.inr (Sum.inl ())))) (0:Int)) ((Sum.elim (fun _=>some (0:Int)) (fun r13=>some r13)))
def AVR:An:=.nd (.x) (.nd (.nd (.x) (.lp ⟨[(.slot 11,.d (.int .i64))],[4,3]⟩ [.exit 0 ⟨[],[]⟩,.ret] (.x))) (.x))
noncomputable def ATS:Ctr:=⟨[.d (.st 1),.d (.st 1),.pt (.sl (.fno 160))],[.d (.int .i64)],fun a=>I8 a.1 a.2.1 a.2.2.1⟩
theorem ok131:Ctr.ok Tryz.prog 131 ATS:=B0 (G:={ gxb with fs:=[(88,ctr88)],fd:=[(160,fd160)] }) (an:=AVR) (AHo ⟨⟨ok88,Tryz.call88⟩,trivial⟩ trivial trivial ⟨okd160,trivial⟩) Tryz.func131 rfl rfl rfl rfl (fun a=>by kernel_rfl)
end Go.Proofs.YtgioiejbphljoaaGreatDoor
namespace Go.Rx
open Go Go.Proofs Go.Sx Go.RowKit Go.Sort Go.Shelf
@[reducible] def S9:Trk:=⟨True⟩
def AKt {α:Type} (x:List α) (cmp:α->α->Option Int) (cf:α->α->Int):Prop:=
 (∀ a b,a∈x->b∈x->cmp a b=some (cf a b))/\SWO (ltOf fun a b:{ r:α // r∈x }=>cf a.1 b.1)/\∀ a b,a∈x->b∈x->¬ cf a b < 0->¬ cf b a < 0->a=b
open Classical in
noncomputable def ACJ {α:Type} (x:List α) (cmp:α->α->Option Int):Option (List α):=
 if h:x.length < 4611686018427387904/\∃ cf,AKt x cmp cf then some (x.mergeSort fun a b=>!decide (h.2.choose b a < 0)) else none
variable [Trk]
theorem AKu {α:Type} (enc:α->List Value) {n:Nat} (hn:0 < n) (h8:∀ x,(enc x).length=n):∀ (xs:List α) (t:Nat),(xs.flatMap enc)[t]?=(xs[t / n]?).bind fun x=>(enc x)[t % n]?
 |[],t=>by simp
 |x :: xs,t=>by
  rw[List.flatMap_cons]
  rcases Nat.lt_or_ge t n with h|h
  . rw[List.getElem?_append_left (by rw[h8];exact h),Nat.div_eq_of_lt h,Nat.mod_eq_of_lt h];rfl
  . rw[List.getElem?_append_right (by rw[h8];exact h),h8,AKu enc hn h8 xs (t - n),Nat.div_eq_sub_div hn h,Nat.mod_eq_sub_mod h];rfl
theorem AHp {α:Type} [Inhabited α] (enc:α->List Value) {n:Nat} (hn:0 < n) (h8:∀ x,(enc x).length=n) (d:Array α):(flatK enc n d).toList=d.toList.flatMap enc:=by
 refine List.ext_getElem? fun t=>?_
 rw[AKu enc hn h8]
 unfold flatK
 rcases Nat.lt_or_ge t (d.size * n) with h|h
 . have h1:t / n < d.size:=Nat.div_lt_of_lt_mul (by rw[Nat.mul_comm];exact h)
   have h2:t % n < n:=Nat.mod_lt _ hn
   simp only[Array.getElem?_toList,Array.getElem?_map,Array.getElem?_range,h,Array.getElem?_eq_getElem h1]
   have h3:t % n < (enc d[t / n]).length:=by rw[h8];exact h2
   simp[h1,getElem!_pos,h3]
 . have h1:d.size<=t / n:=(Nat.le_div_iff_mul_le hn).2 h
   simp only[Array.getElem?_toList,Array.getElem?_eq_none h1,Option.bind_none]
   simp[h]
theorem AOK {ys:List Value} {cur:Array Value} (h:ys.length<=cur.size):(putCells id 0 ys.toArray cur).toList.take ys.length=ys:=by
 apply List.ext_getElem?
 intro i
 rw[List.getElem?_take]
 split
 . rename_i hi
   have hc:cur[i]?=some cur[i]:=Array.getElem?_eq_getElem (by omega)
   simp only[putCells,Array.getElem?_toList,Array.getElem?_mapIdx,hc,Option.map_some]
   rw[if_pos ⟨by omega,by simpa using hi⟩]
   simp[hi]
 . rename_i hi
   rw[List.getElem?_eq_none (by omega)]
theorem AKv {α:Type} [Inhabited α] {enc:α->List Value} {k:Nat} {w:World} {g n:Nat} {d:Array α} {os:Array Obj}:Kp [g] w (sortWorldK enc k w g 0 n d os):=by
 refine⟨rfl,rfl,rfl,by simp[sortWorldK,putRowK],fun j hj hm=>?_,fun _=>show w.drawn<=w.drawn+n from Nat.le_add_right _ _⟩
 have hne:¬ g=j:=fun e=>hm (by simp[e])
 unfold sortWorldK putRowK
 rw[heap_grow_old _ _ (by simpa using hj)]
 show (w.heap.modify g (onCells (putCells id 0 (flatK enc k d))))[j]?=_
 rw[Array.getElem?_modify,if_neg hne]
section
variable {P:Program} {ρ:Ren} {α:Type} {E:Enc α} {enc:α->List Value} {In:α->Prop}
theorem ACK (hE:∀ {M w cs x},E.R M w cs x↔cs=enc x/\In x) {M:List Nat} {w:World}:∀ {cs:List Value} {xs:List α},Chunks E M w cs xs↔cs=xs.flatMap enc/\∀ r∈xs,In r
 |cs,[]=>by
  constructor
  . intro h;exact⟨h,fun _ h=>by cases h⟩
  . rintro⟨h,_⟩;exact h
 |cs,x :: xs=>by
  constructor
  . rintro⟨c,rest,he,hR,hr⟩
    obtain⟨rfl,h0⟩:=hE.1 hR
    obtain⟨h8,h9⟩:=(ACK hE).1 hr
    refine⟨by rw[he,h8];rfl,fun r hr=>?_⟩
    rcases List.mem_cons.1 hr with rfl|hr
    . exact h0
    . exact h9 r hr
  . rintro⟨he,hin⟩
    exact⟨enc x,xs.flatMap enc,by rw[he];rfl,hE.2 ⟨rfl,hin x (List.mem_cons_self ..)⟩,(ACK hE).2 ⟨rfl,fun r hr=>hin r (List.mem_cons_of_mem _ hr)⟩⟩
@[ext] structure ElR (In:α->Prop) (x:List α) where
 r:α
 mem:r∈x
 inn:In r
theorem AF0 (hlay:SlLaysF0.n6 P ρ) (hE:∀ {M w cs x},E.R M w cs x↔cs=enc x/\In x) (h8:∀ x,(enc x).length=E.n) (h1c:∀ x v,v∈enc x->v.oneCell'=true) (hag:∀ w,(isAgg (ρ.t 24)).run P w=.ok true w) (hsz:∀ w,(sizeOf (ρ.t 24)).run P w=.ok E.n w)
  {e:TypeId} {M:List Nat} {w:World} {v_x:Value} {x:List α} (p_x:Sx.Own E e 0 M w v_x x) {v_cmp:Value} {cmp:α->α->Option Int}
  (hf:∀ (x0 x1:α) (r:Int) (w1:World),@Kp S9 (ob v_x) w w1->In x0->In x1->cmp x0 x1=some r->CallsV P v_cmp [.agg (List.toArray (enc x0)),.agg (List.toArray (enc x1))] w1 fun e w2=>e=.returned (Value.int IntKind.i64 r)/\@Ext S9 w1 w2)
  {r0:List α} (h:ACJ x cmp=some r0):Calls P (ρ.f 6) (List.toArray [v_x,v_cmp]) w fun e' w'=>e'=.returned (Value.tuple #[])/\Sx.Own E e 0 M w' v_x r0/\Kp (ob v_x) w w':=by
 unfold ACJ at h
 split at h
 . rename_i hok
   have hr:=Option.some.inj h
   obtain⟨hlen,hex⟩:=hok
   have hok:=hex.choose_spec
   generalize hex.choose=cf at hr hok
   obtain⟨hc0,hO,hT⟩:=hok
   have none_:∀ a n,v_x=.slice a 0 n->x=[]->Calls P (ρ.f 6) (List.toArray [v_x,v_cmp]) w fun e' w'=>e'=.returned (Value.tuple #[])/\Sx.Own E e 0 M w' v_x r0/\Kp (ob v_x) w w':=by
    rintro a n rfl rfl
    refine (AnyF.slices_SortFunc_none (P:=P) (ρ:=ρ) hlay a n v_cmp w).mono ?_
    rintro e' w' ⟨rfl,rfl⟩
    subst hr
    exact⟨rfl,by simpa using p_x,Kp.refl _ _⟩
   have p_x0:=p_x
   rcases p_x with⟨a,rfl,rfl⟩|⟨g,cap,cur,rfl,h1,h2,h3,h4,h5,h6⟩
   . exact none_ a _ rfl rfl
   . by_cases hx:x=[]
     . subst hx;exact none_ _ _ rfl rfl
     . have hg:=J1 h2
       obtain⟨h7,h9⟩:=(ACK hE).1 h6
       obtain⟨r1,hr1⟩:=List.exists_mem_of_ne_nil x hx
       letI:Inhabited (ElR In x):=⟨⟨r1,hr1,h9 r1 hr1⟩⟩
       obtain⟨d,hd⟩:∃ d:List (ElR In x),d.map ElR.r=x:=⟨x.attach.map fun r=>⟨r.1,r.2,h9 r.1 r.2⟩,by rw[List.map_map];exact List.attach_map_subtype_val x⟩
       have hdl:d.length=x.length:=by have:=congrArg List.length hd;simpa using this
       have h8':∀ a:ElR In x,(enc a.r).length=E.n:=fun a=>h8 a.r
       have hfl:d.flatMap (fun a=>enc a.r)=x.flatMap enc:=by have:=congrArg (List.flatMap enc) hd;rw[List.flatMap_map] at this;exact this
       have hH:HoldsK (fun a:ElR In x=>enc a.r) E.n w g 0 d.toArray:=fun j hj=>by
        have hj':j < d.length * E.n:=by simpa using hj
        have hv:(flatK (fun a:ElR In x=>enc a.r) E.n d.toArray).toList=x.flatMap enc:=by rw[AHp _ E.pos h8',<-hfl]
        have hq:cur.toList[j]?=some ((flatK (fun a:ElR In x=>enc a.r) E.n d.toArray)[j]!):=by
         have e1:=congrArg (fun l=>l[j]?) h7
         simp only[List.getElem?_take,show j < x.length * E.n by rw[<-hdl];exact hj',if_true] at e1
         rw[e1,<-hv,Array.getElem?_toList,getElem!_pos (flatK (fun a:ElR In x=>enc a.r) E.n d.toArray) j hj,Array.getElem?_eq_getElem hj]
        constructor
        . have:w.cell? ⟨g,0+j,none⟩=cur[j]?:=by simp[World.cell?,h2]
          rw[this,<-Array.getElem?_toList,hq];rfl
        . simp[World.frozen?,h2]
       obtain⟨gf,cb,rfl,eg,_⟩:=hf r1 r1 (cf r1 r1) w (@Kp.refl S9 _ _) (h9 r1 hr1) (h9 r1 hr1) (hc0 r1 r1 hr1 hr1)
       have hcmp:CmpLays P gf cb (fun a:ElR In x=>enc a.r) E.n (fun a b=>cf a.r b.r) g 0 d.toArray.size w:=fun m os dk _ a b=>by
        obtain⟨gf',cb',hgc,_,hC⟩:=hf a.r b.r (cf a.r b.r) (sortWorldK (fun a:ElR In x=>enc a.r) E.n w g 0 m dk os) (@Kp.mono S9 _ _ _ _ (@AKv S9 _ _ _ _ _ _ _ _ _) fun c hc=>.inl (by simpa[ob] using hc)) a.inn b.inn (hc0 a.r b.r a.mem b.mem)
        cases hgc
        refine hC.mono ?_
        rintro e' w' ⟨rfl,hx⟩
        obtain⟨q,os',he⟩:=@Ext.grown S9 _ _ hx trivial
        exact⟨rfl,q,os',he⟩
       have hO':SWO (ltOf fun a b:ElR In x=>cf a.r b.r):=
        ⟨fun a=>hO.irrefl ⟨a.r,a.mem⟩,fun a b c=>hO.trans ⟨a.r,a.mem⟩ ⟨b.r,b.mem⟩ ⟨c.r,c.mem⟩,fun a b c=>hO.ntrans ⟨a.r,a.mem⟩ ⟨b.r,b.mem⟩ ⟨c.r,c.mem⟩⟩
       have hc:=AnyQ.slices_SortFunc_total hlay E.n hag hsz (fun a:ElR In x=>enc a.r) h8' (fun a v hv=>h1c a.r v hv) (fun a b=>cf a.r b.r) hO' gf cb g 0 (cap+1) d.toArray w eg hcmp hH hg (by simpa[hdl] using hlen)
        (fun a b h1 h2=>ElR.ext (hT a.r b.r a.mem b.mem (by simpa[ltOf] using h1) (by simpa[ltOf] using h2)))
       rw[show d.toArray.size=x.length by simp[hdl]] at hc
       refine hc.mono ?_
       rintro e' w' ⟨rfl,n,os,rfl⟩
       obtain⟨ys,hys⟩:∃ ys,ys=d.mergeSort fun a b:ElR In x=>!(ltOf fun a b:ElR In x=>cf a.r b.r) b a:=⟨_,rfl⟩
       have hys':ys.map ElR.r=r0:=by
        have h9:=List.map_mergeSort (r:=fun a b:ElR In x=>!(ltOf fun a b:ElR In x=>cf a.r b.r) b a) (s:=fun a b=>!decide (cf b a < 0)) (f:=ElR.r) (l:=d) fun a _ b _=>rfl
        rw[hd,hr] at h9
        rw[hys];exact h9
       have hyl:ys.length=x.length:=by rw[hys,List.length_mergeSort,hdl]
       have hrl:r0.length=x.length:=by rw[<-hys',List.length_map,hyl]
       have hW:(d.toArray.toList.mergeSort fun a b:ElR In x=>!(ltOf fun a b:ElR In x=>cf a.r b.r) b a).toArray=ys.toArray:=by rw[hys]
       rw[hW]
       have hkp:Kp [g] w (sortWorldK (fun a:ElR In x=>enc a.r) E.n w g 0 n ys.toArray os):=AKv
       have hin:∀ r∈r0,In r:=fun r hr'=>by
        rw[<-hys'] at hr'
        obtain⟨a,_,rfl⟩:=List.mem_map.1 hr'
        exact a.inn
       have hfl2:(flatK (fun a:ElR In x=>enc a.r) E.n ys.toArray).toList=r0.flatMap enc:=by have h9:=congrArg (List.flatMap enc) hys';rw[List.flatMap_map] at h9;rw[AHp _ E.pos h8'];exact h9
       have hfs:(flatK (fun a:ElR In x=>enc a.r) E.n ys.toArray).size=x.length * E.n:=by simp[hyl]
       refine⟨rfl,.inr ⟨g,cap,putCells id 0 (flatK (fun a:ElR In x=>enc a.r) E.n ys.toArray) cur,by rw[hrl],Nat.zero_le _,?_,by rw[hrl];exact h3,h4,?_,?_⟩,hkp.mono fun b hb=>.inl (by simpa[ob] using hb)⟩
       . unfold sortWorldK putRowK
         rw[heap_grow_old _ _ (by simpa using hg)]
         show (w.heap.modify g (onCells (putCells id 0 (flatK (fun a:ElR In x=>enc a.r) E.n ys.toArray))))[g]?=_
         rw[Array.getElem?_modify,if_pos rfl,h2];rfl
       . rw[<-h5];simp[putCells]
       . refine (ACK hE).2 ⟨?_,hin⟩
         have h9:=AOK (ys:=(flatK (fun a:ElR In x=>enc a.r) E.n ys.toArray).toList) (cur:=cur) (by
          rw[Array.length_toList,hfs,h5]
          exact Nat.mul_le_mul_right _ (by omega))
         rw[show (flatK (fun a:ElR In x=>enc a.r) E.n ys.toArray).toList.toArray=flatK (fun a:ElR In x=>enc a.r) E.n ys.toArray by simp,Array.length_toList,hfs] at h9
         show (putCells id 0 (flatK (fun a:ElR In x=>enc a.r) E.n ys.toArray) cur).toList.take (r0.length * E.n)=_
         rw[hrl,h9,hfl2]
 . cases h
end
end Go.Rx
namespace Go.Proofs.YtgioiejbphljoaaGreatDoor
open Go Go.Sx
instance trkF:Trk:=⟨False⟩
end Go.Proofs.YtgioiejbphljoaaGreatDoor
namespace Go.Proofs.YtgioiejbphljoaaGreatDoor
open Go Go.Proofs Go.Sx Go.Rx Go.RowKit
theorem ATT {kt:TypeId} {κ:Type} {K:Ky Tryz.prog kt κ} {k:IntKind} {ag:Bool} {M:List Nat} {w:World}:∀ {es:List MapEntry} {xs:List (κ×Int)},EntK K (B3 k) ag M w es xs->@EntK S9 _ _ _ _ K (@B3 S9 k) ag M w es xs
 |[],[],h=>h
 |_ :: _,_ :: _,⟨h1,h2,h3⟩=>⟨h1,h2,ATT h3⟩
 |[],_ :: _,h=>h.elim
 |_ :: _,[],h=>h.elim
theorem glT {M:List Nat} {w:World} (h:GlOk (P:=Tryz.prog) M w):@GlOk S9 _ _ Tryz.prog _ M w:=fun g s hg ρ R=>by
 match g,hg with
 |0,hg=>cases hg;exact h 0 _ rfl ρ R
 |1,hg=>cases hg;exact h 1 _ rfl ρ R
 |2,hg=>
  cases hg
  obtain⟨b,o0,u,vs,h1,h2,⟨h3,cs,⟨v',K',rfl,hK,b',rfl,h5,es,c,xs,g1,g2,g3,g4⟩,h6⟩,h7⟩:=h 2 _ rfl ρ R
  exact⟨b,o0,u,vs,h1,h2,⟨h3,[.map (some b')],⟨.map (some b'),K',rfl,hK,b',rfl,h5,es,c,xs,g1,g2,ATT g3,g4⟩,h6⟩,h7⟩
 |_+3,hg=>cases hg
noncomputable def G4 (by_:List Nat) (l:List Dispute):Option (Unit×List Dispute):=Option.bind (ACJ l fun a b=>I4 a b by_) fun r=>some ((),r)
noncomputable def ctrm58:CtrM:={ ps:=[.d (.sl (.fno 130))],i:=0,c:=.sl 53 (.st 2),rs:=[],F:=fun a x=>G4 a.1 x,self:=true }
theorem okm58:CtrM.ok Tryz.prog 58 ctrm58:=by
 refine⟨rfl,fun M w a x v vals us r x' hM hg hd ha hi he _ hx hr=>?_⟩
 obtain⟨vb,_,rfl,hb,rfl⟩:=ha
 have hus:us=[v,vb]:=by
  cases us with
  |nil=>cases hi
  |cons u l=>
   have h1:u=v:=Option.some.inj hi
   have h2:l=[vb]:=he
   rw[h1,h2]
 subst hus
 have f_by:RdS AEF (ob v++M) w vb a.1:=by
  obtain⟨cs,⟨u,rfl,h1⟩,⟨h2,_⟩|⟨_,h2⟩⟩:=hb
  . cases h2
  . rw[<-List.singleton_inj.1 h2];exact h1
 have hx:Sx.Own DisputeE 53 0 (ob v++M) w v x:=hx
 have p_l:Sx.Own DisputeE 53 0 M w v x:=hx.mon fun b hb=>.inr (List.mem_append_right _ hb)
 have hI:=ABW (fun b hb=>hM b (List.mem_append_right _ hb)) hd p_l
 have hr:G4 a.1 x=some (r,x'):=hr
 refine F9 Tryz.func58 rfl Tryz.ntmps58 rfl ?_
 refine A6 (A9 ?_)
 refine AAE hI rfl (RdS.cells1 f_by) rfl ?_
 intro b1 w2 hI3 x4
 have hC6:=hI3.freezeRow 0 rfl
 have hI5:=hI3.erase 0
 refine G0 rfl rfl (Reg.nil (A6 (A9 ?_)))
 refine H9 rfl rfl ?_
 refine AD6 rfl rfl ?_
 unfold G4 at hr
 obtain⟨l7,hz8,h⟩:=Q1 hr
 refine W7 rfl Tryz.call93 rfl ?_
 have la:=AD9 (σ:=[ownR (ob v) DisputeE 53 v x]) (M:=M) (w:=w2) 0 rfl
 have q1:=hI5.lendM 0 rfl
 have q2:@RdS S9 Nat (@AEF S9) _ w2 vb a.1:=(f_by.adv hI5.adv).adv la
 have q3:=hC6.adv la
 have q4:=glT ((hg.adv hI5.adv).adv la)
 have hc:Calls Tryz.prog 93 (List.toArray [v,.func (.func 94) #[] (List.toArray [.pointer (some ⟨b1,0,none⟩)])]) w2 _:=AF0 (E:=DisputeE) (enc:=fun x=>[Value.int IntKind.i64 x.id,Value.int IntKind.i64 x.report,Value.int IntKind.i64 x.day]) (In:=fun x=>InK .i64 x.id/\InK .i64 x.report/\InK .i64 x.day) AH4 DisputeE_R (fun _=>rfl) (fun x v hv=>by
  simp only[List.mem_cons,List.not_mem_nil,or_false] at hv
  rcases hv with rfl|rfl|rfl <;> rfl) Tryz.isAgg53 Tryz.sizeOf53 (hI5.lendOwn 0 rfl) (fun a0 a1 r w9 e9 f0 f1 hr=>by
  letI:=S9
  refine CallsV.go Tryz.call94 rfl (ok94.2 _ w9 (a0,a1,a.1,()) [_,_,_] r (q1.ext e9) (q4.adv (Adv.lent e9)) ⟨_,_,rfl,⟨_,DisputeE_R.2 ⟨rfl,f0⟩,.inl ⟨rfl,rfl⟩⟩,_,_,rfl,⟨_,DisputeE_R.2 ⟨rfl,f1⟩,.inl ⟨rfl,rfl⟩⟩,_,_,rfl,⟨b1,0,[vb],rfl,q3.adv (Adv.lent e9),vb,rfl,q2.adv (Adv.lent e9)⟩,rfl⟩ hr) ?_
  rintro e w3 ⟨us,rfl,⟨u,rfl,cs,h1,⟨h2,_⟩|⟨_,h2⟩⟩,hx⟩
  . cases h2
  . have h1:cs=[.int .i64 r]/\_:=h1
    rw[h1.1] at h2
    have h2:=List.singleton_inj.1 h2
    subst h2
    exact⟨rfl,hx⟩) hz8
 refine hc.mono ?_
 rintro _ w9 ⟨rfl,hO,hk⟩
 refine⟨_,rfl,?_⟩
 have hI12:=hI5.took 0 rfl ⟨hO,fun b hb=>.inl hb,hk⟩
 refine Reg.nil (A6 (A9 ?_))
 refine H9 rfl rfl (G0 rfl rfl (Reg.nil (J0 ?_)))
 have h:=Option.some.inj h
 cases h
 refine fin1 Tryz.results58 rfl ?_
 obtain⟨k1,_,k3⟩:=hI12.ownBack 0 rfl
 exact⟨[],rfl,rfl,k3,k1.mon fun b hb=>List.mem_append.1 hb⟩
noncomputable def H0 (by_:List Nat) (l:List Report):Option (Unit×List Report):=Option.bind (ACJ l fun a b=>I6 a b by_) fun r=>some ((),r)
noncomputable def ctrm77:CtrM:={ ps:=[.d (.sl (.fno 160))],i:=0,c:=.sl 45 (.st 1),rs:=[],F:=fun a x=>H0 a.1 x,self:=true }
theorem okm77:CtrM.ok Tryz.prog 77 ctrm77:=by
 refine⟨rfl,fun M w a x v vals us r x' hM hg hd ha hi he _ hx hr=>?_⟩
 obtain⟨vb,_,rfl,hb,rfl⟩:=ha
 have hus:us=[v,vb]:=by
  cases us with
  |nil=>cases hi
  |cons u l=>
   have h1:u=v:=Option.some.inj hi
   have h2:l=[vb]:=he
   rw[h1,h2]
 subst hus
 have f_by:RdS AEF (ob v++M) w vb a.1:=by
  obtain⟨cs,⟨u,rfl,h1⟩,⟨h2,_⟩|⟨_,h2⟩⟩:=hb
  . cases h2
  . rw[<-List.singleton_inj.1 h2];exact h1
 have hx:Sx.Own ReportE 45 0 (ob v++M) w v x:=hx
 have p_l:Sx.Own ReportE 45 0 M w v x:=hx.mon fun b hb=>.inr (List.mem_append_right _ hb)
 have hI:=ABW (fun b hb=>hM b (List.mem_append_right _ hb)) hd p_l
 have hr:H0 a.1 x=some (r,x'):=hr
 refine F9 Tryz.func77 rfl Tryz.ntmps77 rfl ?_
 refine A6 (A9 ?_)
 refine AAE hI rfl (RdS.cells1 f_by) rfl ?_
 intro b1 w2 hI3 x4
 have hC6:=hI3.freezeRow 0 rfl
 have hI5:=hI3.erase 0
 refine G0 rfl rfl (Reg.nil (A6 (A9 ?_)))
 refine H9 rfl rfl ?_
 refine AD6 rfl rfl ?_
 unfold H0 at hr
 obtain⟨l7,hz8,h⟩:=Q1 hr
 refine W7 rfl Tryz.call118 rfl ?_
 have la:=AD9 (σ:=[ownR (ob v) ReportE 45 v x]) (M:=M) (w:=w2) 0 rfl
 have q1:=hI5.lendM 0 rfl
 have q2:@RdS S9 Nat (@AEF S9) _ w2 vb a.1:=(f_by.adv hI5.adv).adv la
 have q3:=hC6.adv la
 have q4:=glT ((hg.adv hI5.adv).adv la)
 have hc:Calls Tryz.prog 118 (List.toArray [v,.func (.func 119) #[] (List.toArray [.pointer (some ⟨b1,0,none⟩)])]) w2 _:=AF0 (E:=ReportE) (enc:=fun x=>[Value.int IntKind.i64 x.id,Value.int IntKind.i64 x.source,Value.int IntKind.i64 x.account,Value.int IntKind.i64 x.made,Value.int IntKind.i64 x.about,Value.int IntKind.u8 x.kind,Value.int IntKind.i64 x.cents,Value.int IntKind.i64 x.of_]) (In:=fun x=>InK .i64 x.id/\InK .i64 x.source/\InK .i64 x.account/\InK .i64 x.made/\InK .i64 x.about/\InK .u8 x.kind/\InK .i64 x.cents/\InK .i64 x.of_) AC7 ReportE_R (fun _=>rfl) (fun x v hv=>by
  simp only[List.mem_cons,List.not_mem_nil,or_false] at hv
  rcases hv with rfl|rfl|rfl|rfl|rfl|rfl|rfl|rfl <;> rfl) Tryz.isAgg45 Tryz.sizeOf45 (hI5.lendOwn 0 rfl) (fun a0 a1 r w9 e9 f0 f1 hr=>by
  letI:=S9
  refine CallsV.go Tryz.call119 rfl (ok119.2 _ w9 (a0,a1,a.1,()) [_,_,_] r (q1.ext e9) (q4.adv (Adv.lent e9)) ⟨_,_,rfl,⟨_,ReportE_R.2 ⟨rfl,f0⟩,.inl ⟨rfl,rfl⟩⟩,_,_,rfl,⟨_,ReportE_R.2 ⟨rfl,f1⟩,.inl ⟨rfl,rfl⟩⟩,_,_,rfl,⟨b1,0,[vb],rfl,q3.adv (Adv.lent e9),vb,rfl,q2.adv (Adv.lent e9)⟩,rfl⟩ hr) ?_
  rintro e w3 ⟨us,rfl,⟨u,rfl,cs,h1,⟨h2,_⟩|⟨_,h2⟩⟩,hx⟩
  . cases h2
  . have h1:cs=[.int .i64 r]/\_:=h1
    rw[h1.1] at h2
    have h2:=List.singleton_inj.1 h2
    subst h2
    exact⟨rfl,hx⟩) hz8
 refine hc.mono ?_
 rintro _ w9 ⟨rfl,hO,hk⟩
 refine⟨_,rfl,?_⟩
 have hI12:=hI5.took 0 rfl ⟨hO,fun b hb=>.inl hb,hk⟩
 refine Reg.nil (A6 (A9 ?_))
 refine H9 rfl rfl (G0 rfl rfl (Reg.nil (J0 ?_)))
 have h:=Option.some.inj h
 cases h
 refine fin1 Tryz.results77 rfl ?_
 obtain⟨k1,_,k3⟩:=hI12.ownBack 0 rfl
 exact⟨[],rfl,rfl,k3,k1.mon fun b hb=>List.mem_append.1 hb⟩
noncomputable def H1 (by_:List Nat) (l:List Letter):Option (Unit×List Letter):=Option.bind (ACJ l fun a b=>I7 a b by_) fun r=>some ((),r)
noncomputable def ctrm48:CtrM:={ ps:=[.d (.sl (.fno 118))],i:=0,c:=.sl 70 (.st 6),rs:=[],F:=fun a x=>H1 a.1 x,self:=true }
theorem okm48:CtrM.ok Tryz.prog 48 ctrm48:=by
 refine⟨rfl,fun M w a x v vals us r x' hM hg hd ha hi he _ hx hr=>?_⟩
 obtain⟨vb,_,rfl,hb,rfl⟩:=ha
 have hus:us=[v,vb]:=by
  cases us with
  |nil=>cases hi
  |cons u l=>
   have h1:u=v:=Option.some.inj hi
   have h2:l=[vb]:=he
   rw[h1,h2]
 subst hus
 have f_by:RdS AEF (ob v++M) w vb a.1:=by
  obtain⟨cs,⟨u,rfl,h1⟩,⟨h2,_⟩|⟨_,h2⟩⟩:=hb
  . cases h2
  . rw[<-List.singleton_inj.1 h2];exact h1
 have hx:Sx.Own LetterE 70 0 (ob v++M) w v x:=hx
 have p_l:Sx.Own LetterE 70 0 M w v x:=hx.mon fun b hb=>.inr (List.mem_append_right _ hb)
 have hI:=ABW (fun b hb=>hM b (List.mem_append_right _ hb)) hd p_l
 have hr:H1 a.1 x=some (r,x'):=hr
 refine F9 Tryz.func48 rfl Tryz.ntmps48 rfl ?_
 refine A6 (A9 ?_)
 refine AAE hI rfl (RdS.cells1 f_by) rfl ?_
 intro b1 w2 hI3 x4
 have hC6:=hI3.freezeRow 0 rfl
 have hI5:=hI3.erase 0
 refine G0 rfl rfl (Reg.nil (A6 (A9 ?_)))
 refine H9 rfl rfl ?_
 refine AD6 rfl rfl ?_
 unfold H1 at hr
 obtain⟨l7,hz8,h⟩:=Q1 hr
 refine W7 rfl Tryz.call86 rfl ?_
 have la:=AD9 (σ:=[ownR (ob v) LetterE 70 v x]) (M:=M) (w:=w2) 0 rfl
 have q1:=hI5.lendM 0 rfl
 have q2:@RdS S9 Nat (@AEF S9) _ w2 vb a.1:=(f_by.adv hI5.adv).adv la
 have q3:=hC6.adv la
 have q4:=glT ((hg.adv hI5.adv).adv la)
 have hc:Calls Tryz.prog 86 (List.toArray [v,.func (.func 87) #[] (List.toArray [.pointer (some ⟨b1,0,none⟩)])]) w2 _:=AF0 (E:=LetterE) (enc:=fun x=>[Value.int IntKind.i64 x.dispute,Value.int IntKind.i64 x.who,Value.int IntKind.i64 x.asked]) (In:=fun x=>InK .i64 x.dispute/\InK .i64 x.who/\InK .i64 x.asked) AH5 LetterE_R (fun _=>rfl) (fun x v hv=>by
  simp only[List.mem_cons,List.not_mem_nil,or_false] at hv
  rcases hv with rfl|rfl|rfl <;> rfl) Tryz.isAgg70 Tryz.sizeOf70 (hI5.lendOwn 0 rfl) (fun a0 a1 r w9 e9 f0 f1 hr=>by
  letI:=S9
  refine CallsV.go Tryz.call87 rfl (ok87.2 _ w9 (a0,a1,a.1,()) [_,_,_] r (q1.ext e9) (q4.adv (Adv.lent e9)) ⟨_,_,rfl,⟨_,LetterE_R.2 ⟨rfl,f0⟩,.inl ⟨rfl,rfl⟩⟩,_,_,rfl,⟨_,LetterE_R.2 ⟨rfl,f1⟩,.inl ⟨rfl,rfl⟩⟩,_,_,rfl,⟨b1,0,[vb],rfl,q3.adv (Adv.lent e9),vb,rfl,q2.adv (Adv.lent e9)⟩,rfl⟩ hr) ?_
  rintro e w3 ⟨us,rfl,⟨u,rfl,cs,h1,⟨h2,_⟩|⟨_,h2⟩⟩,hx⟩
  . cases h2
  . have h1:cs=[.int .i64 r]/\_:=h1
    rw[h1.1] at h2
    have h2:=List.singleton_inj.1 h2
    subst h2
    exact⟨rfl,hx⟩) hz8
 refine hc.mono ?_
 rintro _ w9 ⟨rfl,hO,hk⟩
 refine⟨_,rfl,?_⟩
 have hI12:=hI5.took 0 rfl ⟨hO,fun b hb=>.inl hb,hk⟩
 refine Reg.nil (A6 (A9 ?_))
 refine H9 rfl rfl (G0 rfl rfl (Reg.nil (J0 ?_)))
 have h:=Option.some.inj h
 cases h
 refine fin1 Tryz.results48 rfl ?_
 obtain⟨k1,_,k3⟩:=hI12.ownBack 0 rfl
 exact⟨[],rfl,rfl,k3,k1.mon fun b hb=>List.mem_append.1 hb⟩
noncomputable def E7 (by_:List Nat) (l:List Report):Option (Unit×List Report):=Option.bind (ACJ l fun a b=>I8 a b by_) fun r=>some ((),r)
noncomputable def ctrm106:CtrM:={ ps:=[.d (.sl (.fno 160))],i:=0,c:=.sl 45 (.st 1),rs:=[],F:=fun a x=>E7 a.1 x,self:=true }
theorem okm106:CtrM.ok Tryz.prog 106 ctrm106:=by
 refine⟨rfl,fun M w a x v vals us r x' hM hg hd ha hi he _ hx hr=>?_⟩
 obtain⟨vb,_,rfl,hb,rfl⟩:=ha
 have hus:us=[v,vb]:=by
  cases us with
  |nil=>cases hi
  |cons u l=>
   have h1:u=v:=Option.some.inj hi
   have h2:l=[vb]:=he
   rw[h1,h2]
 subst hus
 have f_by:RdS AEF (ob v++M) w vb a.1:=by
  obtain⟨cs,⟨u,rfl,h1⟩,⟨h2,_⟩|⟨_,h2⟩⟩:=hb
  . cases h2
  . rw[<-List.singleton_inj.1 h2];exact h1
 have hx:Sx.Own ReportE 45 0 (ob v++M) w v x:=hx
 have p_l:Sx.Own ReportE 45 0 M w v x:=hx.mon fun b hb=>.inr (List.mem_append_right _ hb)
 have hI:=ABW (fun b hb=>hM b (List.mem_append_right _ hb)) hd p_l
 have hr:E7 a.1 x=some (r,x'):=hr
 refine F9 Tryz.func106 rfl Tryz.ntmps106 rfl ?_
 refine A6 (A9 ?_)
 refine AAE hI rfl (RdS.cells1 f_by) rfl ?_
 intro b1 w2 hI3 x4
 have hC6:=hI3.freezeRow 0 rfl
 have hI5:=hI3.erase 0
 refine G0 rfl rfl (Reg.nil (A6 (A9 ?_)))
 refine H9 rfl rfl ?_
 refine AD6 rfl rfl ?_
 unfold E7 at hr
 obtain⟨l7,hz8,h⟩:=Q1 hr
 refine W7 rfl Tryz.call118 rfl ?_
 have la:=AD9 (σ:=[ownR (ob v) ReportE 45 v x]) (M:=M) (w:=w2) 0 rfl
 have q1:=hI5.lendM 0 rfl
 have q2:@RdS S9 Nat (@AEF S9) _ w2 vb a.1:=(f_by.adv hI5.adv).adv la
 have q3:=hC6.adv la
 have q4:=glT ((hg.adv hI5.adv).adv la)
 have hc:Calls Tryz.prog 118 (List.toArray [v,.func (.func 131) #[] (List.toArray [.pointer (some ⟨b1,0,none⟩)])]) w2 _:=AF0 (E:=ReportE) (enc:=fun x=>[Value.int IntKind.i64 x.id,Value.int IntKind.i64 x.source,Value.int IntKind.i64 x.account,Value.int IntKind.i64 x.made,Value.int IntKind.i64 x.about,Value.int IntKind.u8 x.kind,Value.int IntKind.i64 x.cents,Value.int IntKind.i64 x.of_]) (In:=fun x=>InK .i64 x.id/\InK .i64 x.source/\InK .i64 x.account/\InK .i64 x.made/\InK .i64 x.about/\InK .u8 x.kind/\InK .i64 x.cents/\InK .i64 x.of_) AC7 ReportE_R (fun _=>rfl) (fun x v hv=>by
  simp only[List.mem_cons,List.not_mem_nil,or_false] at hv
  rcases hv with rfl|rfl|rfl|rfl|rfl|rfl|rfl|rfl <;> rfl) Tryz.isAgg45 Tryz.sizeOf45 (hI5.lendOwn 0 rfl) (fun a0 a1 r w9 e9 f0 f1 hr=>by
  letI:=S9
  refine CallsV.go Tryz.call131 rfl (ok131.2 _ w9 (a0,a1,a.1,()) [_,_,_] r (q1.ext e9) (q4.adv (Adv.lent e9)) ⟨_,_,rfl,⟨_,ReportE_R.2 ⟨rfl,f0⟩,.inl ⟨rfl,rfl⟩⟩,_,_,rfl,⟨_,ReportE_R.2 ⟨rfl,f1⟩,.inl ⟨rfl,rfl⟩⟩,_,_,rfl,⟨b1,0,[vb],rfl,q3.adv (Adv.lent e9),vb,rfl,q2.adv (Adv.lent e9)⟩,rfl⟩ hr) ?_
  rintro e w3 ⟨us,rfl,⟨u,rfl,cs,h1,⟨h2,_⟩|⟨_,h2⟩⟩,hx⟩
  . cases h2
  . have h1:cs=[.int .i64 r]/\_:=h1
    rw[h1.1] at h2
    have h2:=List.singleton_inj.1 h2
    subst h2
    exact⟨rfl,hx⟩) hz8
 refine hc.mono ?_
 rintro _ w9 ⟨rfl,hO,hk⟩
 refine⟨_,rfl,?_⟩
 have hI12:=hI5.took 0 rfl ⟨hO,fun b hb=>.inl hb,hk⟩
 refine Reg.nil (A6 (A9 ?_))
 refine H9 rfl rfl (G0 rfl rfl (Reg.nil (J0 ?_)))
 have h:=Option.some.inj h
 cases h
 refine fin1 Tryz.results106 rfl ?_
 obtain⟨k1,_,k3⟩:=hI12.ownBack 0 rfl
 exact⟨[],rfl,rfl,k3,k1.mon fun b hb=>List.mem_append.1 hb⟩
end Go.Proofs.YtgioiejbphljoaaGreatDoor
set_option maxRecDepth 20000
set_option maxHeartbeats 4000000
namespace Go.Proofs.YtgioiejbphljoaaGreatDoor
open Go Go.Sx Go.Rx Go.RowKit
noncomputable def AB1 (d:Desk):Option Bool:=Option.bind (α:=(Bool)) (cond (decide (80 < (d.reports.length:Int))) (some true) (cond (decide (30 < (d.disputes.length:Int))) (some true) (some (decide (60 < (d.answers.length:Int)))))) ((fun x1=>some x1))
def AWe:An:=.nd (.x) (.nd (.jn [.norm ⟨[(.slot 2,.d .bool)],[]⟩] (.x)) (.x))
noncomputable def ctr12:Ctr:=⟨[.d (.st 4)],[.d .bool],fun a=>AB1 a.1⟩
theorem ok12:Ctr.ok Tryz.prog 12 ctr12:=B0 (G:={ gxb with fs:=[] }) (an:=AWe) (B1 trivial) Tryz.func12 rfl rfl rfl rfl (fun a=>by kernel_rfl)
noncomputable def AAa (s:(List Int)) (f:Int->Option Bool):Option Int:=Option.bind (B8 (S:=(Int)) (R:=(Unit⊕Int)) (fun x5=>cond (decide (x5 < (s.length:Int))) (Option.bind (ixo s x5) fun y6=>Option.bind (f y6) fun y7=>cond (y7) (some (Sum.inr (Sum.inr x5))) (Option.bind (chk .i64 (x5+1)) fun n8=>some (Sum.inl n8))) (some (Sum.inr (Sum.inl ())))) (0:Int)) ((Sum.elim (fun _=>some ((-1):Int)) (fun r9=>some r9)))
def AVS:An:=.nd (.x) (.nd (.nd (.x) (.lp ⟨[(.slot 8,.d (.int .i64))],[]⟩ [.exit 0 ⟨[],[]⟩,.ret] (.x))) (.x))
noncomputable def ctr121:Ctr:=⟨[.d (.sl (.int .i64)),.fn [(.int .i64)] .bool],[.d (.int .i64)],fun a=>AAa a.1 a.2.1⟩
theorem ok121:Ctr.ok Tryz.prog 121 ctr121:=B0 (G:={ gxb with fs:=[] }) (an:=AVS) (B1 trivial) Tryz.func121 rfl rfl rfl rfl (fun a=>by kernel_rfl)
noncomputable def G7 (s:(List Int)) (f:Int->Option Bool):Option Bool:=Option.bind (AAa s f) fun r1=>some (decide (0<=r1))
def AWf:An:=.x
noncomputable def ctr82:Ctr:=⟨[.d (.sl (.int .i64)),.fn [(.int .i64)] .bool],[.d .bool],fun a=>G7 a.1 a.2.1⟩
theorem ok82:Ctr.ok Tryz.prog 82 ctr82:=B0 (G:={ gxb with fs:=[(121,ctr121)] }) (an:=AWf) (B1 ⟨⟨ok121,Tryz.call121⟩,trivial⟩) Tryz.func82 rfl rfl rfl rfl (fun a=>by kernel_rfl)
noncomputable def P7 (n:Int) (a1_:Int) (a2_:Int):Option Bool:=Option.bind (α:=(Bool)) (cond (decide (n < a1_)) (some true) (some (decide (a2_ < n)))) ((fun x1=>some x1))
def AWg:An:=.nd (.x) (.nd (.jn [.norm ⟨[(.slot 4,.d .bool)],[]⟩] (.x)) (.x))
noncomputable def ctr83:Ctr:=⟨[.d (.int .i64),.pt (.int .i64),.pt (.int .i64)],[.d .bool],fun a=>P7 a.1 a.2.1 a.2.2.1⟩
theorem ok83:Ctr.ok Tryz.prog 83 ctr83:=B0 (G:={ gxb with fs:=[] }) (an:=AWg) (B1 trivial) Tryz.func83 rfl rfl rfl rfl (fun a=>by kernel_rfl)
noncomputable def D4 (lo:Int) (hi:Int) (all:(List Int)):Option Bool:=Option.bind (G7 all (fun a1=>P7 a1 lo hi)) fun r2=>some (!r2)
def AWh:An:=.x
noncomputable def ctr44:Ctr:=⟨[.d (.int .i64),.d (.int .i64),.d (.sl (.int .i64))],[.d .bool],fun a=>D4 a.1 a.2.1 a.2.2.1⟩
theorem ok44:Ctr.ok Tryz.prog 44 ctr44:=B0 (G:={ gxb with fs:=[(82,ctr82),(83,ctr83)] }) (an:=AWh) (B1 ⟨⟨ok82,Tryz.call82⟩,⟨⟨ok83,Tryz.call83⟩,trivial⟩⟩) Tryz.func44 rfl rfl rfl rfl (fun a=>by kernel_rfl)
noncomputable def Z7 (vals:(List Int)):Option Int:=Option.bind (B8 (S:=(Int)) (R:=(Unit⊕Int)) (fun x4=>cond (decide (x4 < (vals.length:Int))) (Option.bind (ixo vals x4) fun y5=>cond ((!decide (y5=0))) (some (Sum.inr (Sum.inr y5))) (Option.bind (chk .i64 (x4+1)) fun n6=>some (Sum.inl n6))) (some (Sum.inr (Sum.inl ())))) (0:Int)) ((Sum.elim (fun _=>some (0:Int)) (fun r7=>some r7)))
def AVT:An:=.nd (.x) (.nd (.x) (.nd (.nd (.x) (.lp ⟨[(.slot 8,.d (.int .i64))],[]⟩ [.exit 0 ⟨[],[]⟩,.ret] (.x))) (.x)))
noncomputable def ctr104:Ctr:=⟨[.d (.sl (.int .i64))],[.d (.int .i64)],fun a=>Z7 a.1⟩
theorem ok104:Ctr.ok Tryz.prog 104 ctr104:=B0 (G:={ gxb with fs:=[] }) (an:=AVT) (B1 trivial) Tryz.func104 rfl rfl rfl rfl (fun a=>by kernel_rfl)
noncomputable def J7 (a:Answer) (b:Answer):Option Bool:=Option.bind (C9 a.day b.day) fun r1=>Option.bind (C9 a.id b.id) fun r2=>Option.bind (Z7 ([r1,r2])) fun r3=>some (decide (r3 < 0))
def AVU:An:=.x
noncomputable def ctr126:Ctr:=⟨[.d (.st 3),.d (.st 3)],[.d .bool],fun a=>J7 a.1 a.2.1⟩
theorem ok126:Ctr.ok Tryz.prog 126 ctr126:=B0 (G:={ gxb with fs:=[(88,ctr88),(104,ctr104)] }) (an:=AVU) (B1 ⟨⟨ok88,Tryz.call88⟩,⟨⟨ok104,Tryz.call104⟩,trivial⟩⟩) Tryz.func126 rfl rfl rfl rfl (fun a=>by kernel_rfl)
noncomputable def N8 (d:Desk_99) (x:Dispute):Option Verdict:=Option.bind (chk .i64 (x.day+d.desk.terms.answer)) fun n1=>Option.bind (chk .i64 (n1+1)) fun n2=>Option.bind (B8 (S:=(Int×Int×Int×Int×Int×Int×Int×Int×Int)) (R:=(Int×Int×Int×Int×Int×Int×Int×Int)) (fun (x39,x40,x41,x42,x43,x44,x45,x46,x47)=>cond (decide (x39 < (((d.answers x.id).getD ([]:(List Answer))).length:Int))) (Option.bind (ixo ((d.answers x.id).getD ([]:(List Answer))) x39) fun y48=>Option.bind (α:=(Bool)) (Option.bind (D4 x.day n1 ([y48.day])) fun r49=>cond (r49) (cond (decide (x41=5)) (some true) (Option.bind (J7 y48 (Answer.mk x42 x43 x44 x45 x46 x47)) fun r50=>some r50)) (some false)) ((fun x51=>Option.bind (α:=(Int×Int×Int×Int×Int×Int×Int×Int)) (cond (x51) (some (y48.day,((AFz y48.says).getD 0),y48.id,y48.dispute,y48.day,y48.says,y48.about,y48.cents)) (some (x40,x41,x42,x43,x44,x45,x46,x47))) ((fun (x52,x53,x54,x55,x56,x57,x58,x59)=>Option.bind (chk .i64 (x39+1)) fun n60=>some (Sum.inl (n60,x52,x53,x54,x55,x56,x57,x58,x59))))))) (some (Sum.inr (x40,x41,x42,x43,x44,x45,x46,x47)))) ((0:Int),n2,(5:Int),(0:Int),(0:Int),(0:Int),(0:Int),(0:Int),(0:Int))) ((fun (x61,x62,x63,x64,x65,x66,x67,x68)=>some (Verdict.mk x61 x62 (Answer.mk x63 x64 x65 x66 x67 x68))))
def AWi:An:=.nd (.x) (.nd (.x) (.nd (.x) (.nd (.x) (.nd (.nd (.x) (.lp ⟨[(.slot 26,.d (.int .i64)),(.cell 6 0,.d (.int .i64)),(.cell 6 1,.d (.int .u8)),(.cell 6 2,.d (.int .i64)),(.cell 6 3,.d (.int .i64)),(.cell 6 4,.d (.int .i64)),(.cell 6 5,.d (.int .u8)),(.cell 6 6,.d (.int .i64)),(.cell 6 7,.d (.int .i64))],[6,4,3]⟩ [.exit 0 ⟨[(.cell 6 0,.d (.int .i64)),(.cell 6 1,.d (.int .u8)),(.cell 6 2,.d (.int .i64)),(.cell 6 3,.d (.int .i64)),(.cell 6 4,.d (.int .i64)),(.cell 6 5,.d (.int .u8)),(.cell 6 6,.d (.int .i64)),(.cell 6 7,.d (.int .i64))],[6,4]⟩] (.nd (.x) (.nd (.x) (.nd (.nd (.x) (.nd (.jn [.norm ⟨[(.slot 48,.d .bool)],[9,6,4,3]⟩] (.x)) (.jn [.norm ⟨[(.cell 6 0,.d (.int .i64)),(.cell 6 1,.d (.int .u8)),(.cell 6 2,.d (.int .i64)),(.cell 6 3,.d (.int .i64)),(.cell 6 4,.d (.int .i64)),(.cell 6 5,.d (.int .u8)),(.cell 6 6,.d (.int .i64)),(.cell 6 7,.d (.int .i64))],[6,4,3]⟩] (.x)))) (.x)))))) (.x)))))
noncomputable def ctr92:Ctr:=⟨[.d (.st 10),.d (.st 2)],[.d (.st 12)],fun a=>N8 a.1 a.2.1⟩
theorem ok92:Ctr.ok Tryz.prog 92 ctr92:=B0 (G:={ gxb with fs:=[(44,ctr44),(126,ctr126)] }) (an:=AWi) (B1 ⟨⟨ok44,Tryz.call44⟩,⟨⟨ok126,Tryz.call126⟩,trivial⟩⟩) Tryz.func92 rfl rfl rfl rfl (fun a=>by kernel_rfl)
noncomputable def F3 (d:Desk_99) (x:Dispute) (day:Int):Option (Int×Verdict):=Option.bind (N8 d x) fun r1=>cond (decide (r1.day<=day)) (some (r1.is_,r1)) (cond (decide (x.day<=day)) (some ((1:Int),r1)) (some ((0:Int),r1)))
def AWj:An:=.x
noncomputable def ctr57:Ctr:=⟨[.d (.st 10),.d (.st 2),.d (.int .i64)],[.d (.int .u8),.d (.st 12)],fun a=>F3 a.1 a.2.1 a.2.2.1⟩
theorem ok57:Ctr.ok Tryz.prog 57 ctr57:=B0 (G:={ gxb with fs:=[(92,ctr92)] }) (an:=AWj) (B1 ⟨⟨ok92,Tryz.call92⟩,trivial⟩) Tryz.func57 rfl rfl rfl rfl (fun a=>by kernel_rfl)
noncomputable def B6 (n:Int) (lo:Int) (hi:Int):Option Bool:=Option.bind (α:=(Bool)) (cond (decide (lo<=n)) (some (decide (n<=hi))) (some false)) ((fun x1=>some x1))
def AWk:An:=.nd (.x) (.nd (.jn [.norm ⟨[(.slot 6,.d .bool)],[]⟩] (.x)) (.x))
noncomputable def ctr42:Ctr:=⟨[.d (.int .i64),.d (.int .i64),.d (.int .i64)],[.d .bool],fun a=>B6 a.1 a.2.1 a.2.2.1⟩
theorem ok42:Ctr.ok Tryz.prog 42 ctr42:=B0 (G:={ gxb with fs:=[] }) (an:=AWk) (B1 trivial) Tryz.func42 rfl rfl rfl rfl (fun a=>by kernel_rfl)
noncomputable def D8 (n:Int) (lo:Int) (hi:Int):Option Bool:=Option.bind (α:=(Bool)) (cond (decide (lo<=n)) (some (decide (n<=hi))) (some false)) ((fun x1=>some x1))
def AVV:An:=.nd (.x) (.nd (.jn [.norm ⟨[(.slot 6,.d .bool)],[]⟩] (.x)) (.x))
noncomputable def ctr128:Ctr:=⟨[.d (.int .i64),.d (.int .i64),.d (.int .i64)],[.d .bool],fun a=>D8 a.1 a.2.1 a.2.2.1⟩
theorem ok128:Ctr.ok Tryz.prog 128 ctr128:=B0 (G:={ gxb with fs:=[] }) (an:=AVV) (B1 trivial) Tryz.func128 rfl rfl rfl rfl (fun a=>by kernel_rfl)
noncomputable def AAg (kind:Int) (n:Int):Option Bool:=Option.bind (α:=(Bool)) (cond (decide (kind=1)) (some (decide (kind=1))) (some (decide (kind=7)))) ((fun x1=>cond (x1) (some (decide (n=0))) (cond (decide (kind=5)) (Option.bind (D8 n (0:Int) (10000:Int)) fun r2=>some r2) (Option.bind (D8 n (0:Int) (1000000000000:Int)) fun r3=>some r3))))
def AVW:An:=.nd (.x) (.nd (.nd (.x) (.nd (.nd (.x) (.jn [.norm ⟨[(.slot 6,.d .bool)],[]⟩] (.x))) (.x))) (.x))
noncomputable def ctr129:Ctr:=⟨[.d (.int .u8),.d (.int .i64)],[.d .bool],fun a=>AAg a.1 a.2.1⟩
theorem ok129:Ctr.ok Tryz.prog 129 ctr129:=B0 (G:={ gxb with fs:=[(128,ctr128)] }) (an:=AVW) (B1 ⟨⟨ok128,Tryz.call128⟩,trivial⟩) Tryz.func129 rfl rfl rfl rfl (fun a=>by kernel_rfl)
noncomputable def AAh (r:Report):Option Bool:=Option.bind (α:=(Bool)) (Option.bind (D8 r.id (0:Int) (999999:Int)) fun r8=>cond ((!r8)) (some true) (Option.bind (D8 r.source (0:Int) (999999:Int)) fun r9=>cond ((!r9)) (some true) (Option.bind (D8 r.account (0:Int) (999999:Int)) fun r10=>cond ((!r10)) (some true) (Option.bind (D8 r.made (0:Int) (100000:Int)) fun r11=>cond ((!r11)) (some true) (Option.bind (D8 r.about (0:Int) (100000:Int)) fun r12=>cond ((!r12)) (some true) (Option.bind (chk .i64 r.kind) fun n13=>Option.bind (D8 n13 (1:Int) (9:Int)) fun r14=>some (!r14))))))) ((fun x15=>cond (x15) (some false) (cond (decide (r.kind<=7)) (Option.bind (α:=(Bool)) (Option.bind (AAg r.kind r.cents) fun r16=>cond (r16) (some (decide (r.of_=0))) (some false)) ((fun x17=>some x17))) (Option.bind (α:=(Bool)) (Option.bind (D8 r.of_ (0:Int) (999999:Int)) fun r19=>cond ((!r19)) (some true) (some (decide (r.of_=r.id)))) ((fun x20=>cond (x20) (some false) (cond (decide (r.kind=8)) (Option.bind (D8 r.cents (0:Int) (1000000000000:Int)) fun r21=>some r21) (Option.bind (α:=(Bool)) (cond (decide (r.cents=0)) (some (decide (r.about=0))) (some false)) ((fun x22=>some x22))))))))))
def AWl:An:=.nd (.x) (.nd (.nd (.jn [.norm ⟨[(.slot 37,.d .bool)],[1]⟩] (.x)) (.x)) (.nd (.nd (.x) (.nd (.nd (.jn [.norm ⟨[(.slot 2,.d .bool)],[]⟩] (.x)) (.x)) (.x))) (.nd (.nd (.jn [.norm ⟨[(.slot 61,.d .bool)],[1]⟩] (.x)) (.x)) (.nd (.x) (.nd (.jn [.norm ⟨[(.slot 2,.d .bool)],[]⟩] (.x)) (.x))))))
noncomputable def ctr95:Ctr:=⟨[.d (.st 1)],[.d .bool],fun a=>AAh a.1⟩
theorem ok95:Ctr.ok Tryz.prog 95 ctr95:=B0 (G:={ gxb with fs:=[(128,ctr128),(129,ctr129)] }) (an:=AWl) (B1 ⟨⟨ok128,Tryz.call128⟩,⟨⟨ok129,Tryz.call129⟩,trivial⟩⟩) Tryz.func95 rfl rfl rfl rfl (fun a=>by kernel_rfl)
noncomputable def AAi (l:(List Report)):Option Int:=cond (decide (60 < (l.length:Int))) (some (4:Int)) (Option.bind (B8 (S:=(Int)) (R:=(Unit⊕Int)) (fun x5=>cond (decide (x5 < (l.length:Int))) (Option.bind (ixo l x5) fun y6=>Option.bind (AAh y6) fun r7=>cond ((!r7)) (some (Sum.inr (Sum.inr (30:Int)))) (Option.bind (chk .i64 (x5+1)) fun n8=>some (Sum.inl n8))) (some (Sum.inr (Sum.inl ())))) (0:Int)) ((Sum.elim (fun _=>Option.bind (B8 (S:=(Int)) (R:=(Unit⊕Int)) (fun x19=>cond (decide (x19 < (l.length:Int))) (Option.bind (B8 (S:=(Int)) (R:=(Unit⊕Int)) (fun x20=>cond (decide (x20 < x19)) (Option.bind (α:=(Bool)) (Option.bind (ixo l x19) fun y21=>Option.bind (ixo l x20) fun y22=>cond (decide (y21.id=y22.id)) (Option.bind (ixo l x19) fun y23=>Option.bind (ixo l x20) fun y24=>some (!decide (y23=y24))) (some false)) ((fun x25=>cond (x25) (some (Sum.inr (Sum.inr (31:Int)))) (Option.bind (chk .i64 (x20+1)) fun n26=>some (Sum.inl n26))))) (some (Sum.inr (Sum.inl ())))) (0:Int)) ((Sum.elim (fun _=>Option.bind (chk .i64 (x19+1)) fun n27=>some (Sum.inl n27)) (fun r28=>some (Sum.inr (Sum.inr r28)))))) (some (Sum.inr (Sum.inl ())))) (0:Int)) ((Sum.elim (fun _=>some (0:Int)) (fun r29=>some r29)))) (fun r30=>some r30))))
def AWm:An:=.nd (.x) (.nd (.x) (.nd (.nd (.x) (.lp ⟨[(.slot 3,.d (.int .i64))],[]⟩ [.exit 0 ⟨[],[]⟩,.ret] (.x))) (.nd (.nd (.x) (.lp ⟨[(.slot 4,.d (.int .i64))],[]⟩ [.exit 2 ⟨[],[]⟩,.ret] (.nd (.x) (.nd (.nd (.x) (.lp ⟨[(.slot 5,.d (.int .i64))],[]⟩ [.exit 4 ⟨[],[]⟩,.ret] (.nd (.x) (.nd (.nd (.jn [.norm ⟨[(.slot 53,.d .bool)],[]⟩] (.x)) (.x)) (.x))))) (.x))))) (.x))))
noncomputable def ctr62:Ctr:=⟨[.d (.sl (.st 1))],[.d (.int .i64)],fun a=>AAi a.1⟩
theorem ok62:Ctr.ok Tryz.prog 62 ctr62:=B0 (G:={ gxb with fs:=[(95,ctr95)] }) (an:=AWm) (B1 ⟨⟨ok95,Tryz.call95⟩,trivial⟩) Tryz.func62 rfl rfl rfl rfl (fun a=>by kernel_rfl)
noncomputable def ABG (d:Desk) (id:Int):Option Int:=Option.bind (B8 (S:=(Int)) (R:=(Unit⊕Int)) (fun x4=>cond (decide (x4 < (d.disputes.length:Int))) (Option.bind (ixo d.disputes x4) fun y5=>cond (decide (y5.id=id)) (some (Sum.inr (Sum.inr x4))) (Option.bind (chk .i64 (x4+1)) fun n6=>some (Sum.inl n6))) (some (Sum.inr (Sum.inl ())))) (0:Int)) ((Sum.elim (fun _=>some ((-1):Int)) (fun r7=>some r7)))
def AWn:An:=.nd (.x) (.nd (.nd (.x) (.lp ⟨[(.slot 5,.d (.int .i64))],[2]⟩ [.exit 0 ⟨[],[]⟩,.ret] (.x))) (.x))
noncomputable def ctr26:Ctr:=⟨[.d (.st 4),.d (.int .i64)],[.d (.int .i64)],fun a=>ABG a.1 a.2.1⟩
theorem ok26:Ctr.ok Tryz.prog 26 ctr26:=B0 (G:={ gxb with fs:=[] }) (an:=AWn) (B1 trivial) Tryz.func26 rfl rfl rfl rfl (fun a=>by kernel_rfl)
noncomputable def ACL (l:(List Report)) (id:Int):Option Int:=Option.bind (B8 (S:=(Int)) (R:=(Unit⊕Int)) (fun x4=>cond (decide (x4 < (l.length:Int))) (Option.bind (ixo l x4) fun y5=>cond (decide (y5.id=id)) (some (Sum.inr (Sum.inr x4))) (Option.bind (chk .i64 (x4+1)) fun n6=>some (Sum.inl n6))) (some (Sum.inr (Sum.inl ())))) (0:Int)) ((Sum.elim (fun _=>some ((-1):Int)) (fun r7=>some r7)))
def AWo:An:=.nd (.x) (.nd (.nd (.x) (.lp ⟨[(.slot 5,.d (.int .i64))],[]⟩ [.exit 0 ⟨[],[]⟩,.ret] (.x))) (.x))
noncomputable def ctr96:Ctr:=⟨[.d (.sl (.st 1)),.d (.int .i64)],[.d (.int .i64)],fun a=>ACL a.1 a.2.1⟩
theorem ok96:Ctr.ok Tryz.prog 96 ctr96:=B0 (G:={ gxb with fs:=[] }) (an:=AWo) (B1 trivial) Tryz.func96 rfl rfl rfl rfl (fun a=>by kernel_rfl)
noncomputable def Z8 (l:(List Report)) (id:Int):Option Int:=Option.bind (ACL l id) fun r1=>Option.bind (α:=(Bool)) (cond (decide (0<=r1)) (Option.bind (ixo l r1) fun y3=>some (decide (7 < y3.kind))) (some false)) ((fun x4=>cond (x4) (some ((-1):Int)) (some r1)))
def AWp:An:=.nd (.x) (.nd (.x) (.nd (.nd (.jn [.norm ⟨[(.slot 18,.d .bool)],[]⟩] (.x)) (.x)) (.x)))
noncomputable def ctr90:Ctr:=⟨[.d (.sl (.st 1)),.d (.int .i64)],[.d (.int .i64)],fun a=>Z8 a.1 a.2.1⟩
theorem ok90:Ctr.ok Tryz.prog 90 ctr90:=B0 (G:={ gxb with fs:=[(96,ctr96)] }) (an:=AWp) (B1 ⟨⟨ok96,Tryz.call96⟩,trivial⟩) Tryz.func90 rfl rfl rfl rfl (fun a=>by kernel_rfl)
noncomputable def V8 (d:Desk):Option Bool:=cond (decide (20 < (d.disputes.length:Int))) (some false) (Option.bind (B8 (S:=(Int)) (R:=(Unit⊕Bool)) (fun x14=>cond (decide (x14 < (d.disputes.length:Int))) (Option.bind (ixo d.disputes x14) fun y15=>Option.bind (α:=(Bool)) (Option.bind (B6 y15.id (0:Int) (999999:Int)) fun r16=>cond ((!r16)) (some true) (Option.bind (ABG d y15.id) fun r17=>cond ((!decide (r17=x14))) (some true) (Option.bind (ACL d.reports y15.id) fun r18=>some (decide (0<=r18))))) ((fun x19=>cond (x19) (some (Sum.inr (Sum.inr false))) (Option.bind (Z8 d.reports y15.report) fun r20=>Option.bind (α:=(Bool)) (cond (decide (r20 < 0)) (some true) (Option.bind (ixo d.reports r20) fun y21=>Option.bind (chk .i64 (100000 - d.terms.answer)) fun n22=>Option.bind (chk .i64 (n22 - 1)) fun n23=>Option.bind (B6 y15.day y21.made n23) fun r24=>some (!r24))) ((fun x25=>cond (x25) (some (Sum.inr (Sum.inr false))) (Option.bind (chk .i64 (x14+1)) fun n26=>some (Sum.inl n26)))))))) (some (Sum.inr (Sum.inl ())))) (0:Int)) ((Sum.elim (fun _=>some true) (fun r27=>some r27))))
def AWq:An:=.nd (.x) (.nd (.x) (.nd (.nd (.x) (.lp ⟨[(.slot 3,.d (.int .i64))],[1]⟩ [.exit 0 ⟨[],[]⟩,.ret] (.nd (.x) (.nd (.nd (.x) (.nd (.nd (.jn [.norm ⟨[(.slot 41,.d .bool)],[4,1]⟩] (.x)) (.x)) (.nd (.x) (.nd (.jn [.norm ⟨[(.slot 65,.d .bool)],[1]⟩] (.x)) (.x))))) (.x))))) (.x)))
noncomputable def ctr63:Ctr:=⟨[.d (.st 4)],[.d .bool],fun a=>V8 a.1⟩
theorem ok63:Ctr.ok Tryz.prog 63 ctr63:=B0 (G:={ gxb with fs:=[(26,ctr26),(42,ctr42),(90,ctr90),(96,ctr96)] }) (an:=AWq) (B1 ⟨⟨ok26,Tryz.call26⟩,⟨⟨ok42,Tryz.call42⟩,⟨⟨ok90,Tryz.call90⟩,⟨⟨ok96,Tryz.call96⟩,trivial⟩⟩⟩⟩) Tryz.func63 rfl rfl rfl rfl (fun a=>by kernel_rfl)
noncomputable def AAj (kind:Int) (n:Int):Option Bool:=Option.bind (α:=(Bool)) (cond (decide (kind=1)) (some (decide (kind=1))) (some (decide (kind=7)))) ((fun x1=>cond (x1) (some (decide (n=0))) (cond (decide (kind=5)) (Option.bind (B6 n (0:Int) (10000:Int)) fun r2=>some r2) (Option.bind (B6 n (0:Int) (1000000000000:Int)) fun r3=>some r3))))
def AWr:An:=.nd (.x) (.nd (.nd (.x) (.nd (.nd (.x) (.jn [.norm ⟨[(.slot 6,.d .bool)],[]⟩] (.x))) (.x))) (.x))
noncomputable def ctr97:Ctr:=⟨[.d (.int .u8),.d (.int .i64)],[.d .bool],fun a=>AAj a.1 a.2.1⟩
theorem ok97:Ctr.ok Tryz.prog 97 ctr97:=B0 (G:={ gxb with fs:=[(42,ctr42)] }) (an:=AWr) (B1 ⟨⟨ok42,Tryz.call42⟩,trivial⟩) Tryz.func97 rfl rfl rfl rfl (fun a=>by kernel_rfl)
noncomputable def Y8 (d:Desk):Option Bool:=cond (decide (40 < (d.answers.length:Int))) (some false) (Option.bind (B8 (S:=(Int)) (R:=(Unit⊕Bool)) (fun x49=>cond (decide (x49 < (d.answers.length:Int))) (Option.bind (α:=(Unit⊕Bool)) (Option.bind (ixo d.answers x49) fun y50=>Option.bind (B8 (S:=(Int)) (R:=(Unit⊕Bool)) (fun x51=>cond (decide (x51 < x49)) (Option.bind (ixo d.answers x51) fun y52=>cond (decide (y52.id=y50.id)) (some (Sum.inr (Sum.inr false))) (Option.bind (chk .i64 (x51+1)) fun n53=>some (Sum.inl n53))) (some (Sum.inr (Sum.inl ())))) (0:Int)) ((Sum.elim (fun _=>Option.bind (α:=(Bool)) (Option.bind (B6 y50.id (0:Int) (999999:Int)) fun r54=>cond ((!r54)) (some true) (Option.bind (B6 y50.day (0:Int) (100000:Int)) fun r55=>cond ((!r55)) (some true) (Option.bind (chk .i64 y50.says) fun n56=>Option.bind (B6 n56 (1:Int) (3:Int)) fun r57=>some (!r57)))) ((fun x58=>cond (x58) (some (Sum.inr false)) (Option.bind (ABG d y50.dispute) fun r59=>cond (decide (r59 < 0)) (some (Sum.inr false)) (cond ((!decide (y50.says=2))) (Option.bind (α:=(Bool)) (cond ((!decide (y50.about=0))) (some true) (some (!decide (y50.cents=0)))) ((fun x60=>cond (x60) (some (Sum.inr false)) (some (Sum.inl ()))))) (Option.bind (ixo d.disputes r59) fun y61=>Option.bind (Z8 d.reports y61.report) fun r62=>Option.bind (ixo d.reports r62) fun y63=>Option.bind (α:=(Bool)) (Option.bind (B6 y50.about (0:Int) (100000:Int)) fun r64=>cond ((!r64)) (some true) (Option.bind (AAj y63.kind y50.cents) fun r65=>some (!r65))) ((fun x66=>cond (x66) (some (Sum.inr false)) (some (Sum.inl ())))))))))) (fun r67=>some (Sum.inr r67))))) ((Sum.elim (fun _=>Option.bind (chk .i64 (x49+1)) fun n68=>some (Sum.inl n68)) (fun r69=>some (Sum.inr (Sum.inr r69)))))) (some (Sum.inr (Sum.inl ())))) (0:Int)) ((Sum.elim (fun _=>some true) (fun r70=>some r70))))
def AWs:An:=.nd (.x) (.nd (.x) (.nd (.nd (.x) (.lp ⟨[(.slot 3,.d (.int .i64))],[1]⟩ [.exit 0 ⟨[],[]⟩,.ret] (.nd (.x) (.nd (.jn [.norm ⟨[],[1]⟩,.ret] (.nd (.x) (.nd (.nd (.x) (.lp ⟨[(.slot 5,.d (.int .i64))],[4,1]⟩ [.exit 2 ⟨[],[4,1]⟩,.ret] (.x))) (.nd (.nd (.jn [.norm ⟨[(.slot 54,.d .bool)],[4,1]⟩] (.x)) (.x)) (.nd (.x) (.nd (.x) (.nd (.nd (.x) (.nd (.nd (.nd (.jn [.norm ⟨[(.slot 71,.d .bool)],[1]⟩] (.x)) (.x)) (.x)) (.x))) (.nd (.x) (.nd (.jn [.norm ⟨[(.slot 96,.d .bool)],[1]⟩] (.x)) (.x)))))))))) (.x))))) (.x)))
noncomputable def ctr64:Ctr:=⟨[.d (.st 4)],[.d .bool],fun a=>Y8 a.1⟩
theorem ok64:Ctr.ok Tryz.prog 64 ctr64:=B0 (G:={ gxb with fs:=[(26,ctr26),(42,ctr42),(90,ctr90),(97,ctr97)] }) (an:=AWs) (B1 ⟨⟨ok26,Tryz.call26⟩,⟨⟨ok42,Tryz.call42⟩,⟨⟨ok90,Tryz.call90⟩,⟨⟨ok97,Tryz.call97⟩,trivial⟩⟩⟩⟩) Tryz.func64 rfl rfl rfl rfl (fun a=>by kernel_rfl)
noncomputable def X3 (d:Desk):Option Int:=Option.bind (α:=(Bool)) (Option.bind (B6 d.terms.answer (0:Int) (1000:Int)) fun r4=>cond ((!r4)) (some true) (Option.bind (B6 d.terms.mark (0:Int) (100000:Int)) fun r5=>cond ((!r5)) (some true) (Option.bind (B6 d.terms.lately (0:Int) (100000:Int)) fun r6=>some (!r6)))) ((fun x7=>cond (x7) (some (50:Int)) (Option.bind (AAi d.reports) fun r8=>cond ((!decide (r8=0))) (some r8) (Option.bind (V8 d) fun r9=>cond ((!r9)) (some (51:Int)) (Option.bind (Y8 d) fun r10=>cond ((!r10)) (some (52:Int)) (some (0:Int)))))))
def AWt:An:=.nd (.x) (.nd (.nd (.jn [.norm ⟨[(.slot 22,.d .bool)],[1]⟩] (.x)) (.x)) (.x))
noncomputable def ctr27:Ctr:=⟨[.d (.st 4)],[.d (.int .i64)],fun a=>X3 a.1⟩
theorem ok27:Ctr.ok Tryz.prog 27 ctr27:=B0 (G:={ gxb with fs:=[(42,ctr42),(62,ctr62),(63,ctr63),(64,ctr64)] }) (an:=AWt) (B1 ⟨⟨ok42,Tryz.call42⟩,⟨⟨ok62,Tryz.call62⟩,⟨⟨ok63,Tryz.call63⟩,⟨⟨ok64,Tryz.call64⟩,trivial⟩⟩⟩⟩) Tryz.func27 rfl rfl rfl rfl (fun a=>by kernel_rfl)
noncomputable def AAb (s:(List Report)) (f:Report->Option Bool):Option Int:=Option.bind (B8 (S:=(Int)) (R:=(Unit⊕Int)) (fun x5=>cond (decide (x5 < (s.length:Int))) (Option.bind (ixo s x5) fun y6=>Option.bind (f y6) fun y7=>cond (y7) (some (Sum.inr (Sum.inr x5))) (Option.bind (chk .i64 (x5+1)) fun n8=>some (Sum.inl n8))) (some (Sum.inr (Sum.inl ())))) (0:Int)) ((Sum.elim (fun _=>some ((-1):Int)) (fun r9=>some r9)))
def AVX:An:=.nd (.x) (.nd (.nd (.x) (.lp ⟨[(.slot 8,.d (.int .i64))],[]⟩ [.exit 0 ⟨[],[]⟩,.ret] (.x))) (.x))
noncomputable def ctr130:Ctr:=⟨[.d (.sl (.st 1)),.fn [(.st 1)] .bool],[.d (.int .i64)],fun a=>AAb a.1 a.2.1⟩
theorem ok130:Ctr.ok Tryz.prog 130 ctr130:=B0 (G:={ gxb with fs:=[] }) (an:=AVX) (B1 trivial) Tryz.func130 rfl rfl rfl rfl (fun a=>by kernel_rfl)
noncomputable def P8 (s:(List Report)) (f:Report->Option Bool):Option Bool:=Option.bind (AAb s f) fun r1=>some (decide (0<=r1))
def AWu:An:=.x
noncomputable def ctr98:Ctr:=⟨[.d (.sl (.st 1)),.fn [(.st 1)] .bool],[.d .bool],fun a=>P8 a.1 a.2.1⟩
theorem ok98:Ctr.ok Tryz.prog 98 ctr98:=B0 (G:={ gxb with fs:=[(130,ctr130)] }) (an:=AWu) (B1 ⟨⟨ok130,Tryz.call130⟩,trivial⟩) Tryz.func98 rfl rfl rfl rfl (fun a=>by kernel_rfl)
noncomputable def P9 (n:Int) (a1_:Int) (a2_:Int):Option Bool:=Option.bind (α:=(Bool)) (cond (decide (n < a1_)) (some true) (some (decide (a2_ < n)))) ((fun x1=>some x1))
def AVY:An:=.nd (.x) (.nd (.jn [.norm ⟨[(.slot 4,.d .bool)],[]⟩] (.x)) (.x))
noncomputable def ctr101:Ctr:=⟨[.d (.int .i64),.pt (.int .i64),.pt (.int .i64)],[.d .bool],fun a=>P9 a.1 a.2.1 a.2.2.1⟩
theorem ok101:Ctr.ok Tryz.prog 101 ctr101:=B0 (G:={ gxb with fs:=[] }) (an:=AVY) (B1 trivial) Tryz.func101 rfl rfl rfl rfl (fun a=>by kernel_rfl)
noncomputable def J9 (lo:Int) (hi:Int) (all:(List Int)):Option Bool:=Option.bind (G7 all (fun a1=>P9 a1 lo hi)) fun r2=>some (!r2)
def AWv:An:=.x
noncomputable def ctr66:Ctr:=⟨[.d (.int .i64),.d (.int .i64),.d (.sl (.int .i64))],[.d .bool],fun a=>J9 a.1 a.2.1 a.2.2.1⟩
theorem ok66:Ctr.ok Tryz.prog 66 ctr66:=B0 (G:={ gxb with fs:=[(82,ctr82),(101,ctr101)] }) (an:=AWv) (B1 ⟨⟨ok82,Tryz.call82⟩,⟨⟨ok101,Tryz.call101⟩,trivial⟩⟩) Tryz.func66 rfl rfl rfl rfl (fun a=>by kernel_rfl)
noncomputable def J3 (r:Report):Option Bool:=some (decide (r.kind<=7))
def AWw:An:=.x
noncomputable def ctr72:Ctr:=⟨[.d (.st 1)],[.d .bool],fun a=>J3 a.1⟩
theorem ok72:Ctr.ok Tryz.prog 72 ctr72:=B0 (G:={ gxb with fs:=[] }) (an:=AWw) (B1 trivial) Tryz.func72 rfl rfl rfl rfl (fun a=>by kernel_rfl)
noncomputable def R7 (r:Report):Option Bool:=Option.bind (α:=(Bool)) (Option.bind (chk .i64 r.kind) fun n8=>Option.bind (J9 (1:Int) (9:Int) ([n8])) fun r9=>cond ((!r9)) (some true) (Option.bind (J9 (0:Int) (999999:Int) ([r.id,r.source,r.account,r.of_])) fun r10=>cond ((!r10)) (some true) (Option.bind (J9 (0:Int) (100000:Int) ([r.made,r.about])) fun r11=>cond ((!r11)) (some true) (Option.bind (ixA 10 r.kind) fun i12=>Option.bind (ixo glob0 (i12 * 1)) fun y13=>Option.bind (J9 (0:Int) y13 ([r.cents])) fun r14=>some (!r14))))) ((fun x15=>cond (x15) (some false) (Option.bind (J3 r) fun r16=>cond (r16) (some (decide (r.of_=0))) (Option.bind (α:=(Bool)) (cond (decide (r.kind=9)) (some (!decide (r.about=0))) (some false)) ((fun x17=>cond (x17) (some false) (some (!decide (r.of_=r.id)))))))))
def AVZ:An:=.nd (.x) (.nd (.nd (.jn [.norm ⟨[(.slot 41,.d .bool)],[1]⟩] (.x)) (.x)) (.nd (.nd (.x) (.nd (.x) (.nd (.jn [.norm ⟨[(.slot 48,.d .bool)],[1]⟩] (.x)) (.x)))) (.x)))
noncomputable def ctr100:Ctr:=⟨[.d (.st 1)],[.d .bool],fun a=>R7 a.1⟩
theorem ok100:Ctr.ok Tryz.prog 100 ctr100:=B0 (G:={ gxb with fs:=[(66,ctr66),(72,ctr72)] }) (an:=AVZ) (B1 ⟨⟨ok66,Tryz.call66⟩,⟨⟨ok72,Tryz.call72⟩,trivial⟩⟩) Tryz.func100 rfl rfl rfl rfl (fun a=>by kernel_rfl)
noncomputable def Y0 (r:Report):Option Bool:=Option.bind (R7 r) fun r1=>some (!r1)
def AWx:An:=.x
noncomputable def ctr99:Ctr:=⟨[.d (.st 1)],[.d .bool],fun a=>Y0 a.1⟩
theorem ok99:Ctr.ok Tryz.prog 99 ctr99:=B0 (G:={ gxb with fs:=[(100,ctr100)] }) (an:=AWx) (B1 ⟨⟨ok100,Tryz.call100⟩,trivial⟩) Tryz.func99 rfl rfl rfl rfl (fun a=>by kernel_rfl)
noncomputable def N9 (l:(List Report)):Option Int:=cond (decide (60 < (l.length:Int))) (some (4:Int)) (Option.bind (P8 l (fun a1=>Y0 a1)) fun r2=>cond (r2) (some (30:Int)) (Option.bind (B8 (S:=(Int×(A4 Int Report))) (R:=(Unit⊕Int)) (fun (x12,x13)=>cond (decide (x12 < (l.length:Int))) (Option.bind (ixo l x12) fun y14=>Option.bind (α:=(Bool)) (cond ((x13 y14.id).isSome) (some (!decide (((x13 y14.id).getD (Report.mk 0 0 0 0 0 0 0 0))=y14))) (some false)) ((fun x15=>cond (x15) (some (Sum.inr (Sum.inr (31:Int)))) (Option.bind (chk .i64 (x12+1)) fun n16=>some (Sum.inl (n16,(B7 x13 y14.id y14))))))) (some (Sum.inr (Sum.inl ())))) ((0:Int),(fnone:(A4 Int Report)))) ((Sum.elim (fun _=>some (0:Int)) (fun r17=>some r17)))))
def AWy:An:=.nd (.x) (.nd (.x) (.nd (.x) (.nd (.x) (.nd (.nd (.x) (.lp ⟨[(.slot 16,.d (.int .i64)),(.cont 13,.own (.mp 3 (.int .i64) (.st 1)))],[13]⟩ [.exit 0 ⟨[],[]⟩,.ret] (.nd (.x) (.nd (.x) (.nd (.nd (.x) (.nd (.nd (.x) (.nd (.jn [.norm ⟨[(.slot 32,.d .bool)],[5,13]⟩] (.x)) (.x))) (.x))) (.x)))))) (.x)))))
noncomputable def ctr65:Ctr:=⟨[.d (.sl (.st 1))],[.d (.int .i64)],fun a=>N9 a.1⟩
theorem ok65:Ctr.ok Tryz.prog 65 ctr65:=B0 (G:={ gxb with fs:=[(98,ctr98),(99,ctr99)] }) (an:=AWy) (B1 ⟨⟨ok98,Tryz.call98⟩,⟨⟨ok99,Tryz.call99⟩,trivial⟩⟩) Tryz.func65 rfl rfl rfl rfl (fun a=>by kernel_rfl)
noncomputable def E5 (s:Store) (r:Report):Option (Report×Bool):=Option.bind (α:=(Bool×Int×Int×Int×Int×Int×Int×Int×Int)) (cond ((s.reports r.of_).isSome) (cond (decide ((((s.reports r.of_).getD (Report.mk 0 0 0 0 0 0 0 0)).source)=r.source)) (some (decide ((((s.reports r.of_).getD (Report.mk 0 0 0 0 0 0 0 0)).account)=r.account),((s.reports r.of_).getD (Report.mk 0 0 0 0 0 0 0 0)).id,((s.reports r.of_).getD (Report.mk 0 0 0 0 0 0 0 0)).source,((s.reports r.of_).getD (Report.mk 0 0 0 0 0 0 0 0)).account,((s.reports r.of_).getD (Report.mk 0 0 0 0 0 0 0 0)).made,((s.reports r.of_).getD (Report.mk 0 0 0 0 0 0 0 0)).about,((s.reports r.of_).getD (Report.mk 0 0 0 0 0 0 0 0)).kind,((s.reports r.of_).getD (Report.mk 0 0 0 0 0 0 0 0)).cents,((s.reports r.of_).getD (Report.mk 0 0 0 0 0 0 0 0)).of_)) (some (false,((s.reports r.of_).getD (Report.mk 0 0 0 0 0 0 0 0)).id,((s.reports r.of_).getD (Report.mk 0 0 0 0 0 0 0 0)).source,((s.reports r.of_).getD (Report.mk 0 0 0 0 0 0 0 0)).account,((s.reports r.of_).getD (Report.mk 0 0 0 0 0 0 0 0)).made,((s.reports r.of_).getD (Report.mk 0 0 0 0 0 0 0 0)).about,((s.reports r.of_).getD (Report.mk 0 0 0 0 0 0 0 0)).kind,((s.reports r.of_).getD (Report.mk 0 0 0 0 0 0 0 0)).cents,((s.reports r.of_).getD (Report.mk 0 0 0 0 0 0 0 0)).of_))) (some (false,((s.reports r.of_).getD (Report.mk 0 0 0 0 0 0 0 0)).id,((s.reports r.of_).getD (Report.mk 0 0 0 0 0 0 0 0)).source,((s.reports r.of_).getD (Report.mk 0 0 0 0 0 0 0 0)).account,((s.reports r.of_).getD (Report.mk 0 0 0 0 0 0 0 0)).made,((s.reports r.of_).getD (Report.mk 0 0 0 0 0 0 0 0)).about,((s.reports r.of_).getD (Report.mk 0 0 0 0 0 0 0 0)).kind,((s.reports r.of_).getD (Report.mk 0 0 0 0 0 0 0 0)).cents,((s.reports r.of_).getD (Report.mk 0 0 0 0 0 0 0 0)).of_))) ((fun (x1,x2,x3,x4,x5,x6,x7,x8,x9)=>some ((Report.mk x2 x3 x4 x5 x6 x7 x8 x9),x1)))
def AWz:An:=.nd (.x) (.nd (.x) (.nd (.jn [.norm ⟨[(.slot 5,.d .bool),(.cell 4 0,.d (.int .i64)),(.cell 4 1,.d (.int .i64)),(.cell 4 2,.d (.int .i64)),(.cell 4 3,.d (.int .i64)),(.cell 4 4,.d (.int .i64)),(.cell 4 5,.d (.int .u8)),(.cell 4 6,.d (.int .i64)),(.cell 4 7,.d (.int .i64))],[4]⟩] (.x)) (.x)))
noncomputable def ctr71:Ctr:=⟨[.d (.st 13),.d (.st 1)],[.d (.st 1),.d .bool],fun a=>E5 a.1 a.2.1⟩
theorem ok71:Ctr.ok Tryz.prog 71 ctr71:=B0 (G:={ gxb with fs:=[] }) (an:=AWz) (B1 trivial) Tryz.func71 rfl rfl rfl rfl (fun a=>by kernel_rfl)
noncomputable def Q0 (d:Desk_139) (id:Int):Option Bool:=some ((d.gone id).isSome)
def AVa:An:=.x
noncomputable def ctr103:Ctr:=⟨[.d (.st 14),.d (.int .i64)],[.d .bool],fun a=>Q0 a.1 a.2.1⟩
theorem ok103:Ctr.ok Tryz.prog 103 ctr103:=B0 (G:={ gxb with fs:=[] }) (an:=AVa) (B1 trivial) Tryz.func103 rfl rfl rfl rfl (fun a=>by kernel_rfl)
noncomputable def U1 (l:(List Report)) (known:Int):Option Desk_139:=Option.bind (B8 (S:=(Int×(A4 Int Report))) (R:=((A4 Int Report))) (fun (x10,x11)=>cond (decide (x10 < (l.length:Int))) (Option.bind (ixo l x10) fun y12=>Option.bind (α:=((A4 Int Report))) (cond (decide (y12.made<=known)) (some (B7 x11 y12.id y12)) (some x11)) ((fun x13=>Option.bind (chk .i64 (x10+1)) fun n14=>some (Sum.inl (n14,x13))))) (some (Sum.inr x11))) ((0:Int),(fnone:(A4 Int Report)))) ((fun x15=>AAV x15 fun l46=>Option.bind (List.foldlM (m:=Option) (s:=((A4 Int Int))) (α:=Int×Report) (fun x37 (k38,v39)=>Option.bind (E5 (Store.mk x15) v39) fun (r40,r41)=>Option.bind (α:=(Bool)) (cond (decide (v39.kind=9)) (cond (r41) (some (!decide (r40.kind=9))) (some false)) (some false)) ((fun x42=>Option.bind (α:=((A4 Int Int))) (cond (x42) (Option.bind (α:=(Bool)) (cond ((!((x37 r40.id).isSome))) (some true) (some (decide (v39.id < ((x37 r40.id).getD 0))))) ((fun x43=>Option.bind (α:=((A4 Int Int))) (cond (x43) (some (B7 x37 r40.id v39.id)) (some x37)) ((fun x44=>some x44))))) (some x37)) ((fun x45=>some x45))))) (fnone:(A4 Int Int)) l46) fun x47=>AAV x15 fun l116=>Option.bind (List.foldlM (m:=Option) (s:=((A4 Int Int))) (α:=Int×Report) (fun x99 (k100,v101)=>Option.bind (E5 (Store.mk x15) v101) fun (r102,r103)=>Option.bind (α:=(Bool)) (cond ((!decide (v101.kind=8))) (some true) (cond ((!r103)) (some true) (Option.bind (J3 r102) fun r104=>cond ((!r104)) (some true) (Option.bind (ixA 10 r102.kind) fun i105=>Option.bind (ixo glob0 (i105 * 1)) fun y106=>Option.bind (J9 (0:Int) y106 ([v101.cents])) fun r107=>cond ((!r107)) (some true) (Option.bind (Q0 (Desk_139.mk (Store.mk x15) x47 x99) v101.id) fun r108=>cond (r108) (some true) (Option.bind (Q0 (Desk_139.mk (Store.mk x15) x47 x99) r102.id) fun r109=>some r109)))))) ((fun x110=>cond (x110) (some x99) (Option.bind (α:=(Bool)) (cond ((!((x99 r102.id).isSome))) (some true) (Option.bind (C9 (((x15 ((x99 r102.id).getD 0)).getD (Report.mk 0 0 0 0 0 0 0 0)).made) v101.made) fun r111=>Option.bind (C9 ((x99 r102.id).getD 0) v101.id) fun r112=>Option.bind (Z7 ([r111,r112])) fun r113=>some (decide (r113 < 0)))) ((fun x114=>Option.bind (α:=((A4 Int Int))) (cond (x114) (some (B7 x99 r102.id v101.id)) (some x99)) ((fun x115=>some x115)))))))) (fnone:(A4 Int Int)) l116) fun x117=>some (Desk_139.mk (Store.mk x15) x47 x117)))
def AW0:An:=.nd (.x) (.nd (.x) (.nd (.nd (.x) (.lp ⟨[(.slot 28,.d (.int .i64)),(.cont 21,.own (.mp 3 (.int .i64) (.st 1)))],[5,24,23,21,4]⟩ [.exit 0 ⟨[(.cont 21,.own (.mp 3 (.int .i64) (.st 1)))],[5,24,23,21,4]⟩] (.nd (.x) (.nd (.x) (.nd (.nd (.x) (.nd (.x) (.jn [.norm ⟨[(.cont 21,.own (.mp 3 (.int .i64) (.st 1)))],[5,24,23,21,4]⟩] (.x)))) (.x)))))) (.nd (.lp ⟨[(.cont 23,.own (.mp 3 (.int .i64) (.int .i64)))],[5,24,23,4]⟩ [] (.nd (.x) (.nd (.jn [.norm ⟨[(.slot 68,.d .bool)],[10,9,5,24,23,4]⟩] (.x)) (.jn [.norm ⟨[(.cont 23,.own (.mp 3 (.int .i64) (.int .i64)))],[5,24,23,4]⟩] (.nd (.nd (.x) (.nd (.jn [.norm ⟨[(.slot 84,.d .bool)],[10,9,5,24,23,4]⟩] (.x)) (.jn [.norm ⟨[(.cont 23,.own (.mp 3 (.int .i64) (.int .i64)))],[5,24,23,4]⟩] (.x)))) (.x)))))) (.nd (.lp ⟨[(.cont 24,.own (.mp 3 (.int .i64) (.int .i64)))],[5,24,23,4]⟩ [] (.nd (.x) (.nd (.nd (.jn [.norm ⟨[(.slot 140,.d .bool)],[16,15,5,24,23,4]⟩] (.x)) (.x)) (.nd (.x) (.nd (.x) (.nd (.jn [.norm ⟨[(.slot 169,.d .bool)],[16,15,5,24,23,4]⟩] (.x)) (.jn [.norm ⟨[(.cont 24,.own (.mp 3 (.int .i64) (.int .i64)))],[5,24,23,4]⟩] (.x)))))))) (.x)))))
noncomputable def AVb:Ctr:=⟨[.d (.sl (.st 1)),.d (.int .i64)],[.d (.st 14)],fun a=>U1 a.1 a.2.1⟩
theorem ok68:Ctr.ok Tryz.prog 68 AVb:=ARc (G:={ gxb with fs:=[(66,ctr66),(71,ctr71),(72,ctr72),(88,ctr88),(103,ctr103),(104,ctr104)] }) (an:=AW0) (B1 ⟨⟨ok66,Tryz.call66⟩,⟨⟨ok71,Tryz.call71⟩,⟨⟨ok72,Tryz.call72⟩,⟨⟨ok88,Tryz.call88⟩,⟨⟨ok103,Tryz.call103⟩,⟨⟨ok104,Tryz.call104⟩,trivial⟩⟩⟩⟩⟩⟩) Tryz.func68 rfl rfl rfl rfl (fun a=>by kernel_rfl)
noncomputable def N4 (l:(List Asked)):Option Bool:=cond (decide (40 < (l.length:Int))) (some false) (Option.bind (B8 (S:=(Int)) (R:=(Unit⊕Bool)) (fun x11=>cond (decide (x11 < (l.length:Int))) (Option.bind (ixo l x11) fun y12=>Option.bind (α:=(Bool)) (Option.bind (B6 y12.id (0:Int) (999999:Int)) fun r13=>cond ((!r13)) (some true) (Option.bind (B6 y12.who (0:Int) (999999:Int)) fun r14=>cond ((!r14)) (some true) (Option.bind (B6 y12.account (0:Int) (999999:Int)) fun r15=>cond ((!r15)) (some true) (Option.bind (B6 y12.day (0:Int) (100000:Int)) fun r16=>cond ((!r16)) (some true) (cond (decide (0 < x11)) (Option.bind (chk .i64 (x11 - 1)) fun n17=>Option.bind (ixo l n17) fun y18=>some (decide (y12.id<=y18.id))) (some false)))))) ((fun x19=>cond (x19) (some (Sum.inr (Sum.inr false))) (Option.bind (chk .i64 (x11+1)) fun n20=>some (Sum.inl n20))))) (some (Sum.inr (Sum.inl ())))) (0:Int)) ((Sum.elim (fun _=>some true) (fun r21=>some r21))))
def AW1:An:=.nd (.x) (.nd (.x) (.nd (.nd (.x) (.lp ⟨[(.slot 3,.d (.int .i64))],[]⟩ [.exit 0 ⟨[],[]⟩,.ret] (.nd (.x) (.nd (.nd (.x) (.nd (.jn [.norm ⟨[(.slot 54,.d .bool)],[]⟩] (.x)) (.x))) (.x))))) (.x)))
noncomputable def ctr25:Ctr:=⟨[.d (.sl (.st 5))],[.d .bool],fun a=>N4 a.1⟩
theorem ok25:Ctr.ok Tryz.prog 25 ctr25:=B0 (G:={ gxb with fs:=[(42,ctr42)] }) (an:=AW1) (B1 ⟨⟨ok42,Tryz.call42⟩,trivial⟩) Tryz.func25 rfl rfl rfl rfl (fun a=>by kernel_rfl)
noncomputable def M3 (a:(List Report)) (b:(List Report)):Option Bool:=cond ((!decide ((a.length:Int)=(b.length:Int)))) (some false) (Option.bind (B8 (S:=(Int)) (R:=(Unit⊕Bool)) (fun x5=>cond (decide (x5 < (a.length:Int))) (Option.bind (ixo a x5) fun y6=>Option.bind (ixo b x5) fun y7=>cond ((!decide (y6=y7))) (some (Sum.inr (Sum.inr false))) (Option.bind (chk .i64 (x5+1)) fun n8=>some (Sum.inl n8))) (some (Sum.inr (Sum.inl ())))) (0:Int)) ((Sum.elim (fun _=>some true) (fun r9=>some r9))))
def AW2:An:=.nd (.x) (.nd (.x) (.nd (.nd (.x) (.lp ⟨[(.slot 5,.d (.int .i64))],[]⟩ [.exit 0 ⟨[],[]⟩,.ret] (.x))) (.x)))
noncomputable def ctr18:Ctr:=⟨[.d (.sl (.st 1)),.d (.sl (.st 1))],[.d .bool],fun a=>M3 a.1 a.2.1⟩
theorem ok18:Ctr.ok Tryz.prog 18 ctr18:=B0 (G:={ gxb with fs:=[] }) (an:=AW2) (B1 trivial) Tryz.func18 rfl rfl rfl rfl (fun a=>by kernel_rfl)
noncomputable def M4 (a:(List Letter)) (b:(List Letter)):Option Bool:=cond ((!decide ((a.length:Int)=(b.length:Int)))) (some false) (Option.bind (B8 (S:=(Int)) (R:=(Unit⊕Bool)) (fun x5=>cond (decide (x5 < (a.length:Int))) (Option.bind (ixo a x5) fun y6=>Option.bind (ixo b x5) fun y7=>cond ((!decide (y6=y7))) (some (Sum.inr (Sum.inr false))) (Option.bind (chk .i64 (x5+1)) fun n8=>some (Sum.inl n8))) (some (Sum.inr (Sum.inl ())))) (0:Int)) ((Sum.elim (fun _=>some true) (fun r9=>some r9))))
def AW3:An:=.nd (.x) (.nd (.x) (.nd (.nd (.x) (.lp ⟨[(.slot 5,.d (.int .i64))],[]⟩ [.exit 0 ⟨[],[]⟩,.ret] (.x))) (.x)))
noncomputable def ctr19:Ctr:=⟨[.d (.sl (.st 6)),.d (.sl (.st 6))],[.d .bool],fun a=>M4 a.1 a.2.1⟩
theorem ok19:Ctr.ok Tryz.prog 19 ctr19:=B0 (G:={ gxb with fs:=[] }) (an:=AW3) (B1 trivial) Tryz.func19 rfl rfl rfl rfl (fun a=>by kernel_rfl)
noncomputable def O1 (s:(List Dispute)):Option (List Dispute):=
 AJg s fun b1=>cond b1 (some []) (Option.bind (appo 24 ([]:List Dispute) s) fun l7=>some l7)
noncomputable def ctr59:Ctr:=⟨[.d (.sl (.st 2))],[.own (.sl 53 (.st 2))],fun a=>O1 a.1⟩
theorem ATU:SlT Tryz.prog 25 53 (DisputeE).n 24:=rsl25
theorem AF6 {M:List Nat} {w:World} (hM:MLt M w) {s:(List Dispute)} {v_s_0:Value} (f_s_0:RdS DisputeE M w v_s_0 s) {r0:(List Dispute)} (h:O1 s=some r0) :
  Calls Tryz.prog 59 (List.toArray [v_s_0]) w fun e w'=>∃ v0_0:Value,e=.returned (v0_0)/\(Sx.Own DisputeE 53 0 M w' v0_0 r0/\∀ b∈ob v0_0,w.heap.size<=b)/\Ext w w':=by
 have hI:=Hp.start (Mu:=[]) hM
 refine F9 Tryz.func59 rfl Tryz.ntmps59 rfl ?_
 refine A6 ?_
 refine A9 ?_
 refine G0 rfl rfl ?_
 refine Reg.nil ?_
 refine A6 ?_
 refine A6 ?_
 refine A9 ?_
 refine H9 rfl rfl ?_
 refine AUY f_s_0 rfl rfl Tryz.underlying25 rfl ?_
 intro b1 kb1
 replace h:=AOp h kb1
 refine Reg.nil ?_
 refine AAC rfl (fun hc2=>?_) (fun hc2=>?_)
 . replace h:=cdT hc2 h
   refine A6 ?_
   refine A9 ?_
   refine G0 rfl rfl ?_
   refine Reg.nil ?_
   refine J0 ?_
   obtain rfl:=Option.some.inj h
   refine fin1 Tryz.results59 rfl ?_
   exact⟨_,rfl,⟨Own.nil _ _ _ _ _,fun _ hb=>by cases hb⟩,hI.kp⟩
 . replace h:=cdF hc2 h
   refine O6 ?_
   refine A6 ?_
   refine A9 ?_
   refine AJe (E:=DisputeE) (xs:=[]) ATU hI rfl rfl Cls.nil Chs.nil rfl rfl ?_
   intro v3 w4 hI5 x6
   refine H9 rfl rfl ?_
   obtain⟨l7,hl7,h⟩:=Q1 h
   obtain⟨hbl7,el7⟩:=ACY hl7
   refine AFc 0 ATU hI5 rfl rfl rfl (f_s_0.adv hI5.adv) hbl7 rfl ?_
   rw[<-el7]
   intro v8 w9 hI10 x11
   refine G0 rfl rfl ?_
   refine Reg.nil ?_
   refine J0 ?_
   obtain rfl:=Option.some.inj h
   refine fin1 Tryz.results59 rfl ?_
   exact⟨_,rfl,(hI10.ownOut 0 rfl),hI10.kp⟩
theorem ok59:Ctr.ok Tryz.prog 59 ctr59:=by
 refine⟨by decide,fun M w a vals r hM _ ha hr=>?_⟩
 obtain⟨v0,r0,rfl,h0,ha⟩:=ha
 have ha:_=[]:=ha
 subst ha
 refine (AF6 hM (OkD.rds h0) hr).mono ?_
 rintro e w' ⟨v,rfl,h1,h2⟩
 exact⟨[v],rfl,⟨v,rfl,ANo h1⟩,h2⟩
noncomputable def U2 (s:(List Dispute)) (f:Dispute->Option Bool):Option Int:=Option.bind (B8 (S:=(Int)) (R:=(Unit⊕Int)) (fun x5=>cond (decide (x5 < (s.length:Int))) (Option.bind (ixo s x5) fun y6=>Option.bind (f y6) fun y7=>cond (y7) (some (Sum.inr (Sum.inr x5))) (Option.bind (chk .i64 (x5+1)) fun n8=>some (Sum.inl n8))) (some (Sum.inr (Sum.inl ())))) (0:Int)) ((Sum.elim (fun _=>some ((-1):Int)) (fun r9=>some r9)))
def AW4:An:=.nd (.x) (.nd (.nd (.x) (.lp ⟨[(.slot 8,.d (.int .i64))],[]⟩ [.exit 0 ⟨[],[]⟩,.ret] (.x))) (.x))
noncomputable def ctr55:Ctr:=⟨[.d (.sl (.st 2)),.fn [(.st 2)] .bool],[.d (.int .i64)],fun a=>U2 a.1 a.2.1⟩
theorem ok55:Ctr.ok Tryz.prog 55 ctr55:=B0 (G:={ gxb with fs:=[] }) (an:=AW4) (B1 trivial) Tryz.func55 rfl rfl rfl rfl (fun a=>by kernel_rfl)
noncomputable def Y1 (x:Dispute) (a1_:Int):Option Bool:=some (decide (x.id=a1_))
def AW5:An:=.x
noncomputable def ctr56:Ctr:=⟨[.d (.st 2),.pt (.int .i64)],[.d .bool],fun a=>Y1 a.1 a.2.1⟩
theorem ok56:Ctr.ok Tryz.prog 56 ctr56:=B0 (G:={ gxb with fs:=[] }) (an:=AW5) (B1 trivial) Tryz.func56 rfl rfl rfl rfl (fun a=>by kernel_rfl)
noncomputable def Z9  : Option Desk:=some (Desk.mk (Terms.mk 30 100 60) ([(Report.mk 1 70 5 12 10 3 500 0),(Report.mk 2 70 5 22 20 5 40 0),(Report.mk 3 70 5 26 25 6 500 0)]) ([(Dispute.mk 51 1 40),(Dispute.mk 52 2 41),(Dispute.mk 53 3 42)]) ([(Answer.mk 1 51 50 2 10 450),(Answer.mk 2 52 72 3 0 0),(Answer.mk 3 53 60 1 0 0),(Answer.mk 4 53 61 3 0 0)]))
def AW6:An:=.x
noncomputable def ctr33:Ctr:=⟨[],[.d (.st 4)],fun a=>Z9 ⟩
theorem ok33:Ctr.ok Tryz.prog 33 ctr33:=B0 (G:={ gxb with fs:=[] }) (an:=AW6) (B1 trivial) Tryz.func33 rfl rfl rfl rfl (fun a=>by kernel_rfl)
noncomputable def V9 (a:(List Int)) (b:(List Int)):Option Bool:=cond ((!decide ((a.length:Int)=(b.length:Int)))) (some false) (Option.bind (B8 (S:=(Int)) (R:=(Unit⊕Bool)) (fun x5=>cond (decide (x5 < (a.length:Int))) (Option.bind (ixo a x5) fun y6=>Option.bind (ixo b x5) fun y7=>cond ((!decide (y6=y7))) (some (Sum.inr (Sum.inr false))) (Option.bind (chk .i64 (x5+1)) fun n8=>some (Sum.inl n8))) (some (Sum.inr (Sum.inl ())))) (0:Int)) ((Sum.elim (fun _=>some true) (fun r9=>some r9))))
def AW7:An:=.nd (.x) (.nd (.x) (.nd (.nd (.x) (.lp ⟨[(.slot 5,.d (.int .i64))],[]⟩ [.exit 0 ⟨[],[]⟩,.ret] (.x))) (.x)))
noncomputable def ctr37:Ctr:=⟨[.d (.sl (.int .i64)),.d (.sl (.int .i64))],[.d .bool],fun a=>V9 a.1 a.2.1⟩
theorem ok37:Ctr.ok Tryz.prog 37 ctr37:=B0 (G:={ gxb with fs:=[] }) (an:=AW7) (B1 trivial) Tryz.func37 rfl rfl rfl rfl (fun a=>by kernel_rfl)
noncomputable def AJD  : Option (List Asked):=some ([(Asked.mk 5 900 5 15),(Asked.mk 6 900 5 45),(Asked.mk 7 901 5 55),(Asked.mk 8 902 6 45)])
def AW8:An:=.x
noncomputable def ctr54:Ctr:=⟨[],[.own (.sl 47 (.st 5))],fun a=>AJD ⟩
theorem ok54:Ctr.ok Tryz.prog 54 ctr54:=B0 (G:={ gxb with fs:=[] }) (an:=AW8) (B1 trivial) Tryz.func54 rfl rfl rfl rfl (fun a=>by kernel_rfl)
noncomputable def AAk (d:Desk) (day:Int):Option Bool:=Option.bind (α:=(Bool)) (Option.bind (AB1 d) fun r3=>cond ((!r3)) (Option.bind (X3 d) fun r4=>cond (decide (r4=0)) (cond (decide (0<=day)) (some (decide (day<=100000))) (some false)) (some false)) (some false)) ((fun x5=>some x5))
def AW9:An:=.nd (.x) (.nd (.jn [.norm ⟨[(.slot 4,.d .bool)],[]⟩] (.x)) (.x))
noncomputable def ctr22:Ctr:=⟨[.d (.st 4),.d (.int .i64)],[.d .bool],fun a=>AAk a.1 a.2.1⟩
theorem ok22:Ctr.ok Tryz.prog 22 ctr22:=B0 (G:={ gxb with fs:=[(12,ctr12),(27,ctr27)] }) (an:=AW9) (B1 ⟨⟨ok12,Tryz.call12⟩,⟨⟨ok27,Tryz.call27⟩,trivial⟩⟩) Tryz.func22 rfl rfl rfl rfl (fun a=>by kernel_rfl)
theorem ATV:SlT Tryz.prog 24 45 (ReportE).n 64:=rsl24
noncomputable def M5 (d:Desk_99):Option Int:=Option.bind (α:=(Bool)) (Option.bind (D4 (0:Int) (1000:Int) ([d.desk.terms.answer])) fun r3=>cond ((!r3)) (some true) (Option.bind (D4 (0:Int) (100000:Int) ([d.desk.terms.mark,d.desk.terms.lately])) fun r4=>some (!r4))) ((fun x5=>cond (x5) (some (50:Int)) (some (0:Int))))
def AVc:An:=.nd (.x) (.nd (.nd (.jn [.norm ⟨[(.slot 22,.d .bool)],[]⟩] (.x)) (.x)) (.x))
noncomputable def ATW:Ctr:=⟨[.d (.st 10)],[.d (.int .i64)],fun a=>M5 a.1⟩
theorem ok202:Ctr.ok Tryz.prog 202 ATW:=B0 (G:={ gxb with fs:=[(44,ctr44)] }) (an:=AVc) (B1 ⟨⟨ok44,Tryz.call44⟩,trivial⟩) Tryz.func202 rfl rfl rfl rfl (fun a=>by kernel_rfl)
noncomputable def M6 (d:Desk_99):Option Int:=Option.bind (N9 d.desk.reports) fun r1=>some r1
def AVd:An:=.x
noncomputable def ATX:Ctr:=⟨[.d (.st 10)],[.d (.int .i64)],fun a=>M6 a.1⟩
theorem ok203:Ctr.ok Tryz.prog 203 ATX:=B0 (G:={ gxb with fs:=[(65,ctr65)] }) (an:=AVd) (B1 ⟨⟨ok65,Tryz.call65⟩,trivial⟩) Tryz.func203 rfl rfl rfl rfl (fun a=>by kernel_rfl)
noncomputable def K7 (x:Dispute) (a1_:Desk_99) (a2_:(A4 Int Bool)):Option Bool:=Option.bind (α:=(Bool)) (cond ((a1_.facts x.report).isSome) (Option.bind (D4 (0:Int) (999999:Int) ([x.id])) fun r5=>cond (r5) (cond ((!((a2_ x.id).getD false))) (Option.bind (chk .i64 (100000 - a1_.desk.terms.answer)) fun n6=>Option.bind (chk .i64 (n6 - 1)) fun n7=>Option.bind (D4 (((a1_.facts x.report).getD (Report.mk 0 0 0 0 0 0 0 0)).made) n7 ([x.day])) fun r8=>some r8) (some false)) (some false)) (some false)) ((fun x9=>some x9))
def AVe:An:=.nd (.x) (.nd (.x) (.nd (.jn [.norm ⟨[(.slot 4,.d .bool)],[]⟩] (.x)) (.x)))
noncomputable def ctr205:Ctr:=⟨[.d (.st 2),.pt (.st 10),.pt (.mp 3 (.int .i64) .bool)],[.d .bool],fun a=>K7 a.1 a.2.1 a.2.2.1⟩
theorem ok205:Ctr.ok Tryz.prog 205 ctr205:=B0 (G:={ gxb with fs:=[(44,ctr44)] }) (an:=AVe) (B1 ⟨⟨ok44,Tryz.call44⟩,trivial⟩) Tryz.func205 rfl rfl rfl rfl (fun a=>by kernel_rfl)
noncomputable def W0 (l:(List Dispute)) (id:Dispute->Option Int) (right:Dispute->Option Bool):Option Bool:=Option.bind (B8 (S:=(Int×(A4 Int Bool))) (R:=(Unit⊕Bool)) (fun (x16,x17)=>cond (decide (x16 < (l.length:Int))) (Option.bind (ixo l x16) fun y18=>Option.bind (α:=(Bool)) (Option.bind (right y18) fun y19=>cond ((!y19)) (some true) (Option.bind (id y18) fun y20=>some ((x17 y20).getD false))) ((fun x21=>cond (x21) (some (Sum.inr (Sum.inr false))) (Option.bind (id y18) fun y22=>Option.bind (chk .i64 (x16+1)) fun n23=>some (Sum.inl (n23,(B7 x17 y22 true))))))) (some (Sum.inr (Sum.inl ())))) ((0:Int),(fnone:(A4 Int Bool)))) ((Sum.elim (fun _=>some true) (fun r24=>some r24)))
def AVf:An:=.nd (.x) (.nd (.x) (.nd (.nd (.x) (.lp ⟨[(.slot 13,.d (.int .i64)),(.cont 10,.own (.mp 3 (.int .i64) .bool))],[10]⟩ [.exit 0 ⟨[],[]⟩,.ret] (.nd (.x) (.nd (.x) (.nd (.nd (.x) (.nd (.nd (.jn [.norm ⟨[(.slot 27,.d .bool)],[9,10]⟩] (.x)) (.x)) (.x))) (.x)))))) (.x)))
noncomputable def ctr206:Ctr:=⟨[.d (.sl (.st 2)),.fn [(.st 2)] (.int .i64),.fn [(.st 2)] .bool],[.d .bool],fun a=>W0 a.1 a.2.1 a.2.2.1⟩
theorem ok206:Ctr.ok Tryz.prog 206 ctr206:=B0 (G:={ gxb with fs:=[] }) (an:=AVf) (B1 trivial) Tryz.func206 rfl rfl rfl rfl (fun a=>by kernel_rfl)
noncomputable def Q5 (x:Dispute):Option Int:=some x.id
def AVg:An:=.x
noncomputable def ctr207:Ctr:=⟨[.d (.st 2)],[.d (.int .i64)],fun a=>Q5 a.1⟩
theorem ok207:Ctr.ok Tryz.prog 207 ctr207:=B0 (G:={ gxb with fs:=[] }) (an:=AVg) (B1 trivial) Tryz.func207 rfl rfl rfl rfl (fun a=>by kernel_rfl)
noncomputable def M7 (d:Desk_99):Option Int:=Option.bind (B8 (S:=(Int×(A4 Int Bool))) (R:=((A4 Int Bool))) (fun (x8,x9)=>cond (decide (x8 < (d.desk.reports.length:Int))) (Option.bind (ixo d.desk.reports x8) fun y10=>Option.bind (chk .i64 (x8+1)) fun n11=>some (Sum.inl (n11,(B7 x9 y10.id true)))) (some (Sum.inr x9))) ((0:Int),(fnone:(A4 Int Bool)))) ((fun x12=>Option.bind (α:=(Bool)) (cond (decide (20 < (d.desk.disputes.length:Int))) (some true) (Option.bind (W0 d.desk.disputes (fun a16=>Q5 a16) (fun a17=>K7 a17 d x12)) fun r18=>some (!r18))) ((fun x19=>cond (x19) (some (51:Int)) (some (0:Int))))))
def AVh:An:=.nd (.x) (.nd (.x) (.nd (.nd (.x) (.lp ⟨[(.slot 12,.d (.int .i64)),(.cont 7,.own (.mp 3 (.int .i64) .bool))],[3,7,1]⟩ [.exit 0 ⟨[(.cont 7,.own (.mp 3 (.int .i64) .bool))],[3,7,1]⟩] (.x))) (.nd (.x) (.nd (.nd (.jn [.norm ⟨[(.slot 33,.d .bool)],[]⟩] (.x)) (.x)) (.x)))))
noncomputable def ATY:Ctr:=⟨[.d (.st 10)],[.d (.int .i64)],fun a=>M7 a.1⟩
theorem ok204:Ctr.ok Tryz.prog 204 ATY:=B0 (G:={ gxb with fs:=[(205,ctr205),(206,ctr206),(207,ctr207)] }) (an:=AVh) (B1 ⟨⟨ok205,Tryz.call205⟩,⟨⟨ok206,Tryz.call206⟩,⟨⟨ok207,Tryz.call207⟩,trivial⟩⟩⟩) Tryz.func204 rfl rfl rfl rfl (fun a=>by kernel_rfl)
noncomputable def N5 (x:Dispute) (a1_:Answer):Option Bool:=some (decide (x.id=a1_.dispute))
def AVi:An:=.x
noncomputable def ctr210:Ctr:=⟨[.d (.st 2),.pt (.st 3)],[.d .bool],fun a=>N5 a.1 a.2.1⟩
theorem ok210:Ctr.ok Tryz.prog 210 ctr210:=B0 (G:={ gxb with fs:=[] }) (an:=AVi) (B1 trivial) Tryz.func210 rfl rfl rfl rfl (fun a=>by kernel_rfl)
noncomputable def K8 (a:Answer) (a1_:Desk_99):Option Bool:=Option.bind (U2 a1_.desk.disputes (fun a1=>N5 a1 a)) fun r2=>Option.bind (α:=(Bool)) (cond (decide (r2 < 0)) (some true) (Option.bind (D4 (0:Int) (999999:Int) ([a.id])) fun r5=>cond ((!r5)) (some true) (Option.bind (D4 (0:Int) (100000:Int) ([a.day,a.about])) fun r6=>some (!r6)))) ((fun x7=>cond (x7) (some false) (Option.bind (ixo a1_.desk.disputes r2) fun y8=>Option.bind (α:=(Bool)) (cond (decide (a.says=1)) (some (decide (a.says=1))) (some (decide (a.says=3)))) ((fun x9=>cond (x9) (Option.bind (α:=(Bool)) (cond (decide (a.about=0)) (some (decide (a.cents=0))) (some false)) ((fun x10=>some x10))) (cond (decide (a.says=2)) (Option.bind (N9 ([(Report.mk (((a1_.facts y8.report).getD (Report.mk 0 0 0 0 0 0 0 0)).id) (((a1_.facts y8.report).getD (Report.mk 0 0 0 0 0 0 0 0)).source) (((a1_.facts y8.report).getD (Report.mk 0 0 0 0 0 0 0 0)).account) (((a1_.facts y8.report).getD (Report.mk 0 0 0 0 0 0 0 0)).made) a.about (((a1_.facts y8.report).getD (Report.mk 0 0 0 0 0 0 0 0)).kind) a.cents (((a1_.facts y8.report).getD (Report.mk 0 0 0 0 0 0 0 0)).of_))])) fun r11=>some (decide (r11=0))) (some false)))))))
def AVj:An:=.nd (.x) (.nd (.x) (.nd (.nd (.jn [.norm ⟨[(.slot 28,.d .bool)],[2]⟩] (.x)) (.x)) (.nd (.x) (.nd (.x) (.nd (.nd (.x) (.nd (.nd (.x) (.jn [.norm ⟨[(.slot 47,.d .bool)],[5,2]⟩] (.x))) (.nd (.nd (.jn [.norm ⟨[(.slot 3,.d .bool)],[]⟩] (.x)) (.x)) (.x)))) (.x))))))
noncomputable def ctr209:Ctr:=⟨[.d (.st 3),.pt (.st 10)],[.d .bool],fun a=>K8 a.1 a.2.1⟩
theorem ok209:Ctr.ok Tryz.prog 209 ctr209:=B0 (G:={ gxb with fs:=[(44,ctr44),(55,ctr55),(65,ctr65),(210,ctr210)] }) (an:=AVj) (B1 ⟨⟨ok44,Tryz.call44⟩,⟨⟨ok55,Tryz.call55⟩,⟨⟨ok65,Tryz.call65⟩,⟨⟨ok210,Tryz.call210⟩,trivial⟩⟩⟩⟩) Tryz.func209 rfl rfl rfl rfl (fun a=>by kernel_rfl)
noncomputable def W5 (l:(List Answer)) (id:Answer->Option Int) (right:Answer->Option Bool):Option Bool:=Option.bind (B8 (S:=(Int×(A4 Int Bool))) (R:=(Unit⊕Bool)) (fun (x16,x17)=>cond (decide (x16 < (l.length:Int))) (Option.bind (ixo l x16) fun y18=>Option.bind (α:=(Bool)) (Option.bind (right y18) fun y19=>cond ((!y19)) (some true) (Option.bind (id y18) fun y20=>some ((x17 y20).getD false))) ((fun x21=>cond (x21) (some (Sum.inr (Sum.inr false))) (Option.bind (id y18) fun y22=>Option.bind (chk .i64 (x16+1)) fun n23=>some (Sum.inl (n23,(B7 x17 y22 true))))))) (some (Sum.inr (Sum.inl ())))) ((0:Int),(fnone:(A4 Int Bool)))) ((Sum.elim (fun _=>some true) (fun r24=>some r24)))
def AVk:An:=.nd (.x) (.nd (.x) (.nd (.nd (.x) (.lp ⟨[(.slot 13,.d (.int .i64)),(.cont 10,.own (.mp 3 (.int .i64) .bool))],[10]⟩ [.exit 0 ⟨[],[]⟩,.ret] (.nd (.x) (.nd (.x) (.nd (.nd (.x) (.nd (.nd (.jn [.norm ⟨[(.slot 27,.d .bool)],[9,10]⟩] (.x)) (.x)) (.x))) (.x)))))) (.x)))
noncomputable def ctr211:Ctr:=⟨[.d (.sl (.st 3)),.fn [(.st 3)] (.int .i64),.fn [(.st 3)] .bool],[.d .bool],fun a=>W5 a.1 a.2.1 a.2.2.1⟩
theorem ok211:Ctr.ok Tryz.prog 211 ctr211:=B0 (G:={ gxb with fs:=[] }) (an:=AVk) (B1 trivial) Tryz.func211 rfl rfl rfl rfl (fun a=>by kernel_rfl)
noncomputable def Q6 (a:Answer):Option Int:=some a.id
def AVl:An:=.x
noncomputable def ctr212:Ctr:=⟨[.d (.st 3)],[.d (.int .i64)],fun a=>Q6 a.1⟩
theorem ok212:Ctr.ok Tryz.prog 212 ctr212:=B0 (G:={ gxb with fs:=[] }) (an:=AVl) (B1 trivial) Tryz.func212 rfl rfl rfl rfl (fun a=>by kernel_rfl)
noncomputable def M8 (d:Desk_99):Option Int:=Option.bind (α:=(Bool)) (cond (decide (40 < (d.desk.answers.length:Int))) (some true) (Option.bind (W5 d.desk.answers (fun a4=>Q6 a4) (fun a5=>K8 a5 d)) fun r6=>some (!r6))) ((fun x7=>cond (x7) (some (52:Int)) (some (0:Int))))
def AVm:An:=.nd (.x) (.nd (.x) (.nd (.nd (.jn [.norm ⟨[(.slot 17,.d .bool)],[]⟩] (.x)) (.x)) (.x)))
noncomputable def ATZ:Ctr:=⟨[.d (.st 10)],[.d (.int .i64)],fun a=>M8 a.1⟩
theorem ok208:Ctr.ok Tryz.prog 208 ATZ:=B0 (G:={ gxb with fs:=[(209,ctr209),(211,ctr211),(212,ctr212)] }) (an:=AVm) (B1 ⟨⟨ok209,Tryz.call209⟩,⟨⟨ok211,Tryz.call211⟩,⟨⟨ok212,Tryz.call212⟩,trivial⟩⟩⟩) Tryz.func208 rfl rfl rfl rfl (fun a=>by kernel_rfl)
end Go.Proofs.YtgioiejbphljoaaGreatDoor
