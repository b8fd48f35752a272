/-
  What DisputeBefore stands on, part 7: memory, code, plain reckoning.
-/
import Derived.Test.YtgioiejbphljoaaGreatDoorProg
import Derived.Shelf.SlSortCmp.WholeK
import Derived.Shelf.SlSortCmp.NoneTotal
import Derived.Test.YtgioiejbphljoaaGreatDoorDcDisputeBefore6
open List (mem_append mem_cons mem_map mem_singleton toArray)
open Nat (beq)
open Go.Proofs.Tryz
set_option linter.unusedVariables false
set_option linter.unusedSectionVars false
set_option maxRecDepth 20000
set_option maxHeartbeats 4000000
noncomputable section
namespace Go.Rx
open Go Go.Sx Go.RowKit Go.ChangeMaps
variable[Trk][Sg][Sf]{P:Program}[Se P]
theorem AEN{W:List Nat}{hd:Sh}{σ:AS}{x:O6 hd.cs}{t:Nat}{s:SV}(ht:A1 (B8 W hd σ x).env t=some s)(hW:t∈W):t∈J4 hd.cs:=by
 have h:A1 (allV ABf (W6 hd.cs x)++ACs W hd.keep σ.env) t=some s:=ht;rw[fnd_app]at h;cases h1:A1 (allV ABf (W6 hd.cs x)) t with
 |none=>
  rw[h1]at h
  simp only at h
  rw[fnd_keepE,Aac hW]at h
  cases h
 |some y=>
  obtain⟨p,hp,hy⟩:=allV_mem.1 (AB0 h1)
  have h2:=AGA hy
  have h3:=AGj hp
  exact ABi (c:=p.1.2) (by rw[<-h2];exact h3)
abbrev AOi(a:Anch)(Q:List Nat->World->Prop)(h:∀{M M':List Nat} {w w':World},Q M w->Adv M M' w w'->Q M' w'):Anch:=⟨fun M w=>a.Q M w/\Q M w,fun h1 k=>⟨a.adv h1.1 k,h h1.2 k⟩⟩
section
variable[Anch]{w0 w:World}{M:List Nat}{σ:AS}{L:A8}{N:Nat}{Γ:Type}{pr:AS->Option Γ}{ds:List Deferred}{A B:A5}{X:Nat->A5}{Z:List PanicEntry->A5}
def AME(P:Program)[Se P](w0:World)(M:List Nat)(u:MU){m:Nat}{k v:Ty}(K:Ky P m (den k))(r b c:Nat)(es:Array MapEntry)(xs:List (den k×den v))(Wr:List Nat)(L0:A8)(τ:AS)(L:A8)(W:World)(l:List (den k×den v)):Prop:=
 EnvS Wr L0 L/\Sx.A6 L u.t=some (.pointer (some ⟨r,0,none⟩))/\∃seen S ρ γ μ ι,@HS _ _ _ P _ (ASb (α:=den v) inferInstance K (enc v) v.agg b es c xs) (fx1 r (.mapIter (some b) c seen c)) w0 [] (r::M) τ L W S ρ γ μ ι/\l.Perm (J3 (es.toList.zip xs) seen)
theorem AQD[Sl (P:=P)]{G:Gx}(hG:GxOk P G){u:MU}{hd:Sh}{l:An}{m:Nat}{k v:Ty}{K:Ky P m (den k)}(hKo:∀M w (a:den k),K.ok a->OkD (P:=P) M w k a (K.val a))(hc:AJW N u hd l=true){r b c:Nat}{es:Array MapEntry}{xs l0:List (den k×den v)}(hr:w0.heap.size<=r)(hM0:MLt M w0){L0:A8}{s:O6 hd.cs}{nty cty ety:TypeId}{npos cpos epos:String}{naf caf eaf:Array Edge}{i1 i2:Nat}(u2:u.all2=⟨some u.e,.entry (.tmp u.t),ety,epos,eaf,none⟩::u.ops2)(hI:AME P w0 M u K r b c es xs (u.t::F7 u hd l) L0 (B8 (u.t::F7 u hd l) hd σ s) L w l0)(hend:∀L' w',l0=[]->EnvS (u.t::F7 u hd l) L0 L'->Holds (P:=P) w0 [] M (B8 (u.t::F7 u hd l) hd σ s) L' w'->A ds L' w')(hgo:∀y l',l0.Perm (y::l')->∃s',ADc G N pr u hd l (u.t::F7 u hd l) σ k v s y=some s'){I:List (den k×den v)->O6 hd.cs->A8->World->Prop}(hnext:∀y l' s' L' w',l0.Perm (y::l')->ADc G N pr u hd l (u.t::F7 u hd l) σ k v s y=some s'->AME P w0 M u K r b c es xs (u.t::F7 u hd l) L0 (B8 (u.t::F7 u hd l) hd σ s') L' w' l'->I l' s' L' w'):
  CW P N (.seq (.region i1 (toArray [⟨some u.n,.next (.tmp u.t) false,nty,npos,naf,none⟩,⟨some u.c,.extract (.tmp u.n) 0,cty,cpos,caf,none⟩]) false) (.seq (.cond (.tmp u.c) .skip (.exit u.j)) (.block u.j2 (.seq (.region i2 (toArray u.all2) false) u.rest)))) ds L w
   (fun ds' L' w'=>ds'=ds/\∃l' s',I l' s' L' w'/\l'.length<l0.length) B (exB u.j A X) Z:=by
 simp only[AJW,Bool.and_eq_true,Bool.not_eq_true']at hc
 obtain⟨⟨⟨⟨⟨⟨⟨c1,c2⟩,c3⟩,c4⟩,c5⟩,c6⟩,c7⟩,c8⟩:=hc
 have d6:u.t∉F7 u hd l:=fun h=>by rw[has_iff.2 h]at c6;cases c6
 have d7:u.n∉J4 hd.cs:=fun h=>by rw[has_iff.2 h]at c7;cases c7
 have d8:u.c∉J4 hd.cs:=fun h=>by rw[has_iff.2 h]at c8;cases c8
 have wn:u.n∈u.t::F7 u hd l:=AaQ _ (AaT ..)
 have wc:u.c∈u.t::F7 u hd l:=AaQ _ (AaQ _ (AaT ..))
 have we:u.e∈F7 u hd l:=AaQ _ (AaQ _ (AaT ..))
 have wsl:∀t∈J4 hd.cs,t∈u.t::F7 u hd l:=fun t ht=>AaQ _ (AaQ _ (AaQ _ (AaQ _ (AaR _ ht))))
 have wop:∀t∈C2 u.ops2,t∈F7 u hd l:=fun t ht=>AaQ _ (AaQ _ (AaQ _ (AaS _ (AaR _ ht))))
 have wrs:∀t∈D6 u.rest++D5 l,t∈F7 u hd l:=fun t ht=>AaQ _ (AaQ _ (AaQ _ (AaS _ (AaS _ ht))))
 have tn:u.t≠u.n:=fun e=>d6 (e▸AaT ..)
 have tc:u.t≠u.c:=fun e=>d6 (e▸AaQ _ (AaT ..))
 have te:u.t≠u.e:=fun e=>d6 (e▸we)
 obtain⟨hE0,hlk,seen,S,ρ,γ,μ,ι,hS,hpm⟩:=hI
 have hS0:=hS
 obtain⟨s1,_,_,_,_,s6⟩:=hS0
 have hX9:RdX K (enc (P:=P) v) v.agg (mm S (r::M)) w b es c xs:=s6.1.2
 obtain⟨_,_,_,_,_,_,_,_,s9⟩:=id s1
 have hfx:w.heap[r]?=some (.mapIter (some b) c seen c):=(s9 r _ (Aac rfl)).2
 have hp0:Hp w0 [] M (N7 (κ:=den k) (α:=den v) r b c es xs none l0::S) w:=AVK s1 rfl rfl hr hM0 fun _=>⟨seen,hfx,hpm,fun _ h=>by cases h⟩
 have hX0:RdX K (enc (P:=P) v) v.agg (mm (N7 (κ:=den k) (α:=den v) r b c es xs none l0::S) M) w b es c xs:=hX9.adv (Adv.drop fun x hx=>(Z3 rfl).2 hx)
 have out:∀(v1 v2:Value) t q,A1 (B8 (u.t::F7 u hd l) hd σ s).env t=some q->Sx.A6 ((u.c,v2)::(u.n,v1)::L) t=Sx.A6 L t:=fun v1 v2 t q ht=>by
  rw[look_cons,if_neg (fun e=>d8 (AEN (e▸ht) wc)),look_cons,if_neg (fun e=>d7 (AEN (e▸ht) wn))]
 refine A3 (A7 (AQp 0 hp0 hX0 rfl hlk c2 (fun hl=>?_) (fun y l' kv vv w1 hp hp1 hA1=>?_)))
 . refine AEx (vs:=[.bool false]) (i:=0) (by show Sx.A6 _ _=_;rw[look_cons,Aac rfl]) rfl c3 (Reg.nil (A3 (ABG (by show Sx.A6 _ _=_;rw[look_cons,Aac rfl]) (T3 (J7 (hend _ _ hl (hE0.trans (((EnvS.put u.n L _).mono fun t ht=>by rw[mem_singleton.1 ht];exact wn).trans ((EnvS.put u.c _ _).mono fun t ht=>by rw[mem_singleton.1 ht];exact wc))) ?_))))))
   have hp2:Hp w0 [] M S w:=hp0.sub (List.sublist_cons_self ..)
   have hS2:=hS.conv hp2 (Adv.drop fun x hx=>mem_mm.2 ((mem_mm.1 hx).imp id (AaQ _))) (fun _=>rfl) (fun _ _ e=>e) (out (.tuple #[.bool false]) (.bool false))
   exact⟨S,ρ,γ,μ,ι,hS2.anchX _ _ fun h=>h.1⟩
 . refine AEx (vs:=[.bool true,kv,vv]) (i:=0) (by show Sx.A6 _ _=_;rw[look_cons,Aac rfl]) rfl c3 (Reg.nil (A3 (ABr (by show Sx.A6 _ _=_;rw[look_cons,Aac rfl]) (E2 ?_))))
   refine AAh (n:=3) (ADY (AXF (C4 (A3 (A7 ?_)))))
   suffices key:Reg P N (toArray u.all2) .seq (⟨some u.e,.entry (.tmp u.t),ety,epos,eaf,none⟩::u.ops2) ds ((u.c,.bool true)::(u.n,.tuple #[.bool true,kv,vv])::L) w1 (fun ds' L' w'=>CW P N u.rest ds' L' w' (fun ds' L' w'=>ds'=ds/\∃l' s',I l' s' L' w'/\l'.length<l0.length) B (exB u.j2 (fun ds' L' w'=>ds'=ds/\∃l' s',I l' s' L' w'/\l'.length<l0.length) NoX) Z) B (exB u.j2 (fun ds' L' w'=>ds'=ds/\∃l' s',I l' s' L' w'/\l'.length<l0.length) NoX) Z by rw[<-u2]at key;exact key
   have hp1:Hp w0 [] M (N7 (κ:=den k) (α:=den v) r b c es xs (some y) l'::S) w1:=hp1
   have hA1:Adv (mm (N7 (κ:=den k) (α:=den v) r b c es xs none l0::S) M) (mm (N7 (κ:=den k) (α:=den v) r b c es xs (some y) l'::S) M) w w1:=hA1
   have hA2:Adv (mm S (r::M)) (mm S (r::M)) w w1:=⟨hA1.kp.mono fun x hx=>.inl ((Z3 rfl).2 hx),fun x hx=>(hA1.new x ((Z3 rfl).1 hx)).imp (Z3 rfl).2 id⟩
   have hl1:Sx.A6 ((u.c,.bool true)::(u.n,.tuple #[.bool true,kv,vv])::L) u.t=some (.pointer (some ⟨r,0,none⟩)):=by rw[look_cons,if_neg (fun e=>tc e.symm),look_cons,if_neg (fun e=>tn e.symm)];exact hlk
   refine AQq 0 hp1 (hX0.adv hA1) rfl hl1 c4 fun v5 hok hv=>?_
   obtain⟨seen1,hr1,hpm1,_⟩:=hp1.get 0 rfl
   obtain⟨s',hrd⟩:=hgo y l' hp
   have hS1:=hS.conv (AQC hp1 rfl hr1) hA2 (fun _=>rfl) (fun _ _ e=>e) (out (.tuple #[.bool true,kv,vv]) (.bool true))
   have hv2:OkD (P:=P) (mm S (r::M)) w1 v y.2 v5:=Vl.adv (Adv.drop fun x hx=>(Z3 rfl).1 hx) hv
   letI AK:Anch:=ASb (α:=den v) inferInstance K (enc (P:=P) v) v.agg b es c xs
   letI FX:Fx:=fx1 r (.mapIter (some b) c seen1 c)
   have hS2:=HS.put (d:=u.e) (s:=.tup [F6 k y.1,F6 v y.2]) (v:=.tuple #[K.val y.1,v5]) hS1 ⟨[K.val y.1,v5],rfl,_,_,rfl,E4 k (hKo _ _ _ hok),_,_,rfl,E4 v hv2,rfl⟩
   have fin:∀σ3 L3 σ4 L4 w4,I3 hd σ4=some s'->Rel P (F7 u hd l) { B8 (u.t::F7 u hd l) hd σ s with env:=(u.e,.tup [F6 k y.1,F6 v y.2])::(B8 (u.t::F7 u hd l) hd σ s).env } σ3->EnvS (F7 u hd l) ((u.e,.tuple #[K.val y.1,v5])::(u.c,.bool true)::(u.n,.tuple #[.bool true,kv,vv])::L) L3->Rel P (D6 u.rest++D5 l) σ3 σ4->EnvS (D6 u.rest++D5 l) L3 L4->Holds (P:=P) w0 [] (r::M) σ4 L4 w4->ds=ds/\∃l' s',I l' s' L4 w4/\l'.length<l0.length:=fun σ3 L3 σ4 L4 w4 h4 hR3 hE3 hR4 hE4 hH4=>by
    obtain⟨S4,ρ4,γ4,μ4,ι4,hS4⟩:=hH4;have hR1:Rel P (u.t::F7 u hd l) σ (B8 (u.t::F7 u hd l) hd σ s):=ACu wsl fun _ h=>h;have hR2:Rel P (u.t::F7 u hd l) (B8 (u.t::F7 u hd l) hd σ s) { B8 (u.t::F7 u hd l) hd σ s with env:=(u.e,.tup [F6 k y.1,F6 v y.2])::(B8 (u.t::F7 u hd l) hd σ s).env }:=⟨fun _ h=>h,fun _ h=>h,fun i a h _=>⟨a,h,RelA.refl a⟩,fun t ht q hq=>⟨q,by
     show A1 ((u.e,_)::_) t=_;rw[fnd_cons,if_neg (fun (e:u.e=t)=>ht (e▸AaQ _ we))];exact hq,Wk.refl q⟩⟩
    have hR:Rel P (u.t::F7 u hd l) σ σ4:=hR1.trans (hR2.trans ((hR3.mono fun t ht=>AaQ _ ht).trans (hR4.mono fun t ht=>AaQ _ (wrs t ht))));obtain⟨S5,ρ5,γ5,μ5,ι5,hS5⟩:=U4 (W:=u.t::F7 u hd l) (σ:=σ) hS4 hR h4;have hl4:Sx.A6 L4 u.t=some (.pointer (some ⟨r,0,none⟩)):=by
     rw[hE4 u.t (fun h=>d6 (wrs _ h)),hE3 u.t d6,look_cons,if_neg (fun e=>te e.symm)];exact hl1
    have hE9:EnvS (u.t::F7 u hd l) L0 L4:=hE0.trans (((EnvS.put u.n L _).mono fun t ht=>by rw[mem_singleton.1 ht];exact wn).trans (((EnvS.put u.c _ _).mono fun t ht=>by rw[mem_singleton.1 ht];exact wc).trans (((EnvS.put u.e _ _).mono fun t ht=>by rw[mem_singleton.1 ht];exact AaQ _ we).trans ((hE3.mono fun t ht=>AaQ _ ht).trans (hE4.mono fun t ht=>AaQ _ (wrs t ht))))));exact⟨rfl,l',s',hnext y l' s' L4 w4 hp hrd ⟨hE9,hl4,seen1,S5,ρ5,γ5,μ5,ι5,hS5,hpm1⟩,by have:=hp.length_eq;simp at this;omega⟩
   refine U3 (P:=P) (w0:=w0) (Mu:=[]) (M:=r::M) (W:=F7 u hd l) hG u.ops2 _ _ _ hrd wop ⟨S,ρ,γ,μ,ι,hS2⟩ fun σ3 L3 w3 hK3 hR3 hE3 hH3=>?_
   refine AAh (n:=3) (I9 hG u.rest l _ _ _ _ _ _ _ _ _ _ _ _ _ hK3 hH3 (fun σ4 L4 w4 h4 hR4 hE4 hH4=>fin σ3 L3 σ4 L4 w4 h4 hR3 hE3 hR4 hE4 hH4) (fun i σ4 L4 w4 h5 hR4 hE4 hH4=>?_) (fun _ _ _ _ _ h=>by cases h) (PZ.no.block c5))
   have h6:(bif beq i u.j2 then I3 hd σ4 else none)=some s':=h5
   clear h5
   cases hb:beq i u.j2 with
   |false=>rw[hb,cond_false]at h6;exact(A2 h6).elim
   |true=>
    rw[hb,cond_true]at h6
    have:=AaU hb
    subst this
    exact J7 (fin σ3 L3 σ4 L4 w4 h6 hR3 hE3 hR4 hE4 hH4)
end
end Go.Rx
namespace Go.Rx
open Go Go.Sx Go.RowKit Go.ChangeMaps
section
variable[Sg][Sf](G:Gx)
def AVL(f:Func)(an:An)(ps:List Pt)(cs:List Ck)(a:E9 ps):Option (H9 cs):=match f.body with
 |some c=>V7 G f.ntmps (S8 G cs f.results.toList) c an (S8 G cs f.results.toList) some ⟨ACY 0 ps a,[],[],[]⟩
 |none=>none
end
variable[Trk][Sg][Sf]{P:Program}[Se P]
section
variable[Anch]{w0 w:World}{M:List Nat}{σ:AS}{L:A8}{N:Nat}{Γ:Type}{pr:AS->Option Γ}{ds:List Deferred}{A B:A5}{X:Nat->A5}{Z:List PanicEntry->A5}
theorem ATh[Sl (P:=P)]{G:Gx}(hG:GxOk P G){a b:Code}{u:MU}(hu:ABM a b=some u){an:An}{Y:Type}{KN:AS->Option Y}{z:Y}(h:mapM G N pr u an KN σ=some z)(hH:Holds (P:=P) w0 [] M σ L w)(hA:∀σ' L' w',KN σ'=some z->EnvS (wrE (.seq a b) an) L L'->Holds (P:=P) w0 [] M σ' L' w'->A ds L' w'):CW P N (.seq a b) ds L w A B X Z:=by
 have hw:∀hd ks l,wrE (.seq a b) (.lp hd ks l)=C2 u.pre++(u.t::F7 u hd l):=fun hd ks l=>by
  show(match ABM a b with
   |some u=>_
   |none=>_)=_
  rw[hu]
 obtain⟨i,i1,i2,rty,rpos,raf,nty,npos,naf,cty,cpos,caf,ety,epos,eaf,rfl,rfl,u1,u2⟩:=ARc hu;cases an with
 |x=>exact(A2 h).elim
 |nd _ _=>exact(A2 h).elim
 |jn _ _=>exact(A2 h).elim
 |lp hd ks l=>
  have main:∀σ1 L1 w1,(match lk G.mp u.mt,B5 σ1.env u.x with
   |some (m,_,k,v),some sx=>match C1 (A1 σ1.res) (.mp m k v) sx,frz (A1 σ1.res) (B3 sx),AJW N u hd l with
    |some f,some fz,true=>match I3 hd (apps none fz σ1).start with
     |some s0=>W5 (show A4 (den k) (den v) from f) fun xs=>(List.foldlM (ADc G N pr u hd l (u.t::F7 u hd l) (apps none fz σ1).start k v) s0 xs).bind fun s=>KN (B8 (u.t::F7 u hd l) hd (apps none fz σ1).start s)
     |none=>none
    |_,_,_=>none
   |_,_=>none)=some z->EnvS (C2 u.pre) L L1->Holds (P:=P) w0 [] M σ1 L1 w1->Reg P N (toArray u.all) .seq [⟨some u.t,.range u.mt u.x,rty,rpos,raf,none⟩] ds L1 w1 (fun ds' L' w'=>CW P N (.block u.j (.loop (.seq (.region i1 (toArray [⟨some u.n,.next (.tmp u.t) false,nty,npos,naf,none⟩,⟨some u.c,.extract (.tmp u.n) 0,cty,cpos,caf,none⟩]) false) (.seq (.cond (.tmp u.c) .skip (.exit u.j)) (.block u.j2 (.seq (.region i2 (toArray u.all2) false) u.rest)))))) ds' L' w' A B X Z) B X Z:=by
   intro σ1 L1 w1 hK hE1 hH1
   cases hl:lk G.mp u.mt with
   |none=>rw[hl]at hK;exact(A2 hK).elim
   |some q=>
    obtain⟨m,e,k,v⟩:=q
    rw[hl]at hK
    cases hx:B5 σ1.env u.x with
    |none=>rw[hx]at hK;exact(A2 hK).elim
    |some sx=>
     rw[hx]at hK
     simp only at hK
     generalize ht:C1 (A1 σ1.res) (.mp m k v) sx=o1 at hK
     generalize hz:frz (A1 σ1.res) (B3 sx)=o2 at hK
     generalize hc:AJW N u hd l=o3 at hK
     cases o1 with
     |none=>exact(A2 hK).elim
     |some f=>
     cases o2 with
     |none=>exact(A2 hK).elim
     |some fz=>
     cases o3 with
     |false=>exact(A2 hK).elim
     |true=>
     simp only at hK
     cases h0:I3 hd (apps none fz σ1).start with
     |none=>rw[h0]at hK;exact(A2 hK).elim
     |some s0=>
     rw[h0]at hK
     simp only at hK
     have hc2:=hc
     simp only[AJW,Bool.and_eq_true,Bool.not_eq_true']at hc2
     obtain⟨⟨⟨⟨⟨⟨⟨c1,_⟩,_⟩,_⟩,_⟩,c6⟩,_⟩,_⟩:=hc2
     have d6:u.t∉F7 u hd l:=fun h=>by rw[has_iff.2 h]at c6;cases c6
     obtain⟨K,hKy,hKv,hut,hzv,hKo⟩:=AHW hG.mp hl
     obtain⟨S,ρ,γ,μ,ι,hS⟩:=hH1
     obtain⟨vx,e1,e2⟩:=hS.ev hx
     obtain⟨S1,ι1,k1,k2,k3⟩:=hS.frzO (d:=none) hz
     have k4:OkD (P:=P) (mm S1 M) w1 (.mp m k v) f vx:=H8 k3 (.mp m k v) sx k2.1 ht e2
     have k5:RdF K (enc (P:=P) v) v.agg (mm S1 M) w1 vx f:=by
      obtain⟨cs,⟨u',K',rfl,hK',hf⟩,⟨hh,_⟩|⟨_,hh⟩⟩:=k4
      . cases hh
      . rw[hKy]at hK';cases hK';rw[<-List.singleton_inj.1 hh];exact hf
     have k6:@HS _ _ _ P _ (AOi inferInstance (fun M w=>RdF K (enc (P:=P) v) v.agg M w vx f) (fun h a=>h.adv a)) _ w0 [] M (apps none fz σ1).start L1 w1 S1 ρ γ μ ι1:=HS.anchX _ _ (⟨k1.hp,k1.res,k1.inj,k1.row,k1.env,k1.anch⟩:HS (P:=P) w0 [] M (apps none fz σ1).start L1 w1 S1 ρ γ μ ι1) fun h=>⟨h,k5⟩
     obtain⟨S3,ρ3,γ3,μ3,ι3,k7⟩:@Holds _ _ _ P _ (AOi inferInstance (fun M w=>RdF K (enc (P:=P) v) v.agg M w vx f) (fun h a=>h.adv a)) _ w0 [] M (B8 (u.t::F7 u hd l) hd (apps none fz σ1).start s0) L1 w1:=by
      letI:Anch:=AOi inferInstance (fun M w=>RdF K (enc (P:=P) v) v.agg M w vx f) (fun h a=>h.adv a)
      exact U4 k6 (Rel.refl _) h0
     obtain⟨q1,_,_,_,_,q6⟩:=id k7
     have hRd:RdF K (enc (P:=P) v) v.agg (mm S3 M) w1 vx f:=q6.1.2
     refine AQo q1 hRd e1 hut c1 fun r b c es xs w2 hX hLs hp2 hA2=>Reg.nil ?_
     obtain⟨seen,hr0,hpm,_⟩:=hp2.get 0 rfl
     have hrw:w0.heap.size<=r:=((hp2.own _ (AaT ..)).2 r (mem_singleton.2 rfl)).elim (fun h=>by cases h) id
     have hM0:MLt M w0:=q1.base0
     have hA3:Adv (mm S3 M) (mm S3 (r::M)) w1 w2:=hA2.trans (Adv.drop fun x hx=>(Z3 rfl).1 hx)
     have hwt:u.t∈u.t::F7 u hd l:=AaT ..
     have hsl:∀t∈J4 hd.cs,t∈F7 u hd l:=fun t ht=>AaQ _ (AaQ _ (AaQ _ (AaR _ ht)))
     have hI0:AME P w0 M u K r b c es xs (u.t::F7 u hd l) L1 (B8 (u.t::F7 u hd l) hd (apps none fz σ1).start s0) ((u.t,.pointer (some ⟨r,0,none⟩))::L1) w2 xs:=by
      refine⟨(EnvS.put u.t L1 _).mono fun t ht=>by rw[mem_singleton.1 ht];exact hwt,by rw[look_cons,Aac rfl],seen,S3,ρ3,γ3,μ3,ι3,?_,hpm⟩;have k8:=k7.conv (L':=(u.t,.pointer (some ⟨r,0,none⟩))::L1) (AQC hp2 rfl hr0) hA3 (fun _=>rfl) (fun _ _ e=>e) fun t q ht=>by
       rw[look_cons,if_neg (fun (e:u.t=t)=>d6 (hsl _ (by subst e;exact AEN ht hwt)))]
      exact @HS.anchX _ _ _ P _ (fx1 r _) _ _ _ _ _ _ _ _ _ _ _ _ _ k8 fun h=>⟨h.1,hX.adv hA3⟩
     obtain⟨Bd,hBd,hall⟩:=ALA hK hLs
     subst hBd
     refine C4 (AAc (ι:=A8×O6 hd.cs×List (den k×den v)) (fun i=>i.1) (fun i W=>AME P w0 M u K r b c es xs (u.t::F7 u hd l) L1 (B8 (u.t::F7 u hd l) hd (apps none fz σ1).start i.2.1) i.1 W i.2.2/\∃d:List (den k×den v),(d++i.2.2).Perm xs/\List.foldlM (ADc G N pr u hd l (u.t::F7 u hd l) (apps none fz σ1).start k v) s0 d=some i.2.1) (fun i=>i.2.2.length) (_,s0,xs) ⟨hI0,[],Abc _,rfl⟩ (Sub.refl _) ?_)
     rintro⟨L3,s,l3⟩ w3 ⟨hI,d,hd1,hd2⟩
     have hd1:(d++l3).Perm xs:=hd1
     refine AEQ (AQD (pr:=pr) (B:=B) (X:=X) (Z:=Z) hG hKo hc hrw hM0 u2 hI (A:=A) (I:=fun l' s' L' W=>AME P w0 M u K r b c es xs (u.t::F7 u hd l) L1 (B8 (u.t::F7 u hd l) hd (apps none fz σ1).start s') L' W l'/\∃d:List (den k×den v),(d++l').Perm xs/\List.foldlM (ADc G N pr u hd l (u.t::F7 u hd l) (apps none fz σ1).start k v) s0 d=some s') (fun L' w' hl hE9 hH=>?_) (fun y l' hp=>?_) (fun y l' s' L' w' hp hr' hI'=>⟨hI',d++[y],?_,?_⟩)) fun e a w hq=>?_
     . subst hl
       obtain⟨s9,h9,hk9⟩:=hall d (by simpa using hd1)
       rw[hd2]at h9
       cases h9
       exact hA _ _ _ hk9 (by rw[hw];exact(hE1.mono fun t ht=>AaR _ ht).trans (hE9.mono fun t ht=>AaS _ ht)) hH
     . obtain⟨s9,h9,_⟩:=hall (d++(y::l')) (((Abc d).append hp.symm).trans hd1)
       rw[Aba,hd2]at h9
       simp only[Option.bind_eq_bind,Option.bind_some,List.foldlM_cons]at h9
       cases hb:ADc G N pr u hd l (u.t::F7 u hd l) (apps none fz σ1).start k v s y with
       |none=>rw[hb]at h9;cases h9
       |some s'=>exact⟨s',rfl⟩
     . rw[Aax];exact((Abc d).append hp.symm).trans hd1
     . rw[Aba,hd2]
       simp only[Option.bind_eq_bind,Option.bind_some,List.foldlM_cons,hr',List.foldlM_nil]
       rfl
     . cases e with
       |normal=>
        obtain⟨ds',L',ha,rfl,l',s',hI',hlt⟩:=hq
        exact⟨_,L',ha,rfl,(L',s',l'),hI',Sub.refl _,hlt⟩
       |_=>exact hq
  refine A3 (A7 ?_)
  have key:=U3 (P:=P) (w0:=w0) (Mu:=[]) (M:=M) (A:=fun ds1 L1 w1=>Reg P N (toArray u.all) .seq [⟨some u.t,.range u.mt u.x,rty,rpos,raf,none⟩] ds1 L1 w1 (fun ds' L' w'=>CW P N (.block u.j (.loop (.seq (.region i1 (toArray [⟨some u.n,.next (.tmp u.t) false,nty,npos,naf,none⟩,⟨some u.c,.extract (.tmp u.n) 0,cty,cpos,caf,none⟩]) false) (.seq (.cond (.tmp u.c) .skip (.exit u.j)) (.block u.j2 (.seq (.region i2 (toArray u.all2) false) u.rest)))))) ds' L' w' A B X Z) B X Z) (B:=B) (X:=X) (Z:=Z) (W:=C2 u.pre) hG u.pre σ L w h (fun t ht=>ht) hH fun σ1 L1 w1 hK _ hE1 hH1=>main σ1 L1 w1 hK hE1 hH1
  rw[u1]at key ⊢
  exact fun a ha=>Y3 (fun a w h=>by
   obtain⟨ds',L',hk,hr⟩:=h;exact hr a hk) u.pre a w (key a ha)
theorem AFO[Sl (P:=P)]{G:Gx}(hG:GxOk P G):∀(c:Code) (an:An) {Y:Type} {KN:AS->Option Y} {KR:Γ->Option Y} {σ:AS} {L:A8} {w:World} {z:Y} {A B:A5} {X:Nat->A5} {Z:List PanicEntry->A5},V7 G N pr c an KN KR σ=some z->Holds (P:=P) w0 [] M σ L w ->
  (∀σ' L' w',KN σ'=some z->EnvS (wrE c an) L L'->Holds (P:=P) w0 [] M σ' L' w'->A ds L' w')->(∀r σ' L' w',pr σ'=some r->KR r=some z->Holds (P:=P) w0 [] M σ' L' w'->B ds L' w')->CW P N c ds L w A B X Z:=by
 intro c
 have plain:∀(c:Code) (an:An) {Y:Type} {KN:AS->Option Y} {KR:Γ->Option Y} {σ:AS} {L:A8} {w:World} {z:Y} {A B:A5} {X:Nat->A5} {Z:List PanicEntry->A5},exec G N pr c an KN (fun _ _=>none) KR σ=some z->Holds (P:=P) w0 [] M σ L w ->
   (∀σ' L' w',KN σ'=some z->EnvS (D6 c++D5 an) L L'->Holds (P:=P) w0 [] M σ' L' w'->A ds L' w')->(∀r σ' L' w',pr σ'=some r->KR r=some z->Holds (P:=P) w0 [] M σ' L' w'->B ds L' w')->CW P N c ds L w A B X Z:=fun c an {_ _ _ _ _ _ _ _ _ _ _} h hH hA hB=>
  AAh (n:=3) (ADY (I9 hG c an _ _ _ _ _ _ _ _ _ _ _ _ _ h hH (fun σ1 L1 w1 h1 _ hE1 hH1=>hA σ1 L1 w1 h1 hE1 hH1) (fun i σ2 L2 w2 h2=>by cases h2) (fun r σ2 L2 w2 h2 h3 _ hH2=>hB r σ2 L2 w2 h2 h3 hH2) PZ.no))
 induction c with
 |seq a b iha ihb=>
  intro an Y KN KR σ L w z A B X Z h hH hA hB
  have h:(match ABM a b with
   |some u=>mapM G N pr u an KN σ
   |none=>match ACC a with
    |true=>V7 G N pr a an.l (fun σ'=>V7 G N pr b an.r KN KR σ') KR σ
    |false=>exec G N pr a an.l (fun σ'=>V7 G N pr b an.r KN KR σ') (fun _ _=>none) KR σ)=some z:=h
  have hw:wrE (.seq a b) an=(match (generalizing:=false) ABM a b with
   |some u=>match (generalizing:=false) an with
    |.lp hd _ l=>C2 u.pre++(u.t::F7 u hd l)
    |_=>[]
   |none=>match (generalizing:=false) ACC a with
    |true=>wrE a an.l++wrE b an.r
    |false=>(D6 a++D5 an.l)++wrE b an.r):=rfl
  cases hu:ABM a b with
  |some u=>rw[hu]at h;exact ATh hG hu h hH hA
  |none=>
   rw[hu]at h hw
   simp only at h hw
   cases ha:ACC a with
   |true=>
    rw[ha]at h hw
    exact A3 (iha an.l h hH (fun σ1 L1 w1 h1 hE1 hH1=>ihb an.r h1 hH1 (fun σ2 L2 w2 h2 hE2 hH2=>hA σ2 L2 w2 h2 (by rw[hw];exact(hE1.mono fun t ht=>AaR _ ht).trans (hE2.mono fun t ht=>AaS _ ht)) hH2) hB) hB)
   |false=>
    rw[ha]at h hw
    exact A3 (plain a an.l h hH (fun σ1 L1 w1 h1 hE1 hH1=>ihb an.r h1 hH1 (fun σ2 L2 w2 h2 hE2 hH2=>hA σ2 L2 w2 h2 (by rw[hw];exact(hE1.mono fun t ht=>AaR _ ht).trans (hE2.mono fun t ht=>AaS _ ht)) hH2) hB) hB)
 |_=>intro an Y KN KR σ L w z A B X Z h hH hA hB;exact plain _ an h hH hA hB
end
theorem ATi[Sl (P:=P)]{G:Gx}(hG:GxOk P G){k:Nat}{f:Func}{c:Code}{an:An}{ps:List Pt}{cs:List Ck}{F:E9 ps->Option (H9 cs)}(hf:P.funcs[k]?=some f)(hb:f.body=some c)(hl:Nat.ble ps.length f.ntmps=true)(hn:Nat.ble cs.length 4=true)(ho:Nat.ble (AEK cs) 1=true)(hF:∀a,F a=AVL G f an ps cs a):Ctr.ok P k ⟨ps,cs,F⟩:=by
 refine⟨Aat ho,fun M w a vals r hM hg ha hr=>?_⟩;have hr:F a=some r:=hr;rw[hF]at hr;unfold AVL at hr;rw[hb]at hr;have hlen:∀(ps:List Pt) {a:E9 ps} {vals:List Value},ArgsOk M w ps a vals->vals.length=ps.length:=by
  intro ps;induction ps with
  |nil=>intro a vals h;have h:vals=[]:=h;rw[h];rfl
  |cons p ps ih=>intro a vals h;obtain⟨v,r,rfl,_,h3⟩:=h;simp[ih h3]
 have h0:Holds (P:=P) w [] M ⟨ACY 0 ps a,[],[],[]⟩ (T7 0 vals) w:=by
  refine⟨[],fun _=>undef,fun _=>[],fun _=>[],fun _=>0,⟨Hp.start hM,(fun i a h=>by cases h),(fun i j a b h=>by cases h),(fun i a h=>by cases h),fun t s h=>?_,⟨trivial,hg⟩⟩⟩;exact AJV ps 0 ha t s h
 have fin:∀σ' L' w',S8 G cs f.results.toList σ'=some r->Holds (P:=P) w [] M σ' L' w'->ABs P f (fun e w'=>∃vs,e=.returned (ACW vs)/\KsOk (P:=P) M (obK cs vs++M) w w' cs r vs/\Ext w w') [] L' w':=fun σ' L' w' h1 hH=>by
  obtain⟨vs,h2,h3,h4,h5⟩:=ANR hG hH h1;exact H2 (by simp) h2 (by rw[h3];exact hn) ⟨vs,by rw[AFN],h4,h5⟩
 refine B9 hf hb rfl (by rw[hlen ps ha];exact hl) ?_;exact AFO hG c an hr h0 (fun σ' L' w' h1 _ hH=>fin σ' L' w' h1 hH) fun r' σ' L' w' hp hk hH=>by
  have hk:r'=r:=AaO hk;subst hk;exact fin σ' L' w' hp hH
end Go.Rx
namespace Go.Proofs.YtgioiejbphljoaaGreatDoor
open Go Go.Sx Go.Rx Go.RowKit
variable[Trk]
@[ext] structure Terms where
 answer:Int
 mark:Int
 lately:Int
def TermsE:Enc Terms:=S6 (fun x=>(x.answer,(x.mark,x.lately))) (B2 (A9 .i64) (B2 (A9 .i64) ((A9 .i64))))
attribute [grind ext] Terms.ext
instance:DecidableEq Terms:=fun x y=>decidable_of_iff (x.answer=y.answer/\x.mark=y.mark/\x.lately=y.lately) ⟨fun⟨h0,h1,h2⟩=>Terms.ext h0 h1 h2,fun h=>by subst h;exact⟨rfl,rfl,rfl⟩⟩
theorem AMF{M:List Nat}{w:World}{cs:List Value}{x:Terms}:TermsE.R M w cs x↔cs=[Value.int .i64 x.answer,Value.int .i64 x.mark,Value.int .i64 x.lately]/\InK .i64 x.answer/\InK .i64 x.mark/\InK .i64 x.lately:=by
 simp only[TermsE,mapE_R,prodE_R,intE_R];constructor
 . rintro⟨_,_,rfl,⟨rfl,h0⟩,⟨_,_,rfl,⟨rfl,h1⟩,⟨rfl,h2⟩⟩⟩;exact⟨rfl,h0,h1,h2⟩
 . rintro⟨rfl,h0,h1,h2⟩;exact⟨[Value.int .i64 x.answer],[Value.int .i64 x.mark,Value.int .i64 x.lately],rfl,⟨rfl,h0⟩,⟨[Value.int .i64 x.mark],[Value.int .i64 x.lately],rfl,⟨rfl,h1⟩,⟨rfl,h2⟩⟩⟩
theorem ARd(x y:Terms)(w:World):(Op.equalIn 10000 23 (.agg (toArray [Value.int .i64 x.answer,Value.int .i64 x.mark,Value.int .i64 x.lately])) (.agg (toArray [Value.int .i64 y.answer,Value.int .i64 y.mark,Value.int .i64 y.lately]))).run prog w=.ok (decide (x=y)) w:=by
 have hf:prog.underlying 23=some (.struct (prog.fieldsOf 23)):=by simp[Program.fieldsOf,underlying23]
 rw[show(10000:Nat)=9999+1 from rfl,run_equalIn_agg w 9999 23 _ _ hf stoodInHeld23];have h0:decide (x=y)=(decide (x.answer=y.answer)&&decide (x.mark=y.mark)&&decide (x.lately=y.lately)):=by
  rw[Bool.eq_iff_iff];simp only[decide_eq_true_eq,Bool.and_eq_true];constructor
  . rintro rfl;simp
  . intro h;apply Terms.ext<;>simp_all
 rw[h0];simp[Program.fieldsOf,underlying23,Op.eqFields,part,isAgg3,run_equalIn_int w 9998 3 .i64 .i64 _ _ underlying3];repeat' split
 all_goals simp_all
@[ext] structure Report where
 id:Int
 source:Int
 account:Int
 made:Int
 about:Int
 kind:Int
 cents:Int
 of_:Int
def ReportE:Enc Report:=S6 (fun x=>(x.id,(x.source,(x.account,(x.made,(x.about,(x.kind,(x.cents,x.of_)))))))) (B2 (A9 .i64) (B2 (A9 .i64) (B2 (A9 .i64) (B2 (A9 .i64) (B2 (A9 .i64) (B2 (A9 .u8) (B2 (A9 .i64) ((A9 .i64)))))))))
attribute [grind ext] Report.ext
instance:DecidableEq Report:=fun x y=>decidable_of_iff (x.id=y.id/\x.source=y.source/\x.account=y.account/\x.made=y.made/\x.about=y.about/\x.kind=y.kind/\x.cents=y.cents/\x.of_=y.of_) ⟨fun⟨h0,h1,h2,h3,h4,h5,h6,h7⟩=>Report.ext h0 h1 h2 h3 h4 h5 h6 h7,fun h=>by subst h;exact⟨rfl,rfl,rfl,rfl,rfl,rfl,rfl,rfl⟩⟩
theorem ReportE_R{M:List Nat}{w:World}{cs:List Value}{x:Report}:ReportE.R M w cs x↔cs=[Value.int .i64 x.id,Value.int .i64 x.source,Value.int .i64 x.account,Value.int .i64 x.made,Value.int .i64 x.about,Value.int .u8 x.kind,Value.int .i64 x.cents,Value.int .i64 x.of_]/\InK .i64 x.id/\InK .i64 x.source/\InK .i64 x.account/\InK .i64 x.made/\InK .i64 x.about/\InK .u8 x.kind/\InK .i64 x.cents/\InK .i64 x.of_:=by
 simp only[ReportE,mapE_R,prodE_R,intE_R];constructor
 . rintro⟨_,_,rfl,⟨rfl,h0⟩,⟨_,_,rfl,⟨rfl,h1⟩,⟨_,_,rfl,⟨rfl,h2⟩,⟨_,_,rfl,⟨rfl,h3⟩,⟨_,_,rfl,⟨rfl,h4⟩,⟨_,_,rfl,⟨rfl,h5⟩,⟨_,_,rfl,⟨rfl,h6⟩,⟨rfl,h7⟩⟩⟩⟩⟩⟩⟩⟩;exact⟨rfl,h0,h1,h2,h3,h4,h5,h6,h7⟩
 . rintro⟨rfl,h0,h1,h2,h3,h4,h5,h6,h7⟩;exact⟨[Value.int .i64 x.id],[Value.int .i64 x.source,Value.int .i64 x.account,Value.int .i64 x.made,Value.int .i64 x.about,Value.int .u8 x.kind,Value.int .i64 x.cents,Value.int .i64 x.of_],rfl,⟨rfl,h0⟩,⟨[Value.int .i64 x.source],[Value.int .i64 x.account,Value.int .i64 x.made,Value.int .i64 x.about,Value.int .u8 x.kind,Value.int .i64 x.cents,Value.int .i64 x.of_],rfl,⟨rfl,h1⟩,⟨[Value.int .i64 x.account],[Value.int .i64 x.made,Value.int .i64 x.about,Value.int .u8 x.kind,Value.int .i64 x.cents,Value.int .i64 x.of_],rfl,⟨rfl,h2⟩,⟨[Value.int .i64 x.made],[Value.int .i64 x.about,Value.int .u8 x.kind,Value.int .i64 x.cents,Value.int .i64 x.of_],rfl,⟨rfl,h3⟩,⟨[Value.int .i64 x.about],[Value.int .u8 x.kind,Value.int .i64 x.cents,Value.int .i64 x.of_],rfl,⟨rfl,h4⟩,⟨[Value.int .u8 x.kind],[Value.int .i64 x.cents,Value.int .i64 x.of_],rfl,⟨rfl,h5⟩,⟨[Value.int .i64 x.cents],[Value.int .i64 x.of_],rfl,⟨rfl,h6⟩,⟨rfl,h7⟩⟩⟩⟩⟩⟩⟩⟩
theorem AQE(x y:Report)(w:World):(Op.equalIn 10000 45 (.agg (toArray [Value.int .i64 x.id,Value.int .i64 x.source,Value.int .i64 x.account,Value.int .i64 x.made,Value.int .i64 x.about,Value.int .u8 x.kind,Value.int .i64 x.cents,Value.int .i64 x.of_])) (.agg (toArray [Value.int .i64 y.id,Value.int .i64 y.source,Value.int .i64 y.account,Value.int .i64 y.made,Value.int .i64 y.about,Value.int .u8 y.kind,Value.int .i64 y.cents,Value.int .i64 y.of_]))).run prog w=.ok (decide (x=y)) w:=by
 have hf:prog.underlying 45=some (.struct (prog.fieldsOf 45)):=by simp[Program.fieldsOf,underlying45]
 rw[show(10000:Nat)=9999+1 from rfl,run_equalIn_agg w 9999 45 _ _ hf stoodInHeld45];have h0:decide (x=y)=(decide (x.id=y.id)&&decide (x.source=y.source)&&decide (x.account=y.account)&&decide (x.made=y.made)&&decide (x.about=y.about)&&decide (x.kind=y.kind)&&decide (x.cents=y.cents)&&decide (x.of_=y.of_)):=by
  rw[Bool.eq_iff_iff];simp only[decide_eq_true_eq,Bool.and_eq_true];constructor
  . rintro rfl;simp
  . intro h;apply Report.ext<;>simp_all
 rw[h0];simp[Program.fieldsOf,underlying45,Op.eqFields,part,isAgg3,run_equalIn_int w 9998 3 .i64 .i64 _ _ underlying3,isAgg5,run_equalIn_int w 9998 5 .u8 .u8 _ _ underlying5];repeat' split
 all_goals simp_all
@[ext] structure Dispute where
 id:Int
 report:Int
 day:Int
def DisputeE:Enc Dispute:=S6 (fun x=>(x.id,(x.report,x.day))) (B2 (A9 .i64) (B2 (A9 .i64) ((A9 .i64))))
attribute [grind ext] Dispute.ext
instance:DecidableEq Dispute:=fun x y=>decidable_of_iff (x.id=y.id/\x.report=y.report/\x.day=y.day) ⟨fun⟨h0,h1,h2⟩=>Dispute.ext h0 h1 h2,fun h=>by subst h;exact⟨rfl,rfl,rfl⟩⟩
theorem DisputeE_R{M:List Nat}{w:World}{cs:List Value}{x:Dispute}:DisputeE.R M w cs x↔cs=[Value.int .i64 x.id,Value.int .i64 x.report,Value.int .i64 x.day]/\InK .i64 x.id/\InK .i64 x.report/\InK .i64 x.day:=by
 simp only[DisputeE,mapE_R,prodE_R,intE_R];constructor
 . rintro⟨_,_,rfl,⟨rfl,h0⟩,⟨_,_,rfl,⟨rfl,h1⟩,⟨rfl,h2⟩⟩⟩;exact⟨rfl,h0,h1,h2⟩
 . rintro⟨rfl,h0,h1,h2⟩;exact⟨[Value.int .i64 x.id],[Value.int .i64 x.report,Value.int .i64 x.day],rfl,⟨rfl,h0⟩,⟨[Value.int .i64 x.report],[Value.int .i64 x.day],rfl,⟨rfl,h1⟩,⟨rfl,h2⟩⟩⟩
theorem AOj(x y:Dispute)(w:World):(Op.equalIn 10000 53 (.agg (toArray [Value.int .i64 x.id,Value.int .i64 x.report,Value.int .i64 x.day])) (.agg (toArray [Value.int .i64 y.id,Value.int .i64 y.report,Value.int .i64 y.day]))).run prog w=.ok (decide (x=y)) w:=by
 have hf:prog.underlying 53=some (.struct (prog.fieldsOf 53)):=by simp[Program.fieldsOf,underlying53]
 rw[show(10000:Nat)=9999+1 from rfl,run_equalIn_agg w 9999 53 _ _ hf stoodInHeld53];have h0:decide (x=y)=(decide (x.id=y.id)&&decide (x.report=y.report)&&decide (x.day=y.day)):=by
  rw[Bool.eq_iff_iff];simp only[decide_eq_true_eq,Bool.and_eq_true];constructor
  . rintro rfl;simp
  . intro h;apply Dispute.ext<;>simp_all
 rw[h0];simp[Program.fieldsOf,underlying53,Op.eqFields,part,isAgg3,run_equalIn_int w 9998 3 .i64 .i64 _ _ underlying3];repeat' split
 all_goals simp_all
@[ext] structure Answer where
 id:Int
 dispute:Int
 day:Int
 says:Int
 about:Int
 cents:Int
def AnswerE:Enc Answer:=S6 (fun x=>(x.id,(x.dispute,(x.day,(x.says,(x.about,x.cents)))))) (B2 (A9 .i64) (B2 (A9 .i64) (B2 (A9 .i64) (B2 (A9 .u8) (B2 (A9 .i64) ((A9 .i64)))))))
attribute [grind ext] Answer.ext
instance:DecidableEq Answer:=fun x y=>decidable_of_iff (x.id=y.id/\x.dispute=y.dispute/\x.day=y.day/\x.says=y.says/\x.about=y.about/\x.cents=y.cents) ⟨fun⟨h0,h1,h2,h3,h4,h5⟩=>Answer.ext h0 h1 h2 h3 h4 h5,fun h=>by subst h;exact⟨rfl,rfl,rfl,rfl,rfl,rfl⟩⟩
theorem AnswerE_R{M:List Nat}{w:World}{cs:List Value}{x:Answer}:AnswerE.R M w cs x↔cs=[Value.int .i64 x.id,Value.int .i64 x.dispute,Value.int .i64 x.day,Value.int .u8 x.says,Value.int .i64 x.about,Value.int .i64 x.cents]/\InK .i64 x.id/\InK .i64 x.dispute/\InK .i64 x.day/\InK .u8 x.says/\InK .i64 x.about/\InK .i64 x.cents:=by
 simp only[AnswerE,mapE_R,prodE_R,intE_R];constructor
 . rintro⟨_,_,rfl,⟨rfl,h0⟩,⟨_,_,rfl,⟨rfl,h1⟩,⟨_,_,rfl,⟨rfl,h2⟩,⟨_,_,rfl,⟨rfl,h3⟩,⟨_,_,rfl,⟨rfl,h4⟩,⟨rfl,h5⟩⟩⟩⟩⟩⟩;exact⟨rfl,h0,h1,h2,h3,h4,h5⟩
 . rintro⟨rfl,h0,h1,h2,h3,h4,h5⟩;exact⟨[Value.int .i64 x.id],[Value.int .i64 x.dispute,Value.int .i64 x.day,Value.int .u8 x.says,Value.int .i64 x.about,Value.int .i64 x.cents],rfl,⟨rfl,h0⟩,⟨[Value.int .i64 x.dispute],[Value.int .i64 x.day,Value.int .u8 x.says,Value.int .i64 x.about,Value.int .i64 x.cents],rfl,⟨rfl,h1⟩,⟨[Value.int .i64 x.day],[Value.int .u8 x.says,Value.int .i64 x.about,Value.int .i64 x.cents],rfl,⟨rfl,h2⟩,⟨[Value.int .u8 x.says],[Value.int .i64 x.about,Value.int .i64 x.cents],rfl,⟨rfl,h3⟩,⟨[Value.int .i64 x.about],[Value.int .i64 x.cents],rfl,⟨rfl,h4⟩,⟨rfl,h5⟩⟩⟩⟩⟩⟩
theorem AQF(x y:Answer)(w:World):(Op.equalIn 10000 60 (.agg (toArray [Value.int .i64 x.id,Value.int .i64 x.dispute,Value.int .i64 x.day,Value.int .u8 x.says,Value.int .i64 x.about,Value.int .i64 x.cents])) (.agg (toArray [Value.int .i64 y.id,Value.int .i64 y.dispute,Value.int .i64 y.day,Value.int .u8 y.says,Value.int .i64 y.about,Value.int .i64 y.cents]))).run prog w=.ok (decide (x=y)) w:=by
 have hf:prog.underlying 60=some (.struct (prog.fieldsOf 60)):=by simp[Program.fieldsOf,underlying60]
 rw[show(10000:Nat)=9999+1 from rfl,run_equalIn_agg w 9999 60 _ _ hf stoodInHeld60];have h0:decide (x=y)=(decide (x.id=y.id)&&decide (x.dispute=y.dispute)&&decide (x.day=y.day)&&decide (x.says=y.says)&&decide (x.about=y.about)&&decide (x.cents=y.cents)):=by
  rw[Bool.eq_iff_iff];simp only[decide_eq_true_eq,Bool.and_eq_true];constructor
  . rintro rfl;simp
  . intro h;apply Answer.ext<;>simp_all
 rw[h0];simp[Program.fieldsOf,underlying60,Op.eqFields,part,isAgg3,run_equalIn_int w 9998 3 .i64 .i64 _ _ underlying3,isAgg5,run_equalIn_int w 9998 5 .u8 .u8 _ _ underlying5];repeat' split
 all_goals simp_all
@[ext] structure Desk where
 terms:Terms
 reports:(List Report)
 disputes:(List Dispute)
 answers:(List Answer)
 deriving DecidableEq
def DeskE:Enc Desk:=S6 (fun x=>(x.terms.answer,(x.terms.mark,(x.terms.lately,(x.reports,(x.disputes,x.answers)))))) (B2 (A9 .i64) (B2 (A9 .i64) (B2 (A9 .i64) (B2 (E6 ReportE) (B2 (E6 DisputeE) (E6 AnswerE))))))
@[ext] structure Asked where
 id:Int
 who:Int
 account:Int
 day:Int
def AskedE:Enc Asked:=S6 (fun x=>(x.id,(x.who,(x.account,x.day)))) (B2 (A9 .i64) (B2 (A9 .i64) (B2 (A9 .i64) ((A9 .i64)))))
attribute [grind ext] Asked.ext
instance:DecidableEq Asked:=fun x y=>decidable_of_iff (x.id=y.id/\x.who=y.who/\x.account=y.account/\x.day=y.day) ⟨fun⟨h0,h1,h2,h3⟩=>Asked.ext h0 h1 h2 h3,fun h=>by subst h;exact⟨rfl,rfl,rfl,rfl⟩⟩
theorem AHr{M:List Nat}{w:World}{cs:List Value}{x:Asked}:AskedE.R M w cs x↔cs=[Value.int .i64 x.id,Value.int .i64 x.who,Value.int .i64 x.account,Value.int .i64 x.day]/\InK .i64 x.id/\InK .i64 x.who/\InK .i64 x.account/\InK .i64 x.day:=by
 simp only[AskedE,mapE_R,prodE_R,intE_R];constructor
 . rintro⟨_,_,rfl,⟨rfl,h0⟩,⟨_,_,rfl,⟨rfl,h1⟩,⟨_,_,rfl,⟨rfl,h2⟩,⟨rfl,h3⟩⟩⟩⟩;exact⟨rfl,h0,h1,h2,h3⟩
 . rintro⟨rfl,h0,h1,h2,h3⟩;exact⟨[Value.int .i64 x.id],[Value.int .i64 x.who,Value.int .i64 x.account,Value.int .i64 x.day],rfl,⟨rfl,h0⟩,⟨[Value.int .i64 x.who],[Value.int .i64 x.account,Value.int .i64 x.day],rfl,⟨rfl,h1⟩,⟨[Value.int .i64 x.account],[Value.int .i64 x.day],rfl,⟨rfl,h2⟩,⟨rfl,h3⟩⟩⟩⟩
theorem ARe(x y:Asked)(w:World):(Op.equalIn 10000 47 (.agg (toArray [Value.int .i64 x.id,Value.int .i64 x.who,Value.int .i64 x.account,Value.int .i64 x.day])) (.agg (toArray [Value.int .i64 y.id,Value.int .i64 y.who,Value.int .i64 y.account,Value.int .i64 y.day]))).run prog w=.ok (decide (x=y)) w:=by
 have hf:prog.underlying 47=some (.struct (prog.fieldsOf 47)):=by simp[Program.fieldsOf,underlying47]
 rw[show(10000:Nat)=9999+1 from rfl,run_equalIn_agg w 9999 47 _ _ hf stoodInHeld47];have h0:decide (x=y)=(decide (x.id=y.id)&&decide (x.who=y.who)&&decide (x.account=y.account)&&decide (x.day=y.day)):=by
  rw[Bool.eq_iff_iff];simp only[decide_eq_true_eq,Bool.and_eq_true];constructor
  . rintro rfl;simp
  . intro h;apply Asked.ext<;>simp_all
 rw[h0];simp[Program.fieldsOf,underlying47,Op.eqFields,part,isAgg3,run_equalIn_int w 9998 3 .i64 .i64 _ _ underlying3];repeat' split
 all_goals simp_all
@[ext] structure Letter where
 dispute:Int
 who:Int
 asked:Int
def LetterE:Enc Letter:=S6 (fun x=>(x.dispute,(x.who,x.asked))) (B2 (A9 .i64) (B2 (A9 .i64) ((A9 .i64))))
attribute [grind ext] Letter.ext
instance:DecidableEq Letter:=fun x y=>decidable_of_iff (x.dispute=y.dispute/\x.who=y.who/\x.asked=y.asked) ⟨fun⟨h0,h1,h2⟩=>Letter.ext h0 h1 h2,fun h=>by subst h;exact⟨rfl,rfl,rfl⟩⟩
theorem LetterE_R{M:List Nat}{w:World}{cs:List Value}{x:Letter}:LetterE.R M w cs x↔cs=[Value.int .i64 x.dispute,Value.int .i64 x.who,Value.int .i64 x.asked]/\InK .i64 x.dispute/\InK .i64 x.who/\InK .i64 x.asked:=by
 simp only[LetterE,mapE_R,prodE_R,intE_R];constructor
 . rintro⟨_,_,rfl,⟨rfl,h0⟩,⟨_,_,rfl,⟨rfl,h1⟩,⟨rfl,h2⟩⟩⟩;exact⟨rfl,h0,h1,h2⟩
 . rintro⟨rfl,h0,h1,h2⟩;exact⟨[Value.int .i64 x.dispute],[Value.int .i64 x.who,Value.int .i64 x.asked],rfl,⟨rfl,h0⟩,⟨[Value.int .i64 x.who],[Value.int .i64 x.asked],rfl,⟨rfl,h1⟩,⟨rfl,h2⟩⟩⟩
theorem AQG(x y:Letter)(w:World):(Op.equalIn 10000 70 (.agg (toArray [Value.int .i64 x.dispute,Value.int .i64 x.who,Value.int .i64 x.asked])) (.agg (toArray [Value.int .i64 y.dispute,Value.int .i64 y.who,Value.int .i64 y.asked]))).run prog w=.ok (decide (x=y)) w:=by
 have hf:prog.underlying 70=some (.struct (prog.fieldsOf 70)):=by simp[Program.fieldsOf,underlying70]
 rw[show(10000:Nat)=9999+1 from rfl,run_equalIn_agg w 9999 70 _ _ hf stoodInHeld70];have h0:decide (x=y)=(decide (x.dispute=y.dispute)&&decide (x.who=y.who)&&decide (x.asked=y.asked)):=by
  rw[Bool.eq_iff_iff];simp only[decide_eq_true_eq,Bool.and_eq_true];constructor
  . rintro rfl;simp
  . intro h;apply Letter.ext<;>simp_all
 rw[h0];simp[Program.fieldsOf,underlying70,Op.eqFields,part,isAgg3,run_equalIn_int w 9998 3 .i64 .i64 _ _ underlying3];repeat' split
 all_goals simp_all
@[ext] structure Told where
 known:Int
 cents:Int
 since:Int
 by_:(List Int)
 deriving DecidableEq
def ToldE:Enc Told:=S6 (fun x=>(x.known,(x.cents,(x.since,x.by_)))) (B2 (A9 .u8) (B2 (A9 .i64) (B2 (A9 .i64) (E6 (A9 .i64)))))
@[ext] structure Span where
 lo:Int
 hi:Int
def SpanE:Enc Span:=S6 (fun x=>(x.lo,x.hi)) (B2 (A9 .i64) ((A9 .i64)))
attribute [grind ext] Span.ext
instance:DecidableEq Span:=fun x y=>decidable_of_iff (x.lo=y.lo/\x.hi=y.hi) ⟨fun⟨h0,h1⟩=>Span.ext h0 h1,fun h=>by subst h;exact⟨rfl,rfl⟩⟩
theorem SpanE_R{M:List Nat}{w:World}{cs:List Value}{x:Span}:SpanE.R M w cs x↔cs=[Value.int .i64 x.lo,Value.int .i64 x.hi]/\InK .i64 x.lo/\InK .i64 x.hi:=by
 simp only[SpanE,mapE_R,prodE_R,intE_R];constructor
 . rintro⟨_,_,rfl,⟨rfl,h0⟩,⟨rfl,h1⟩⟩;exact⟨rfl,h0,h1⟩
 . rintro⟨rfl,h0,h1⟩;exact⟨[Value.int .i64 x.lo],[Value.int .i64 x.hi],rfl,⟨rfl,h0⟩,⟨rfl,h1⟩⟩
theorem ATj(x y:Span)(w:World):(Op.equalIn 10000 88 (.agg (toArray [Value.int .i64 x.lo,Value.int .i64 x.hi])) (.agg (toArray [Value.int .i64 y.lo,Value.int .i64 y.hi]))).run prog w=.ok (decide (x=y)) w:=by
 have hf:prog.underlying 88=some (.struct (prog.fieldsOf 88)):=by simp[Program.fieldsOf,underlying88]
 rw[show(10000:Nat)=9999+1 from rfl,run_equalIn_agg w 9999 88 _ _ hf stoodInHeld88];have h0:decide (x=y)=(decide (x.lo=y.lo)&&decide (x.hi=y.hi)):=by
  rw[Bool.eq_iff_iff];simp only[decide_eq_true_eq,Bool.and_eq_true];constructor
  . rintro rfl;simp
  . intro h;apply Span.ext<;>simp_all
 rw[h0];simp[Program.fieldsOf,underlying88,Op.eqFields,part,isAgg3,run_equalIn_int w 9998 3 .i64 .i64 _ _ underlying3];repeat' split
 all_goals simp_all
@[ext] structure State where
 opened:Told
 limit:Told
 owed:Told
 late:Told
 default:Told
 closed:Told
 paid:Span
 is_:Int
 deriving DecidableEq
def AIh:Enc State:=S6 (fun x=>(x.opened.known,(x.opened.cents,(x.opened.since,(x.opened.by_,(x.limit.known,(x.limit.cents,(x.limit.since,(x.limit.by_,(x.owed.known,(x.owed.cents,(x.owed.since,(x.owed.by_,(x.late.known,(x.late.cents,(x.late.since,(x.late.by_,(x.default.known,(x.default.cents,(x.default.since,(x.default.by_,(x.closed.known,(x.closed.cents,(x.closed.since,(x.closed.by_,(x.paid.lo,(x.paid.hi,x.is_))))))))))))))))))))))))))) (B2 (A9 .u8) (B2 (A9 .i64) (B2 (A9 .i64) (B2 (E6 (A9 .i64)) (B2 (A9 .u8) (B2 (A9 .i64) (B2 (A9 .i64) (B2 (E6 (A9 .i64)) (B2 (A9 .u8) (B2 (A9 .i64) (B2 (A9 .i64) (B2 (E6 (A9 .i64)) (B2 (A9 .u8) (B2 (A9 .i64) (B2 (A9 .i64) (B2 (E6 (A9 .i64)) (B2 (A9 .u8) (B2 (A9 .i64) (B2 (A9 .i64) (B2 (E6 (A9 .i64)) (B2 (A9 .u8) (B2 (A9 .i64) (B2 (A9 .i64) (B2 (E6 (A9 .i64)) (B2 (A9 .i64) (B2 (A9 .i64) (A9 .u8)))))))))))))))))))))))))))
@[ext] structure Desk_99 where
 desk:Desk
 facts:(A4 Int Report)
 answers:(A4 Int (List Answer))
def ARf:Enc Desk_99:=S6 (fun x=>(x.desk.terms.answer,(x.desk.terms.mark,(x.desk.terms.lately,(x.desk.reports,(x.desk.disputes,(x.desk.answers,(x.facts,x.answers)))))))) (B2 (A9 .i64) (B2 (A9 .i64) (B2 (A9 .i64) (B2 (E6 ReportE) (B2 (E6 DisputeE) (B2 (E6 AnswerE) (B2 (mpE (some (V6 .i64 underlying3)) ReportE true) (mpE (some (V6 .i64 underlying3)) (E6 AnswerE) false))))))))
@[ext] structure Arr116 where
 x0:Int
 x1:Int
 deriving DecidableEq
def AGs:Enc Arr116:=S6 (fun x=>(x.x0,x.x1)) (B2 (A9 .i64) (A9 .i64))
@[ext] structure Verdict where
 day:Int
 is_:Int
 by_:Answer
 deriving DecidableEq
def AFP:Enc Verdict:=S6 (fun x=>(x.day,(x.is_,(x.by_.id,(x.by_.dispute,(x.by_.day,(x.by_.says,(x.by_.about,x.by_.cents)))))))) (B2 (A9 .i64) (B2 (A9 .u8) (B2 (A9 .i64) (B2 (A9 .i64) (B2 (A9 .i64) (B2 (A9 .u8) (B2 (A9 .i64) (A9 .i64))))))))
@[ext] structure Store where
 reports:(A4 Int Report)
def AVM:Enc Store:=S6 (fun x=>x.reports) (mpE (some (V6 .i64 underlying3)) ReportE true)
@[ext] structure Desk_139 where
 store:Store
 gone:(A4 Int Int)
 fixed:(A4 Int Int)
def AQH:Enc Desk_139:=S6 (fun x=>(x.store.reports,(x.gone,x.fixed))) (B2 (mpE (some (V6 .i64 underlying3)) ReportE true) (B2 (mpE (some (V6 .i64 underlying3)) (A9 .i64) false) (mpE (some (V6 .i64 underlying3)) (A9 .i64) false)))
@[ext] structure Book where
 facts:(List Report)
 deriving DecidableEq
def BookE:Enc Book:=S6 (fun x=>x.facts) (E6 ReportE)
@[ext] structure Payer where
 day:Int
 source:Int
 deriving DecidableEq
def AIi:Enc Payer:=S6 (fun x=>(x.day,x.source)) (B2 (A9 .i64) (A9 .i64))
instance:Sg where
 S:=fun
  |0=>Terms
  |1=>Report
  |2=>Dispute
  |3=>Answer
  |4=>Desk
  |5=>Asked
  |6=>Letter
  |7=>Told
  |8=>Span
  |9=>State
  |10=>Desk_99
  |11=>Arr116
  |12=>Verdict
  |13=>Store
  |14=>Desk_139
  |15=>Book
  |16=>Payer
  |_+17=>Bool
def glob0:List Int:=[0,0,1000000000000,1000000000000,1000000000000,10000,1000000000000,0,1000000000000,0]
def AGt:A4 Int Int:=(B4 (B4 (B4 fnone 1 2) 2 3) 3 4)
instance:Sf where
 ft:=fun
  |0=>[(.int .i64),(.int .i64),(.int .i64)]
  |1=>[(.int .i64),(.int .i64),(.int .i64),(.int .i64),(.int .i64),(.int .u8),(.int .i64),(.int .i64)]
  |2=>[(.int .i64),(.int .i64),(.int .i64)]
  |3=>[(.int .i64),(.int .i64),(.int .i64),(.int .u8),(.int .i64),(.int .i64)]
  |4=>[(.int .i64),(.int .i64),(.int .i64),(.sl (.st 1)),(.sl (.st 2)),(.sl (.st 3))]
  |5=>[(.int .i64),(.int .i64),(.int .i64),(.int .i64)]
  |6=>[(.int .i64),(.int .i64),(.int .i64)]
  |7=>[(.int .u8),(.int .i64),(.int .i64),(.sl (.int .i64))]
  |8=>[(.int .i64),(.int .i64)]
  |9=>[(.int .u8),(.int .i64),(.int .i64),(.sl (.int .i64)),(.int .u8),(.int .i64),(.int .i64),(.sl (.int .i64)),(.int .u8),(.int .i64),(.int .i64),(.sl (.int .i64)),(.int .u8),(.int .i64),(.int .i64),(.sl (.int .i64)),(.int .u8),(.int .i64),(.int .i64),(.sl (.int .i64)),(.int .u8),(.int .i64),(.int .i64),(.sl (.int .i64)),(.int .i64),(.int .i64),(.int .u8)]
  |10=>[(.int .i64),(.int .i64),(.int .i64),(.sl (.st 1)),(.sl (.st 2)),(.sl (.st 3)),(.mp 3 (.int .i64) (.st 1)),(.mp 3 (.int .i64) (.sl (.st 3)))]
  |11=>[(.int .i64),(.int .i64)]
  |12=>[(.int .i64),(.int .u8),(.int .i64),(.int .i64),(.int .i64),(.int .u8),(.int .i64),(.int .i64)]
  |13=>[(.mp 3 (.int .i64) (.st 1))]
  |14=>[(.mp 3 (.int .i64) (.st 1)),(.mp 3 (.int .i64) (.int .i64)),(.mp 3 (.int .i64) (.int .i64))]
  |15=>[(.sl (.st 1))]
  |16=>[(.int .i64),(.int .i64)]
  |_+17=>[.bool]
 un:=fun
  |0=>fun (x:Terms)=>(x.answer,(x.mark,x.lately))
  |1=>fun (x:Report)=>(x.id,(x.source,(x.account,(x.made,(x.about,(x.kind,(x.cents,x.of_)))))))
  |2=>fun (x:Dispute)=>(x.id,(x.report,x.day))
  |3=>fun (x:Answer)=>(x.id,(x.dispute,(x.day,(x.says,(x.about,x.cents)))))
  |4=>fun (x:Desk)=>(x.terms.answer,(x.terms.mark,(x.terms.lately,(x.reports,(x.disputes,x.answers)))))
  |5=>fun (x:Asked)=>(x.id,(x.who,(x.account,x.day)))
  |6=>fun (x:Letter)=>(x.dispute,(x.who,x.asked))
  |7=>fun (x:Told)=>(x.known,(x.cents,(x.since,x.by_)))
  |8=>fun (x:Span)=>(x.lo,x.hi)
  |9=>fun (x:State)=>(x.opened.known,(x.opened.cents,(x.opened.since,(x.opened.by_,(x.limit.known,(x.limit.cents,(x.limit.since,(x.limit.by_,(x.owed.known,(x.owed.cents,(x.owed.since,(x.owed.by_,(x.late.known,(x.late.cents,(x.late.since,(x.late.by_,(x.default.known,(x.default.cents,(x.default.since,(x.default.by_,(x.closed.known,(x.closed.cents,(x.closed.since,(x.closed.by_,(x.paid.lo,(x.paid.hi,x.is_))))))))))))))))))))))))))
  |10=>fun (x:Desk_99)=>(x.desk.terms.answer,(x.desk.terms.mark,(x.desk.terms.lately,(x.desk.reports,(x.desk.disputes,(x.desk.answers,(x.facts,x.answers)))))))
  |11=>fun (x:Arr116)=>(x.x0,x.x1)
  |12=>fun (x:Verdict)=>(x.day,(x.is_,(x.by_.id,(x.by_.dispute,(x.by_.day,(x.by_.says,(x.by_.about,x.by_.cents)))))))
  |13=>fun (x:Store)=>x.reports
  |14=>fun (x:Desk_139)=>(x.store.reports,(x.gone,x.fixed))
  |15=>fun (x:Book)=>x.facts
  |16=>fun (x:Payer)=>(x.day,x.source)
  |_+17=>fun (x:Bool)=>x
 mkS:=fun
  |0=>fun (x:Int×Int×Int)=>(Terms.mk x.1 x.2.1 x.2.2)
  |1=>fun (x:Int×Int×Int×Int×Int×Int×Int×Int)=>(Report.mk x.1 x.2.1 x.2.2.1 x.2.2.2.1 x.2.2.2.2.1 x.2.2.2.2.2.1 x.2.2.2.2.2.2.1 x.2.2.2.2.2.2.2)
  |2=>fun (x:Int×Int×Int)=>(Dispute.mk x.1 x.2.1 x.2.2)
  |3=>fun (x:Int×Int×Int×Int×Int×Int)=>(Answer.mk x.1 x.2.1 x.2.2.1 x.2.2.2.1 x.2.2.2.2.1 x.2.2.2.2.2)
  |4=>fun (x:Int×Int×Int×(List Report)×(List Dispute)×(List Answer))=>(Desk.mk (Terms.mk x.1 x.2.1 x.2.2.1) x.2.2.2.1 x.2.2.2.2.1 x.2.2.2.2.2)
  |5=>fun (x:Int×Int×Int×Int)=>(Asked.mk x.1 x.2.1 x.2.2.1 x.2.2.2)
  |6=>fun (x:Int×Int×Int)=>(Letter.mk x.1 x.2.1 x.2.2)
  |7=>fun (x:Int×Int×Int×(List Int))=>(Told.mk x.1 x.2.1 x.2.2.1 x.2.2.2)
  |8=>fun (x:Int×Int)=>(Span.mk x.1 x.2)
  |9=>fun (x:Int×Int×Int×(List Int)×Int×Int×Int×(List Int)×Int×Int×Int×(List Int)×Int×Int×Int×(List Int)×Int×Int×Int×(List Int)×Int×Int×Int×(List Int)×Int×Int×Int)=>(State.mk (Told.mk x.1 x.2.1 x.2.2.1 x.2.2.2.1) (Told.mk x.2.2.2.2.1 x.2.2.2.2.2.1 x.2.2.2.2.2.2.1 x.2.2.2.2.2.2.2.1) (Told.mk x.2.2.2.2.2.2.2.2.1 x.2.2.2.2.2.2.2.2.2.1 x.2.2.2.2.2.2.2.2.2.2.1 x.2.2.2.2.2.2.2.2.2.2.2.1) (Told.mk x.2.2.2.2.2.2.2.2.2.2.2.2.1 x.2.2.2.2.2.2.2.2.2.2.2.2.2.1 x.2.2.2.2.2.2.2.2.2.2.2.2.2.2.1 x.2.2.2.2.2.2.2.2.2.2.2.2.2.2.2.1) (Told.mk x.2.2.2.2.2.2.2.2.2.2.2.2.2.2.2.2.1 x.2.2.2.2.2.2.2.2.2.2.2.2.2.2.2.2.2.1 x.2.2.2.2.2.2.2.2.2.2.2.2.2.2.2.2.2.2.1 x.2.2.2.2.2.2.2.2.2.2.2.2.2.2.2.2.2.2.2.1) (Told.mk x.2.2.2.2.2.2.2.2.2.2.2.2.2.2.2.2.2.2.2.2.1 x.2.2.2.2.2.2.2.2.2.2.2.2.2.2.2.2.2.2.2.2.2.1 x.2.2.2.2.2.2.2.2.2.2.2.2.2.2.2.2.2.2.2.2.2.2.1 x.2.2.2.2.2.2.2.2.2.2.2.2.2.2.2.2.2.2.2.2.2.2.2.1) (Span.mk x.2.2.2.2.2.2.2.2.2.2.2.2.2.2.2.2.2.2.2.2.2.2.2.2.1 x.2.2.2.2.2.2.2.2.2.2.2.2.2.2.2.2.2.2.2.2.2.2.2.2.2.1) x.2.2.2.2.2.2.2.2.2.2.2.2.2.2.2.2.2.2.2.2.2.2.2.2.2.2)
  |10=>fun (x:Int×Int×Int×(List Report)×(List Dispute)×(List Answer)×(A4 Int Report)×(A4 Int (List Answer)))=>(Desk_99.mk (Desk.mk (Terms.mk x.1 x.2.1 x.2.2.1) x.2.2.2.1 x.2.2.2.2.1 x.2.2.2.2.2.1) x.2.2.2.2.2.2.1 x.2.2.2.2.2.2.2)
  |11=>fun (x:Int×Int)=>(Arr116.mk x.1 x.2)
  |12=>fun (x:Int×Int×Int×Int×Int×Int×Int×Int)=>(Verdict.mk x.1 x.2.1 (Answer.mk x.2.2.1 x.2.2.2.1 x.2.2.2.2.1 x.2.2.2.2.2.1 x.2.2.2.2.2.2.1 x.2.2.2.2.2.2.2))
  |13=>fun (x:(A4 Int Report))=>(Store.mk x)
  |14=>fun (x:(A4 Int Report)×(A4 Int Int)×(A4 Int Int))=>(Desk_139.mk (Store.mk x.1) x.2.1 x.2.2)
  |15=>fun (x:(List Report))=>(Book.mk x)
  |16=>fun (x:Int×Int)=>(Payer.mk x.1 x.2)
  |_+17=>fun (x:Bool)=>x
 eq:=fun
  |0=>fun (x y:Terms)=>decide (x=y)
  |1=>fun (x y:Report)=>decide (x=y)
  |2=>fun (x y:Dispute)=>decide (x=y)
  |3=>fun (x y:Answer)=>decide (x=y)
  |4=>fun (x y:Desk)=>decide (x=y)
  |5=>fun (x y:Asked)=>decide (x=y)
  |6=>fun (x y:Letter)=>decide (x=y)
  |7=>fun (x y:Told)=>decide (x=y)
  |8=>fun (x y:Span)=>decide (x=y)
  |9=>fun (x y:State)=>decide (x=y)
  |10=>fun (x y:Desk_99)=>false
  |11=>fun (x y:Arr116)=>decide (x=y)
  |12=>fun (x y:Verdict)=>decide (x=y)
  |13=>fun (x y:Store)=>false
  |14=>fun (x y:Desk_139)=>false
  |15=>fun (x y:Book)=>decide (x=y)
  |16=>fun (x y:Payer)=>decide (x=y)
  |_+17=>fun _ _=>false
 dec:=fun
  |0=>inferInstanceAs (DecidableEq Terms)
  |1=>inferInstanceAs (DecidableEq Report)
  |2=>inferInstanceAs (DecidableEq Dispute)
  |3=>inferInstanceAs (DecidableEq Answer)
  |4=>inferInstanceAs (DecidableEq Desk)
  |5=>inferInstanceAs (DecidableEq Asked)
  |6=>inferInstanceAs (DecidableEq Letter)
  |7=>inferInstanceAs (DecidableEq Told)
  |8=>inferInstanceAs (DecidableEq Span)
  |9=>inferInstanceAs (DecidableEq State)
  |10=>fun _ _=>Classical.propDecidable _
  |11=>inferInstanceAs (DecidableEq Arr116)
  |12=>inferInstanceAs (DecidableEq Verdict)
  |13=>fun _ _=>Classical.propDecidable _
  |14=>fun _ _=>Classical.propDecidable _
  |15=>inferInstanceAs (DecidableEq Book)
  |16=>inferInstanceAs (DecidableEq Payer)
  |_+17=>inferInstanceAs (DecidableEq Bool)
 un_mk:=fun n x=>by
  match n,x with
  |0,_=>rfl
  |1,_=>rfl
  |2,_=>rfl
  |3,_=>rfl
  |4,_=>rfl
  |5,_=>rfl
  |6,_=>rfl
  |7,_=>rfl
  |8,_=>rfl
  |9,_=>rfl
  |10,_=>rfl
  |11,_=>rfl
  |12,_=>rfl
  |13,_=>rfl
  |14,_=>rfl
  |15,_=>rfl
  |16,_=>rfl
  |_+17,_=>rfl
 leaf:=fun n=>by
  match n with
  |0=>rfl
  |1=>rfl
  |2=>rfl
  |3=>rfl
  |4=>rfl
  |5=>rfl
  |6=>rfl
  |7=>rfl
  |8=>rfl
  |9=>rfl
  |10=>rfl
  |11=>rfl
  |12=>rfl
  |13=>rfl
  |14=>rfl
  |15=>rfl
  |16=>rfl
  |_+17=>rfl
 nm:=fun
  |0=>true
  |1=>true
  |2=>true
  |3=>true
  |4=>true
  |5=>true
  |6=>true
  |7=>true
  |8=>true
  |9=>true
  |10=>false
  |11=>true
  |12=>true
  |13=>false
  |14=>false
  |15=>true
  |16=>true
  |_+17=>false
 gv:=fun
  |0=>some (.rp (.ary .i64 10 glob0) 0)
  |1=>some (.rp (.agg [.fn 202 [],.fn 203 [],.fn 204 [],.fn 208 []]) 0)
  |2=>some (.rp (.dat (.mp 5 (.int .u8) (.int .u8)) AGt) 0)
  |_=>none
instance:Se prog where
 E:=fun
  |0=>TermsE
  |1=>ReportE
  |2=>DisputeE
  |3=>AnswerE
  |4=>DeskE
  |5=>AskedE
  |6=>LetterE
  |7=>ToldE
  |8=>SpanE
  |9=>AIh
  |10=>ARf
  |11=>AGs
  |12=>AFP
  |13=>AVM
  |14=>AQH
  |15=>BookE
  |16=>AIi
  |_+17=>boolE
 ky:=fun m k=>match m,k with
  |3,.int .i64=>some (V6 .i64 underlying3)
  |5,.int .u8=>some (V6 .u8 underlying5)
  |_,_=>none
instance:Sl (P:=prog) where
 is:=fun n M w cs x=>by
  match n,x with
  |0,_=>exact AbW
  |1,_=>exact AbW
  |2,_=>exact AbW
  |3,_=>exact AbW
  |4,_=>exact AbW
  |5,_=>exact AbW
  |6,_=>exact AbW
  |7,_=>exact AbW
  |8,_=>exact AbW
  |9,_=>exact AbW
  |10,_=>exact AbW
  |11,_=>exact AbW
  |12,_=>exact AbW
  |13,_=>exact AbW
  |14,_=>exact AbW
  |15,_=>exact AbW
  |16,_=>exact AbW
  |_+17,_=>exact AbW
instance:TnE TermsE:=by unfold TermsE;infer_instance
instance:TnE ReportE:=by unfold ReportE;infer_instance
instance:TnE DisputeE:=by unfold DisputeE;infer_instance
instance:TnE AnswerE:=by unfold AnswerE;infer_instance
instance:TnE DeskE:=by unfold DeskE;infer_instance
instance:TnE AskedE:=by unfold AskedE;infer_instance
instance:TnE LetterE:=by unfold LetterE;infer_instance
instance:TnE ToldE:=by unfold ToldE;infer_instance
instance:TnE SpanE:=by unfold SpanE;infer_instance
instance:TnE AIh:=by unfold AIh;infer_instance
instance:TnE AGs:=by unfold AGs;infer_instance
instance:TnE AFP:=by unfold AFP;infer_instance
instance:TnE BookE:=by unfold BookE;infer_instance
instance:TnE AIi:=by unfold AIi;infer_instance
instance:Sn prog where
 tn:=fun n h=>by
  match n,h with
  |0,_=>exact inferInstanceAs (TnE TermsE)
  |1,_=>exact inferInstanceAs (TnE ReportE)
  |2,_=>exact inferInstanceAs (TnE DisputeE)
  |3,_=>exact inferInstanceAs (TnE AnswerE)
  |4,_=>exact inferInstanceAs (TnE DeskE)
  |5,_=>exact inferInstanceAs (TnE AskedE)
  |6,_=>exact inferInstanceAs (TnE LetterE)
  |7,_=>exact inferInstanceAs (TnE ToldE)
  |8,_=>exact inferInstanceAs (TnE SpanE)
  |9,_=>exact inferInstanceAs (TnE AIh)
  |10,h=>cases h
  |11,_=>exact inferInstanceAs (TnE AGs)
  |12,_=>exact inferInstanceAs (TnE AFP)
  |13,h=>cases h
  |14,h=>cases h
  |15,_=>exact inferInstanceAs (TnE BookE)
  |16,_=>exact inferInstanceAs (TnE AIi)
  |_+17,h=>cases h
section
variable{M:List Nat}{w:World}{cs:List Value}{cs':List Value}{pf:List (Nat×CtrP)}{fm:List (Nat×CtrM)}
theorem rsl24:SlT prog 24 45 (enc (P:=prog) (.st 1)).n 64:=⟨underlying24,Tryz.t45,_,by kernel_rfl,rfl,rfl,rfl,rfl⟩
theorem rsl25:SlT prog 25 53 (enc (P:=prog) (.st 2)).n 24:=⟨underlying25,Tryz.t53,_,by kernel_rfl,rfl,rfl,rfl,rfl⟩
theorem rsl26:SlT prog 26 60 (enc (P:=prog) (.st 3)).n 48:=⟨underlying26,t60,_,by kernel_rfl,rfl,rfl,rfl,rfl⟩
theorem rsl29:SlT prog 29 47 (enc (P:=prog) (.st 5)).n 32:=⟨underlying29,t47,_,by kernel_rfl,rfl,rfl,rfl,rfl⟩
theorem rsl37:SlT prog 37 70 (enc (P:=prog) (.st 6)).n 24:=⟨underlying37,Tryz.t70,_,by kernel_rfl,rfl,rfl,rfl,rfl⟩
theorem rsl56:SlT prog 56 3 (enc (P:=prog) (.int .i64)).n 8:=⟨underlying56,Tryz.t3,_,by kernel_rfl,rfl,rfl,rfl,rfl⟩
theorem rsl65:SlT prog 65 28 (enc (P:=prog) (.st 4)).n 96:=⟨underlying65,t28,_,by kernel_rfl,rfl,rfl,rfl,rfl⟩
theorem rsl81:SlT prog 81 82 (enc (P:=prog) (.int .u32)).n 4:=⟨underlying81,t82,_,by kernel_rfl,rfl,rfl,rfl,rfl⟩
theorem rsl167:SlT prog 167 118 (enc (P:=prog) (.fno 118)).n 8:=⟨underlying167,t118,_,by kernel_rfl,rfl,rfl,rfl,rfl⟩
theorem rsl175:SlT prog 175 130 (enc (P:=prog) (.fno 130)).n 8:=⟨underlying175,t130,_,by kernel_rfl,rfl,rfl,rfl,rfl⟩
theorem rsl191:SlT prog 191 160 (enc (P:=prog) (.fno 160)).n 8:=⟨underlying191,t160,_,by kernel_rfl,rfl,rfl,rfl,rfl⟩
theorem rsl194:SlT prog 194 24 (enc (P:=prog) (.sl (.st 1))).n 24:=⟨underlying194,t24,_,by kernel_rfl,rfl,rfl,rfl,rfl⟩
def gxb:Gx where
 tb:=⟨[(23,[(0,3),(1,3),(2,3)]),(28,[(0,23),(3,24),(4,25),(5,26)]),(45,[(0,3),(1,3),(2,3),(3,3),(4,3),(5,5),(6,3),(7,3)]),(47,[(0,3),(1,3),(2,3),(3,3)]),(53,[(0,3),(1,3),(2,3)]),(60,[(0,3),(1,3),(2,3),(3,5),(4,3),(5,3)]),(70,[(0,3),(1,3),(2,3)]),(86,[(0,5),(1,3),(2,3),(3,56)]),(88,[(0,3),(1,3)]),(90,[(0,86),(4,86),(8,86),(12,86),(16,86),(20,86),(24,88),(26,5)]),(99,[(0,28),(6,96),(7,97)]),(111,[(0,3),(1,5),(2,60)]),(137,[(0,96)]),(139,[(0,137),(1,71),(2,71)]),(146,[(0,24)]),(153,[(0,5),(1,150),(2,151)]),(189,[(0,3),(1,3)])],[(3,0),(4,0),(5,0),(23,4),(24,0),(25,0),(26,0),(28,7),(29,0),(32,0),(37,0),(45,9),(47,5),(53,4),(56,0),(60,7),(65,0),(70,4),(71,0),(81,0),(82,0),(86,5),(88,3),(90,28),(96,0),(97,0),(99,9),(106,0),(108,0),(111,9),(114,0),(116,3),(118,0),(125,0),(130,0),(135,0),(137,2),(139,4),(144,0),(146,2),(148,0),(150,0),(151,0),(153,4),(154,0),(155,0),(156,0),(160,0),(164,0),(165,0),(166,0),(167,0),(170,0),(175,0),(177,0),(181,11),(184,5),(186,0),(189,3),(191,0),(193,0),(194,0),(199,0),(202,0),(209,0),(217,0),(230,0),(234,0),(241,0),(263,0),(265,0),(267,0)]⟩
 sl:=[(24,45,(.st 1),64),(25,53,(.st 2),24),(26,60,(.st 3),48),(29,47,(.st 5),32),(37,70,(.st 6),24),(56,3,(.int .i64),8),(65,28,(.st 4),96),(81,82,(.int .u32),4),(167,118,(.fno 118),8),(175,130,(.fno 130),8),(191,160,(.fno 160),8),(194,24,(.sl (.st 1)),24)]
 sz:=[(3,1),(4,1),(5,1),(23,3),(24,1),(25,1),(26,1),(28,6),(29,1),(32,1),(37,1),(45,8),(47,4),(53,3),(56,1),(60,6),(65,1),(70,3),(71,1),(81,1),(82,1),(86,4),(88,2),(90,27),(96,1),(97,1),(99,8),(106,1),(111,8),(116,2),(137,1),(139,3),(146,1),(156,1),(167,1),(175,1),(181,10),(186,1),(189,2),(191,1),(194,1),(199,1),(202,1),(209,1),(217,1),(230,1),(263,1),(108,1),(114,1),(118,1),(125,1),(130,1),(135,1),(144,1),(150,1),(151,1),(154,1),(155,1),(160,1),(164,1),(165,1),(166,1),(170,1),(177,1),(193,1),(234,1),(241,1),(265,1),(267,1)]
 ty:=[(3,(.int .i64)),(4,.bool),(5,(.int .u8)),(23,(.st 0)),(24,(.sl (.st 1))),(25,(.sl (.st 2))),(26,(.sl (.st 3))),(28,(.st 4)),(29,(.sl (.st 5))),(32,(.int .i64)),(37,(.sl (.st 6))),(45,(.st 1)),(47,(.st 5)),(53,(.st 2)),(56,(.sl (.int .i64))),(60,(.st 3)),(65,(.sl (.st 4))),(70,(.st 6)),(71,(.mp 3 (.int .i64) (.int .i64))),(81,(.sl (.int .u32))),(82,(.int .u32)),(86,(.st 7)),(88,(.st 8)),(90,(.st 9)),(96,(.mp 3 (.int .i64) (.st 1))),(97,(.mp 3 (.int .i64) (.sl (.st 3)))),(99,(.st 10)),(106,(.mp 116 (.st 11) (.int .i64))),(111,(.st 12)),(116,(.st 11)),(137,(.st 13)),(139,(.st 14)),(146,(.st 15)),(156,(.mp 3 (.int .i64) (.st 8))),(167,(.sl (.fno 118))),(175,(.sl (.fno 130))),(181,(.arr .i64 10)),(186,(.mp 189 (.st 16) (.int .i64))),(189,(.st 16)),(191,(.sl (.fno 160))),(194,(.sl (.sl (.st 1)))),(199,(.int .u64)),(202,(.mp 5 (.int .u8) (.int .u8))),(209,(.int .i64)),(217,(.int .u64)),(230,(.int .u64)),(263,(.mp 3 (.int .i64) .bool))]
 fs:=[]
 bd:=[(23,[(0,1),(1,1),(2,1)]),(28,[(0,3),(3,1),(4,1),(5,1)]),(45,[(0,1),(1,1),(2,1),(3,1),(4,1),(5,1),(6,1),(7,1)]),(47,[(0,1),(1,1),(2,1),(3,1)]),(53,[(0,1),(1,1),(2,1)]),(60,[(0,1),(1,1),(2,1),(3,1),(4,1),(5,1)]),(70,[(0,1),(1,1),(2,1)]),(86,[(0,1),(1,1),(2,1),(3,1)]),(88,[(0,1),(1,1)]),(90,[(0,4),(4,4),(8,4),(12,4),(16,4),(20,4),(24,2),(26,1)]),(99,[(0,6),(6,1),(7,1)]),(111,[(0,1),(1,1),(2,6)]),(137,[(0,1)]),(139,[(0,1),(1,1),(2,1)]),(153,[(0,1),(1,1),(2,1)]),(189,[(0,1),(1,1)])]
 eq:=[(23,0),(45,1),(47,5),(53,2),(60,3),(70,6),(88,8)]
 mp:=[(71,3,3,(.int .i64),(.int .i64)),(96,3,45,(.int .i64),(.st 1)),(97,3,26,(.int .i64),(.sl (.st 3))),(156,3,88,(.int .i64),(.st 8)),(202,5,5,(.int .u8),(.int .u8)),(263,3,4,(.int .i64),.bool)]
 ar:=[(116,2,1),(181,10,1)]
 pz:=[(108,1),(114,1),(118,1),(125,1),(130,1),(135,1),(144,1),(150,1),(151,1),(154,0),(155,0),(160,1),(164,1),(165,1),(166,1),(170,1),(177,1),(193,1),(234,0),(241,0),(265,1),(267,1)]
 pf:=[]
 fm:=[]
 fd:=[]
theorem gx_st:StOk prog gxb.tb.st:=⟨⟨_,underlying23,⟨⟨_,_,rfl,rfl,rfl,sizeOf3⟩,⟨⟨_,_,rfl,rfl,rfl,sizeOf3⟩,⟨⟨_,_,rfl,rfl,rfl,sizeOf3⟩,trivial⟩⟩⟩⟩,⟨⟨_,underlying28,⟨⟨_,_,rfl,rfl,rfl,sizeOf23⟩,⟨⟨_,_,rfl,rfl,rfl,sizeOf24⟩,⟨⟨_,_,rfl,rfl,rfl,sizeOf25⟩,⟨⟨_,_,rfl,rfl,rfl,sizeOf26⟩,trivial⟩⟩⟩⟩⟩,⟨⟨_,underlying45,⟨⟨_,_,rfl,rfl,rfl,sizeOf3⟩,⟨⟨_,_,rfl,rfl,rfl,sizeOf3⟩,⟨⟨_,_,rfl,rfl,rfl,sizeOf3⟩,⟨⟨_,_,rfl,rfl,rfl,sizeOf3⟩,⟨⟨_,_,rfl,rfl,rfl,sizeOf3⟩,⟨⟨_,_,rfl,rfl,rfl,sizeOf5⟩,⟨⟨_,_,rfl,rfl,rfl,sizeOf3⟩,⟨⟨_,_,rfl,rfl,rfl,sizeOf3⟩,trivial⟩⟩⟩⟩⟩⟩⟩⟩⟩,⟨⟨_,underlying47,⟨⟨_,_,rfl,rfl,rfl,sizeOf3⟩,⟨⟨_,_,rfl,rfl,rfl,sizeOf3⟩,⟨⟨_,_,rfl,rfl,rfl,sizeOf3⟩,⟨⟨_,_,rfl,rfl,rfl,sizeOf3⟩,trivial⟩⟩⟩⟩⟩,⟨⟨_,underlying53,⟨⟨_,_,rfl,rfl,rfl,sizeOf3⟩,⟨⟨_,_,rfl,rfl,rfl,sizeOf3⟩,⟨⟨_,_,rfl,rfl,rfl,sizeOf3⟩,trivial⟩⟩⟩⟩,⟨⟨_,underlying60,⟨⟨_,_,rfl,rfl,rfl,sizeOf3⟩,⟨⟨_,_,rfl,rfl,rfl,sizeOf3⟩,⟨⟨_,_,rfl,rfl,rfl,sizeOf3⟩,⟨⟨_,_,rfl,rfl,rfl,sizeOf5⟩,⟨⟨_,_,rfl,rfl,rfl,sizeOf3⟩,⟨⟨_,_,rfl,rfl,rfl,sizeOf3⟩,trivial⟩⟩⟩⟩⟩⟩⟩,⟨⟨_,underlying70,⟨⟨_,_,rfl,rfl,rfl,sizeOf3⟩,⟨⟨_,_,rfl,rfl,rfl,sizeOf3⟩,⟨⟨_,_,rfl,rfl,rfl,sizeOf3⟩,trivial⟩⟩⟩⟩,⟨⟨_,underlying86,⟨⟨_,_,rfl,rfl,rfl,sizeOf5⟩,⟨⟨_,_,rfl,rfl,rfl,sizeOf3⟩,⟨⟨_,_,rfl,rfl,rfl,sizeOf3⟩,⟨⟨_,_,rfl,rfl,rfl,sizeOf56⟩,trivial⟩⟩⟩⟩⟩,⟨⟨_,underlying88,⟨⟨_,_,rfl,rfl,rfl,sizeOf3⟩,⟨⟨_,_,rfl,rfl,rfl,sizeOf3⟩,trivial⟩⟩⟩,⟨⟨_,underlying90,⟨⟨_,_,rfl,rfl,rfl,sizeOf86⟩,⟨⟨_,_,rfl,rfl,rfl,sizeOf86⟩,⟨⟨_,_,rfl,rfl,rfl,sizeOf86⟩,⟨⟨_,_,rfl,rfl,rfl,sizeOf86⟩,⟨⟨_,_,rfl,rfl,rfl,sizeOf86⟩,⟨⟨_,_,rfl,rfl,rfl,sizeOf86⟩,⟨⟨_,_,rfl,rfl,rfl,sizeOf88⟩,⟨⟨_,_,rfl,rfl,rfl,sizeOf5⟩,trivial⟩⟩⟩⟩⟩⟩⟩⟩⟩,⟨⟨_,underlying99,⟨⟨_,_,rfl,rfl,rfl,sizeOf28⟩,⟨⟨_,_,rfl,rfl,rfl,sizeOf96⟩,⟨⟨_,_,rfl,rfl,rfl,sizeOf97⟩,trivial⟩⟩⟩⟩,⟨⟨_,underlying111,⟨⟨_,_,rfl,rfl,rfl,sizeOf3⟩,⟨⟨_,_,rfl,rfl,rfl,sizeOf5⟩,⟨⟨_,_,rfl,rfl,rfl,sizeOf60⟩,trivial⟩⟩⟩⟩,⟨⟨_,underlying137,⟨⟨_,_,rfl,rfl,rfl,sizeOf96⟩,trivial⟩⟩,⟨⟨_,underlying139,⟨⟨_,_,rfl,rfl,rfl,sizeOf137⟩,⟨⟨_,_,rfl,rfl,rfl,sizeOf71⟩,⟨⟨_,_,rfl,rfl,rfl,sizeOf71⟩,trivial⟩⟩⟩⟩,⟨⟨_,underlying146,⟨⟨_,_,rfl,rfl,rfl,sizeOf24⟩,trivial⟩⟩,⟨⟨_,underlying153,⟨⟨_,_,rfl,rfl,rfl,sizeOf5⟩,⟨⟨_,_,rfl,rfl,rfl,sizeOf150⟩,⟨⟨_,_,rfl,rfl,rfl,sizeOf151⟩,trivial⟩⟩⟩⟩,⟨⟨_,underlying189,⟨⟨_,_,rfl,rfl,rfl,sizeOf3⟩,⟨⟨_,_,rfl,rfl,rfl,sizeOf3⟩,trivial⟩⟩⟩,trivial⟩⟩⟩⟩⟩⟩⟩⟩⟩⟩⟩⟩⟩⟩⟩⟩⟩
theorem gx_ag:AgOk prog gxb.tb.ag:=⟨isAgg3,⟨isAgg4,⟨isAgg5,⟨⟨isAgg23,sizeOf23⟩,⟨isAgg24,⟨isAgg25,⟨isAgg26,⟨⟨isAgg28,sizeOf28⟩,⟨isAgg29,⟨isAgg32,⟨isAgg37,⟨⟨isAgg45,sizeOf45⟩,⟨⟨isAgg47,sizeOf47⟩,⟨⟨isAgg53,sizeOf53⟩,⟨isAgg56,⟨⟨isAgg60,sizeOf60⟩,⟨isAgg65,⟨⟨isAgg70,sizeOf70⟩,⟨isAgg71,⟨isAgg81,⟨isAgg82,⟨⟨isAgg86,sizeOf86⟩,⟨⟨isAgg88,sizeOf88⟩,⟨⟨isAgg90,sizeOf90⟩,⟨isAgg96,⟨isAgg97,⟨⟨isAgg99,sizeOf99⟩,⟨isAgg106,⟨isAgg108,⟨⟨isAgg111,sizeOf111⟩,⟨isAgg114,⟨⟨isAgg116,sizeOf116⟩,⟨isAgg118,⟨isAgg125,⟨isAgg130,⟨isAgg135,⟨⟨isAgg137,sizeOf137⟩,⟨⟨isAgg139,sizeOf139⟩,⟨isAgg144,⟨⟨isAgg146,sizeOf146⟩,⟨isAgg148,⟨isAgg150,⟨isAgg151,⟨⟨isAgg153,sizeOf153⟩,⟨isAgg154,⟨isAgg155,⟨isAgg156,⟨isAgg160,⟨isAgg164,⟨isAgg165,⟨isAgg166,⟨isAgg167,⟨isAgg170,⟨isAgg175,⟨isAgg177,⟨⟨isAgg181,sizeOf181⟩,⟨⟨isAgg184,sizeOf184⟩,⟨isAgg186,⟨⟨isAgg189,sizeOf189⟩,⟨isAgg191,⟨isAgg193,⟨isAgg194,⟨isAgg199,⟨isAgg202,⟨isAgg209,⟨isAgg217,⟨isAgg230,⟨isAgg234,⟨isAgg241,⟨isAgg263,⟨isAgg265,⟨isAgg267,trivial⟩⟩⟩⟩⟩⟩⟩⟩⟩⟩⟩⟩⟩⟩⟩⟩⟩⟩⟩⟩⟩⟩⟩⟩⟩⟩⟩⟩⟩⟩⟩⟩⟩⟩⟩⟩⟩⟩⟩⟩⟩⟩⟩⟩⟩⟩⟩⟩⟩⟩⟩⟩⟩⟩⟩⟩⟩⟩⟩⟩⟩⟩⟩⟩⟩⟩⟩⟩⟩⟩⟩⟩
theorem gx_sl:SlOk prog gxb.sl:=⟨rsl24,⟨rsl25,⟨rsl26,⟨rsl29,⟨rsl37,⟨rsl56,⟨rsl65,⟨rsl81,⟨rsl167,⟨rsl175,⟨rsl191,⟨rsl194,trivial⟩⟩⟩⟩⟩⟩⟩⟩⟩⟩⟩⟩
theorem gx_sz:SzOk prog gxb.sz:=⟨sizeOf3,⟨sizeOf4,⟨sizeOf5,⟨sizeOf23,⟨sizeOf24,⟨sizeOf25,⟨sizeOf26,⟨sizeOf28,⟨sizeOf29,⟨sizeOf32,⟨sizeOf37,⟨sizeOf45,⟨sizeOf47,⟨sizeOf53,⟨sizeOf56,⟨sizeOf60,⟨sizeOf65,⟨sizeOf70,⟨sizeOf71,⟨sizeOf81,⟨sizeOf82,⟨sizeOf86,⟨sizeOf88,⟨sizeOf90,⟨sizeOf96,⟨sizeOf97,⟨sizeOf99,⟨sizeOf106,⟨sizeOf111,⟨sizeOf116,⟨sizeOf137,⟨sizeOf139,⟨sizeOf146,⟨sizeOf156,⟨sizeOf167,⟨sizeOf175,⟨sizeOf181,⟨sizeOf186,⟨sizeOf189,⟨sizeOf191,⟨sizeOf194,⟨sizeOf199,⟨sizeOf202,⟨sizeOf209,⟨sizeOf217,⟨sizeOf230,⟨sizeOf263,⟨sizeOf108,⟨sizeOf114,⟨sizeOf118,⟨sizeOf125,⟨sizeOf130,⟨sizeOf135,⟨sizeOf144,⟨sizeOf150,⟨sizeOf151,⟨sizeOf154,⟨sizeOf155,⟨sizeOf160,⟨sizeOf164,⟨sizeOf165,⟨sizeOf166,⟨sizeOf170,⟨sizeOf177,⟨sizeOf193,⟨sizeOf234,⟨sizeOf241,⟨sizeOf265,⟨sizeOf267,trivial⟩⟩⟩⟩⟩⟩⟩⟩⟩⟩⟩⟩⟩⟩⟩⟩⟩⟩⟩⟩⟩⟩⟩⟩⟩⟩⟩⟩⟩⟩⟩⟩⟩⟩⟩⟩⟩⟩⟩⟩⟩⟩⟩⟩⟩⟩⟩⟩⟩⟩⟩⟩⟩⟩⟩⟩⟩⟩⟩⟩⟩⟩⟩⟩⟩⟩⟩⟩⟩
theorem gx_ty:TyOk prog gxb.ty:=⟨⟨(fun k h=>by cases h;exact underlying3),(fun h=>by cases h),zeroValue3⟩,⟨⟨(fun k h=>by cases h),(fun _=>underlying4),zeroValue4⟩,⟨⟨(fun k h=>by cases h;exact underlying5),(fun h=>by cases h),zeroValue5⟩,⟨⟨(fun k h=>by cases h),(fun h=>by cases h),zeroValue23⟩,⟨⟨(fun k h=>by cases h),(fun h=>by cases h),zeroValue24⟩,⟨⟨(fun k h=>by cases h),(fun h=>by cases h),zeroValue25⟩,⟨⟨(fun k h=>by cases h),(fun h=>by cases h),zeroValue26⟩,⟨⟨(fun k h=>by cases h),(fun h=>by cases h),zeroValue28⟩,⟨⟨(fun k h=>by cases h),(fun h=>by cases h),zeroValue29⟩,⟨⟨(fun k h=>by cases h;exact underlying32),(fun h=>by cases h),zeroValue32⟩,⟨⟨(fun k h=>by cases h),(fun h=>by cases h),zeroValue37⟩,⟨⟨(fun k h=>by cases h),(fun h=>by cases h),zeroValue45⟩,⟨⟨(fun k h=>by cases h),(fun h=>by cases h),zeroValue47⟩,⟨⟨(fun k h=>by cases h),(fun h=>by cases h),zeroValue53⟩,⟨⟨(fun k h=>by cases h),(fun h=>by cases h),zeroValue56⟩,⟨⟨(fun k h=>by cases h),(fun h=>by cases h),zeroValue60⟩,⟨⟨(fun k h=>by cases h),(fun h=>by cases h),zeroValue65⟩,⟨⟨(fun k h=>by cases h),(fun h=>by cases h),zeroValue70⟩,⟨⟨(fun k h=>by cases h),(fun h=>by cases h),zeroValue71⟩,⟨⟨(fun k h=>by cases h),(fun h=>by cases h),zeroValue81⟩,⟨⟨(fun k h=>by cases h;exact underlying82),(fun h=>by cases h),zeroValue82⟩,⟨⟨(fun k h=>by cases h),(fun h=>by cases h),zeroValue86⟩,⟨⟨(fun k h=>by cases h),(fun h=>by cases h),zeroValue88⟩,⟨⟨(fun k h=>by cases h),(fun h=>by cases h),zeroValue90⟩,⟨⟨(fun k h=>by cases h),(fun h=>by cases h),zeroValue96⟩,⟨⟨(fun k h=>by cases h),(fun h=>by cases h),zeroValue97⟩,⟨⟨(fun k h=>by cases h),(fun h=>by cases h),zeroValue99⟩,⟨⟨(fun k h=>by cases h),(fun h=>by cases h),zeroValue106⟩,⟨⟨(fun k h=>by cases h),(fun h=>by cases h),zeroValue111⟩,⟨⟨(fun k h=>by cases h),(fun h=>by cases h),zeroValue116⟩,⟨⟨(fun k h=>by cases h),(fun h=>by cases h),zeroValue137⟩,⟨⟨(fun k h=>by cases h),(fun h=>by cases h),zeroValue139⟩,⟨⟨(fun k h=>by cases h),(fun h=>by cases h),zeroValue146⟩,⟨⟨(fun k h=>by cases h),(fun h=>by cases h),zeroValue156⟩,⟨⟨(fun k h=>by cases h),(fun h=>by cases h),zeroValue167⟩,⟨⟨(fun k h=>by cases h),(fun h=>by cases h),zeroValue175⟩,⟨⟨(fun k h=>by cases h),(fun h=>by cases h),zeroValue181⟩,⟨⟨(fun k h=>by cases h),(fun h=>by cases h),zeroValue186⟩,⟨⟨(fun k h=>by cases h),(fun h=>by cases h),zeroValue189⟩,⟨⟨(fun k h=>by cases h),(fun h=>by cases h),zeroValue191⟩,⟨⟨(fun k h=>by cases h),(fun h=>by cases h),zeroValue194⟩,⟨⟨(fun k h=>by cases h;exact underlying199),(fun h=>by cases h),zeroValue199⟩,⟨⟨(fun k h=>by cases h),(fun h=>by cases h),zeroValue202⟩,⟨⟨(fun k h=>by cases h;exact underlying209),(fun h=>by cases h),zeroValue209⟩,⟨⟨(fun k h=>by cases h;exact underlying217),(fun h=>by cases h),zeroValue217⟩,⟨⟨(fun k h=>by cases h;exact underlying230),(fun h=>by cases h),zeroValue230⟩,⟨⟨(fun k h=>by cases h),(fun h=>by cases h),zeroValue263⟩,trivial⟩⟩⟩⟩⟩⟩⟩⟩⟩⟩⟩⟩⟩⟩⟩⟩⟩⟩⟩⟩⟩⟩⟩⟩⟩⟩⟩⟩⟩⟩⟩⟩⟩⟩⟩⟩⟩⟩⟩⟩⟩⟩⟩⟩⟩⟩⟩
theorem gx_bd:BdOk prog gxb.bd:=⟨⟨_,underlying23,fun _=>by simp[sizeOf3]⟩,⟨⟨_,underlying28,fun _=>by simp[sizeOf23,sizeOf24,sizeOf25,sizeOf26]⟩,⟨⟨_,underlying45,fun _=>by simp[sizeOf3,sizeOf5]⟩,⟨⟨_,underlying47,fun _=>by simp[sizeOf3]⟩,⟨⟨_,underlying53,fun _=>by simp[sizeOf3]⟩,⟨⟨_,underlying60,fun _=>by simp[sizeOf3,sizeOf5]⟩,⟨⟨_,underlying70,fun _=>by simp[sizeOf3]⟩,⟨⟨_,underlying86,fun _=>by simp[sizeOf3,sizeOf5,sizeOf56]⟩,⟨⟨_,underlying88,fun _=>by simp[sizeOf3]⟩,⟨⟨_,underlying90,fun _=>by simp[sizeOf5,sizeOf86,sizeOf88]⟩,⟨⟨_,underlying99,fun _=>by simp[sizeOf28,sizeOf96,sizeOf97]⟩,⟨⟨_,underlying111,fun _=>by simp[sizeOf3,sizeOf5,sizeOf60]⟩,⟨⟨_,underlying137,fun _=>by simp[sizeOf96]⟩,⟨⟨_,underlying139,fun _=>by simp[sizeOf137,sizeOf71]⟩,⟨⟨_,underlying153,fun _=>by simp[sizeOf150,sizeOf151,sizeOf5]⟩,⟨⟨_,underlying189,fun _=>by simp[sizeOf3]⟩,trivial⟩⟩⟩⟩⟩⟩⟩⟩⟩⟩⟩⟩⟩⟩⟩⟩
theorem AXI{x y:Terms}(hx:TermsE.R M w cs x)(hy:TermsE.R M w cs' y)(w':World):(Op.equalIn 10000 23 (.agg (toArray cs)) (.agg (toArray cs'))).run prog w'=.ok (decide (x=y)) w':=by
 obtain⟨rfl,_⟩:=(AMF (x:=x)).1 hx;obtain⟨rfl,_⟩:=(AMF (x:=y)).1 hy;exact ARd x y w'
theorem AXJ{x y:Report}(hx:ReportE.R M w cs x)(hy:ReportE.R M w cs' y)(w':World):(Op.equalIn 10000 45 (.agg (toArray cs)) (.agg (toArray cs'))).run prog w'=.ok (decide (x=y)) w':=by
 obtain⟨rfl,_⟩:=(ReportE_R (x:=x)).1 hx;obtain⟨rfl,_⟩:=(ReportE_R (x:=y)).1 hy;exact AQE x y w'
theorem AXK{x y:Asked}(hx:AskedE.R M w cs x)(hy:AskedE.R M w cs' y)(w':World):(Op.equalIn 10000 47 (.agg (toArray cs)) (.agg (toArray cs'))).run prog w'=.ok (decide (x=y)) w':=by
 obtain⟨rfl,_⟩:=(AHr (x:=x)).1 hx;obtain⟨rfl,_⟩:=(AHr (x:=y)).1 hy;exact ARe x y w'
theorem AXL{x y:Dispute}(hx:DisputeE.R M w cs x)(hy:DisputeE.R M w cs' y)(w':World):(Op.equalIn 10000 53 (.agg (toArray cs)) (.agg (toArray cs'))).run prog w'=.ok (decide (x=y)) w':=by
 obtain⟨rfl,_⟩:=(DisputeE_R (x:=x)).1 hx;obtain⟨rfl,_⟩:=(DisputeE_R (x:=y)).1 hy;exact AOj x y w'
theorem AXM{x y:Answer}(hx:AnswerE.R M w cs x)(hy:AnswerE.R M w cs' y)(w':World):(Op.equalIn 10000 60 (.agg (toArray cs)) (.agg (toArray cs'))).run prog w'=.ok (decide (x=y)) w':=by
 obtain⟨rfl,_⟩:=(AnswerE_R (x:=x)).1 hx;obtain⟨rfl,_⟩:=(AnswerE_R (x:=y)).1 hy;exact AQF x y w'
theorem AXN{x y:Letter}(hx:LetterE.R M w cs x)(hy:LetterE.R M w cs' y)(w':World):(Op.equalIn 10000 70 (.agg (toArray cs)) (.agg (toArray cs'))).run prog w'=.ok (decide (x=y)) w':=by
 obtain⟨rfl,_⟩:=(LetterE_R (x:=x)).1 hx;obtain⟨rfl,_⟩:=(LetterE_R (x:=y)).1 hy;exact AQG x y w'
theorem AXO{x y:Span}(hx:SpanE.R M w cs x)(hy:SpanE.R M w cs' y)(w':World):(Op.equalIn 10000 88 (.agg (toArray cs)) (.agg (toArray cs'))).run prog w'=.ok (decide (x=y)) w':=by
 obtain⟨rfl,_⟩:=(SpanE_R (x:=x)).1 hx;obtain⟨rfl,_⟩:=(SpanE_R (x:=y)).1 hy;exact ATj x y w'
theorem gx_eq:EqOk prog gxb.eq:=⟨⟨eqGuardType23,fun _ _ _ _ _ _ hx hy w'=>AXI hx hy w'⟩,⟨⟨eqGuardType45,fun _ _ _ _ _ _ hx hy w'=>AXJ hx hy w'⟩,⟨⟨eqGuardType47,fun _ _ _ _ _ _ hx hy w'=>AXK hx hy w'⟩,⟨⟨eqGuardType53,fun _ _ _ _ _ _ hx hy w'=>AXL hx hy w'⟩,⟨⟨eqGuardType60,fun _ _ _ _ _ _ hx hy w'=>AXM hx hy w'⟩,⟨⟨eqGuardType70,fun _ _ _ _ _ _ hx hy w'=>AXN hx hy w'⟩,⟨⟨eqGuardType88,fun _ _ _ _ _ _ hx hy w'=>AXO hx hy w'⟩,trivial⟩⟩⟩⟩⟩⟩⟩
theorem gx_mp:MpOk prog gxb.mp:=⟨⟨_,rfl,AC2 (hk:=underlying3),underlying71,zeroValue3,int_key2⟩,⟨⟨_,rfl,AC2 (hk:=underlying3),underlying96,zeroValue45,int_key2⟩,⟨⟨_,rfl,AC2 (hk:=underlying3),underlying97,zeroValue26,int_key2⟩,⟨⟨_,rfl,AC2 (hk:=underlying3),underlying156,zeroValue88,int_key2⟩,⟨⟨_,rfl,AC2 (hk:=underlying5),underlying202,zeroValue5,int_key2⟩,⟨⟨_,rfl,AC2 (hk:=underlying3),underlying263,zeroValue4,int_key2⟩,trivial⟩⟩⟩⟩⟩⟩
theorem gx_ar:ArOk prog gxb.ar:=⟨⟨_,underlying116,sizeOf3⟩,⟨⟨_,underlying181,sizeOf3⟩,trivial⟩⟩
theorem gx_pz:PzOk prog gxb.pz:=⟨zeroValue108,⟨zeroValue114,⟨zeroValue118,⟨zeroValue125,⟨zeroValue130,⟨zeroValue135,⟨zeroValue144,⟨zeroValue150,⟨zeroValue151,⟨zeroValue154,⟨zeroValue155,⟨zeroValue160,⟨zeroValue164,⟨zeroValue165,⟨zeroValue166,⟨zeroValue170,⟨zeroValue177,⟨zeroValue193,⟨zeroValue234,⟨zeroValue241,⟨zeroValue265,⟨zeroValue267,trivial⟩⟩⟩⟩⟩⟩⟩⟩⟩⟩⟩⟩⟩⟩⟩⟩⟩⟩⟩⟩⟩⟩
theorem gx_mix:prog.follows .mixedOrders=true:=by kernel_rfl
theorem AEn{fs:List (Nat×Ctr)}(h:FsOk prog fs)(hp:PfOk prog pf)(hm:FmOk prog fm):GxOk prog { gxb with fs:=fs,pf:=pf,fm:=fm }:=⟨gx_st,gx_ag,gx_sl,gx_sz,gx_ty,h,gx_bd,gx_eq,gx_mp,gx_ar,gx_pz,hp,hm,gx_mix,trivial⟩
theorem AIj{fs:List (Nat×Ctr)}{fd:List (Nat×Rx.Fd)}(h:FsOk prog fs)(hp:PfOk prog pf)(hm:FmOk prog fm)(hd:FdOk prog fd):GxOk prog { gxb with fs:=fs,pf:=pf,fm:=fm,fd:=fd }:=⟨gx_st,gx_ag,gx_sl,gx_sz,gx_ty,h,gx_bd,gx_eq,gx_mp,gx_ar,gx_pz,hp,hm,gx_mix,hd⟩
theorem AVN{fs:List (Nat×Ctr)}(h:FsOk prog fs)(hp:PfOk prog pf):GxOk prog { gxb with fs:=fs,pf:=pf }:=AEn (fm:=[]) h hp trivial
theorem B1{fs:List (Nat×Ctr)}(h:FsOk prog fs):GxOk prog { gxb with fs:=fs }:=AVN (pf:=[]) h trivial
end
end Go.Proofs.YtgioiejbphljoaaGreatDoor
namespace Go.Proofs.YtgioiejbphljoaaGreatDoor
open Go Go.Sx Go.Rx Go.RowKit
variable[Trk]
def ACh(y:Dispute):Option Int:=some y.day
def AYn:An:=.x
def ctr60:Ctr:=⟨[.d (.st 2)],[.d (.int .i64)],fun a=>ACh a.1⟩
theorem ok60:Ctr.ok prog 60 ctr60:=B0 (G:={ gxb with fs:=[] }) (an:=AYn) (B1 trivial) func60 rfl rfl rfl rfl (fun a=>by kernel_rfl)
def ACi(y:Dispute):Option Int:=some y.id
def AYo:An:=.x
def ctr61:Ctr:=⟨[.d (.st 2)],[.d (.int .i64)],fun a=>ACi a.1⟩
theorem ok61:Ctr.ok prog 61 ctr61:=B0 (G:={ gxb with fs:=[] }) (an:=AYo) (B1 trivial) func61 rfl rfl rfl rfl (fun a=>by kernel_rfl)
def AAJ(x:Int):Option Bool:=some (!decide (x=x))
def AXP:An:=.x
def ctr124:Ctr:=⟨[.d (.int .i64)],[.d .bool],fun a=>AAJ a.1⟩
theorem ok124:Ctr.ok prog 124 ctr124:=B0 (G:={ gxb with fs:=[] }) (an:=AXP) (B1 trivial) func124 rfl rfl rfl rfl (fun a=>by kernel_rfl)
def D7(x:Int)(y:Int):Option Int:=(AAJ x).bind fun r1=>(AAJ y).bind fun r2=>cond (r1) (cond (r2) (some (0:Int)) (some ((-1):Int))) (cond (r2) (some (1:Int)) (cond (decide (x<y)) (some ((-1):Int)) (cond (decide (y<x)) (some (1:Int)) (some (0:Int)))))
def AYp:An:=.x
def ctr88:Ctr:=⟨[.d (.int .i64),.d (.int .i64)],[.d (.int .i64)],fun a=>D7 a.1 a.2.1⟩
theorem ok88:Ctr.ok prog 88 ctr88:=B0 (G:={ gxb with fs:=[(124,ctr124)] }) (an:=AYp) (B1 ⟨⟨ok124,call124⟩,trivial⟩) func88 rfl rfl rfl rfl (fun a=>by kernel_rfl)
def fd130:Rx.Fd:=⟨[(.st 2)],(.int .i64),fun n=>if n=60 then fun x0=>ACh x0 else if n=61 then fun x0=>ACi x0 else fun _=>none⟩
theorem okd130:∀n M w,GlOk (P:=prog) M w->FnOk (P:=prog) M w (.func (.func n) #[] #[]) fd130.a fd130.r (fd130.D n):=fun n M w hg=>by
 by_cases h0:n=60
 . subst h0;exact Y1 (G:={ gxb with fs:=[(60,ctr60)] }) (B1 ⟨⟨ok60,call60⟩,trivial⟩) hg (M:=M) (fun _ h=>h) (R:=fun _=>none) (ρ:=fun _=>undef) (γ:=fun _=>[]) (caps:=[]) (vs:=[]) RdN.nil (by kernel_rfl) rfl
 by_cases h1:n=61
 . subst h1;exact Y1 (G:={ gxb with fs:=[(61,ctr61)] }) (B1 ⟨⟨ok61,call61⟩,trivial⟩) hg (M:=M) (fun _ h=>h) (R:=fun _=>none) (ρ:=fun _=>undef) (γ:=fun _=>[]) (caps:=[]) (vs:=[]) RdN.nil (by kernel_rfl) rfl
 have e:fd130.D n=fun _=>none:=by simp[fd130,h0,h1]<;>rfl
 rw[e];exact fun _ _ _ _ _ _ _ y hy=>by cases hy
def J6(a:Dispute)(b:Dispute)(a2_:(List Nat)):Option Int:=(B7 (S:=(Int)) (R:=(Unit⊕Int)) (fun x7=>cond (decide (x7<(a2_.length:Int))) ((ixo a2_ x7).bind fun y8=>(fd130.D y8 a).bind fun y9=>(fd130.D y8 b).bind fun y10=>(D7 y9 y10).bind fun r11=>cond ((!decide (r11=0))) (some (Sum.inr (Sum.inr r11))) ((chk .i64 (x7+1)).bind fun n12=>some (Sum.inl n12))) (some (Sum.inr (Sum.inl ())))) (0:Int)).bind ((Sum.elim (fun _=>some (0:Int)) (fun r13=>some r13)))
def AYq:An:=.nd (.x) (.nd (.nd (.x) (.lp ⟨[(.slot 11,.d (.int .i64))],[4,3]⟩ [.exit 0 ⟨[],[]⟩,.ret] (.x))) (.x))
def AXQ:Ctr:=⟨[.d (.st 2),.d (.st 2),.pt (.sl (.fno 130))],[.d (.int .i64)],fun a=>J6 a.1 a.2.1 a.2.2.1⟩
theorem ok94:Ctr.ok prog 94 AXQ:=B0 (G:={ gxb with fs:=[(88,ctr88)],fd:=[(130,fd130)] }) (an:=AYq) (AIj ⟨⟨ok88,call88⟩,trivial⟩ trivial trivial ⟨okd130,trivial⟩) func94 rfl rfl rfl rfl (fun a=>by kernel_rfl)
def AD6(r:Report):Option Int:=some r.about
def AXR:An:=.x
def ctr107:Ctr:=⟨[.d (.st 1)],[.d (.int .i64)],fun a=>AD6 a.1⟩
theorem ok107:Ctr.ok prog 107 ctr107:=B0 (G:={ gxb with fs:=[] }) (an:=AXR) (B1 trivial) func107 rfl rfl rfl rfl (fun a=>by kernel_rfl)
def AGE(r:Report):Option Int:=some r.id
def AXS:An:=.x
def ctr108:Ctr:=⟨[.d (.st 1)],[.d (.int .i64)],fun a=>AGE a.1⟩
theorem ok108:Ctr.ok prog 108 ctr108:=B0 (G:={ gxb with fs:=[] }) (an:=AXS) (B1 trivial) func108 rfl rfl rfl rfl (fun a=>by kernel_rfl)
def AAK(r:Report):Option Int:=some r.made
def AYr:An:=.x
def ctr78:Ctr:=⟨[.d (.st 1)],[.d (.int .i64)],fun a=>AAK a.1⟩
theorem ok78:Ctr.ok prog 78 ctr78:=B0 (G:={ gxb with fs:=[] }) (an:=AYr) (B1 trivial) func78 rfl rfl rfl rfl (fun a=>by kernel_rfl)
def AAL(r:Report):Option Int:=some r.id
def AYs:An:=.x
def ctr79:Ctr:=⟨[.d (.st 1)],[.d (.int .i64)],fun a=>AAL a.1⟩
theorem ok79:Ctr.ok prog 79 ctr79:=B0 (G:={ gxb with fs:=[] }) (an:=AYs) (B1 trivial) func79 rfl rfl rfl rfl (fun a=>by kernel_rfl)
def fd160:Rx.Fd:=⟨[(.st 1)],(.int .i64),fun n=>if n=78 then fun x0=>AAK x0 else if n=79 then fun x0=>AAL x0 else if n=107 then fun x0=>AD6 x0 else if n=108 then fun x0=>AGE x0 else fun _=>none⟩
theorem okd160:∀n M w,GlOk (P:=prog) M w->FnOk (P:=prog) M w (.func (.func n) #[] #[]) fd160.a fd160.r (fd160.D n):=fun n M w hg=>by
 by_cases h0:n=78
 . subst h0;exact Y1 (G:={ gxb with fs:=[(78,ctr78)] }) (B1 ⟨⟨ok78,call78⟩,trivial⟩) hg (M:=M) (fun _ h=>h) (R:=fun _=>none) (ρ:=fun _=>undef) (γ:=fun _=>[]) (caps:=[]) (vs:=[]) RdN.nil (by kernel_rfl) rfl
 by_cases h1:n=79
 . subst h1;exact Y1 (G:={ gxb with fs:=[(79,ctr79)] }) (B1 ⟨⟨ok79,call79⟩,trivial⟩) hg (M:=M) (fun _ h=>h) (R:=fun _=>none) (ρ:=fun _=>undef) (γ:=fun _=>[]) (caps:=[]) (vs:=[]) RdN.nil (by kernel_rfl) rfl
 by_cases h2:n=107
 . subst h2;exact Y1 (G:={ gxb with fs:=[(107,ctr107)] }) (B1 ⟨⟨ok107,call107⟩,trivial⟩) hg (M:=M) (fun _ h=>h) (R:=fun _=>none) (ρ:=fun _=>undef) (γ:=fun _=>[]) (caps:=[]) (vs:=[]) RdN.nil (by kernel_rfl) rfl
 by_cases h3:n=108
 . subst h3;exact Y1 (G:={ gxb with fs:=[(108,ctr108)] }) (B1 ⟨⟨ok108,call108⟩,trivial⟩) hg (M:=M) (fun _ h=>h) (R:=fun _=>none) (ρ:=fun _=>undef) (γ:=fun _=>[]) (caps:=[]) (vs:=[]) RdN.nil (by kernel_rfl) rfl
 have e:fd160.D n=fun _=>none:=by simp[fd160,h0,h1,h2,h3]<;>rfl
 rw[e];exact fun _ _ _ _ _ _ _ y hy=>by cases hy
def K1(a:Report)(b:Report)(a2_:(List Nat)):Option Int:=(B7 (S:=(Int)) (R:=(Unit⊕Int)) (fun x7=>cond (decide (x7<(a2_.length:Int))) ((ixo a2_ x7).bind fun y8=>(fd160.D y8 a).bind fun y9=>(fd160.D y8 b).bind fun y10=>(D7 y9 y10).bind fun r11=>cond ((!decide (r11=0))) (some (Sum.inr (Sum.inr r11))) ((chk .i64 (x7+1)).bind fun n12=>some (Sum.inl n12))) (some (Sum.inr (Sum.inl ())))) (0:Int)).bind ((Sum.elim (fun _=>some (0:Int)) (fun r13=>some r13)))
def AXT:An:=.nd (.x) (.nd (.nd (.x) (.lp ⟨[(.slot 11,.d (.int .i64))],[4,3]⟩ [.exit 0 ⟨[],[]⟩,.ret] (.x))) (.x))
def AVO:Ctr:=⟨[.d (.st 1),.d (.st 1),.pt (.sl (.fno 160))],[.d (.int .i64)],fun a=>K1 a.1 a.2.1 a.2.2.1⟩
theorem ok119:Ctr.ok prog 119 AVO:=B0 (G:={ gxb with fs:=[(88,ctr88)],fd:=[(160,fd160)] }) (an:=AXT) (AIj ⟨⟨ok88,call88⟩,trivial⟩ trivial trivial ⟨okd160,trivial⟩) func119 rfl rfl rfl rfl (fun a=>by kernel_rfl)
def ABV(l:Letter):Option Int:=some l.dispute
def AYt:An:=.x
def ctr49:Ctr:=⟨[.d (.st 6)],[.d (.int .i64)],fun a=>ABV a.1⟩
theorem ok49:Ctr.ok prog 49 ctr49:=B0 (G:={ gxb with fs:=[] }) (an:=AYt) (B1 trivial) func49 rfl rfl rfl rfl (fun a=>by kernel_rfl)
def ABW(l:Letter):Option Int:=some l.who
def AYu:An:=.x
def ctr50:Ctr:=⟨[.d (.st 6)],[.d (.int .i64)],fun a=>ABW a.1⟩
theorem ok50:Ctr.ok prog 50 ctr50:=B0 (G:={ gxb with fs:=[] }) (an:=AYu) (B1 trivial) func50 rfl rfl rfl rfl (fun a=>by kernel_rfl)
def fd118:Rx.Fd:=⟨[(.st 6)],(.int .i64),fun n=>if n=49 then fun x0=>ABV x0 else if n=50 then fun x0=>ABW x0 else fun _=>none⟩
theorem okd118:∀n M w,GlOk (P:=prog) M w->FnOk (P:=prog) M w (.func (.func n) #[] #[]) fd118.a fd118.r (fd118.D n):=fun n M w hg=>by
 by_cases h0:n=49
 . subst h0;exact Y1 (G:={ gxb with fs:=[(49,ctr49)] }) (B1 ⟨⟨ok49,call49⟩,trivial⟩) hg (M:=M) (fun _ h=>h) (R:=fun _=>none) (ρ:=fun _=>undef) (γ:=fun _=>[]) (caps:=[]) (vs:=[]) RdN.nil (by kernel_rfl) rfl
 by_cases h1:n=50
 . subst h1;exact Y1 (G:={ gxb with fs:=[(50,ctr50)] }) (B1 ⟨⟨ok50,call50⟩,trivial⟩) hg (M:=M) (fun _ h=>h) (R:=fun _=>none) (ρ:=fun _=>undef) (γ:=fun _=>[]) (caps:=[]) (vs:=[]) RdN.nil (by kernel_rfl) rfl
 have e:fd118.D n=fun _=>none:=by simp[fd118,h0,h1]<;>rfl
 rw[e];exact fun _ _ _ _ _ _ _ y hy=>by cases hy
def K2(a:Letter)(b:Letter)(a2_:(List Nat)):Option Int:=(B7 (S:=(Int)) (R:=(Unit⊕Int)) (fun x7=>cond (decide (x7<(a2_.length:Int))) ((ixo a2_ x7).bind fun y8=>(fd118.D y8 a).bind fun y9=>(fd118.D y8 b).bind fun y10=>(D7 y9 y10).bind fun r11=>cond ((!decide (r11=0))) (some (Sum.inr (Sum.inr r11))) ((chk .i64 (x7+1)).bind fun n12=>some (Sum.inl n12))) (some (Sum.inr (Sum.inl ())))) (0:Int)).bind ((Sum.elim (fun _=>some (0:Int)) (fun r13=>some r13)))
def AYv:An:=.nd (.x) (.nd (.nd (.x) (.lp ⟨[(.slot 11,.d (.int .i64))],[4,3]⟩ [.exit 0 ⟨[],[]⟩,.ret] (.x))) (.x))
def AXU:Ctr:=⟨[.d (.st 6),.d (.st 6),.pt (.sl (.fno 118))],[.d (.int .i64)],fun a=>K2 a.1 a.2.1 a.2.2.1⟩
theorem ok87:Ctr.ok prog 87 AXU:=B0 (G:={ gxb with fs:=[(88,ctr88)],fd:=[(118,fd118)] }) (an:=AYv) (AIj ⟨⟨ok88,call88⟩,trivial⟩ trivial trivial ⟨okd118,trivial⟩) func87 rfl rfl rfl rfl (fun a=>by kernel_rfl)
def F3(a:Report)(b:Report)(a2_:(List Nat)):Option Int:=(B7 (S:=(Int)) (R:=(Unit⊕Int)) (fun x7=>cond (decide (x7<(a2_.length:Int))) ((ixo a2_ x7).bind fun y8=>(fd160.D y8 a).bind fun y9=>(fd160.D y8 b).bind fun y10=>(D7 y9 y10).bind fun r11=>cond ((!decide (r11=0))) (some (Sum.inr (Sum.inr r11))) ((chk .i64 (x7+1)).bind fun n12=>some (Sum.inl n12))) (some (Sum.inr (Sum.inl ())))) (0:Int)).bind ((Sum.elim (fun _=>some (0:Int)) (fun r13=>some r13)))
def AXV:An:=.nd (.x) (.nd (.nd (.x) (.lp ⟨[(.slot 11,.d (.int .i64))],[4,3]⟩ [.exit 0 ⟨[],[]⟩,.ret] (.x))) (.x))
def AVP:Ctr:=⟨[.d (.st 1),.d (.st 1),.pt (.sl (.fno 160))],[.d (.int .i64)],fun a=>F3 a.1 a.2.1 a.2.2.1⟩
theorem ok131:Ctr.ok prog 131 AVP:=B0 (G:={ gxb with fs:=[(88,ctr88)],fd:=[(160,fd160)] }) (an:=AXV) (AIj ⟨⟨ok88,call88⟩,trivial⟩ trivial trivial ⟨okd160,trivial⟩) func131 rfl rfl rfl rfl (fun a=>by kernel_rfl)
end Go.Proofs.YtgioiejbphljoaaGreatDoor
namespace Go.Rx
open Go Go.Proofs Go.Sx Go.RowKit Go.Sort Go.Shelf
@[reducible] def V3:Trk:=⟨True⟩
def AMG{α:Type}(x:List α)(cmp:α->α->Option Int)(cf:α->α->Int):Prop:=
 (∀a b,a∈x->b∈x->cmp a b=some (cf a b))/\SWO (ltOf fun a b:{ r:α // r∈x }=>cf a.1 b.1)/\∀a b,a∈x->b∈x->¬cf a b<0->¬cf b a<0->a=b
open Classical in
def ACw{α:Type}(x:List α)(cmp:α->α->Option Int):Option (List α):=
 if h:x.length<4611686018427387904/\∃cf,AMG x cmp cf then some (x.mergeSort fun a b=>!decide (h.2.choose b a<0)) else none
variable[Trk]
theorem AMH{α:Type}(enc:α->List Value){n:Nat}(hn:0<n)(h8:∀x,(enc x).length=n):∀(xs:List α) (t:Nat),(xs.flatMap enc)[t]?=(xs[t / n]?).bind fun x=>(enc x)[t % n]?
 |[],t=>by simp
 |x::xs,t=>by
  rw[List.flatMap_cons];rcases Aag t n with h|h
  . rw[Aaw (by rw[h8];exact h),Nat.div_eq_of_lt h,Nat.mod_eq_of_lt h];rfl
  . rw[Aa8 (by rw[h8];exact h),h8,AMH enc hn h8 xs (t-n),Nat.div_eq_sub_div hn h,Nat.mod_eq_sub_mod h];rfl
theorem AIk{α:Type}[Inhabited α](enc:α->List Value){n:Nat}(hn:0<n)(h8:∀x,(enc x).length=n)(d:Array α):(flatK enc n d).toList=d.toList.flatMap enc:=by
 refine Aa9 fun t=>?_;rw[AMH enc hn h8];unfold flatK;rcases Aag t (d.size*n) with h|h
 . have h1:t / n<d.size:=Nat.div_lt_of_lt_mul (by rw[Nat.mul_comm];exact h);have h2:t % n<n:=Nat.mod_lt _ hn;simp only[Array.getElem?_toList,Array.getElem?_map,Array.getElem?_range,h,Array.getElem?_eq_getElem h1];have h3:t % n<(enc d[t / n]).length:=by rw[h8];exact h2
   simp[h1,getElem!_pos,h3]
 . have h1:d.size<=t / n:=(Nat.le_div_iff_mul_le hn).2 h;simp only[Array.getElem?_toList,Array.getElem?_eq_none h1,Option.bind_none];simp[h]
theorem AQI{ys:List Value}{cur:Array Value}(h:ys.length<=cur.size):(putCells id 0 ys.toArray cur).toList.take ys.length=ys:=by
 apply Aa9;intro i;rw[Aa6];split
 . rename_i hi;have hc:cur[i]?=some cur[i]:=Abd (by omega);simp only[putCells,Array.getElem?_toList,Array.getElem?_mapIdx,hc,Option.map_some];rw[Aac ⟨by omega,by simpa using hi⟩];simp[hi]
 . rename_i hi;rw[Aaa (by omega)]
theorem AMI{α:Type}[Inhabited α]{enc:α->List Value}{k:Nat}{w:World}{g n:Nat}{d:Array α}{os:Array Obj}:Kp [g] w (sortWorldK enc k w g 0 n d os):=by
 refine⟨rfl,rfl,rfl,by simp[sortWorldK,putRowK],fun j hj hm=>?_,fun _=>show w.drawn<=w.drawn+n from Nat.le_add_right _ _⟩;have hne:¬g=j:=fun e=>hm (by simp[e]);unfold sortWorldK putRowK;rw[heap_grow_old _ _ (by simpa using hj)];show(w.heap.modify g (onCells (putCells id 0 (flatK enc k d))))[j]?=_;rw[AcI,if_neg hne]
section
variable{P:Program}{ρ:Ren}{α:Type}{E:Enc α}{enc:α->List Value}{In:α->Prop}
theorem ACx(hE:∀{M w cs x},E.R M w cs x↔cs=enc x/\In x){M:List Nat}{w:World}:∀{cs:List Value} {xs:List α},Chunks E M w cs xs↔cs=xs.flatMap enc/\∀r∈xs,In r
 |cs,[]=>by
  constructor
  . intro h;exact⟨h,fun _ h=>by cases h⟩
  . rintro⟨h,_⟩;exact h
 |cs,x::xs=>by
  constructor
  . rintro⟨c,rest,he,hR,hr⟩;obtain⟨rfl,h0⟩:=hE.1 hR;obtain⟨h8,h9⟩:=(ACx hE).1 hr;refine⟨by rw[he,h8];rfl,fun r hr=>?_⟩;rcases mem_cons.1 hr with rfl|hr
    . exact h0
    . exact h9 r hr
  . rintro⟨he,hin⟩;exact⟨enc x,xs.flatMap enc,by rw[he];rfl,hE.2 ⟨rfl,hin x (AaT ..)⟩,(ACx hE).2 ⟨rfl,fun r hr=>hin r (AaQ _ hr)⟩⟩
@[ext] structure ElR(In:α->Prop)(x:List α)where
 r:α
 mem:r∈x
 inn:In r
theorem AGu(hlay:SlLaysF0.n6 P ρ)(hE:∀{M w cs x},E.R M w cs x↔cs=enc x/\In x)(h8:∀x,(enc x).length=E.n)(h1c:∀x v,v∈enc x->v.oneCell'=true)(hag:∀w,(isAgg (ρ.t 24)).run P w=.ok true w)(hsz:∀w,(sizeOf (ρ.t 24)).run P w=.ok E.n w){e:TypeId}{M:List Nat}{w:World}{v_x:Value}{x:List α}(p_x:Sx.Own E e 0 M w v_x x){v_cmp:Value}{cmp:α->α->Option Int}(hf:∀(x0 x1:α) (r:Int) (w1:World),@Kp V3 (ob v_x) w w1->In x0->In x1->cmp x0 x1=some r->CallsV P v_cmp [.agg (toArray (enc x0)),.agg (toArray (enc x1))] w1 fun e w2=>e=.returned (Value.int .i64 r)/\@Ext V3 w1 w2){r0:List α}(h:ACw x cmp=some r0):Calls P (ρ.f 6) (toArray [v_x,v_cmp]) w fun e' w'=>e'=.returned (Value.tuple #[])/\Sx.Own E e 0 M w' v_x r0/\Kp (ob v_x) w w':=by
 unfold ACw at h;split at h
 . rename_i hok;have hr:=AaO h;obtain⟨hlen,hex⟩:=hok;have hok:=hex.choose_spec;generalize hex.choose=cf at hr hok;obtain⟨hc0,hO,hT⟩:=hok;have none_:∀a n,v_x=.slice a 0 n->x=[]->Calls P (ρ.f 6) (toArray [v_x,v_cmp]) w fun e' w'=>e'=.returned (Value.tuple #[])/\Sx.Own E e 0 M w' v_x r0/\Kp (ob v_x) w w':=by
    rintro a n rfl rfl;refine(AnyF.slices_SortFunc_none (P:=P) (ρ:=ρ) hlay a n v_cmp w).mono ?_;rintro e' w' ⟨rfl,rfl⟩;subst hr;exact⟨rfl,by simpa using p_x,Kp.refl _ _⟩
   have p_x0:=p_x;rcases p_x with⟨a,rfl,rfl⟩|⟨g,cap,cur,rfl,h1,h2,h3,h4,h5,h6⟩
   . exact none_ a _ rfl rfl
   . by_cases hx:x=[]
     . subst hx;exact none_ _ _ rfl rfl
     . have hg:=G0 h2;obtain⟨h7,h9⟩:=(ACx hE).1 h6;obtain⟨r1,hr1⟩:=List.exists_mem_of_ne_nil x hx;letI:Inhabited (ElR In x):=⟨⟨r1,hr1,h9 r1 hr1⟩⟩
       obtain⟨d,hd⟩:∃d:List (ElR In x),d.map ElR.r=x:=⟨x.attach.map fun r=>⟨r.1,r.2,h9 r.1 r.2⟩,by rw[Aau];exact Aa2 x⟩;have hdl:d.length=x.length:=by have:=AaX List.length hd;simpa using this
       have h8':∀a:ElR In x,(enc a.r).length=E.n:=fun a=>h8 a.r;have hfl:d.flatMap (fun a=>enc a.r)=x.flatMap enc:=by have:=AaX (List.flatMap enc) hd;rw[List.flatMap_map]at this;exact this
       have hH:HoldsK (fun a:ElR In x=>enc a.r) E.n w g 0 d.toArray:=fun j hj=>by
        have hj':j<d.length*E.n:=by simpa using hj
        have hv:(flatK (fun a:ElR In x=>enc a.r) E.n d.toArray).toList=x.flatMap enc:=by rw[AIk _ E.pos h8',<-hfl]
        have hq:cur.toList[j]?=some ((flatK (fun a:ElR In x=>enc a.r) E.n d.toArray)[j]!):=by
         have e1:=AaX (fun l=>l[j]?) h7;simp only[List.getElem?_take,show j<x.length*E.n by rw[<-hdl];exact hj',if_true]at e1;rw[e1,<-hv,Abh,getElem!_pos (flatK (fun a:ElR In x=>enc a.r) E.n d.toArray) j hj,Abd hj]
        constructor
        . have:w.cell? ⟨g,0+j,none⟩=cur[j]?:=by simp[World.cell?,h2]
          rw[this,<-Abh,hq];rfl
        . simp[World.frozen?,h2]
       obtain⟨gf,cb,rfl,eg,_⟩:=hf r1 r1 (cf r1 r1) w (@Kp.refl V3 _ _) (h9 r1 hr1) (h9 r1 hr1) (hc0 r1 r1 hr1 hr1);have hcmp:CmpLays P gf cb (fun a:ElR In x=>enc a.r) E.n (fun a b=>cf a.r b.r) g 0 d.toArray.size w:=fun m os dk _ a b=>by
        obtain⟨gf',cb',hgc,_,hC⟩:=hf a.r b.r (cf a.r b.r) (sortWorldK (fun a:ElR In x=>enc a.r) E.n w g 0 m dk os) (@Kp.mono V3 _ _ _ _ (@AMI V3 _ _ _ _ _ _ _ _ _) fun c hc=>.inl (by simpa[ob] using hc)) a.inn b.inn (hc0 a.r b.r a.mem b.mem);cases hgc
        refine hC.mono ?_;rintro e' w' ⟨rfl,hx⟩;obtain⟨q,os',he⟩:=@Ext.grown V3 _ _ hx trivial;exact⟨rfl,q,os',he⟩
       have hO':SWO (ltOf fun a b:ElR In x=>cf a.r b.r):=
        ⟨fun a=>hO.irrefl ⟨a.r,a.mem⟩,fun a b c=>hO.trans ⟨a.r,a.mem⟩ ⟨b.r,b.mem⟩ ⟨c.r,c.mem⟩,fun a b c=>hO.ntrans ⟨a.r,a.mem⟩ ⟨b.r,b.mem⟩ ⟨c.r,c.mem⟩⟩
       have hc:=AnyQ.slices_SortFunc_total hlay E.n hag hsz (fun a:ElR In x=>enc a.r) h8' (fun a v hv=>h1c a.r v hv) (fun a b=>cf a.r b.r) hO' gf cb g 0 (cap+1) d.toArray w eg hcmp hH hg (by simpa[hdl] using hlen)
        (fun a b h1 h2=>ElR.ext (hT a.r b.r a.mem b.mem (by simpa[ltOf] using h1) (by simpa[ltOf] using h2)))
       rw[show d.toArray.size=x.length by simp[hdl]]at hc;refine hc.mono ?_;rintro e' w' ⟨rfl,n,os,rfl⟩;obtain⟨ys,hys⟩:∃ys,ys=d.mergeSort fun a b:ElR In x=>!(ltOf fun a b:ElR In x=>cf a.r b.r) b a:=⟨_,rfl⟩;have hys':ys.map ElR.r=r0:=by
        have h9:=List.map_mergeSort (r:=fun a b:ElR In x=>!(ltOf fun a b:ElR In x=>cf a.r b.r) b a) (s:=fun a b=>!decide (cf b a<0)) (f:=ElR.r) (l:=d) fun a _ b _=>rfl;rw[hd,hr]at h9;rw[hys];exact h9
       have hyl:ys.length=x.length:=by rw[hys,List.length_mergeSort,hdl]
       have hrl:r0.length=x.length:=by rw[<-hys',Aa1,hyl]
       have hW:(d.toArray.toList.mergeSort fun a b:ElR In x=>!(ltOf fun a b:ElR In x=>cf a.r b.r) b a).toArray=ys.toArray:=by rw[hys]
       rw[hW];have hkp:Kp [g] w (sortWorldK (fun a:ElR In x=>enc a.r) E.n w g 0 n ys.toArray os):=AMI;have hin:∀r∈r0,In r:=fun r hr'=>by
        rw[<-hys']at hr';obtain⟨a,_,rfl⟩:=mem_map.1 hr';exact a.inn
       have hfl2:(flatK (fun a:ElR In x=>enc a.r) E.n ys.toArray).toList=r0.flatMap enc:=by have h9:=AaX (List.flatMap enc) hys';rw[List.flatMap_map]at h9;rw[AIk _ E.pos h8'];exact h9
       have hfs:(flatK (fun a:ElR In x=>enc a.r) E.n ys.toArray).size=x.length*E.n:=by simp[hyl]
       refine⟨rfl,.inr ⟨g,cap,putCells id 0 (flatK (fun a:ElR In x=>enc a.r) E.n ys.toArray) cur,by rw[hrl],Aas _,?_,by rw[hrl];exact h3,h4,?_,?_⟩,hkp.mono fun b hb=>.inl (by simpa[ob] using hb)⟩
       . unfold sortWorldK putRowK;rw[heap_grow_old _ _ (by simpa using hg)];show(w.heap.modify g (onCells (putCells id 0 (flatK (fun a:ElR In x=>enc a.r) E.n ys.toArray))))[g]?=_;rw[AcI,Aac rfl,h2];rfl
       . rw[<-h5];simp[putCells]
       . refine(ACx hE).2 ⟨?_,hin⟩;have h9:=AQI (ys:=(flatK (fun a:ElR In x=>enc a.r) E.n ys.toArray).toList) (cur:=cur) (by
          rw[AbX,hfs,h5];exact AbF _ (by omega))
         rw[show(flatK (fun a:ElR In x=>enc a.r) E.n ys.toArray).toList.toArray=flatK (fun a:ElR In x=>enc a.r) E.n ys.toArray by simp,AbX,hfs]at h9;show(putCells id 0 (flatK (fun a:ElR In x=>enc a.r) E.n ys.toArray) cur).toList.take (r0.length*E.n)=_;rw[hrl,h9,hfl2]
 . cases h
end
end Go.Rx
namespace Go.Proofs.YtgioiejbphljoaaGreatDoor
open Go Go.Sx
instance trkF:Trk:=⟨False⟩
end Go.Proofs.YtgioiejbphljoaaGreatDoor
namespace Go.Proofs.YtgioiejbphljoaaGreatDoor
open Go Go.Proofs Go.Sx Go.Rx Go.RowKit
theorem AVQ{kt:TypeId}{κ:Type}{K:Ky prog kt κ}{k:IntKind}{ag:Bool}{M:List Nat}{w:World}:∀{es:List MapEntry} {xs:List (κ×Int)},EntK K (A9 k) ag M w es xs->@EntK V3 _ _ _ _ K (@A9 V3 k) ag M w es xs
 |[],[],h=>h
 |_::_,_::_,⟨h1,h2,h3⟩=>⟨h1,h2,AVQ h3⟩
 |[],_::_,h=>h.elim
 |_::_,[],h=>h.elim
theorem glT{M:List Nat}{w:World}(h:GlOk (P:=prog) M w):@GlOk V3 _ _ prog _ M w:=fun g s hg ρ R=>by
 match g,hg with
 |0,hg=>cases hg;exact h 0 _ rfl ρ R
 |1,hg=>cases hg;exact h 1 _ rfl ρ R
 |2,hg=>
  cases hg
  obtain⟨b,o0,u,vs,h1,h2,⟨h3,cs,⟨v',K',rfl,hK,b',rfl,h5,es,c,xs,g1,g2,g3,g4⟩,h6⟩,h7⟩:=h 2 _ rfl ρ R
  exact⟨b,o0,u,vs,h1,h2,⟨h3,[.map (some b')],⟨.map (some b'),K',rfl,hK,b',rfl,h5,es,c,xs,g1,g2,AVQ g3,g4⟩,h6⟩,h7⟩
 |_+3,hg=>cases hg
def G8(by_:List Nat)(l:List Dispute):Option (Unit×List Dispute):=(ACw l fun a b=>J6 a b by_).bind fun r=>some ((),r)
def ctrm58:CtrM:={ ps:=[.d (.sl (.fno 130))],i:=0,c:=.sl 53 (.st 2),rs:=[],F:=fun a x=>G8 a.1 x,self:=true }
theorem okm58:CtrM.ok prog 58 ctrm58:=by
 refine⟨rfl,fun M w a x v vals us r x' hM hg hd ha hi he _ hx hr=>?_⟩;obtain⟨vb,_,rfl,hb,rfl⟩:=ha;have hus:us=[v,vb]:=by
  cases us with
  |nil=>cases hi
  |cons u l=>
   have h1:u=v:=AaO hi
   have h2:l=[vb]:=he
   rw[h1,h2]
 subst hus;have f_by:RdS AE3 (ob v++M) w vb a.1:=by
  obtain⟨cs,⟨u,rfl,h1⟩,⟨h2,_⟩|⟨_,h2⟩⟩:=hb
  . cases h2
  . rw[<-List.singleton_inj.1 h2];exact h1
 have hx:Sx.Own DisputeE 53 0 (ob v++M) w v x:=hx;have p_l:Sx.Own DisputeE 53 0 M w v x:=hx.mon fun b hb=>.inr (AaS _ hb);have hI:=AAx (fun b hb=>hM b (AaS _ hb)) hd p_l;have hr:G8 a.1 x=some (r,x'):=hr;refine B9 func58 rfl ntmps58 rfl ?_;refine A3 (A7 ?_);refine R7 hI rfl (RdS.cells1 f_by) rfl ?_;intro b1 w2 hI3 x4;have hC6:=hI3.freezeRow 0 rfl;have hI5:=hI3.erase 0;refine C6 rfl rfl (Reg.nil (A3 (A7 ?_)));refine E5 rfl rfl ?_;refine AEB rfl rfl ?_;unfold G8 at hr;obtain⟨l7,hz8,h⟩:=C5 hr;refine G6 rfl call93 rfl ?_;have la:=ADB (σ:=[ownR (ob v) DisputeE 53 v x]) (M:=M) (w:=w2) 0 rfl;have q1:=hI5.lendM 0 rfl;have q2:@RdS V3 Nat (@AE3 V3) _ w2 vb a.1:=(f_by.adv hI5.adv).adv la;have q3:=hC6.adv la;have q4:=glT ((hg.adv hI5.adv).adv la);have hc:Calls prog 93 (toArray [v,.func (.func 94) #[] (toArray [.pointer (some ⟨b1,0,none⟩)])]) w2 _:=AGu (E:=DisputeE) (enc:=fun x=>[Value.int .i64 x.id,Value.int .i64 x.report,Value.int .i64 x.day]) (In:=fun x=>InK .i64 x.id/\InK .i64 x.report/\InK .i64 x.day) AI8 DisputeE_R (fun _=>rfl) (fun x v hv=>by
  simp only[mem_cons,List.not_mem_nil,or_false]at hv;rcases hv with rfl|rfl|rfl<;>rfl) isAgg53 sizeOf53 (hI5.lendOwn 0 rfl) (fun a0 a1 r w9 e9 f0 f1 hr=>by
  letI:=V3
  refine CallsV.go call94 rfl (ok94.2 _ w9 (a0,a1,a.1,()) [_,_,_] r (q1.ext e9) (q4.adv (Adv.lent e9)) ⟨_,_,rfl,⟨_,DisputeE_R.2 ⟨rfl,f0⟩,.inl ⟨rfl,rfl⟩⟩,_,_,rfl,⟨_,DisputeE_R.2 ⟨rfl,f1⟩,.inl ⟨rfl,rfl⟩⟩,_,_,rfl,⟨b1,0,[vb],rfl,q3.adv (Adv.lent e9),vb,rfl,q2.adv (Adv.lent e9)⟩,rfl⟩ hr) ?_;rintro e w3 ⟨us,rfl,⟨u,rfl,cs,h1,⟨h2,_⟩|⟨_,h2⟩⟩,hx⟩
  . cases h2
  . have h1:cs=[.int .i64 r]/\_:=h1;rw[h1.1]at h2;have h2:=List.singleton_inj.1 h2;subst h2;exact⟨rfl,hx⟩) hz8
 refine hc.mono ?_;rintro _ w9 ⟨rfl,hO,hk⟩;refine⟨_,rfl,?_⟩;have hI12:=hI5.took 0 rfl ⟨hO,fun b hb=>.inl hb,hk⟩;refine Reg.nil (A3 (A7 ?_));refine E5 rfl rfl (C6 rfl rfl (Reg.nil (C0 ?_)));have h:=AaO h;cases h
 refine fin1 results58 rfl ?_;obtain⟨k1,_,k3⟩:=hI12.ownBack 0 rfl;exact⟨[],rfl,rfl,k3,k1.mon fun b hb=>mem_append.1 hb⟩
def H4(by_:List Nat)(l:List Report):Option (Unit×List Report):=(ACw l fun a b=>K1 a b by_).bind fun r=>some ((),r)
def ctrm77:CtrM:={ ps:=[.d (.sl (.fno 160))],i:=0,c:=.sl 45 (.st 1),rs:=[],F:=fun a x=>H4 a.1 x,self:=true }
theorem okm77:CtrM.ok prog 77 ctrm77:=by
 refine⟨rfl,fun M w a x v vals us r x' hM hg hd ha hi he _ hx hr=>?_⟩;obtain⟨vb,_,rfl,hb,rfl⟩:=ha;have hus:us=[v,vb]:=by
  cases us with
  |nil=>cases hi
  |cons u l=>
   have h1:u=v:=AaO hi
   have h2:l=[vb]:=he
   rw[h1,h2]
 subst hus;have f_by:RdS AE3 (ob v++M) w vb a.1:=by
  obtain⟨cs,⟨u,rfl,h1⟩,⟨h2,_⟩|⟨_,h2⟩⟩:=hb
  . cases h2
  . rw[<-List.singleton_inj.1 h2];exact h1
 have hx:Sx.Own ReportE 45 0 (ob v++M) w v x:=hx;have p_l:Sx.Own ReportE 45 0 M w v x:=hx.mon fun b hb=>.inr (AaS _ hb);have hI:=AAx (fun b hb=>hM b (AaS _ hb)) hd p_l;have hr:H4 a.1 x=some (r,x'):=hr;refine B9 func77 rfl ntmps77 rfl ?_;refine A3 (A7 ?_);refine R7 hI rfl (RdS.cells1 f_by) rfl ?_;intro b1 w2 hI3 x4;have hC6:=hI3.freezeRow 0 rfl;have hI5:=hI3.erase 0;refine C6 rfl rfl (Reg.nil (A3 (A7 ?_)));refine E5 rfl rfl ?_;refine AEB rfl rfl ?_;unfold H4 at hr;obtain⟨l7,hz8,h⟩:=C5 hr;refine G6 rfl call118 rfl ?_;have la:=ADB (σ:=[ownR (ob v) ReportE 45 v x]) (M:=M) (w:=w2) 0 rfl;have q1:=hI5.lendM 0 rfl;have q2:@RdS V3 Nat (@AE3 V3) _ w2 vb a.1:=(f_by.adv hI5.adv).adv la;have q3:=hC6.adv la;have q4:=glT ((hg.adv hI5.adv).adv la);have hc:Calls prog 118 (toArray [v,.func (.func 119) #[] (toArray [.pointer (some ⟨b1,0,none⟩)])]) w2 _:=AGu (E:=ReportE) (enc:=fun x=>[Value.int .i64 x.id,Value.int .i64 x.source,Value.int .i64 x.account,Value.int .i64 x.made,Value.int .i64 x.about,Value.int .u8 x.kind,Value.int .i64 x.cents,Value.int .i64 x.of_]) (In:=fun x=>InK .i64 x.id/\InK .i64 x.source/\InK .i64 x.account/\InK .i64 x.made/\InK .i64 x.about/\InK .u8 x.kind/\InK .i64 x.cents/\InK .i64 x.of_) ADq ReportE_R (fun _=>rfl) (fun x v hv=>by
  simp only[mem_cons,List.not_mem_nil,or_false]at hv;rcases hv with rfl|rfl|rfl|rfl|rfl|rfl|rfl|rfl<;>rfl) isAgg45 sizeOf45 (hI5.lendOwn 0 rfl) (fun a0 a1 r w9 e9 f0 f1 hr=>by
  letI:=V3
  refine CallsV.go call119 rfl (ok119.2 _ w9 (a0,a1,a.1,()) [_,_,_] r (q1.ext e9) (q4.adv (Adv.lent e9)) ⟨_,_,rfl,⟨_,ReportE_R.2 ⟨rfl,f0⟩,.inl ⟨rfl,rfl⟩⟩,_,_,rfl,⟨_,ReportE_R.2 ⟨rfl,f1⟩,.inl ⟨rfl,rfl⟩⟩,_,_,rfl,⟨b1,0,[vb],rfl,q3.adv (Adv.lent e9),vb,rfl,q2.adv (Adv.lent e9)⟩,rfl⟩ hr) ?_;rintro e w3 ⟨us,rfl,⟨u,rfl,cs,h1,⟨h2,_⟩|⟨_,h2⟩⟩,hx⟩
  . cases h2
  . have h1:cs=[.int .i64 r]/\_:=h1;rw[h1.1]at h2;have h2:=List.singleton_inj.1 h2;subst h2;exact⟨rfl,hx⟩) hz8
 refine hc.mono ?_;rintro _ w9 ⟨rfl,hO,hk⟩;refine⟨_,rfl,?_⟩;have hI12:=hI5.took 0 rfl ⟨hO,fun b hb=>.inl hb,hk⟩;refine Reg.nil (A3 (A7 ?_));refine E5 rfl rfl (C6 rfl rfl (Reg.nil (C0 ?_)));have h:=AaO h;cases h
 refine fin1 results77 rfl ?_;obtain⟨k1,_,k3⟩:=hI12.ownBack 0 rfl;exact⟨[],rfl,rfl,k3,k1.mon fun b hb=>mem_append.1 hb⟩
def H5(by_:List Nat)(l:List Letter):Option (Unit×List Letter):=(ACw l fun a b=>K2 a b by_).bind fun r=>some ((),r)
def ctrm48:CtrM:={ ps:=[.d (.sl (.fno 118))],i:=0,c:=.sl 70 (.st 6),rs:=[],F:=fun a x=>H5 a.1 x,self:=true }
theorem okm48:CtrM.ok prog 48 ctrm48:=by
 refine⟨rfl,fun M w a x v vals us r x' hM hg hd ha hi he _ hx hr=>?_⟩;obtain⟨vb,_,rfl,hb,rfl⟩:=ha;have hus:us=[v,vb]:=by
  cases us with
  |nil=>cases hi
  |cons u l=>
   have h1:u=v:=AaO hi
   have h2:l=[vb]:=he
   rw[h1,h2]
 subst hus;have f_by:RdS AE3 (ob v++M) w vb a.1:=by
  obtain⟨cs,⟨u,rfl,h1⟩,⟨h2,_⟩|⟨_,h2⟩⟩:=hb
  . cases h2
  . rw[<-List.singleton_inj.1 h2];exact h1
 have hx:Sx.Own LetterE 70 0 (ob v++M) w v x:=hx;have p_l:Sx.Own LetterE 70 0 M w v x:=hx.mon fun b hb=>.inr (AaS _ hb);have hI:=AAx (fun b hb=>hM b (AaS _ hb)) hd p_l;have hr:H5 a.1 x=some (r,x'):=hr;refine B9 func48 rfl ntmps48 rfl ?_;refine A3 (A7 ?_);refine R7 hI rfl (RdS.cells1 f_by) rfl ?_;intro b1 w2 hI3 x4;have hC6:=hI3.freezeRow 0 rfl;have hI5:=hI3.erase 0;refine C6 rfl rfl (Reg.nil (A3 (A7 ?_)));refine E5 rfl rfl ?_;refine AEB rfl rfl ?_;unfold H5 at hr;obtain⟨l7,hz8,h⟩:=C5 hr;refine G6 rfl call86 rfl ?_;have la:=ADB (σ:=[ownR (ob v) LetterE 70 v x]) (M:=M) (w:=w2) 0 rfl;have q1:=hI5.lendM 0 rfl;have q2:@RdS V3 Nat (@AE3 V3) _ w2 vb a.1:=(f_by.adv hI5.adv).adv la;have q3:=hC6.adv la;have q4:=glT ((hg.adv hI5.adv).adv la);have hc:Calls prog 86 (toArray [v,.func (.func 87) #[] (toArray [.pointer (some ⟨b1,0,none⟩)])]) w2 _:=AGu (E:=LetterE) (enc:=fun x=>[Value.int .i64 x.dispute,Value.int .i64 x.who,Value.int .i64 x.asked]) (In:=fun x=>InK .i64 x.dispute/\InK .i64 x.who/\InK .i64 x.asked) AI9 LetterE_R (fun _=>rfl) (fun x v hv=>by
  simp only[mem_cons,List.not_mem_nil,or_false]at hv;rcases hv with rfl|rfl|rfl<;>rfl) isAgg70 sizeOf70 (hI5.lendOwn 0 rfl) (fun a0 a1 r w9 e9 f0 f1 hr=>by
  letI:=V3
  refine CallsV.go call87 rfl (ok87.2 _ w9 (a0,a1,a.1,()) [_,_,_] r (q1.ext e9) (q4.adv (Adv.lent e9)) ⟨_,_,rfl,⟨_,LetterE_R.2 ⟨rfl,f0⟩,.inl ⟨rfl,rfl⟩⟩,_,_,rfl,⟨_,LetterE_R.2 ⟨rfl,f1⟩,.inl ⟨rfl,rfl⟩⟩,_,_,rfl,⟨b1,0,[vb],rfl,q3.adv (Adv.lent e9),vb,rfl,q2.adv (Adv.lent e9)⟩,rfl⟩ hr) ?_;rintro e w3 ⟨us,rfl,⟨u,rfl,cs,h1,⟨h2,_⟩|⟨_,h2⟩⟩,hx⟩
  . cases h2
  . have h1:cs=[.int .i64 r]/\_:=h1;rw[h1.1]at h2;have h2:=List.singleton_inj.1 h2;subst h2;exact⟨rfl,hx⟩) hz8
 refine hc.mono ?_;rintro _ w9 ⟨rfl,hO,hk⟩;refine⟨_,rfl,?_⟩;have hI12:=hI5.took 0 rfl ⟨hO,fun b hb=>.inl hb,hk⟩;refine Reg.nil (A3 (A7 ?_));refine E5 rfl rfl (C6 rfl rfl (Reg.nil (C0 ?_)));have h:=AaO h;cases h
 refine fin1 results48 rfl ?_;obtain⟨k1,_,k3⟩:=hI12.ownBack 0 rfl;exact⟨[],rfl,rfl,k3,k1.mon fun b hb=>mem_append.1 hb⟩
def C7(by_:List Nat)(l:List Report):Option (Unit×List Report):=(ACw l fun a b=>F3 a b by_).bind fun r=>some ((),r)
def ctrm106:CtrM:={ ps:=[.d (.sl (.fno 160))],i:=0,c:=.sl 45 (.st 1),rs:=[],F:=fun a x=>C7 a.1 x,self:=true }
theorem okm106:CtrM.ok prog 106 ctrm106:=by
 refine⟨rfl,fun M w a x v vals us r x' hM hg hd ha hi he _ hx hr=>?_⟩;obtain⟨vb,_,rfl,hb,rfl⟩:=ha;have hus:us=[v,vb]:=by
  cases us with
  |nil=>cases hi
  |cons u l=>
   have h1:u=v:=AaO hi
   have h2:l=[vb]:=he
   rw[h1,h2]
 subst hus;have f_by:RdS AE3 (ob v++M) w vb a.1:=by
  obtain⟨cs,⟨u,rfl,h1⟩,⟨h2,_⟩|⟨_,h2⟩⟩:=hb
  . cases h2
  . rw[<-List.singleton_inj.1 h2];exact h1
 have hx:Sx.Own ReportE 45 0 (ob v++M) w v x:=hx;have p_l:Sx.Own ReportE 45 0 M w v x:=hx.mon fun b hb=>.inr (AaS _ hb);have hI:=AAx (fun b hb=>hM b (AaS _ hb)) hd p_l;have hr:C7 a.1 x=some (r,x'):=hr;refine B9 func106 rfl ntmps106 rfl ?_;refine A3 (A7 ?_);refine R7 hI rfl (RdS.cells1 f_by) rfl ?_;intro b1 w2 hI3 x4;have hC6:=hI3.freezeRow 0 rfl;have hI5:=hI3.erase 0;refine C6 rfl rfl (Reg.nil (A3 (A7 ?_)));refine E5 rfl rfl ?_;refine AEB rfl rfl ?_;unfold C7 at hr;obtain⟨l7,hz8,h⟩:=C5 hr;refine G6 rfl call118 rfl ?_;have la:=ADB (σ:=[ownR (ob v) ReportE 45 v x]) (M:=M) (w:=w2) 0 rfl;have q1:=hI5.lendM 0 rfl;have q2:@RdS V3 Nat (@AE3 V3) _ w2 vb a.1:=(f_by.adv hI5.adv).adv la;have q3:=hC6.adv la;have q4:=glT ((hg.adv hI5.adv).adv la);have hc:Calls prog 118 (toArray [v,.func (.func 131) #[] (toArray [.pointer (some ⟨b1,0,none⟩)])]) w2 _:=AGu (E:=ReportE) (enc:=fun x=>[Value.int .i64 x.id,Value.int .i64 x.source,Value.int .i64 x.account,Value.int .i64 x.made,Value.int .i64 x.about,Value.int .u8 x.kind,Value.int .i64 x.cents,Value.int .i64 x.of_]) (In:=fun x=>InK .i64 x.id/\InK .i64 x.source/\InK .i64 x.account/\InK .i64 x.made/\InK .i64 x.about/\InK .u8 x.kind/\InK .i64 x.cents/\InK .i64 x.of_) ADq ReportE_R (fun _=>rfl) (fun x v hv=>by
  simp only[mem_cons,List.not_mem_nil,or_false]at hv;rcases hv with rfl|rfl|rfl|rfl|rfl|rfl|rfl|rfl<;>rfl) isAgg45 sizeOf45 (hI5.lendOwn 0 rfl) (fun a0 a1 r w9 e9 f0 f1 hr=>by
  letI:=V3
  refine CallsV.go call131 rfl (ok131.2 _ w9 (a0,a1,a.1,()) [_,_,_] r (q1.ext e9) (q4.adv (Adv.lent e9)) ⟨_,_,rfl,⟨_,ReportE_R.2 ⟨rfl,f0⟩,.inl ⟨rfl,rfl⟩⟩,_,_,rfl,⟨_,ReportE_R.2 ⟨rfl,f1⟩,.inl ⟨rfl,rfl⟩⟩,_,_,rfl,⟨b1,0,[vb],rfl,q3.adv (Adv.lent e9),vb,rfl,q2.adv (Adv.lent e9)⟩,rfl⟩ hr) ?_;rintro e w3 ⟨us,rfl,⟨u,rfl,cs,h1,⟨h2,_⟩|⟨_,h2⟩⟩,hx⟩
  . cases h2
  . have h1:cs=[.int .i64 r]/\_:=h1;rw[h1.1]at h2;have h2:=List.singleton_inj.1 h2;subst h2;exact⟨rfl,hx⟩) hz8
 refine hc.mono ?_;rintro _ w9 ⟨rfl,hO,hk⟩;refine⟨_,rfl,?_⟩;have hI12:=hI5.took 0 rfl ⟨hO,fun b hb=>.inl hb,hk⟩;refine Reg.nil (A3 (A7 ?_));refine E5 rfl rfl (C6 rfl rfl (Reg.nil (C0 ?_)));have h:=AaO h;cases h
 refine fin1 results106 rfl ?_;obtain⟨k1,_,k3⟩:=hI12.ownBack 0 rfl;exact⟨[],rfl,rfl,k3,k1.mon fun b hb=>mem_append.1 hb⟩
end Go.Proofs.YtgioiejbphljoaaGreatDoor
end
