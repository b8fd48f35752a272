/-
  Part DisputeFollows 7 of the texts that the statement's proof stands on: what memory holds, how code is walked, what the functions reckon. In the order in which they build.
-/
import Derived.Test.YtgioiejbphljoaaGreatDoorProg
import Derived.Shelf.SlSortCmp.WholeK
import Derived.Shelf.SlSortCmp.NoneTotal
import Derived.Test.YtgioiejbphljoaaGreatDoorFbDisputeFollows6
open List (mem_append mem_cons mem_map mem_singleton toArray)
open Nat (beq blt)
open Go.Proofs.Tryz
set_option linter.unusedVariables false
set_option linter.unusedSectionVars false
set_option maxRecDepth 20000
set_option maxHeartbeats 4000000
noncomputable section
namespace Go.Rx
open Go Go.Sx Go.RowKit Go.ChangeMaps
variable[Trk][Sg][Sf]{P:Program}[Se P]
theorem ADk{W:List Nat}{hd:Sh}{σ:AS}{x:N6 hd.cs}{t:Nat}{s:SV}(I:A0 (C2 W hd σ x).env t=some s)(U:t∈W):t∈J0 hd.cs:=by
 have h:A0 (allV ABM (U9 hd.cs x)++ACU W hd.keep σ.env) t=some s:=I;rw[fnd_app]at h;cases H:A0 (allV ABM (U9 hd.cs x)) t with
 |none=>
  rw[H]at h
  simp only at h
  rw[fnd_keepE,AYf U]at h
  cases h
 |some y=>
  obtain⟨p,J,hy⟩:=allV_mem.1 (ABj H)
  have C:=AFQ hy
  have V:=AFu J
  exact ABP (c:=p.1.2) (by rw[<-C];exact V)
abbrev ANN(a:Anch)(Q:List Nat->World->Prop)(h:∀{M M':List Nat} {w w':World},Q M w->Adv M M' w w'->Q M' w'):Anch:=⟨fun M w=>a.Q M w/\Q M w,fun h1 k=>⟨a.adv h1.1 k,h h1.2 k⟩⟩
section
variable[Anch]{w0 w:World}{M:List Nat}{σ:AS}{L:A5}{N:Nat}{Γ:Type}{pr:AS->Option Γ}{ds:List Deferred}{A B:A3}{X:Nat->A3}{Z:List PanicEntry->A3}
def AK0(P:Program)[Se P](w0:World)(M:List Nat)(u:MU){m:Nat}{k v:Ty}(K:Ky P m (den k))(r b c:Nat)(es:Array MapEntry)(xs:List (den k×den v))(Wr:List Nat)(L0:A5)(τ:AS)(L:A5)(W:World)(l:List (den k×den v)):Prop:=
 EnvS Wr L0 L/\Sx.A4 L u.t=some (.pointer (some ⟨r,0,none⟩))/\∃seen S ρ γ μ ι,@HS _ _ _ P _ (AQ5 (α:=den v) inferInstance K (enc v) v.agg b es c xs) (fx1 r (.mapIter (some b) c seen c)) w0 [] (r::M) τ L W S ρ γ μ ι/\l.Perm (I8 (es.toList.zip xs) seen)
theorem AOq[Sl (P:=P)]{G:Gx}(hG:GxOk P G){u:MU}{hd:Sh}{l:An}{m:Nat}{k v:Ty}{K:Ky P m (den k)}(hKo:∀M w (a:den k),K.ok a->OkD (P:=P) M w k a (K.val a))(hc:AIa N u hd l=true){r b c:Nat}{es:Array MapEntry}{xs l0:List (den k×den v)}(hr:w0.heap.size<=r)(hM0:MLt M w0){L0:A5}{s:N6 hd.cs}{nty cty ety:TypeId}{npos cpos epos:String}{naf caf eaf:Array Edge}{i1 i2:Nat}(u2:u.all2=⟨some u.e,.entry (.tmp u.t),ety,epos,eaf,none⟩::u.ops2)(hI:AK0 P w0 M u K r b c es xs (u.t::G0 u hd l) L0 (C2 (u.t::G0 u hd l) hd σ s) L w l0)(g:∀L' w',l0=[]->EnvS (u.t::G0 u hd l) L0 L'->Holds (P:=P) w0 [] M (C2 (u.t::G0 u hd l) hd σ s) L' w'->A ds L' w')(hgo:∀y l',l0.Perm (y::l')->∃s',ADC G N pr u hd l (u.t::G0 u hd l) σ k v s y=some s'){I:List (den k×den v)->N6 hd.cs->A5->World->Prop}(hnext:∀y l' s' L' w',l0.Perm (y::l')->ADC G N pr u hd l (u.t::G0 u hd l) σ k v s y=some s'->AK0 P w0 M u K r b c es xs (u.t::G0 u hd l) L0 (C2 (u.t::G0 u hd l) hd σ s') L' w' l'->I l' s' L' w'):
  CW P N (.seq (.region i1 (toArray [⟨some u.n,.next (.tmp u.t) false,nty,npos,naf,none⟩,⟨some u.c,.extract (.tmp u.n) 0,cty,cpos,caf,none⟩]) false) (.seq (.cond (.tmp u.c) .skip (.exit u.j)) (.block u.j2 (.seq (.region i2 (toArray u.all2) false) u.rest)))) ds L w
   (fun ds' L' w'=>ds'=ds/\∃l' s',I l' s' L' w'/\l'.length<l0.length) B (exB u.j A X) Z:=by
 simp only[AIa,Bool.and_eq_true,Bool.not_eq_true']at hc
 obtain⟨⟨⟨⟨⟨⟨⟨c1,c2⟩,c3⟩,c4⟩,c5⟩,c6⟩,c7⟩,c8⟩:=hc
 have d6:u.t∉G0 u hd l:=fun h=>by rw[has_iff.2 h]at c6;cases c6
 have d7:u.n∉J0 hd.cs:=fun h=>by rw[has_iff.2 h]at c7;cases c7
 have d8:u.c∉J0 hd.cs:=fun h=>by rw[has_iff.2 h]at c8;cases c8
 have wn:u.n∈u.t::G0 u hd l:=AYT _ (AYX ..)
 have wc:u.c∈u.t::G0 u hd l:=AYT _ (AYT _ (AYX ..))
 have we:u.e∈G0 u hd l:=AYT _ (AYT _ (AYX ..))
 have wsl:∀t∈J0 hd.cs,t∈u.t::G0 u hd l:=fun t H=>AYT _ (AYT _ (AYT _ (AYT _ (AYV _ H))))
 have wop:∀t∈C7 u.ops2,t∈G0 u hd l:=fun t H=>AYT _ (AYT _ (AYT _ (AYW _ (AYV _ H))))
 have wrs:∀t∈D6 u.rest++D4 l,t∈G0 u hd l:=fun t H=>AYT _ (AYT _ (AYT _ (AYW _ (AYW _ H))))
 have tn:u.t≠u.n:=fun e=>d6 (e▸AYX ..)
 have tc:u.t≠u.c:=fun e=>d6 (e▸AYT _ (AYX ..))
 have te:u.t≠u.e:=fun e=>d6 (e▸we)
 obtain⟨o,R,seen,S,ρ,γ,μ,ι,hS,hpm⟩:=hI
 have hS0:=hS
 obtain⟨s1,_,_,_,_,s6⟩:=hS0
 have hX9:RdX K (enc (P:=P) v) v.agg (mm S (r::M)) w b es c xs:=s6.1.2
 obtain⟨_,_,_,_,_,_,_,_,s9⟩:=id s1
 have hfx:w.heap[r]?=some (.mapIter (some b) c seen c):=(s9 r _ (AYf rfl)).2
 have Y:Hp w0 [] M (U3 (κ:=den k) (α:=den v) r b c es xs none l0::S) w:=ATp s1 rfl rfl hr hM0 fun _=>⟨seen,hfx,hpm,fun _ h=>by cases h⟩
 have j:RdX K (enc (P:=P) v) v.agg (mm (U3 (κ:=den k) (α:=den v) r b c es xs none l0::S) M) w b es c xs:=hX9.adv (Adv.drop fun x hx=>(Y1 rfl).2 hx)
 have out:∀(v1 v2:Value) t q,A0 (C2 (u.t::G0 u hd l) hd σ s).env t=some q->Sx.A4 ((u.c,v2)::(u.n,v1)::L) t=Sx.A4 L t:=fun v1 v2 t q H=>by
  rw[look_cons,if_neg (fun e=>d8 (ADk (e▸H) wc)),look_cons,if_neg (fun e=>d7 (ADk (e▸H) wn))]
 refine A6 (A9 (ASq 0 Y j rfl R c2 (fun hl=>?_) (fun y l' kv vv w1 hp U E=>?_)))
 . refine AGM (vs:=[.bool false]) (i:=0) (by show Sx.A4 _ _=_;rw[look_cons,AYf rfl]) rfl c3 (Reg.nil (A6 (ABa (by show Sx.A4 _ _=_;rw[look_cons,AYf rfl]) (ABZ (T8 (g _ _ hl (o.trans (((EnvS.put u.n L _).mono fun t H=>by rw[mem_singleton.1 H];exact wn).trans ((EnvS.put u.c _ _).mono fun t H=>by rw[mem_singleton.1 H];exact wc))) ?_))))))
   have hp2:Hp w0 [] M S w:=Y.sub (List.sublist_cons_self ..)
   have O:=hS.conv hp2 (Adv.drop fun x hx=>mem_mm.2 ((mem_mm.1 hx).imp id (AYT _))) (fun _=>rfl) (fun _ _ e=>e) (out (.tuple #[.bool false]) (.bool false))
   exact⟨S,ρ,γ,μ,ι,O.anchX _ _ fun h=>h.1⟩
 . refine AGM (vs:=[.bool true,kv,vv]) (i:=0) (by show Sx.A4 _ _=_;rw[look_cons,AYf rfl]) rfl c3 (Reg.nil (A6 (ACk (by show Sx.A4 _ _=_;rw[look_cons,AYf rfl]) (R7 ?_))))
   refine AAW (n:=3) (AC8 (AVb (G7 (A6 (A9 ?_)))))
   suffices key:Reg P N (toArray u.all2) .seq (⟨some u.e,.entry (.tmp u.t),ety,epos,eaf,none⟩::u.ops2) ds ((u.c,.bool true)::(u.n,.tuple #[.bool true,kv,vv])::L) w1 (fun ds' L' w'=>CW P N u.rest ds' L' w' (fun ds' L' w'=>ds'=ds/\∃l' s',I l' s' L' w'/\l'.length<l0.length) B (exB u.j2 (fun ds' L' w'=>ds'=ds/\∃l' s',I l' s' L' w'/\l'.length<l0.length) NoX) Z) B (exB u.j2 (fun ds' L' w'=>ds'=ds/\∃l' s',I l' s' L' w'/\l'.length<l0.length) NoX) Z by rw[<-u2]at key;exact key
   have U:Hp w0 [] M (U3 (κ:=den k) (α:=den v) r b c es xs (some y) l'::S) w1:=U
   have E:Adv (mm (U3 (κ:=den k) (α:=den v) r b c es xs none l0::S) M) (mm (U3 (κ:=den k) (α:=den v) r b c es xs (some y) l'::S) M) w w1:=E
   have hA2:Adv (mm S (r::M)) (mm S (r::M)) w w1:=⟨E.kp.mono fun x hx=>.inl ((Y1 rfl).2 hx),fun x hx=>(E.new x ((Y1 rfl).1 hx)).imp (Y1 rfl).2 id⟩
   have f:Sx.A4 ((u.c,.bool true)::(u.n,.tuple #[.bool true,kv,vv])::L) u.t=some (.pointer (some ⟨r,0,none⟩)):=by rw[look_cons,if_neg (fun e=>tc e.symm),look_cons,if_neg (fun e=>tn e.symm)];exact R
   refine ASr 0 U (j.adv E) rfl f c4 fun v5 hok hv=>?_
   obtain⟨seen1,hr1,T,_⟩:=U.get 0 rfl
   obtain⟨s',Q⟩:=hgo y l' hp
   have hS1:=hS.conv (AOp U rfl hr1) hA2 (fun _=>rfl) (fun _ _ e=>e) (out (.tuple #[.bool true,kv,vv]) (.bool true))
   have z:OkD (P:=P) (mm S (r::M)) w1 v y.2 v5:=Vl.adv (Adv.drop fun x hx=>(Y1 rfl).1 hx) hv
   letI AK:Anch:=AQ5 (α:=den v) inferInstance K (enc (P:=P) v) v.agg b es c xs
   letI FX:Fx:=fx1 r (.mapIter (some b) c seen1 c)
   have O:=HS.put (d:=u.e) (s:=.tup [F9 k y.1,F9 v y.2]) (v:=.tuple #[K.val y.1,v5]) hS1 ⟨[K.val y.1,v5],rfl,_,_,rfl,E5 k (hKo _ _ _ hok),_,_,rfl,E5 v z,rfl⟩
   have fin:∀σ3 L3 σ4 L4 w4,I3 hd σ4=some s'->Rel P (G0 u hd l) { C2 (u.t::G0 u hd l) hd σ s with env:=(u.e,.tup [F9 k y.1,F9 v y.2])::(C2 (u.t::G0 u hd l) hd σ s).env } σ3->EnvS (G0 u hd l) ((u.e,.tuple #[K.val y.1,v5])::(u.c,.bool true)::(u.n,.tuple #[.bool true,kv,vv])::L) L3->Rel P (D6 u.rest++D4 l) σ3 σ4->EnvS (D6 u.rest++D4 l) L3 L4->Holds (P:=P) w0 [] (r::M) σ4 L4 w4->ds=ds/\∃l' s',I l' s' L4 w4/\l'.length<l0.length:=fun σ3 L3 σ4 L4 w4 h4 F D V J C=>by
    obtain⟨S4,ρ4,γ4,μ4,ι4,hS4⟩:=C;have hR1:Rel P (u.t::G0 u hd l) σ (C2 (u.t::G0 u hd l) hd σ s):=ACW wsl fun _ h=>h;have hR2:Rel P (u.t::G0 u hd l) (C2 (u.t::G0 u hd l) hd σ s) { C2 (u.t::G0 u hd l) hd σ s with env:=(u.e,.tup [F9 k y.1,F9 v y.2])::(C2 (u.t::G0 u hd l) hd σ s).env }:=⟨fun _ h=>h,fun _ h=>h,fun i a h _=>⟨a,h,RelA.refl a⟩,fun t H q hq=>⟨q,by
     show A0 ((u.e,_)::_) t=_;rw[fnd_cons,if_neg (fun (e:u.e=t)=>H (e▸AYT _ we))];exact hq,Wk.refl q⟩⟩
    have hR:Rel P (u.t::G0 u hd l) σ σ4:=hR1.trans (hR2.trans ((F.mono fun t H=>AYT _ H).trans (V.mono fun t H=>AYT _ (wrs t H))));obtain⟨S5,ρ5,γ5,μ5,ι5,hS5⟩:=S9 (W:=u.t::G0 u hd l) (σ:=σ) hS4 hR h4;have hl4:Sx.A4 L4 u.t=some (.pointer (some ⟨r,0,none⟩)):=by
     rw[J u.t (fun h=>d6 (wrs _ h)),D u.t d6,look_cons,if_neg (fun e=>te e.symm)];exact f
    have hE9:EnvS (u.t::G0 u hd l) L0 L4:=o.trans (((EnvS.put u.n L _).mono fun t H=>by rw[mem_singleton.1 H];exact wn).trans (((EnvS.put u.c _ _).mono fun t H=>by rw[mem_singleton.1 H];exact wc).trans (((EnvS.put u.e _ _).mono fun t H=>by rw[mem_singleton.1 H];exact AYT _ we).trans ((D.mono fun t H=>AYT _ H).trans (J.mono fun t H=>AYT _ (wrs t H))))));exact⟨rfl,l',s',hnext y l' s' L4 w4 hp Q ⟨hE9,hl4,seen1,S5,ρ5,γ5,μ5,ι5,hS5,T⟩,by have:=hp.length_eq;simp at this;omega⟩
   refine V9 (P:=P) (w0:=w0) (Mu:=[]) (M:=r::M) (W:=G0 u hd l) hG u.ops2 _ _ _ Q wop ⟨S,ρ,γ,μ,ι,O⟩ fun σ3 L3 w3 hK3 F D hH3=>?_
   refine AAW (n:=3) (I7 hG u.rest l _ _ _ _ _ _ _ _ _ _ _ _ _ hK3 hH3 (fun σ4 L4 w4 h4 V J C=>fin σ3 L3 σ4 L4 w4 h4 F D V J C) (fun i σ4 L4 w4 h5 V J C=>?_) (fun _ _ _ _ _ h=>by cases h) (PZ.no.block c5))
   have p:(bif beq i u.j2 then I3 hd σ4 else none)=some s':=h5
   clear h5
   cases hb:beq i u.j2 with
   |false=>rw[hb,cond_false]at p;exact(A1 p).elim
   |true=>
    rw[hb,cond_true]at p
    have:=AYa hb
    subst this
    exact T8 (fin σ3 L3 σ4 L4 w4 p F D V J C)
end
end Go.Rx
namespace Go.Rx
open Go Go.Sx Go.RowKit Go.ChangeMaps
section
variable[Sg][Sf](G:Gx)
def ATq(f:Func)(an:An)(ps:List Pt)(cs:List Ck)(a:E8 ps):Option (I1 cs):=match f.body with
 |some c=>X4 G f.ntmps (V2 G cs f.results.toList) c an (V2 G cs f.results.toList) some ⟨ACH 0 ps a,[],[],[]⟩
 |none=>none
end
variable[Trk][Sg][Sf]{P:Program}[Se P]
section
variable[Anch]{w0 w:World}{M:List Nat}{σ:AS}{L:A5}{N:Nat}{Γ:Type}{pr:AS->Option Γ}{ds:List Deferred}{A B:A3}{X:Nat->A3}{Z:List PanicEntry->A3}
theorem ASC[Sl (P:=P)]{G:Gx}(hG:GxOk P G){a b:Code}{u:MU}(hu:AA0 a b=some u){an:An}{Y:Type}{KN:AS->Option Y}{z:Y}(h:mapM G N pr u an KN σ=some z)(hH:Holds (P:=P) w0 [] M σ L w)(hA:∀σ' L' w',KN σ'=some z->EnvS (wrE (.seq a b) an) L L'->Holds (P:=P) w0 [] M σ' L' w'->A ds L' w'):CW P N (.seq a b) ds L w A B X Z:=by
 have hw:∀hd ks l,wrE (.seq a b) (.lp hd ks l)=C7 u.pre++(u.t::G0 u hd l):=fun hd ks l=>by
  show(match AA0 a b with
   |some u=>_
   |none=>_)=_
  rw[hu]
 obtain⟨i,i1,i2,rty,rpos,raf,nty,npos,naf,cty,cpos,caf,ety,epos,eaf,rfl,rfl,u1,u2⟩:=AQH hu;cases an with
 |x=>exact(A1 h).elim
 |nd _ _=>exact(A1 h).elim
 |jn _ _=>exact(A1 h).elim
 |lp hd ks l=>
  have main:∀σ1 L1 w1,(match lk G.mp u.mt,B4 σ1.env u.x with
   |some (m,_,k,v),some sx=>match C4 (A0 σ1.res) (.mp m k v) sx,frz (A0 σ1.res) (B0 sx),AIa N u hd l with
    |some f,some fz,true=>match I3 hd (apps none fz σ1).start with
     |some s0=>AAg (show A2 (den k) (den v) from f) fun xs=>(List.foldlM (ADC G N pr u hd l (u.t::G0 u hd l) (apps none fz σ1).start k v) s0 xs).bind fun s=>KN (C2 (u.t::G0 u hd l) hd (apps none fz σ1).start s)
     |none=>none
    |_,_,_=>none
   |_,_=>none)=some z->EnvS (C7 u.pre) L L1->Holds (P:=P) w0 [] M σ1 L1 w1->Reg P N (toArray u.all) .seq [⟨some u.t,.range u.mt u.x,rty,rpos,raf,none⟩] ds L1 w1 (fun ds' L' w'=>CW P N (.block u.j (.loop (.seq (.region i1 (toArray [⟨some u.n,.next (.tmp u.t) false,nty,npos,naf,none⟩,⟨some u.c,.extract (.tmp u.n) 0,cty,cpos,caf,none⟩]) false) (.seq (.cond (.tmp u.c) .skip (.exit u.j)) (.block u.j2 (.seq (.region i2 (toArray u.all2) false) u.rest)))))) ds' L' w' A B X Z) B X Z:=by
   intro σ1 L1 w1 hK F E
   cases hl:lk G.mp u.mt with
   |none=>rw[hl]at hK;exact(A1 hK).elim
   |some q=>
    obtain⟨m,e,k,v⟩:=q
    rw[hl]at hK
    cases hx:B4 σ1.env u.x with
    |none=>rw[hx]at hK;exact(A1 hK).elim
    |some sx=>
     rw[hx]at hK
     simp only at hK
     generalize H:C4 (A0 σ1.res) (.mp m k v) sx=o1 at hK
     generalize hz:frz (A0 σ1.res) (B0 sx)=o2 at hK
     generalize hc:AIa N u hd l=o3 at hK
     cases o1 with
     |none=>exact(A1 hK).elim
     |some f=>
     cases o2 with
     |none=>exact(A1 hK).elim
     |some fz=>
     cases o3 with
     |false=>exact(A1 hK).elim
     |true=>
     simp only at hK
     cases h0:I3 hd (apps none fz σ1).start with
     |none=>rw[h0]at hK;exact(A1 hK).elim
     |some s0=>
     rw[h0]at hK
     simp only at hK
     have T:=hc
     simp only[AIa,Bool.and_eq_true,Bool.not_eq_true']at T
     obtain⟨⟨⟨⟨⟨⟨⟨c1,_⟩,_⟩,_⟩,_⟩,c6⟩,_⟩,_⟩:=T
     have d6:u.t∉G0 u hd l:=fun h=>by rw[has_iff.2 h]at c6;cases c6
     obtain⟨K,hKy,hKv,j,hzv,hKo⟩:=AGf hG.mp hl
     obtain⟨S,ρ,γ,μ,ι,hS⟩:=E
     obtain⟨vx,e1,e2⟩:=hS.ev hx
     obtain⟨S1,ι1,k1,k2,k3⟩:=hS.frzO (d:=none) hz
     have k4:OkD (P:=P) (mm S1 M) w1 (.mp m k v) f vx:=H8 k3 (.mp m k v) sx k2.1 H e2
     have k5:RdF K (enc (P:=P) v) v.agg (mm S1 M) w1 vx f:=by
      obtain⟨cs,⟨u',K',rfl,R,hf⟩,⟨hh,_⟩|⟨_,hh⟩⟩:=k4
      . cases hh
      . rw[hKy]at R;cases R;rw[<-List.singleton_inj.1 hh];exact hf
     have k6:@HS _ _ _ P _ (ANN inferInstance (fun M w=>RdF K (enc (P:=P) v) v.agg M w vx f) (fun h a=>h.adv a)) _ w0 [] M (apps none fz σ1).start L1 w1 S1 ρ γ μ ι1:=HS.anchX _ _ (⟨k1.hp,k1.res,k1.inj,k1.row,k1.env,k1.anch⟩:HS (P:=P) w0 [] M (apps none fz σ1).start L1 w1 S1 ρ γ μ ι1) fun h=>⟨h,k5⟩
     obtain⟨S3,ρ3,γ3,μ3,ι3,k7⟩:@Holds _ _ _ P _ (ANN inferInstance (fun M w=>RdF K (enc (P:=P) v) v.agg M w vx f) (fun h a=>h.adv a)) _ w0 [] M (C2 (u.t::G0 u hd l) hd (apps none fz σ1).start s0) L1 w1:=by
      letI:Anch:=ANN inferInstance (fun M w=>RdF K (enc (P:=P) v) v.agg M w vx f) (fun h a=>h.adv a)
      exact S9 k6 (Rel.refl _) h0
     obtain⟨q1,_,_,_,_,q6⟩:=id k7
     have hRd:RdF K (enc (P:=P) v) v.agg (mm S3 M) w1 vx f:=q6.1.2
     refine ASp q1 hRd e1 j c1 fun r b c es xs w2 hX hLs V hA2=>Reg.nil ?_
     obtain⟨seen,p,hpm,_⟩:=V.get 0 rfl
     have o:w0.heap.size<=r:=((V.own _ (AYX ..)).2 r (mem_singleton.2 rfl)).elim (fun h=>by cases h) id
     have hM0:MLt M w0:=q1.base0
     have g:Adv (mm S3 M) (mm S3 (r::M)) w1 w2:=hA2.trans (Adv.drop fun x hx=>(Y1 rfl).1 hx)
     have Q:u.t∈u.t::G0 u hd l:=AYX ..
     have n:∀t∈J0 hd.cs,t∈G0 u hd l:=fun t H=>AYT _ (AYT _ (AYT _ (AYV _ H)))
     have hI0:AK0 P w0 M u K r b c es xs (u.t::G0 u hd l) L1 (C2 (u.t::G0 u hd l) hd (apps none fz σ1).start s0) ((u.t,.pointer (some ⟨r,0,none⟩))::L1) w2 xs:=by
      refine⟨(EnvS.put u.t L1 _).mono fun t H=>by rw[mem_singleton.1 H];exact Q,by rw[look_cons,AYf rfl],seen,S3,ρ3,γ3,μ3,ι3,?_,hpm⟩;have k8:=k7.conv (L':=(u.t,.pointer (some ⟨r,0,none⟩))::L1) (AOp V rfl p) g (fun _=>rfl) (fun _ _ e=>e) fun t q H=>by
       rw[look_cons,if_neg (fun (e:u.t=t)=>d6 (n _ (by subst e;exact ADk H Q)))]
      exact @HS.anchX _ _ _ P _ (fx1 r _) _ _ _ _ _ _ _ _ _ _ _ _ _ k8 fun h=>⟨h.1,hX.adv g⟩
     obtain⟨Bd,hBd,U⟩:=AJ0 hK hLs
     subst hBd
     refine G7 (ABb (ι:=A5×N6 hd.cs×List (den k×den v)) (fun i=>i.1) (fun i W=>AK0 P w0 M u K r b c es xs (u.t::G0 u hd l) L1 (C2 (u.t::G0 u hd l) hd (apps none fz σ1).start i.2.1) i.1 W i.2.2/\∃d:List (den k×den v),(d++i.2.2).Perm xs/\List.foldlM (ADC G N pr u hd l (u.t::G0 u hd l) (apps none fz σ1).start k v) s0 d=some i.2.1) (fun i=>i.2.2.length) (_,s0,xs) ⟨hI0,[],AZh _,rfl⟩ (Sub.refl _) ?_)
     rintro⟨L3,s,l3⟩ w3 ⟨hI,d,J,C⟩
     have J:(d++l3).Perm xs:=J
     refine ARN (AOq (pr:=pr) (B:=B) (X:=X) (Z:=Z) hG hKo hc o hM0 u2 hI (A:=A) (I:=fun l' s' L' W=>AK0 P w0 M u K r b c es xs (u.t::G0 u hd l) L1 (C2 (u.t::G0 u hd l) hd (apps none fz σ1).start s') L' W l'/\∃d:List (den k×den v),(d++l').Perm xs/\List.foldlM (ADC G N pr u hd l (u.t::G0 u hd l) (apps none fz σ1).start k v) s0 d=some s') (fun L' w' hl hE9 hH=>?_) (fun y l' hp=>?_) (fun y l' s' L' w' hp hr' D=>⟨D,d++[y],?_,?_⟩)) fun e a w hq=>?_
     . subst hl
       obtain⟨s9,O,hk9⟩:=U d (by simpa using J)
       rw[C]at O
       cases O
       exact hA _ _ _ hk9 (by rw[hw];exact(F.mono fun t H=>AYV _ H).trans (hE9.mono fun t H=>AYW _ H)) hH
     . obtain⟨s9,O,_⟩:=U (d++(y::l')) (((AZh d).append hp.symm).trans J)
       rw[AZa,C]at O
       simp only[Option.bind_eq_bind,Option.bind_some,List.foldlM_cons]at O
       cases hb:ADC G N pr u hd l (u.t::G0 u hd l) (apps none fz σ1).start k v s y with
       |none=>rw[hb]at O;cases O
       |some s'=>exact⟨s',rfl⟩
     . rw[AYv];exact((AZh d).append hp.symm).trans J
     . rw[AZa,C]
       simp only[Option.bind_eq_bind,Option.bind_some,List.foldlM_cons,hr',List.foldlM_nil]
       rfl
     . cases e with
       |normal=>
        obtain⟨ds',L',ha,rfl,l',s',D,hlt⟩:=hq
        exact⟨_,L',ha,rfl,(L',s',l'),D,Sub.refl _,hlt⟩
       |_=>exact hq
  refine A6 (A9 ?_)
  have key:=V9 (P:=P) (w0:=w0) (Mu:=[]) (M:=M) (A:=fun ds1 L1 w1=>Reg P N (toArray u.all) .seq [⟨some u.t,.range u.mt u.x,rty,rpos,raf,none⟩] ds1 L1 w1 (fun ds' L' w'=>CW P N (.block u.j (.loop (.seq (.region i1 (toArray [⟨some u.n,.next (.tmp u.t) false,nty,npos,naf,none⟩,⟨some u.c,.extract (.tmp u.n) 0,cty,cpos,caf,none⟩]) false) (.seq (.cond (.tmp u.c) .skip (.exit u.j)) (.block u.j2 (.seq (.region i2 (toArray u.all2) false) u.rest)))))) ds' L' w' A B X Z) B X Z) (B:=B) (X:=X) (Z:=Z) (W:=C7 u.pre) hG u.pre σ L w h (fun t H=>H) hH fun σ1 L1 w1 hK _ F E=>main σ1 L1 w1 hK F E
  rw[u1]at key ⊢
  exact fun a ha=>AAX (fun a w h=>by
   obtain⟨ds',L',hk,hr⟩:=h;exact hr a hk) u.pre a w (key a ha)
theorem AG0[Sl (P:=P)]{G:Gx}(Q:GxOk P G):∀(c:Code) (an:An) {Y:Type} {KN:AS->Option Y} {KR:Γ->Option Y} {σ:AS} {L:A5} {w:World} {z:Y} {A B:A3} {X:Nat->A3} {Z:List PanicEntry->A3},X4 G N pr c an KN KR σ=some z->Holds (P:=P) w0 [] M σ L w ->
  (∀σ' L' w',KN σ'=some z->EnvS (wrE c an) L L'->Holds (P:=P) w0 [] M σ' L' w'->A ds L' w')->(∀r σ' L' w',pr σ'=some r->KR r=some z->Holds (P:=P) w0 [] M σ' L' w'->B ds L' w')->CW P N c ds L w A B X Z:=by
 intro c
 have plain:∀(c:Code) (an:An) {Y:Type} {KN:AS->Option Y} {KR:Γ->Option Y} {σ:AS} {L:A5} {w:World} {z:Y} {A B:A3} {X:Nat->A3} {Z:List PanicEntry->A3},exec G N pr c an KN (fun _ _=>none) KR σ=some z->Holds (P:=P) w0 [] M σ L w ->
   (∀σ' L' w',KN σ'=some z->EnvS (D6 c++D4 an) L L'->Holds (P:=P) w0 [] M σ' L' w'->A ds L' w')->(∀r σ' L' w',pr σ'=some r->KR r=some z->Holds (P:=P) w0 [] M σ' L' w'->B ds L' w')->CW P N c ds L w A B X Z:=fun c an {_ _ _ _ _ _ _ _ _ _ _} h W hA U=>
  AAW (n:=3) (AC8 (I7 Q c an _ _ _ _ _ _ _ _ _ _ _ _ _ h W (fun σ1 L1 w1 F _ J I=>hA σ1 L1 w1 F J I) (fun i σ2 L2 w2 D=>by cases D) (fun r σ2 L2 w2 D T _ H=>U r σ2 L2 w2 D T H) PZ.no))
 induction c with
 |seq a b iha ihb=>
  intro an Y KN KR σ L w z A B X Z h W hA U
  have h:(match AA0 a b with
   |some u=>mapM G N pr u an KN σ
   |none=>match ABt a with
    |true=>X4 G N pr a an.l (fun σ'=>X4 G N pr b an.r KN KR σ') KR σ
    |false=>exec G N pr a an.l (fun σ'=>X4 G N pr b an.r KN KR σ') (fun _ _=>none) KR σ)=some z:=h
  have E:wrE (.seq a b) an=(match (generalizing:=false) AA0 a b with
   |some u=>match (generalizing:=false) an with
    |.lp hd _ l=>C7 u.pre++(u.t::G0 u hd l)
    |_=>[]
   |none=>match (generalizing:=false) ABt a with
    |true=>wrE a an.l++wrE b an.r
    |false=>(D6 a++D4 an.l)++wrE b an.r):=rfl
  cases K:AA0 a b with
  |some u=>rw[K]at h;exact ASC Q K h W hA
  |none=>
   rw[K]at h E
   simp only at h E
   cases O:ABt a with
   |true=>
    rw[O]at h E
    exact A6 (iha an.l h W (fun σ1 L1 w1 F J I=>ihb an.r F I (fun σ2 L2 w2 D C H=>hA σ2 L2 w2 D (by rw[E];exact(J.mono fun t V=>AYV _ V).trans (C.mono fun t V=>AYW _ V)) H) U) U)
   |false=>
    rw[O]at h E
    exact A6 (plain a an.l h W (fun σ1 L1 w1 F J I=>ihb an.r F I (fun σ2 L2 w2 D C H=>hA σ2 L2 w2 D (by rw[E];exact(J.mono fun t V=>AYV _ V).trans (C.mono fun t V=>AYW _ V)) H) U) U)
 |_=>intro an Y KN KR σ L w z A B X Z h W hA U;exact plain _ an h W hA U
end
theorem ASD[Sl (P:=P)]{G:Gx}(D:GxOk P G){k:Nat}{f:Func}{c:Code}{an:An}{ps:List Pt}{cs:List Ck}{F:E8 ps->Option (I1 cs)}(T:P.funcs[k]?=some f)(W:f.body=some c)(hl:Nat.ble ps.length f.ntmps=true)(O:Nat.ble cs.length 4=true)(K:Nat.ble (ADh cs) 1=true)(A:∀a,F a=ATq G f an ps cs a):Ctr.ok P k ⟨ps,cs,F⟩:=by
 refine⟨AYy K,fun M w a vals r Y Q C H=>?_⟩;have H:F a=some r:=H;rw[A]at H;unfold ATq at H;rw[W]at H;have I:∀(ps:List Pt) {a:E8 ps} {vals:List Value},ArgsOk M w ps a vals->vals.length=ps.length:=by
  intro ps;induction ps with
  |nil=>intro a vals h;have h:vals=[]:=h;rw[h];rfl
  |cons p ps ih=>intro a vals h;obtain⟨v,r,rfl,_,U⟩:=h;simp[ih U]
 have R:Holds (P:=P) w [] M ⟨ACH 0 ps a,[],[],[]⟩ (X9 0 vals) w:=by
  refine⟨[],fun _=>undef,fun _=>[],fun _=>[],fun _=>0,Hp.start Y,(fun i a h=>by cases h),(fun i j a b h=>by cases h),(fun i a h=>by cases h),fun t s h=>?_,trivial,Q⟩;exact AIZ ps 0 C t s h
 have fin:∀σ' L' w',V2 G cs f.results.toList σ'=some r->Holds (P:=P) w [] M σ' L' w'->AB7 P f (fun e w'=>∃vs,e=.returned (ACF vs)/\KsOk (P:=P) M (obK cs vs++M) w w' cs r vs/\Ext w w') [] L' w':=fun σ' L' w' V J=>by
  obtain⟨vs,Z,U,X,B⟩:=AMB D J V;exact P9 (by simp) Z (by rw[U];exact O) ⟨vs,by rw[AEk],X,B⟩
 refine I0 T W rfl (by rw[I ps C];exact hl) ?_;exact AG0 D c an H R (fun σ' L' w' V _ J=>fin σ' L' w' V J) fun r' σ' L' w' E hk J=>by
  have hk:r'=r:=AYS hk;subst hk;exact fin σ' L' w' E J
end Go.Rx
namespace Go.Proofs.YtgioiejbphljoaaGreatDoor
open Go Go.Sx Go.Rx Go.RowKit
variable[Trk]
@[ext] structure Terms where
 answer:Int
 mark:Int
 lately:Int
 deriving DecidableEq
def TermsE:Enc Terms:=R4 (fun x=>(x.answer,(x.mark,x.lately))) (B1 (B2 .i64) (B1 (B2 .i64) ((B2 .i64))))
theorem AK1{M:List Nat}{w:World}{cs:List Value}{x:Terms}:TermsE.R M w cs x↔cs=[Value.int .i64 x.answer,Value.int .i64 x.mark,Value.int .i64 x.lately]/\InK .i64 x.answer/\InK .i64 x.mark/\InK .i64 x.lately:=by
 simp only[TermsE,mapE_R,prodE_R,intE_R];constructor
 . rintro⟨_,_,rfl,⟨rfl,J⟩,_,_,rfl,⟨rfl,I⟩,rfl,H⟩;exact⟨rfl,J,I,H⟩
 . rintro⟨rfl,J,I,H⟩;exact⟨[_],_,rfl,⟨rfl,J⟩,[_],_,rfl,⟨rfl,I⟩,rfl,H⟩
theorem AQI(x y:Terms)(w:World):(Op.equalIn 10000 23 (.agg (toArray [Value.int .i64 x.answer,Value.int .i64 x.mark,Value.int .i64 x.lately])) (.agg (toArray [Value.int .i64 y.answer,Value.int .i64 y.mark,Value.int .i64 y.lately]))).run prog w=.ok (decide (x=y)) w:=by
 have H:prog.underlying 23=some (.struct (prog.fieldsOf 23)):=by simp[Program.fieldsOf,underlying23]
 rw[show(10000:Nat)=9999+1 from rfl,run_equalIn_agg w 9999 23 _ _ H stoodInHeld23];cases x;cases y
 simp[Program.fieldsOf,underlying23,Op.eqFields,part,isAgg3,run_equalIn_int w 9998 3 .i64 .i64 _ _ underlying3];repeat' split
 all_goals simp_all
@[ext] structure Report where
 id:Int
 source:Int
 account:Int
 made:Int
 about:Int
 kind:Int
 cents:Int
 of_:Int
 deriving DecidableEq
def ReportE:Enc Report:=R4 (fun x=>(x.id,(x.source,(x.account,(x.made,(x.about,(x.kind,(x.cents,x.of_)))))))) (B1 (B2 .i64) (B1 (B2 .i64) (B1 (B2 .i64) (B1 (B2 .i64) (B1 (B2 .i64) (B1 (B2 .u8) (B1 (B2 .i64) ((B2 .i64)))))))))
theorem ReportE_R{M:List Nat}{w:World}{cs:List Value}{x:Report}:ReportE.R M w cs x↔cs=[Value.int .i64 x.id,Value.int .i64 x.source,Value.int .i64 x.account,Value.int .i64 x.made,Value.int .i64 x.about,Value.int .u8 x.kind,Value.int .i64 x.cents,Value.int .i64 x.of_]/\InK .i64 x.id/\InK .i64 x.source/\InK .i64 x.account/\InK .i64 x.made/\InK .i64 x.about/\InK .u8 x.kind/\InK .i64 x.cents/\InK .i64 x.of_:=by
 simp only[ReportE,mapE_R,prodE_R,intE_R];constructor
 . rintro⟨_,_,rfl,⟨rfl,D⟩,_,_,rfl,⟨rfl,C⟩,_,_,rfl,⟨rfl,W⟩,_,_,rfl,⟨rfl,V⟩,_,_,rfl,⟨rfl,U⟩,_,_,rfl,⟨rfl,J⟩,_,_,rfl,⟨rfl,I⟩,rfl,H⟩;exact⟨rfl,D,C,W,V,U,J,I,H⟩
 . rintro⟨rfl,D,C,W,V,U,J,I,H⟩;exact⟨[_],_,rfl,⟨rfl,D⟩,[_],_,rfl,⟨rfl,C⟩,[_],_,rfl,⟨rfl,W⟩,[_],_,rfl,⟨rfl,V⟩,[_],_,rfl,⟨rfl,U⟩,[_],_,rfl,⟨rfl,J⟩,[_],_,rfl,⟨rfl,I⟩,rfl,H⟩
theorem AOr(x y:Report)(w:World):(Op.equalIn 10000 45 (.agg (toArray [Value.int .i64 x.id,Value.int .i64 x.source,Value.int .i64 x.account,Value.int .i64 x.made,Value.int .i64 x.about,Value.int .u8 x.kind,Value.int .i64 x.cents,Value.int .i64 x.of_])) (.agg (toArray [Value.int .i64 y.id,Value.int .i64 y.source,Value.int .i64 y.account,Value.int .i64 y.made,Value.int .i64 y.about,Value.int .u8 y.kind,Value.int .i64 y.cents,Value.int .i64 y.of_]))).run prog w=.ok (decide (x=y)) w:=by
 have H:prog.underlying 45=some (.struct (prog.fieldsOf 45)):=by simp[Program.fieldsOf,underlying45]
 rw[show(10000:Nat)=9999+1 from rfl,run_equalIn_agg w 9999 45 _ _ H stoodInHeld45];cases x;cases y
 simp[Program.fieldsOf,underlying45,Op.eqFields,part,isAgg3,run_equalIn_int w 9998 3 .i64 .i64 _ _ underlying3,isAgg5,run_equalIn_int w 9998 5 .u8 .u8 _ _ underlying5];repeat' split
 all_goals simp_all
@[ext] structure Dispute where
 id:Int
 report:Int
 day:Int
 deriving DecidableEq
def DisputeE:Enc Dispute:=R4 (fun x=>(x.id,(x.report,x.day))) (B1 (B2 .i64) (B1 (B2 .i64) ((B2 .i64))))
theorem DisputeE_R{M:List Nat}{w:World}{cs:List Value}{x:Dispute}:DisputeE.R M w cs x↔cs=[Value.int .i64 x.id,Value.int .i64 x.report,Value.int .i64 x.day]/\InK .i64 x.id/\InK .i64 x.report/\InK .i64 x.day:=by
 simp only[DisputeE,mapE_R,prodE_R,intE_R];constructor
 . rintro⟨_,_,rfl,⟨rfl,J⟩,_,_,rfl,⟨rfl,I⟩,rfl,H⟩;exact⟨rfl,J,I,H⟩
 . rintro⟨rfl,J,I,H⟩;exact⟨[_],_,rfl,⟨rfl,J⟩,[_],_,rfl,⟨rfl,I⟩,rfl,H⟩
theorem ANO(x y:Dispute)(w:World):(Op.equalIn 10000 53 (.agg (toArray [Value.int .i64 x.id,Value.int .i64 x.report,Value.int .i64 x.day])) (.agg (toArray [Value.int .i64 y.id,Value.int .i64 y.report,Value.int .i64 y.day]))).run prog w=.ok (decide (x=y)) w:=by
 have H:prog.underlying 53=some (.struct (prog.fieldsOf 53)):=by simp[Program.fieldsOf,underlying53]
 rw[show(10000:Nat)=9999+1 from rfl,run_equalIn_agg w 9999 53 _ _ H stoodInHeld53];cases x;cases y
 simp[Program.fieldsOf,underlying53,Op.eqFields,part,isAgg3,run_equalIn_int w 9998 3 .i64 .i64 _ _ underlying3];repeat' split
 all_goals simp_all
@[ext] structure Answer where
 id:Int
 dispute:Int
 day:Int
 says:Int
 about:Int
 cents:Int
 deriving DecidableEq
def AnswerE:Enc Answer:=R4 (fun x=>(x.id,(x.dispute,(x.day,(x.says,(x.about,x.cents)))))) (B1 (B2 .i64) (B1 (B2 .i64) (B1 (B2 .i64) (B1 (B2 .u8) (B1 (B2 .i64) ((B2 .i64)))))))
theorem AnswerE_R{M:List Nat}{w:World}{cs:List Value}{x:Answer}:AnswerE.R M w cs x↔cs=[Value.int .i64 x.id,Value.int .i64 x.dispute,Value.int .i64 x.day,Value.int .u8 x.says,Value.int .i64 x.about,Value.int .i64 x.cents]/\InK .i64 x.id/\InK .i64 x.dispute/\InK .i64 x.day/\InK .u8 x.says/\InK .i64 x.about/\InK .i64 x.cents:=by
 simp only[AnswerE,mapE_R,prodE_R,intE_R];constructor
 . rintro⟨_,_,rfl,⟨rfl,W⟩,_,_,rfl,⟨rfl,V⟩,_,_,rfl,⟨rfl,U⟩,_,_,rfl,⟨rfl,J⟩,_,_,rfl,⟨rfl,I⟩,rfl,H⟩;exact⟨rfl,W,V,U,J,I,H⟩
 . rintro⟨rfl,W,V,U,J,I,H⟩;exact⟨[_],_,rfl,⟨rfl,W⟩,[_],_,rfl,⟨rfl,V⟩,[_],_,rfl,⟨rfl,U⟩,[_],_,rfl,⟨rfl,J⟩,[_],_,rfl,⟨rfl,I⟩,rfl,H⟩
theorem AOs(x y:Answer)(w:World):(Op.equalIn 10000 60 (.agg (toArray [Value.int .i64 x.id,Value.int .i64 x.dispute,Value.int .i64 x.day,Value.int .u8 x.says,Value.int .i64 x.about,Value.int .i64 x.cents])) (.agg (toArray [Value.int .i64 y.id,Value.int .i64 y.dispute,Value.int .i64 y.day,Value.int .u8 y.says,Value.int .i64 y.about,Value.int .i64 y.cents]))).run prog w=.ok (decide (x=y)) w:=by
 have H:prog.underlying 60=some (.struct (prog.fieldsOf 60)):=by simp[Program.fieldsOf,underlying60]
 rw[show(10000:Nat)=9999+1 from rfl,run_equalIn_agg w 9999 60 _ _ H stoodInHeld60];cases x;cases y
 simp[Program.fieldsOf,underlying60,Op.eqFields,part,isAgg3,run_equalIn_int w 9998 3 .i64 .i64 _ _ underlying3,isAgg5,run_equalIn_int w 9998 5 .u8 .u8 _ _ underlying5];repeat' split
 all_goals simp_all
@[ext] structure Desk where
 terms:Terms
 reports:(List Report)
 disputes:(List Dispute)
 answers:(List Answer)
 deriving DecidableEq
def DeskE:Enc Desk:=R4 (fun x=>(x.terms.answer,(x.terms.mark,(x.terms.lately,(x.reports,(x.disputes,x.answers)))))) (B1 (B2 .i64) (B1 (B2 .i64) (B1 (B2 .i64) (B1 (E7 ReportE) (B1 (E7 DisputeE) (E7 AnswerE))))))
@[ext] structure Asked where
 id:Int
 who:Int
 account:Int
 day:Int
 deriving DecidableEq
def AskedE:Enc Asked:=R4 (fun x=>(x.id,(x.who,(x.account,x.day)))) (B1 (B2 .i64) (B1 (B2 .i64) (B1 (B2 .i64) ((B2 .i64)))))
theorem AG1{M:List Nat}{w:World}{cs:List Value}{x:Asked}:AskedE.R M w cs x↔cs=[Value.int .i64 x.id,Value.int .i64 x.who,Value.int .i64 x.account,Value.int .i64 x.day]/\InK .i64 x.id/\InK .i64 x.who/\InK .i64 x.account/\InK .i64 x.day:=by
 simp only[AskedE,mapE_R,prodE_R,intE_R];constructor
 . rintro⟨_,_,rfl,⟨rfl,U⟩,_,_,rfl,⟨rfl,J⟩,_,_,rfl,⟨rfl,I⟩,rfl,H⟩;exact⟨rfl,U,J,I,H⟩
 . rintro⟨rfl,U,J,I,H⟩;exact⟨[_],_,rfl,⟨rfl,U⟩,[_],_,rfl,⟨rfl,J⟩,[_],_,rfl,⟨rfl,I⟩,rfl,H⟩
theorem AQJ(x y:Asked)(w:World):(Op.equalIn 10000 47 (.agg (toArray [Value.int .i64 x.id,Value.int .i64 x.who,Value.int .i64 x.account,Value.int .i64 x.day])) (.agg (toArray [Value.int .i64 y.id,Value.int .i64 y.who,Value.int .i64 y.account,Value.int .i64 y.day]))).run prog w=.ok (decide (x=y)) w:=by
 have H:prog.underlying 47=some (.struct (prog.fieldsOf 47)):=by simp[Program.fieldsOf,underlying47]
 rw[show(10000:Nat)=9999+1 from rfl,run_equalIn_agg w 9999 47 _ _ H stoodInHeld47];cases x;cases y
 simp[Program.fieldsOf,underlying47,Op.eqFields,part,isAgg3,run_equalIn_int w 9998 3 .i64 .i64 _ _ underlying3];repeat' split
 all_goals simp_all
@[ext] structure Letter where
 dispute:Int
 who:Int
 asked:Int
 deriving DecidableEq
def LetterE:Enc Letter:=R4 (fun x=>(x.dispute,(x.who,x.asked))) (B1 (B2 .i64) (B1 (B2 .i64) ((B2 .i64))))
theorem LetterE_R{M:List Nat}{w:World}{cs:List Value}{x:Letter}:LetterE.R M w cs x↔cs=[Value.int .i64 x.dispute,Value.int .i64 x.who,Value.int .i64 x.asked]/\InK .i64 x.dispute/\InK .i64 x.who/\InK .i64 x.asked:=by
 simp only[LetterE,mapE_R,prodE_R,intE_R];constructor
 . rintro⟨_,_,rfl,⟨rfl,J⟩,_,_,rfl,⟨rfl,I⟩,rfl,H⟩;exact⟨rfl,J,I,H⟩
 . rintro⟨rfl,J,I,H⟩;exact⟨[_],_,rfl,⟨rfl,J⟩,[_],_,rfl,⟨rfl,I⟩,rfl,H⟩
theorem AOt(x y:Letter)(w:World):(Op.equalIn 10000 70 (.agg (toArray [Value.int .i64 x.dispute,Value.int .i64 x.who,Value.int .i64 x.asked])) (.agg (toArray [Value.int .i64 y.dispute,Value.int .i64 y.who,Value.int .i64 y.asked]))).run prog w=.ok (decide (x=y)) w:=by
 have H:prog.underlying 70=some (.struct (prog.fieldsOf 70)):=by simp[Program.fieldsOf,underlying70]
 rw[show(10000:Nat)=9999+1 from rfl,run_equalIn_agg w 9999 70 _ _ H stoodInHeld70];cases x;cases y
 simp[Program.fieldsOf,underlying70,Op.eqFields,part,isAgg3,run_equalIn_int w 9998 3 .i64 .i64 _ _ underlying3];repeat' split
 all_goals simp_all
@[ext] structure Told where
 known:Int
 cents:Int
 since:Int
 by_:(List Int)
 deriving DecidableEq
def AJc:Enc Told:=R4 (fun x=>(x.known,(x.cents,(x.since,x.by_)))) (B1 (B2 .u8) (B1 (B2 .i64) (B1 (B2 .i64) (E7 (B2 .i64)))))
@[ext] structure Span where
 lo:Int
 hi:Int
 deriving DecidableEq
def SpanE:Enc Span:=R4 (fun x=>(x.lo,x.hi)) (B1 (B2 .i64) ((B2 .i64)))
theorem AMD{M:List Nat}{w:World}{cs:List Value}{x:Span}:SpanE.R M w cs x↔cs=[Value.int .i64 x.lo,Value.int .i64 x.hi]/\InK .i64 x.lo/\InK .i64 x.hi:=by
 simp only[SpanE,mapE_R,prodE_R,intE_R];constructor
 . rintro⟨_,_,rfl,⟨rfl,I⟩,rfl,H⟩;exact⟨rfl,I,H⟩
 . rintro⟨rfl,I,H⟩;exact⟨[_],_,rfl,⟨rfl,I⟩,rfl,H⟩
theorem ASE(x y:Span)(w:World):(Op.equalIn 10000 88 (.agg (toArray [Value.int .i64 x.lo,Value.int .i64 x.hi])) (.agg (toArray [Value.int .i64 y.lo,Value.int .i64 y.hi]))).run prog w=.ok (decide (x=y)) w:=by
 have H:prog.underlying 88=some (.struct (prog.fieldsOf 88)):=by simp[Program.fieldsOf,underlying88]
 rw[show(10000:Nat)=9999+1 from rfl,run_equalIn_agg w 9999 88 _ _ H stoodInHeld88];cases x;cases y
 simp[Program.fieldsOf,underlying88,Op.eqFields,part,isAgg3,run_equalIn_int w 9998 3 .i64 .i64 _ _ underlying3];repeat' split
 all_goals simp_all
@[ext] structure State where
 opened:Told
 limit:Told
 owed:Told
 late:Told
 default:Told
 closed:Told
 paid:Span
 is_:Int
 deriving DecidableEq
def AHt:Enc State:=R4 (fun x=>(x.opened.known,(x.opened.cents,(x.opened.since,(x.opened.by_,(x.limit.known,(x.limit.cents,(x.limit.since,(x.limit.by_,(x.owed.known,(x.owed.cents,(x.owed.since,(x.owed.by_,(x.late.known,(x.late.cents,(x.late.since,(x.late.by_,(x.default.known,(x.default.cents,(x.default.since,(x.default.by_,(x.closed.known,(x.closed.cents,(x.closed.since,(x.closed.by_,(x.paid.lo,(x.paid.hi,x.is_))))))))))))))))))))))))))) (B1 (B2 .u8) (B1 (B2 .i64) (B1 (B2 .i64) (B1 (E7 (B2 .i64)) (B1 (B2 .u8) (B1 (B2 .i64) (B1 (B2 .i64) (B1 (E7 (B2 .i64)) (B1 (B2 .u8) (B1 (B2 .i64) (B1 (B2 .i64) (B1 (E7 (B2 .i64)) (B1 (B2 .u8) (B1 (B2 .i64) (B1 (B2 .i64) (B1 (E7 (B2 .i64)) (B1 (B2 .u8) (B1 (B2 .i64) (B1 (B2 .i64) (B1 (E7 (B2 .i64)) (B1 (B2 .u8) (B1 (B2 .i64) (B1 (B2 .i64) (B1 (E7 (B2 .i64)) (B1 (B2 .i64) (B1 (B2 .i64) (B2 .u8)))))))))))))))))))))))))))
@[ext] structure Desk_99 where
 desk:Desk
 facts:(A2 Int Report)
 answers:(A2 Int (List Answer))
def AQK:Enc Desk_99:=R4 (fun x=>(x.desk.terms.answer,(x.desk.terms.mark,(x.desk.terms.lately,(x.desk.reports,(x.desk.disputes,(x.desk.answers,(x.facts,x.answers)))))))) (B1 (B2 .i64) (B1 (B2 .i64) (B1 (B2 .i64) (B1 (E7 ReportE) (B1 (E7 DisputeE) (B1 (E7 AnswerE) (B1 (mpE (some (X0 .i64 underlying3)) ReportE true) (mpE (some (X0 .i64 underlying3)) (E7 AnswerE) false))))))))
@[ext] structure Arr116 where
 x0:Int
 x1:Int
 deriving DecidableEq
def AF3:Enc Arr116:=R4 (fun x=>(x.x0,x.x1)) (B1 (B2 .i64) (B2 .i64))
@[ext] structure Verdict where
 day:Int
 is_:Int
 by_:Answer
 deriving DecidableEq
def AEl:Enc Verdict:=R4 (fun x=>(x.day,(x.is_,(x.by_.id,(x.by_.dispute,(x.by_.day,(x.by_.says,(x.by_.about,x.by_.cents)))))))) (B1 (B2 .i64) (B1 (B2 .u8) (B1 (B2 .i64) (B1 (B2 .i64) (B1 (B2 .i64) (B1 (B2 .u8) (B1 (B2 .i64) (B2 .i64))))))))
@[ext] structure Store where
 reports:(A2 Int Report)
def ATr:Enc Store:=R4 (fun x=>x.reports) (mpE (some (X0 .i64 underlying3)) ReportE true)
@[ext] structure Desk_139 where
 store:Store
 gone:(A2 Int Int)
 fixed:(A2 Int Int)
def AOu:Enc Desk_139:=R4 (fun x=>(x.store.reports,(x.gone,x.fixed))) (B1 (mpE (some (X0 .i64 underlying3)) ReportE true) (B1 (mpE (some (X0 .i64 underlying3)) (B2 .i64) false) (mpE (some (X0 .i64 underlying3)) (B2 .i64) false)))
@[ext] structure Book where
 facts:(List Report)
 deriving DecidableEq
def AJd:Enc Book:=R4 (fun x=>x.facts) (E7 ReportE)
@[ext] structure Payer where
 day:Int
 source:Int
 deriving DecidableEq
def AHu:Enc Payer:=R4 (fun x=>(x.day,x.source)) (B1 (B2 .i64) (B2 .i64))
instance:Sg where
 S:=fun
  |0=>Terms
  |1=>Report
  |2=>Dispute
  |3=>Answer
  |4=>Desk
  |5=>Asked
  |6=>Letter
  |7=>Told
  |8=>Span
  |9=>State
  |10=>Desk_99
  |11=>Arr116
  |12=>Verdict
  |13=>Store
  |14=>Desk_139
  |15=>Book
  |16=>Payer
  |_+17=>Bool
def glob0:List Int:=[0,0,1000000000000,1000000000000,1000000000000,10000,1000000000000,0,1000000000000,0]
def AF4:A2 Int Int:=(B9 (B9 (B9 fnone 1 2) 2 3) 3 4)
instance:Sf where
 ft:=fun
  |0=>[(.int .i64),(.int .i64),(.int .i64)]
  |1=>[(.int .i64),(.int .i64),(.int .i64),(.int .i64),(.int .i64),(.int .u8),(.int .i64),(.int .i64)]
  |2=>[(.int .i64),(.int .i64),(.int .i64)]
  |3=>[(.int .i64),(.int .i64),(.int .i64),(.int .u8),(.int .i64),(.int .i64)]
  |4=>[(.int .i64),(.int .i64),(.int .i64),(.sl (.st 1)),(.sl (.st 2)),(.sl (.st 3))]
  |5=>[(.int .i64),(.int .i64),(.int .i64),(.int .i64)]
  |6=>[(.int .i64),(.int .i64),(.int .i64)]
  |7=>[(.int .u8),(.int .i64),(.int .i64),(.sl (.int .i64))]
  |8=>[(.int .i64),(.int .i64)]
  |9=>[(.int .u8),(.int .i64),(.int .i64),(.sl (.int .i64)),(.int .u8),(.int .i64),(.int .i64),(.sl (.int .i64)),(.int .u8),(.int .i64),(.int .i64),(.sl (.int .i64)),(.int .u8),(.int .i64),(.int .i64),(.sl (.int .i64)),(.int .u8),(.int .i64),(.int .i64),(.sl (.int .i64)),(.int .u8),(.int .i64),(.int .i64),(.sl (.int .i64)),(.int .i64),(.int .i64),(.int .u8)]
  |10=>[(.int .i64),(.int .i64),(.int .i64),(.sl (.st 1)),(.sl (.st 2)),(.sl (.st 3)),(.mp 3 (.int .i64) (.st 1)),(.mp 3 (.int .i64) (.sl (.st 3)))]
  |11=>[(.int .i64),(.int .i64)]
  |12=>[(.int .i64),(.int .u8),(.int .i64),(.int .i64),(.int .i64),(.int .u8),(.int .i64),(.int .i64)]
  |13=>[(.mp 3 (.int .i64) (.st 1))]
  |14=>[(.mp 3 (.int .i64) (.st 1)),(.mp 3 (.int .i64) (.int .i64)),(.mp 3 (.int .i64) (.int .i64))]
  |15=>[(.sl (.st 1))]
  |16=>[(.int .i64),(.int .i64)]
  |_+17=>[.bool]
 un:=fun
  |0=>fun x=>(x.answer,(x.mark,x.lately))
  |1=>fun x=>(x.id,(x.source,(x.account,(x.made,(x.about,(x.kind,(x.cents,x.of_)))))))
  |2=>fun x=>(x.id,(x.report,x.day))
  |3=>fun x=>(x.id,(x.dispute,(x.day,(x.says,(x.about,x.cents)))))
  |4=>fun x=>(x.terms.answer,(x.terms.mark,(x.terms.lately,(x.reports,(x.disputes,x.answers)))))
  |5=>fun x=>(x.id,(x.who,(x.account,x.day)))
  |6=>fun x=>(x.dispute,(x.who,x.asked))
  |7=>fun x=>(x.known,(x.cents,(x.since,x.by_)))
  |8=>fun x=>(x.lo,x.hi)
  |9=>fun x=>(x.opened.known,(x.opened.cents,(x.opened.since,(x.opened.by_,(x.limit.known,(x.limit.cents,(x.limit.since,(x.limit.by_,(x.owed.known,(x.owed.cents,(x.owed.since,(x.owed.by_,(x.late.known,(x.late.cents,(x.late.since,(x.late.by_,(x.default.known,(x.default.cents,(x.default.since,(x.default.by_,(x.closed.known,(x.closed.cents,(x.closed.since,(x.closed.by_,(x.paid.lo,(x.paid.hi,x.is_))))))))))))))))))))))))))
  |10=>fun x=>(x.desk.terms.answer,(x.desk.terms.mark,(x.desk.terms.lately,(x.desk.reports,(x.desk.disputes,(x.desk.answers,(x.facts,x.answers)))))))
  |11=>fun x=>(x.x0,x.x1)
  |12=>fun x=>(x.day,(x.is_,(x.by_.id,(x.by_.dispute,(x.by_.day,(x.by_.says,(x.by_.about,x.by_.cents)))))))
  |13=>fun x=>x.reports
  |14=>fun x=>(x.store.reports,(x.gone,x.fixed))
  |15=>fun x=>x.facts
  |16=>fun x=>(x.day,x.source)
  |_+17=>fun x=>x
 mkS:=fun
  |0=>fun x=>(Terms.mk x.1 x.2.1 x.2.2)
  |1=>fun x=>(Report.mk x.1 x.2.1 x.2.2.1 x.2.2.2.1 x.2.2.2.2.1 x.2.2.2.2.2.1 x.2.2.2.2.2.2.1 x.2.2.2.2.2.2.2)
  |2=>fun x=>(Dispute.mk x.1 x.2.1 x.2.2)
  |3=>fun x=>(Answer.mk x.1 x.2.1 x.2.2.1 x.2.2.2.1 x.2.2.2.2.1 x.2.2.2.2.2)
  |4=>fun x=>(Desk.mk (Terms.mk x.1 x.2.1 x.2.2.1) x.2.2.2.1 x.2.2.2.2.1 x.2.2.2.2.2)
  |5=>fun x=>(Asked.mk x.1 x.2.1 x.2.2.1 x.2.2.2)
  |6=>fun x=>(Letter.mk x.1 x.2.1 x.2.2)
  |7=>fun x=>(Told.mk x.1 x.2.1 x.2.2.1 x.2.2.2)
  |8=>fun x=>(Span.mk x.1 x.2)
  |9=>fun x=>(State.mk (Told.mk x.1 x.2.1 x.2.2.1 x.2.2.2.1) (Told.mk x.2.2.2.2.1 x.2.2.2.2.2.1 x.2.2.2.2.2.2.1 x.2.2.2.2.2.2.2.1) (Told.mk x.2.2.2.2.2.2.2.2.1 x.2.2.2.2.2.2.2.2.2.1 x.2.2.2.2.2.2.2.2.2.2.1 x.2.2.2.2.2.2.2.2.2.2.2.1) (Told.mk x.2.2.2.2.2.2.2.2.2.2.2.2.1 x.2.2.2.2.2.2.2.2.2.2.2.2.2.1 x.2.2.2.2.2.2.2.2.2.2.2.2.2.2.1 x.2.2.2.2.2.2.2.2.2.2.2.2.2.2.2.1) (Told.mk x.2.2.2.2.2.2.2.2.2.2.2.2.2.2.2.2.1 x.2.2.2.2.2.2.2.2.2.2.2.2.2.2.2.2.2.1 x.2.2.2.2.2.2.2.2.2.2.2.2.2.2.2.2.2.2.1 x.2.2.2.2.2.2.2.2.2.2.2.2.2.2.2.2.2.2.2.1) (Told.mk x.2.2.2.2.2.2.2.2.2.2.2.2.2.2.2.2.2.2.2.2.1 x.2.2.2.2.2.2.2.2.2.2.2.2.2.2.2.2.2.2.2.2.2.1 x.2.2.2.2.2.2.2.2.2.2.2.2.2.2.2.2.2.2.2.2.2.2.1 x.2.2.2.2.2.2.2.2.2.2.2.2.2.2.2.2.2.2.2.2.2.2.2.1) (Span.mk x.2.2.2.2.2.2.2.2.2.2.2.2.2.2.2.2.2.2.2.2.2.2.2.2.1 x.2.2.2.2.2.2.2.2.2.2.2.2.2.2.2.2.2.2.2.2.2.2.2.2.2.1) x.2.2.2.2.2.2.2.2.2.2.2.2.2.2.2.2.2.2.2.2.2.2.2.2.2.2)
  |10=>fun x=>(Desk_99.mk (Desk.mk (Terms.mk x.1 x.2.1 x.2.2.1) x.2.2.2.1 x.2.2.2.2.1 x.2.2.2.2.2.1) x.2.2.2.2.2.2.1 x.2.2.2.2.2.2.2)
  |11=>fun x=>(Arr116.mk x.1 x.2)
  |12=>fun x=>(Verdict.mk x.1 x.2.1 (Answer.mk x.2.2.1 x.2.2.2.1 x.2.2.2.2.1 x.2.2.2.2.2.1 x.2.2.2.2.2.2.1 x.2.2.2.2.2.2.2))
  |13=>fun x=>(Store.mk x)
  |14=>fun x=>(Desk_139.mk (Store.mk x.1) x.2.1 x.2.2)
  |15=>fun x=>(Book.mk x)
  |16=>fun x=>(Payer.mk x.1 x.2)
  |_+17=>fun x=>x
 eq:=fun
  |0=>fun (x y:Terms)=>decide (x=y)
  |1=>fun (x y:Report)=>decide (x=y)
  |2=>fun (x y:Dispute)=>decide (x=y)
  |3=>fun (x y:Answer)=>decide (x=y)
  |4=>fun (x y:Desk)=>decide (x=y)
  |5=>fun (x y:Asked)=>decide (x=y)
  |6=>fun (x y:Letter)=>decide (x=y)
  |7=>fun (x y:Told)=>decide (x=y)
  |8=>fun (x y:Span)=>decide (x=y)
  |9=>fun (x y:State)=>decide (x=y)
  |10=>fun (x y:Desk_99)=>false
  |11=>fun (x y:Arr116)=>decide (x=y)
  |12=>fun (x y:Verdict)=>decide (x=y)
  |13=>fun (x y:Store)=>false
  |14=>fun (x y:Desk_139)=>false
  |15=>fun (x y:Book)=>decide (x=y)
  |16=>fun (x y:Payer)=>decide (x=y)
  |_+17=>fun _ _=>false
 dec:=fun _ _ _=>Classical.propDecidable _
 un_mk:=fun n x=>by rcases n with _|_|_|_|_|_|_|_|_|_|_|_|_|_|_|_|_|_<;>rfl
 leaf:=fun n=>by rcases n with _|_|_|_|_|_|_|_|_|_|_|_|_|_|_|_|_|_<;>rfl
 nm:=fun
  |10=>false
  |13=>false
  |14=>false
  |n=>blt n 17
 gv:=fun
  |0=>some (.rp (.ary .i64 10 glob0) 0)
  |1=>some (.rp (.agg [.fn 202 [],.fn 203 [],.fn 204 [],.fn 208 []]) 0)
  |2=>some (.rp (.dat (.mp 5 (.int .u8) (.int .u8)) AF4) 0)
  |_=>none
instance:Se prog where
 E:=fun
  |0=>TermsE
  |1=>ReportE
  |2=>DisputeE
  |3=>AnswerE
  |4=>DeskE
  |5=>AskedE
  |6=>LetterE
  |7=>AJc
  |8=>SpanE
  |9=>AHt
  |10=>AQK
  |11=>AF3
  |12=>AEl
  |13=>ATr
  |14=>AOu
  |15=>AJd
  |16=>AHu
  |_+17=>boolE
 ky:=fun m k=>match m,k with
  |3,.int .i64=>some (X0 .i64 underlying3)
  |5,.int .u8=>some (X0 .u8 underlying5)
  |_,_=>none
instance:Sl (P:=prog) where
 is:=fun n M w cs x=>by rcases n with _|_|_|_|_|_|_|_|_|_|_|_|_|_|_|_|_|_<;>exact AaU
instance:TnE TermsE:=by unfold TermsE;infer_instance
instance:TnE ReportE:=by unfold ReportE;infer_instance
instance:TnE DisputeE:=by unfold DisputeE;infer_instance
instance:TnE AnswerE:=by unfold AnswerE;infer_instance
instance:TnE DeskE:=by unfold DeskE;infer_instance
instance:TnE AskedE:=by unfold AskedE;infer_instance
instance:TnE LetterE:=by unfold LetterE;infer_instance
instance:TnE AJc:=by unfold AJc;infer_instance
instance:TnE SpanE:=by unfold SpanE;infer_instance
instance:TnE AHt:=by unfold AHt;infer_instance
instance:TnE AF3:=by unfold AF3;infer_instance
instance:TnE AEl:=by unfold AEl;infer_instance
instance:TnE AJd:=by unfold AJd;infer_instance
instance:TnE AHu:=by unfold AHu;infer_instance
instance:Sn prog where
 tn:=fun n h=>by
  match n,h with
  |0,_=>exact inferInstanceAs (TnE TermsE)
  |1,_=>exact inferInstanceAs (TnE ReportE)
  |2,_=>exact inferInstanceAs (TnE DisputeE)
  |3,_=>exact inferInstanceAs (TnE AnswerE)
  |4,_=>exact inferInstanceAs (TnE DeskE)
  |5,_=>exact inferInstanceAs (TnE AskedE)
  |6,_=>exact inferInstanceAs (TnE LetterE)
  |7,_=>exact inferInstanceAs (TnE AJc)
  |8,_=>exact inferInstanceAs (TnE SpanE)
  |9,_=>exact inferInstanceAs (TnE AHt)
  |10,h=>cases h
  |11,_=>exact inferInstanceAs (TnE AF3)
  |12,_=>exact inferInstanceAs (TnE AEl)
  |13,h=>cases h
  |14,h=>cases h
  |15,_=>exact inferInstanceAs (TnE AJd)
  |16,_=>exact inferInstanceAs (TnE AHu)
  |_+17,h=>cases h
variable{M:List Nat}{w:World}{cs:List Value}{cs':List Value}{fs:List (Nat×Ctr)}{pf:List (Nat×CtrP)}{fm:List (Nat×CtrM)}
theorem rsl24:SlT prog 24 45 (enc (P:=prog) (.st 1)).n 64:=⟨underlying24,Tryz.t45,_,by kernel_rfl,rfl,rfl,rfl,rfl⟩
theorem rsl25:SlT prog 25 53 (enc (P:=prog) (.st 2)).n 24:=⟨underlying25,Tryz.t53,_,by kernel_rfl,rfl,rfl,rfl,rfl⟩
theorem rsl26:SlT prog 26 60 (enc (P:=prog) (.st 3)).n 48:=⟨underlying26,t60,_,by kernel_rfl,rfl,rfl,rfl,rfl⟩
theorem rsl29:SlT prog 29 47 (enc (P:=prog) (.st 5)).n 32:=⟨underlying29,t47,_,by kernel_rfl,rfl,rfl,rfl,rfl⟩
theorem rsl37:SlT prog 37 70 (enc (P:=prog) (.st 6)).n 24:=⟨underlying37,Tryz.t70,_,by kernel_rfl,rfl,rfl,rfl,rfl⟩
theorem rsl56:SlT prog 56 3 (enc (P:=prog) (.int .i64)).n 8:=⟨underlying56,Tryz.t3,_,by kernel_rfl,rfl,rfl,rfl,rfl⟩
theorem rsl65:SlT prog 65 28 (enc (P:=prog) (.st 4)).n 96:=⟨underlying65,t28,_,by kernel_rfl,rfl,rfl,rfl,rfl⟩
theorem rsl81:SlT prog 81 82 (enc (P:=prog) (.int .u32)).n 4:=⟨underlying81,t82,_,by kernel_rfl,rfl,rfl,rfl,rfl⟩
theorem rsl167:SlT prog 167 118 (enc (P:=prog) (.fno 118)).n 8:=⟨underlying167,t118,_,by kernel_rfl,rfl,rfl,rfl,rfl⟩
theorem rsl175:SlT prog 175 130 (enc (P:=prog) (.fno 130)).n 8:=⟨underlying175,t130,_,by kernel_rfl,rfl,rfl,rfl,rfl⟩
theorem rsl191:SlT prog 191 160 (enc (P:=prog) (.fno 160)).n 8:=⟨underlying191,t160,_,by kernel_rfl,rfl,rfl,rfl,rfl⟩
theorem rsl194:SlT prog 194 24 (enc (P:=prog) (.sl (.st 1))).n 24:=⟨underlying194,t24,_,by kernel_rfl,rfl,rfl,rfl,rfl⟩
def gxb:Gx where
 tb:=⟨[(23,[(0,3),(1,3),(2,3)]),(28,[(0,23),(3,24),(4,25),(5,26)]),(45,[(0,3),(1,3),(2,3),(3,3),(4,3),(5,5),(6,3),(7,3)]),(47,[(0,3),(1,3),(2,3),(3,3)]),(53,[(0,3),(1,3),(2,3)]),(60,[(0,3),(1,3),(2,3),(3,5),(4,3),(5,3)]),(70,[(0,3),(1,3),(2,3)]),(86,[(0,5),(1,3),(2,3),(3,56)]),(88,[(0,3),(1,3)]),(90,[(0,86),(4,86),(8,86),(12,86),(16,86),(20,86),(24,88),(26,5)]),(99,[(0,28),(6,96),(7,97)]),(111,[(0,3),(1,5),(2,60)]),(137,[(0,96)]),(139,[(0,137),(1,71),(2,71)]),(146,[(0,24)]),(153,[(0,5),(1,150),(2,151)]),(189,[(0,3),(1,3)])],[(3,0),(4,0),(5,0),(23,4),(24,0),(25,0),(26,0),(28,7),(29,0),(32,0),(37,0),(45,9),(47,5),(53,4),(56,0),(60,7),(65,0),(70,4),(71,0),(81,0),(82,0),(86,5),(88,3),(90,28),(96,0),(97,0),(99,9),(106,0),(108,0),(111,9),(114,0),(116,3),(118,0),(125,0),(130,0),(135,0),(137,2),(139,4),(144,0),(146,2),(148,0),(150,0),(151,0),(153,4),(154,0),(155,0),(156,0),(160,0),(164,0),(165,0),(166,0),(167,0),(170,0),(175,0),(177,0),(181,11),(184,5),(186,0),(189,3),(191,0),(193,0),(194,0),(199,0),(202,0),(209,0),(217,0),(230,0),(234,0),(241,0),(263,0),(265,0),(267,0)]⟩
 sl:=[(24,45,(.st 1),64),(25,53,(.st 2),24),(26,60,(.st 3),48),(29,47,(.st 5),32),(37,70,(.st 6),24),(56,3,(.int .i64),8),(65,28,(.st 4),96),(81,82,(.int .u32),4),(167,118,(.fno 118),8),(175,130,(.fno 130),8),(191,160,(.fno 160),8),(194,24,(.sl (.st 1)),24)]
 sz:=[(3,1),(4,1),(5,1),(23,3),(24,1),(25,1),(26,1),(28,6),(29,1),(32,1),(37,1),(45,8),(47,4),(53,3),(56,1),(60,6),(65,1),(70,3),(71,1),(81,1),(82,1),(86,4),(88,2),(90,27),(96,1),(97,1),(99,8),(106,1),(111,8),(116,2),(137,1),(139,3),(146,1),(156,1),(167,1),(175,1),(181,10),(186,1),(189,2),(191,1),(194,1),(199,1),(202,1),(209,1),(217,1),(230,1),(263,1),(108,1),(114,1),(118,1),(125,1),(130,1),(135,1),(144,1),(150,1),(151,1),(154,1),(155,1),(160,1),(164,1),(165,1),(166,1),(170,1),(177,1),(193,1),(234,1),(241,1),(265,1),(267,1)]
 ty:=[(3,(.int .i64)),(4,.bool),(5,(.int .u8)),(23,(.st 0)),(24,(.sl (.st 1))),(25,(.sl (.st 2))),(26,(.sl (.st 3))),(28,(.st 4)),(29,(.sl (.st 5))),(32,(.int .i64)),(37,(.sl (.st 6))),(45,(.st 1)),(47,(.st 5)),(53,(.st 2)),(56,(.sl (.int .i64))),(60,(.st 3)),(65,(.sl (.st 4))),(70,(.st 6)),(71,(.mp 3 (.int .i64) (.int .i64))),(81,(.sl (.int .u32))),(82,(.int .u32)),(86,(.st 7)),(88,(.st 8)),(90,(.st 9)),(96,(.mp 3 (.int .i64) (.st 1))),(97,(.mp 3 (.int .i64) (.sl (.st 3)))),(99,(.st 10)),(106,(.mp 116 (.st 11) (.int .i64))),(111,(.st 12)),(116,(.st 11)),(137,(.st 13)),(139,(.st 14)),(146,(.st 15)),(156,(.mp 3 (.int .i64) (.st 8))),(167,(.sl (.fno 118))),(175,(.sl (.fno 130))),(181,(.arr .i64 10)),(186,(.mp 189 (.st 16) (.int .i64))),(189,(.st 16)),(191,(.sl (.fno 160))),(194,(.sl (.sl (.st 1)))),(199,(.int .u64)),(202,(.mp 5 (.int .u8) (.int .u8))),(209,(.int .i64)),(217,(.int .u64)),(230,(.int .u64)),(263,(.mp 3 (.int .i64) .bool))]
 fs:=[]
 bd:=[(23,[(0,1),(1,1),(2,1)]),(28,[(0,3),(3,1),(4,1),(5,1)]),(45,[(0,1),(1,1),(2,1),(3,1),(4,1),(5,1),(6,1),(7,1)]),(47,[(0,1),(1,1),(2,1),(3,1)]),(53,[(0,1),(1,1),(2,1)]),(60,[(0,1),(1,1),(2,1),(3,1),(4,1),(5,1)]),(70,[(0,1),(1,1),(2,1)]),(86,[(0,1),(1,1),(2,1),(3,1)]),(88,[(0,1),(1,1)]),(90,[(0,4),(4,4),(8,4),(12,4),(16,4),(20,4),(24,2),(26,1)]),(99,[(0,6),(6,1),(7,1)]),(111,[(0,1),(1,1),(2,6)]),(137,[(0,1)]),(139,[(0,1),(1,1),(2,1)]),(153,[(0,1),(1,1),(2,1)]),(189,[(0,1),(1,1)])]
 eq:=[(23,0),(45,1),(47,5),(53,2),(60,3),(70,6),(88,8)]
 mp:=[(71,3,3,(.int .i64),(.int .i64)),(96,3,45,(.int .i64),(.st 1)),(97,3,26,(.int .i64),(.sl (.st 3))),(156,3,88,(.int .i64),(.st 8)),(202,5,5,(.int .u8),(.int .u8)),(263,3,4,(.int .i64),.bool)]
 ar:=[(116,2,1),(181,10,1)]
 pz:=[(108,1),(114,1),(118,1),(125,1),(130,1),(135,1),(144,1),(150,1),(151,1),(154,0),(155,0),(160,1),(164,1),(165,1),(166,1),(170,1),(177,1),(193,1),(234,0),(241,0),(265,1),(267,1)]
 pf:=[]
 fm:=[]
 fd:=[]
theorem gx_st:StOk prog gxb.tb.st:=⟨⟨_,underlying23,⟨_,_,rfl,rfl,rfl,sizeOf3⟩,⟨_,_,rfl,rfl,rfl,sizeOf3⟩,⟨_,_,rfl,rfl,rfl,sizeOf3⟩,trivial⟩,⟨_,underlying28,⟨_,_,rfl,rfl,rfl,sizeOf23⟩,⟨_,_,rfl,rfl,rfl,sizeOf24⟩,⟨_,_,rfl,rfl,rfl,sizeOf25⟩,⟨_,_,rfl,rfl,rfl,sizeOf26⟩,trivial⟩,⟨_,underlying45,⟨_,_,rfl,rfl,rfl,sizeOf3⟩,⟨_,_,rfl,rfl,rfl,sizeOf3⟩,⟨_,_,rfl,rfl,rfl,sizeOf3⟩,⟨_,_,rfl,rfl,rfl,sizeOf3⟩,⟨_,_,rfl,rfl,rfl,sizeOf3⟩,⟨_,_,rfl,rfl,rfl,sizeOf5⟩,⟨_,_,rfl,rfl,rfl,sizeOf3⟩,⟨_,_,rfl,rfl,rfl,sizeOf3⟩,trivial⟩,⟨_,underlying47,⟨_,_,rfl,rfl,rfl,sizeOf3⟩,⟨_,_,rfl,rfl,rfl,sizeOf3⟩,⟨_,_,rfl,rfl,rfl,sizeOf3⟩,⟨_,_,rfl,rfl,rfl,sizeOf3⟩,trivial⟩,⟨_,underlying53,⟨_,_,rfl,rfl,rfl,sizeOf3⟩,⟨_,_,rfl,rfl,rfl,sizeOf3⟩,⟨_,_,rfl,rfl,rfl,sizeOf3⟩,trivial⟩,⟨_,underlying60,⟨_,_,rfl,rfl,rfl,sizeOf3⟩,⟨_,_,rfl,rfl,rfl,sizeOf3⟩,⟨_,_,rfl,rfl,rfl,sizeOf3⟩,⟨_,_,rfl,rfl,rfl,sizeOf5⟩,⟨_,_,rfl,rfl,rfl,sizeOf3⟩,⟨_,_,rfl,rfl,rfl,sizeOf3⟩,trivial⟩,⟨_,underlying70,⟨_,_,rfl,rfl,rfl,sizeOf3⟩,⟨_,_,rfl,rfl,rfl,sizeOf3⟩,⟨_,_,rfl,rfl,rfl,sizeOf3⟩,trivial⟩,⟨_,underlying86,⟨_,_,rfl,rfl,rfl,sizeOf5⟩,⟨_,_,rfl,rfl,rfl,sizeOf3⟩,⟨_,_,rfl,rfl,rfl,sizeOf3⟩,⟨_,_,rfl,rfl,rfl,sizeOf56⟩,trivial⟩,⟨_,underlying88,⟨_,_,rfl,rfl,rfl,sizeOf3⟩,⟨_,_,rfl,rfl,rfl,sizeOf3⟩,trivial⟩,⟨_,underlying90,⟨_,_,rfl,rfl,rfl,sizeOf86⟩,⟨_,_,rfl,rfl,rfl,sizeOf86⟩,⟨_,_,rfl,rfl,rfl,sizeOf86⟩,⟨_,_,rfl,rfl,rfl,sizeOf86⟩,⟨_,_,rfl,rfl,rfl,sizeOf86⟩,⟨_,_,rfl,rfl,rfl,sizeOf86⟩,⟨_,_,rfl,rfl,rfl,sizeOf88⟩,⟨_,_,rfl,rfl,rfl,sizeOf5⟩,trivial⟩,⟨_,underlying99,⟨_,_,rfl,rfl,rfl,sizeOf28⟩,⟨_,_,rfl,rfl,rfl,sizeOf96⟩,⟨_,_,rfl,rfl,rfl,sizeOf97⟩,trivial⟩,⟨_,underlying111,⟨_,_,rfl,rfl,rfl,sizeOf3⟩,⟨_,_,rfl,rfl,rfl,sizeOf5⟩,⟨_,_,rfl,rfl,rfl,sizeOf60⟩,trivial⟩,⟨_,underlying137,⟨_,_,rfl,rfl,rfl,sizeOf96⟩,trivial⟩,⟨_,underlying139,⟨_,_,rfl,rfl,rfl,sizeOf137⟩,⟨_,_,rfl,rfl,rfl,sizeOf71⟩,⟨_,_,rfl,rfl,rfl,sizeOf71⟩,trivial⟩,⟨_,underlying146,⟨_,_,rfl,rfl,rfl,sizeOf24⟩,trivial⟩,⟨_,underlying153,⟨_,_,rfl,rfl,rfl,sizeOf5⟩,⟨_,_,rfl,rfl,rfl,sizeOf150⟩,⟨_,_,rfl,rfl,rfl,sizeOf151⟩,trivial⟩,⟨_,underlying189,⟨_,_,rfl,rfl,rfl,sizeOf3⟩,⟨_,_,rfl,rfl,rfl,sizeOf3⟩,trivial⟩,trivial⟩
theorem gx_ag:AgOk prog gxb.tb.ag:=⟨isAgg3,isAgg4,isAgg5,⟨isAgg23,sizeOf23⟩,isAgg24,isAgg25,isAgg26,⟨isAgg28,sizeOf28⟩,isAgg29,isAgg32,isAgg37,⟨isAgg45,sizeOf45⟩,⟨isAgg47,sizeOf47⟩,⟨isAgg53,sizeOf53⟩,isAgg56,⟨isAgg60,sizeOf60⟩,isAgg65,⟨isAgg70,sizeOf70⟩,isAgg71,isAgg81,isAgg82,⟨isAgg86,sizeOf86⟩,⟨isAgg88,sizeOf88⟩,⟨isAgg90,sizeOf90⟩,isAgg96,isAgg97,⟨isAgg99,sizeOf99⟩,isAgg106,isAgg108,⟨isAgg111,sizeOf111⟩,isAgg114,⟨isAgg116,sizeOf116⟩,isAgg118,isAgg125,isAgg130,isAgg135,⟨isAgg137,sizeOf137⟩,⟨isAgg139,sizeOf139⟩,isAgg144,⟨isAgg146,sizeOf146⟩,isAgg148,isAgg150,isAgg151,⟨isAgg153,sizeOf153⟩,isAgg154,isAgg155,isAgg156,isAgg160,isAgg164,isAgg165,isAgg166,isAgg167,isAgg170,isAgg175,isAgg177,⟨isAgg181,sizeOf181⟩,⟨isAgg184,sizeOf184⟩,isAgg186,⟨isAgg189,sizeOf189⟩,isAgg191,isAgg193,isAgg194,isAgg199,isAgg202,isAgg209,isAgg217,isAgg230,isAgg234,isAgg241,isAgg263,isAgg265,isAgg267,trivial⟩
theorem gx_sl:SlOk prog gxb.sl:=⟨rsl24,rsl25,rsl26,rsl29,rsl37,rsl56,rsl65,rsl81,rsl167,rsl175,rsl191,rsl194,trivial⟩
theorem gx_sz:SzOk prog gxb.sz:=⟨sizeOf3,sizeOf4,sizeOf5,sizeOf23,sizeOf24,sizeOf25,sizeOf26,sizeOf28,sizeOf29,sizeOf32,sizeOf37,sizeOf45,sizeOf47,sizeOf53,sizeOf56,sizeOf60,sizeOf65,sizeOf70,sizeOf71,sizeOf81,sizeOf82,sizeOf86,sizeOf88,sizeOf90,sizeOf96,sizeOf97,sizeOf99,sizeOf106,sizeOf111,sizeOf116,sizeOf137,sizeOf139,sizeOf146,sizeOf156,sizeOf167,sizeOf175,sizeOf181,sizeOf186,sizeOf189,sizeOf191,sizeOf194,sizeOf199,sizeOf202,sizeOf209,sizeOf217,sizeOf230,sizeOf263,sizeOf108,sizeOf114,sizeOf118,sizeOf125,sizeOf130,sizeOf135,sizeOf144,sizeOf150,sizeOf151,sizeOf154,sizeOf155,sizeOf160,sizeOf164,sizeOf165,sizeOf166,sizeOf170,sizeOf177,sizeOf193,sizeOf234,sizeOf241,sizeOf265,sizeOf267,trivial⟩
theorem gx_ty:TyOk prog gxb.ty:=⟨⟨(fun k h=>by cases h;exact underlying3),(fun h=>by cases h),zeroValue3⟩,⟨(fun k h=>by cases h),(fun _=>underlying4),zeroValue4⟩,⟨(fun k h=>by cases h;exact underlying5),(fun h=>by cases h),zeroValue5⟩,⟨(fun k h=>by cases h),(fun h=>by cases h),zeroValue23⟩,⟨(fun k h=>by cases h),(fun h=>by cases h),zeroValue24⟩,⟨(fun k h=>by cases h),(fun h=>by cases h),zeroValue25⟩,⟨(fun k h=>by cases h),(fun h=>by cases h),zeroValue26⟩,⟨(fun k h=>by cases h),(fun h=>by cases h),zeroValue28⟩,⟨(fun k h=>by cases h),(fun h=>by cases h),zeroValue29⟩,⟨(fun k h=>by cases h;exact underlying32),(fun h=>by cases h),zeroValue32⟩,⟨(fun k h=>by cases h),(fun h=>by cases h),zeroValue37⟩,⟨(fun k h=>by cases h),(fun h=>by cases h),zeroValue45⟩,⟨(fun k h=>by cases h),(fun h=>by cases h),zeroValue47⟩,⟨(fun k h=>by cases h),(fun h=>by cases h),zeroValue53⟩,⟨(fun k h=>by cases h),(fun h=>by cases h),zeroValue56⟩,⟨(fun k h=>by cases h),(fun h=>by cases h),zeroValue60⟩,⟨(fun k h=>by cases h),(fun h=>by cases h),zeroValue65⟩,⟨(fun k h=>by cases h),(fun h=>by cases h),zeroValue70⟩,⟨(fun k h=>by cases h),(fun h=>by cases h),zeroValue71⟩,⟨(fun k h=>by cases h),(fun h=>by cases h),zeroValue81⟩,⟨(fun k h=>by cases h;exact underlying82),(fun h=>by cases h),zeroValue82⟩,⟨(fun k h=>by cases h),(fun h=>by cases h),zeroValue86⟩,⟨(fun k h=>by cases h),(fun h=>by cases h),zeroValue88⟩,⟨(fun k h=>by cases h),(fun h=>by cases h),zeroValue90⟩,⟨(fun k h=>by cases h),(fun h=>by cases h),zeroValue96⟩,⟨(fun k h=>by cases h),(fun h=>by cases h),zeroValue97⟩,⟨(fun k h=>by cases h),(fun h=>by cases h),zeroValue99⟩,⟨(fun k h=>by cases h),(fun h=>by cases h),zeroValue106⟩,⟨(fun k h=>by cases h),(fun h=>by cases h),zeroValue111⟩,⟨(fun k h=>by cases h),(fun h=>by cases h),zeroValue116⟩,⟨(fun k h=>by cases h),(fun h=>by cases h),zeroValue137⟩,⟨(fun k h=>by cases h),(fun h=>by cases h),zeroValue139⟩,⟨(fun k h=>by cases h),(fun h=>by cases h),zeroValue146⟩,⟨(fun k h=>by cases h),(fun h=>by cases h),zeroValue156⟩,⟨(fun k h=>by cases h),(fun h=>by cases h),zeroValue167⟩,⟨(fun k h=>by cases h),(fun h=>by cases h),zeroValue175⟩,⟨(fun k h=>by cases h),(fun h=>by cases h),zeroValue181⟩,⟨(fun k h=>by cases h),(fun h=>by cases h),zeroValue186⟩,⟨(fun k h=>by cases h),(fun h=>by cases h),zeroValue189⟩,⟨(fun k h=>by cases h),(fun h=>by cases h),zeroValue191⟩,⟨(fun k h=>by cases h),(fun h=>by cases h),zeroValue194⟩,⟨(fun k h=>by cases h;exact underlying199),(fun h=>by cases h),zeroValue199⟩,⟨(fun k h=>by cases h),(fun h=>by cases h),zeroValue202⟩,⟨(fun k h=>by cases h;exact underlying209),(fun h=>by cases h),zeroValue209⟩,⟨(fun k h=>by cases h;exact underlying217),(fun h=>by cases h),zeroValue217⟩,⟨(fun k h=>by cases h;exact underlying230),(fun h=>by cases h),zeroValue230⟩,⟨(fun k h=>by cases h),(fun h=>by cases h),zeroValue263⟩,trivial⟩
theorem gx_bd:BdOk prog gxb.bd:=⟨⟨_,underlying23,fun _=>by simp[sizeOf3]⟩,⟨_,underlying28,fun _=>by simp[sizeOf23,sizeOf24,sizeOf25,sizeOf26]⟩,⟨_,underlying45,fun _=>by simp[sizeOf3,sizeOf5]⟩,⟨_,underlying47,fun _=>by simp[sizeOf3]⟩,⟨_,underlying53,fun _=>by simp[sizeOf3]⟩,⟨_,underlying60,fun _=>by simp[sizeOf3,sizeOf5]⟩,⟨_,underlying70,fun _=>by simp[sizeOf3]⟩,⟨_,underlying86,fun _=>by simp[sizeOf3,sizeOf5,sizeOf56]⟩,⟨_,underlying88,fun _=>by simp[sizeOf3]⟩,⟨_,underlying90,fun _=>by simp[sizeOf5,sizeOf86,sizeOf88]⟩,⟨_,underlying99,fun _=>by simp[sizeOf28,sizeOf96,sizeOf97]⟩,⟨_,underlying111,fun _=>by simp[sizeOf3,sizeOf5,sizeOf60]⟩,⟨_,underlying137,fun _=>by simp[sizeOf96]⟩,⟨_,underlying139,fun _=>by simp[sizeOf137,sizeOf71]⟩,⟨_,underlying153,fun _=>by simp[sizeOf150,sizeOf151,sizeOf5]⟩,⟨_,underlying189,fun _=>by simp[sizeOf3]⟩,trivial⟩
theorem AVe{x y:Terms}(hx:TermsE.R M w cs x)(hy:TermsE.R M w cs' y)(w':World):(Op.equalIn 10000 23 (.agg (toArray cs)) (.agg (toArray cs'))).run prog w'=.ok (decide (x=y)) w':=by
 obtain⟨rfl,_⟩:=(AK1 (x:=x)).1 hx;obtain⟨rfl,_⟩:=(AK1 (x:=y)).1 hy;exact AQI x y w'
theorem AVf{x y:Report}(hx:ReportE.R M w cs x)(hy:ReportE.R M w cs' y)(w':World):(Op.equalIn 10000 45 (.agg (toArray cs)) (.agg (toArray cs'))).run prog w'=.ok (decide (x=y)) w':=by
 obtain⟨rfl,_⟩:=(ReportE_R (x:=x)).1 hx;obtain⟨rfl,_⟩:=(ReportE_R (x:=y)).1 hy;exact AOr x y w'
theorem AVg{x y:Asked}(hx:AskedE.R M w cs x)(hy:AskedE.R M w cs' y)(w':World):(Op.equalIn 10000 47 (.agg (toArray cs)) (.agg (toArray cs'))).run prog w'=.ok (decide (x=y)) w':=by
 obtain⟨rfl,_⟩:=(AG1 (x:=x)).1 hx;obtain⟨rfl,_⟩:=(AG1 (x:=y)).1 hy;exact AQJ x y w'
theorem AVh{x y:Dispute}(hx:DisputeE.R M w cs x)(hy:DisputeE.R M w cs' y)(w':World):(Op.equalIn 10000 53 (.agg (toArray cs)) (.agg (toArray cs'))).run prog w'=.ok (decide (x=y)) w':=by
 obtain⟨rfl,_⟩:=(DisputeE_R (x:=x)).1 hx;obtain⟨rfl,_⟩:=(DisputeE_R (x:=y)).1 hy;exact ANO x y w'
theorem AVi{x y:Answer}(hx:AnswerE.R M w cs x)(hy:AnswerE.R M w cs' y)(w':World):(Op.equalIn 10000 60 (.agg (toArray cs)) (.agg (toArray cs'))).run prog w'=.ok (decide (x=y)) w':=by
 obtain⟨rfl,_⟩:=(AnswerE_R (x:=x)).1 hx;obtain⟨rfl,_⟩:=(AnswerE_R (x:=y)).1 hy;exact AOs x y w'
theorem AVj{x y:Letter}(hx:LetterE.R M w cs x)(hy:LetterE.R M w cs' y)(w':World):(Op.equalIn 10000 70 (.agg (toArray cs)) (.agg (toArray cs'))).run prog w'=.ok (decide (x=y)) w':=by
 obtain⟨rfl,_⟩:=(LetterE_R (x:=x)).1 hx;obtain⟨rfl,_⟩:=(LetterE_R (x:=y)).1 hy;exact AOt x y w'
theorem AVk{x y:Span}(hx:SpanE.R M w cs x)(hy:SpanE.R M w cs' y)(w':World):(Op.equalIn 10000 88 (.agg (toArray cs)) (.agg (toArray cs'))).run prog w'=.ok (decide (x=y)) w':=by
 obtain⟨rfl,_⟩:=(AMD (x:=x)).1 hx;obtain⟨rfl,_⟩:=(AMD (x:=y)).1 hy;exact ASE x y w'
theorem gx_eq:EqOk prog gxb.eq:=⟨⟨eqGuardType23,fun _ _ _ _ _ _ hx hy w'=>AVe hx hy w'⟩,⟨eqGuardType45,fun _ _ _ _ _ _ hx hy w'=>AVf hx hy w'⟩,⟨eqGuardType47,fun _ _ _ _ _ _ hx hy w'=>AVg hx hy w'⟩,⟨eqGuardType53,fun _ _ _ _ _ _ hx hy w'=>AVh hx hy w'⟩,⟨eqGuardType60,fun _ _ _ _ _ _ hx hy w'=>AVi hx hy w'⟩,⟨eqGuardType70,fun _ _ _ _ _ _ hx hy w'=>AVj hx hy w'⟩,⟨eqGuardType88,fun _ _ _ _ _ _ hx hy w'=>AVk hx hy w'⟩,trivial⟩
theorem gx_mp:MpOk prog gxb.mp:=⟨⟨_,rfl,ACf (hk:=underlying3),underlying71,zeroValue3,int_key2⟩,⟨_,rfl,ACf (hk:=underlying3),underlying96,zeroValue45,int_key2⟩,⟨_,rfl,ACf (hk:=underlying3),underlying97,zeroValue26,int_key2⟩,⟨_,rfl,ACf (hk:=underlying3),underlying156,zeroValue88,int_key2⟩,⟨_,rfl,ACf (hk:=underlying5),underlying202,zeroValue5,int_key2⟩,⟨_,rfl,ACf (hk:=underlying3),underlying263,zeroValue4,int_key2⟩,trivial⟩
theorem gx_ar:ArOk prog gxb.ar:=⟨⟨_,underlying116,sizeOf3⟩,⟨_,underlying181,sizeOf3⟩,trivial⟩
theorem gx_pz:PzOk prog gxb.pz:=⟨zeroValue108,zeroValue114,zeroValue118,zeroValue125,zeroValue130,zeroValue135,zeroValue144,zeroValue150,zeroValue151,zeroValue154,zeroValue155,zeroValue160,zeroValue164,zeroValue165,zeroValue166,zeroValue170,zeroValue177,zeroValue193,zeroValue234,zeroValue241,zeroValue265,zeroValue267,trivial⟩
theorem gx_mix:prog.follows .mixedOrders=true:=by kernel_rfl
theorem AHv(h:FsOk prog fs)(H:PfOk prog pf)(hm:FmOk prog fm):GxOk prog { gxb with fs:=fs,pf:=pf,fm:=fm }:=⟨gx_st,gx_ag,gx_sl,gx_sz,gx_ty,h,gx_bd,gx_eq,gx_mp,gx_ar,gx_pz,H,hm,gx_mix,trivial⟩
theorem AHw{fd:List (Nat×Rx.Fd)}(h:FsOk prog fs)(H:PfOk prog pf)(hm:FmOk prog fm)(hd:FdOk prog fd):GxOk prog { gxb with fs:=fs,pf:=pf,fm:=fm,fd:=fd }:=⟨gx_st,gx_ag,gx_sl,gx_sz,gx_ty,h,gx_bd,gx_eq,gx_mp,gx_ar,gx_pz,H,hm,gx_mix,hd⟩
theorem ATs(h:FsOk prog fs)(H:PfOk prog pf):GxOk prog { gxb with fs:=fs,pf:=pf }:=AHv (fm:=[]) h H trivial
theorem A8(h:FsOk prog fs):GxOk prog { gxb with fs:=fs }:=ATs (pf:=[]) h trivial
def ACN(y:Dispute):Option Int:=some y.day
def AWv:An:=.x
def ctr60:Ctr:=⟨[.d (.st 2)],[.d (.int .i64)],fun a=>ACN a.1⟩
theorem ok60:Ctr.ok prog 60 ctr60:=A7 (G:={ gxb with fs:=[] }) (an:=AWv) (A8 trivial) func60 rfl rfl rfl rfl (fun a=>by kernel_rfl)
def ACO(y:Dispute):Option Int:=some y.id
def AWw:An:=.x
def ctr61:Ctr:=⟨[.d (.st 2)],[.d (.int .i64)],fun a=>ACO a.1⟩
theorem ok61:Ctr.ok prog 61 ctr61:=A7 (G:={ gxb with fs:=[] }) (an:=AWw) (A8 trivial) func61 rfl rfl rfl rfl (fun a=>by kernel_rfl)
def Z6(x:Int):Option Bool:=some (!decide (x=x))
def AVl:An:=.x
def ctr124:Ctr:=⟨[.d (.int .i64)],[.d .bool],fun a=>Z6 a.1⟩
theorem ok124:Ctr.ok prog 124 ctr124:=A7 (G:={ gxb with fs:=[] }) (an:=AVl) (A8 trivial) func124 rfl rfl rfl rfl (fun a=>by kernel_rfl)
def E0(x:Int)(y:Int):Option Int:=(Z6 x).bind fun r1=>(Z6 y).bind fun r2=>cond (r1) (cond (r2) (some (0:Int)) (some ((-1):Int))) (cond (r2) (some (1:Int)) (cond (decide (x<y)) (some ((-1):Int)) (cond (decide (y<x)) (some (1:Int)) (some (0:Int)))))
def AWx:An:=.x
def ctr88:Ctr:=⟨[.d (.int .i64),.d (.int .i64)],[.d (.int .i64)],fun a=>E0 a.1 a.2.1⟩
theorem ok88:Ctr.ok prog 88 ctr88:=A7 (G:={ gxb with fs:=[(124,ctr124)] }) (an:=AWx) (A8 ⟨⟨ok124,call124⟩,trivial⟩) func88 rfl rfl rfl rfl (fun a=>by kernel_rfl)
def fd130:Rx.Fd:=⟨[(.st 2)],(.int .i64),fun n=>if n=60 then fun x0=>ACN x0 else if n=61 then fun x0=>ACO x0 else fun _=>none⟩
theorem okd130:∀n M w,GlOk (P:=prog) M w->FnOk (P:=prog) M w (.func (.func n) #[] #[]) fd130.a fd130.r (fd130.D n):=fun n M w H=>by
 by_cases J:n=60
 . subst J;exact X2 (G:={ gxb with fs:=[(60,ctr60)] }) (A8 ⟨⟨ok60,call60⟩,trivial⟩) H (M:=M) (fun _ h=>h) (R:=fun _=>none) (ρ:=fun _=>undef) (γ:=fun _=>[]) (caps:=[]) (vs:=[]) RdN.nil (by kernel_rfl) rfl
 by_cases I:n=61
 . subst I;exact X2 (G:={ gxb with fs:=[(61,ctr61)] }) (A8 ⟨⟨ok61,call61⟩,trivial⟩) H (M:=M) (fun _ h=>h) (R:=fun _=>none) (ρ:=fun _=>undef) (γ:=fun _=>[]) (caps:=[]) (vs:=[]) RdN.nil (by kernel_rfl) rfl
 have e:fd130.D n=fun _=>none:=by simp[fd130,J,I]<;>rfl
 rw[e];exact fun _ _ _ _ _ _ _ y hy=>by cases hy
def P7(a:Dispute)(b:Dispute)(a2_:List Nat):Option Int:=(B5 (S:=Int) (R:=(Unit⊕Int)) (fun x7=>cond (decide (x7<(a2_.length:Int))) ((ixo a2_ x7).bind fun y8=>(fd130.D y8 a).bind fun y9=>(fd130.D y8 b).bind fun y10=>(E0 y9 y10).bind fun r11=>cond ((!decide (r11=0))) (some (Sum.inr (Sum.inr r11))) ((chk .i64 (x7+1)).bind fun n12=>some (Sum.inl n12))) (some (Sum.inr (Sum.inl ())))) (0:Int)).bind ((Sum.elim (fun _=>some (0:Int)) (fun r13=>some r13)))
def AWy:An:=.nd .x (.nd (.nd .x (.lp ⟨[(.slot 11,.d (.int .i64))],[4,3]⟩ [.exit 0 ⟨[],[]⟩,.ret] .x)) .x)
def AVm:Ctr:=⟨[.d (.st 2),.d (.st 2),.pt (.sl (.fno 130))],[.d (.int .i64)],fun a=>P7 a.1 a.2.1 a.2.2.1⟩
theorem ok94:Ctr.ok prog 94 AVm:=A7 (G:={ gxb with fs:=[(88,ctr88)],fd:=[(130,fd130)] }) (an:=AWy) (AHw ⟨⟨ok88,call88⟩,trivial⟩ trivial trivial ⟨okd130,trivial⟩) func94 rfl rfl rfl rfl (fun a=>by kernel_rfl)
def ADX(r:Report):Option Int:=some r.about
def AVn:An:=.x
def ctr107:Ctr:=⟨[.d (.st 1)],[.d (.int .i64)],fun a=>ADX a.1⟩
theorem ok107:Ctr.ok prog 107 ctr107:=A7 (G:={ gxb with fs:=[] }) (an:=AVn) (A8 trivial) func107 rfl rfl rfl rfl (fun a=>by kernel_rfl)
def AFU(r:Report):Option Int:=some r.id
def AVo:An:=.x
def ctr108:Ctr:=⟨[.d (.st 1)],[.d (.int .i64)],fun a=>AFU a.1⟩
theorem ok108:Ctr.ok prog 108 ctr108:=A7 (G:={ gxb with fs:=[] }) (an:=AVo) (A8 trivial) func108 rfl rfl rfl rfl (fun a=>by kernel_rfl)
def Z7(r:Report):Option Int:=some r.made
def AWz:An:=.x
def ctr78:Ctr:=⟨[.d (.st 1)],[.d (.int .i64)],fun a=>Z7 a.1⟩
theorem ok78:Ctr.ok prog 78 ctr78:=A7 (G:={ gxb with fs:=[] }) (an:=AWz) (A8 trivial) func78 rfl rfl rfl rfl (fun a=>by kernel_rfl)
def Z8(r:Report):Option Int:=some r.id
def AW0:An:=.x
def ctr79:Ctr:=⟨[.d (.st 1)],[.d (.int .i64)],fun a=>Z8 a.1⟩
theorem ok79:Ctr.ok prog 79 ctr79:=A7 (G:={ gxb with fs:=[] }) (an:=AW0) (A8 trivial) func79 rfl rfl rfl rfl (fun a=>by kernel_rfl)
def fd160:Rx.Fd:=⟨[(.st 1)],(.int .i64),fun n=>if n=78 then fun x0=>Z7 x0 else if n=79 then fun x0=>Z8 x0 else if n=107 then fun x0=>ADX x0 else if n=108 then fun x0=>AFU x0 else fun _=>none⟩
theorem okd160:∀n M w,GlOk (P:=prog) M w->FnOk (P:=prog) M w (.func (.func n) #[] #[]) fd160.a fd160.r (fd160.D n):=fun n M w H=>by
 by_cases V:n=78
 . subst V;exact X2 (G:={ gxb with fs:=[(78,ctr78)] }) (A8 ⟨⟨ok78,call78⟩,trivial⟩) H (M:=M) (fun _ h=>h) (R:=fun _=>none) (ρ:=fun _=>undef) (γ:=fun _=>[]) (caps:=[]) (vs:=[]) RdN.nil (by kernel_rfl) rfl
 by_cases U:n=79
 . subst U;exact X2 (G:={ gxb with fs:=[(79,ctr79)] }) (A8 ⟨⟨ok79,call79⟩,trivial⟩) H (M:=M) (fun _ h=>h) (R:=fun _=>none) (ρ:=fun _=>undef) (γ:=fun _=>[]) (caps:=[]) (vs:=[]) RdN.nil (by kernel_rfl) rfl
 by_cases J:n=107
 . subst J;exact X2 (G:={ gxb with fs:=[(107,ctr107)] }) (A8 ⟨⟨ok107,call107⟩,trivial⟩) H (M:=M) (fun _ h=>h) (R:=fun _=>none) (ρ:=fun _=>undef) (γ:=fun _=>[]) (caps:=[]) (vs:=[]) RdN.nil (by kernel_rfl) rfl
 by_cases I:n=108
 . subst I;exact X2 (G:={ gxb with fs:=[(108,ctr108)] }) (A8 ⟨⟨ok108,call108⟩,trivial⟩) H (M:=M) (fun _ h=>h) (R:=fun _=>none) (ρ:=fun _=>undef) (γ:=fun _=>[]) (caps:=[]) (vs:=[]) RdN.nil (by kernel_rfl) rfl
 have e:fd160.D n=fun _=>none:=by simp[fd160,V,U,J,I]<;>rfl
 rw[e];exact fun _ _ _ _ _ _ _ y hy=>by cases hy
def J3(a:Report)(b:Report)(a2_:List Nat):Option Int:=(B5 (S:=Int) (R:=(Unit⊕Int)) (fun x7=>cond (decide (x7<(a2_.length:Int))) ((ixo a2_ x7).bind fun y8=>(fd160.D y8 a).bind fun y9=>(fd160.D y8 b).bind fun y10=>(E0 y9 y10).bind fun r11=>cond ((!decide (r11=0))) (some (Sum.inr (Sum.inr r11))) ((chk .i64 (x7+1)).bind fun n12=>some (Sum.inl n12))) (some (Sum.inr (Sum.inl ())))) (0:Int)).bind ((Sum.elim (fun _=>some (0:Int)) (fun r13=>some r13)))
def AVp:An:=.nd .x (.nd (.nd .x (.lp ⟨[(.slot 11,.d (.int .i64))],[4,3]⟩ [.exit 0 ⟨[],[]⟩,.ret] .x)) .x)
def ATt:Ctr:=⟨[.d (.st 1),.d (.st 1),.pt (.sl (.fno 160))],[.d (.int .i64)],fun a=>J3 a.1 a.2.1 a.2.2.1⟩
theorem ok119:Ctr.ok prog 119 ATt:=A7 (G:={ gxb with fs:=[(88,ctr88)],fd:=[(160,fd160)] }) (an:=AVp) (AHw ⟨⟨ok88,call88⟩,trivial⟩ trivial trivial ⟨okd160,trivial⟩) func119 rfl rfl rfl rfl (fun a=>by kernel_rfl)
def AA9(l:Letter):Option Int:=some l.dispute
def AW1:An:=.x
def ctr49:Ctr:=⟨[.d (.st 6)],[.d (.int .i64)],fun a=>AA9 a.1⟩
theorem ok49:Ctr.ok prog 49 ctr49:=A7 (G:={ gxb with fs:=[] }) (an:=AW1) (A8 trivial) func49 rfl rfl rfl rfl (fun a=>by kernel_rfl)
def ABA(l:Letter):Option Int:=some l.who
def AW2:An:=.x
def ctr50:Ctr:=⟨[.d (.st 6)],[.d (.int .i64)],fun a=>ABA a.1⟩
theorem ok50:Ctr.ok prog 50 ctr50:=A7 (G:={ gxb with fs:=[] }) (an:=AW2) (A8 trivial) func50 rfl rfl rfl rfl (fun a=>by kernel_rfl)
def fd118:Rx.Fd:=⟨[(.st 6)],(.int .i64),fun n=>if n=49 then fun x0=>AA9 x0 else if n=50 then fun x0=>ABA x0 else fun _=>none⟩
theorem okd118:∀n M w,GlOk (P:=prog) M w->FnOk (P:=prog) M w (.func (.func n) #[] #[]) fd118.a fd118.r (fd118.D n):=fun n M w H=>by
 by_cases J:n=49
 . subst J;exact X2 (G:={ gxb with fs:=[(49,ctr49)] }) (A8 ⟨⟨ok49,call49⟩,trivial⟩) H (M:=M) (fun _ h=>h) (R:=fun _=>none) (ρ:=fun _=>undef) (γ:=fun _=>[]) (caps:=[]) (vs:=[]) RdN.nil (by kernel_rfl) rfl
 by_cases I:n=50
 . subst I;exact X2 (G:={ gxb with fs:=[(50,ctr50)] }) (A8 ⟨⟨ok50,call50⟩,trivial⟩) H (M:=M) (fun _ h=>h) (R:=fun _=>none) (ρ:=fun _=>undef) (γ:=fun _=>[]) (caps:=[]) (vs:=[]) RdN.nil (by kernel_rfl) rfl
 have e:fd118.D n=fun _=>none:=by simp[fd118,J,I]<;>rfl
 rw[e];exact fun _ _ _ _ _ _ _ y hy=>by cases hy
def J4(a:Letter)(b:Letter)(a2_:List Nat):Option Int:=(B5 (S:=Int) (R:=(Unit⊕Int)) (fun x7=>cond (decide (x7<(a2_.length:Int))) ((ixo a2_ x7).bind fun y8=>(fd118.D y8 a).bind fun y9=>(fd118.D y8 b).bind fun y10=>(E0 y9 y10).bind fun r11=>cond ((!decide (r11=0))) (some (Sum.inr (Sum.inr r11))) ((chk .i64 (x7+1)).bind fun n12=>some (Sum.inl n12))) (some (Sum.inr (Sum.inl ())))) (0:Int)).bind ((Sum.elim (fun _=>some (0:Int)) (fun r13=>some r13)))
def AW3:An:=.nd .x (.nd (.nd .x (.lp ⟨[(.slot 11,.d (.int .i64))],[4,3]⟩ [.exit 0 ⟨[],[]⟩,.ret] .x)) .x)
def AVq:Ctr:=⟨[.d (.st 6),.d (.st 6),.pt (.sl (.fno 118))],[.d (.int .i64)],fun a=>J4 a.1 a.2.1 a.2.2.1⟩
theorem ok87:Ctr.ok prog 87 AVq:=A7 (G:={ gxb with fs:=[(88,ctr88)],fd:=[(118,fd118)] }) (an:=AW3) (AHw ⟨⟨ok88,call88⟩,trivial⟩ trivial trivial ⟨okd118,trivial⟩) func87 rfl rfl rfl rfl (fun a=>by kernel_rfl)
def J5(a:Report)(b:Report)(a2_:List Nat):Option Int:=(B5 (S:=Int) (R:=(Unit⊕Int)) (fun x7=>cond (decide (x7<(a2_.length:Int))) ((ixo a2_ x7).bind fun y8=>(fd160.D y8 a).bind fun y9=>(fd160.D y8 b).bind fun y10=>(E0 y9 y10).bind fun r11=>cond ((!decide (r11=0))) (some (Sum.inr (Sum.inr r11))) ((chk .i64 (x7+1)).bind fun n12=>some (Sum.inl n12))) (some (Sum.inr (Sum.inl ())))) (0:Int)).bind ((Sum.elim (fun _=>some (0:Int)) (fun r13=>some r13)))
def AVr:An:=.nd .x (.nd (.nd .x (.lp ⟨[(.slot 11,.d (.int .i64))],[4,3]⟩ [.exit 0 ⟨[],[]⟩,.ret] .x)) .x)
def ATu:Ctr:=⟨[.d (.st 1),.d (.st 1),.pt (.sl (.fno 160))],[.d (.int .i64)],fun a=>J5 a.1 a.2.1 a.2.2.1⟩
theorem ok131:Ctr.ok prog 131 ATu:=A7 (G:={ gxb with fs:=[(88,ctr88)],fd:=[(160,fd160)] }) (an:=AVr) (AHw ⟨⟨ok88,call88⟩,trivial⟩ trivial trivial ⟨okd160,trivial⟩) func131 rfl rfl rfl rfl (fun a=>by kernel_rfl)
end Go.Proofs.YtgioiejbphljoaaGreatDoor
namespace Go.Rx
open Go Go.Proofs Go.Sx Go.RowKit Go.Sort Go.Shelf
@[reducible] def T9:Trk:=⟨True⟩
def AK2{α:Type}(x:List α)(cmp:α->α->Option Int)(cf:α->α->Int):Prop:=
 (∀a b,a∈x->b∈x->cmp a b=some (cf a b))/\SWO (ltOf fun a b:{ r:α // r∈x }=>cf a.1 b.1)/\∀a b,a∈x->b∈x->¬cf a b<0->¬cf b a<0->a=b
open Classical in
def ACY{α:Type}(x:List α)(cmp:α->α->Option Int):Option (List α):=
 if h:x.length<4611686018427387904/\∃cf,AK2 x cmp cf then some (x.mergeSort fun a b=>!decide (h.2.choose b a<0)) else none
variable[Trk]
theorem AK3{α:Type}(enc:α->List Value){n:Nat}(I:0<n)(H:∀x,(enc x).length=n):∀(xs:List α) (t:Nat),(xs.flatMap enc)[t]?=(xs[t / n]?).bind fun x=>(enc x)[t % n]?
 |[],t=>by simp
 |x::xs,t=>by
  rw[List.flatMap_cons];rcases AYl t n with h|h
  . rw[AY5 (by rw[H];exact h),Nat.div_eq_of_lt h,Nat.mod_eq_of_lt h];rfl
  . rw[AZC (by rw[H];exact h),H,AK3 enc I H xs (t-n),Nat.div_eq_sub_div I h,Nat.mod_eq_sub_mod h];rfl
theorem AHx{α:Type}[Inhabited α](enc:α->List Value){n:Nat}(I:0<n)(J:∀x,(enc x).length=n)(d:Array α):(flatK enc n d).toList=d.toList.flatMap enc:=by
 refine AZM fun t=>?_;rw[AK3 enc I J];unfold flatK;rcases AYl t (d.size*n) with h|h
 . have H:t / n<d.size:=Nat.div_lt_of_lt_mul (by rw[Nat.mul_comm];exact h);have V:t % n<n:=Nat.mod_lt _ I;simp only[Array.getElem?_toList,Array.getElem?_map,Array.getElem?_range,h,Array.getElem?_eq_getElem H];have U:t % n<(enc d[t / n]).length:=by rw[J];exact V
   simp[H,getElem!_pos,U]
 . have H:d.size<=t / n:=(Nat.le_div_iff_mul_le I).2 h;simp only[Array.getElem?_toList,Array.getElem?_eq_none H,Option.bind_none];simp[h]
theorem AOv{ys:List Value}{cur:Array Value}(h:ys.length<=cur.size):(putCells id 0 ys.toArray cur).toList.take ys.length=ys:=by
 apply AZM;intro i;rw[AY4];split
 . rename_i hi;have H:cur[i]?=some cur[i]:=AZb (by omega);simp only[putCells,Array.getElem?_toList,Array.getElem?_mapIdx,H,Option.map_some];rw[AYf ⟨by omega,by simpa using hi⟩];simp[hi]
 . rename_i hi;rw[AYi (by omega)]
theorem AK4{α:Type}[Inhabited α]{enc:α->List Value}{k:Nat}{w:World}{g n:Nat}{d:Array α}{os:Array Obj}:Kp [g] w (sortWorldK enc k w g 0 n d os):=by
 refine⟨rfl,rfl,rfl,by simp[sortWorldK,putRowK],fun j I hm=>?_,fun _=>show w.drawn<=w.drawn+n from Nat.le_add_right _ _⟩;have H:¬g=j:=fun e=>hm (by simp[e]);unfold sortWorldK putRowK;rw[heap_grow_old _ _ (by simpa using I)];show(w.heap.modify g (onCells (putCells id 0 (flatK enc k d))))[j]?=_;rw[AaH,if_neg H]
variable{P:Program}{ρ:Ren}{α:Type}{E:Enc α}{enc:α->List Value}{In:α->Prop}
theorem ACZ(J:∀{M w cs x},E.R M w cs x↔cs=enc x/\In x){M:List Nat}{w:World}:∀{cs:List Value} {xs:List α},Chunks E M w cs xs↔cs=xs.flatMap enc/\∀r∈xs,In r
 |cs,[]=>by
  constructor
  . intro h;exact⟨h,fun _ h=>by cases h⟩
  . rintro⟨h,_⟩;exact h
 |cs,x::xs=>by
  constructor
  . rintro⟨c,rest,U,V,H⟩;obtain⟨rfl,D⟩:=J.1 V;obtain⟨C,W⟩:=(ACZ J).1 H;refine⟨by rw[U,C];rfl,fun r H=>?_⟩;rcases mem_cons.1 H with rfl|H
    . exact D
    . exact W r H
  . rintro⟨U,I⟩;exact⟨enc x,xs.flatMap enc,by rw[U];rfl,J.2 ⟨rfl,I x (AYX ..)⟩,(ACZ J).2 ⟨rfl,fun r H=>I r (AYT _ H)⟩⟩
@[ext] structure ElR(In:α->Prop)(x:List α)where
 r:α
 mem:r∈x
 inn:In r
theorem AF5(W:SlLaysF0.n6 P ρ)(hE:∀{M w cs x},E.R M w cs x↔cs=enc x/\In x)(h8:∀x,(enc x).length=E.n)(z:∀x v,v∈enc x->v.oneCell'=true)(t:∀w,(isAgg (ρ.t 24)).run P w=.ok true w)(R:∀w,(sizeOf (ρ.t 24)).run P w=.ok E.n w){e:TypeId}{M:List Nat}{w:World}{v_x:Value}{x:List α}(p_x:Sx.Own E e 0 M w v_x x){v_cmp:Value}{cmp:α->α->Option Int}(hf:∀(x0 x1:α) (r:Int) (w1:World),@Kp T9 (ob v_x) w w1->In x0->In x1->cmp x0 x1=some r->CallsV P v_cmp [.agg (toArray (enc x0)),.agg (toArray (enc x1))] w1 fun e w2=>e=.returned (Value.int .i64 r)/\@Ext T9 w1 w2){r0:List α}(h:ACY x cmp=some r0):Calls P (ρ.f 6) (toArray [v_x,v_cmp]) w fun e' w'=>e'=.returned (Value.tuple #[])/\Sx.Own E e 0 M w' v_x r0/\Kp (ob v_x) w w':=by
 unfold ACY at h;split at h
 . rename_i U;have N:=AYS h;obtain⟨T,B⟩:=U;have U:=B.choose_spec;generalize B.choose=cf at N U;obtain⟨X,y,hT⟩:=U;have none_:∀a n,v_x=.slice a 0 n->x=[]->Calls P (ρ.f 6) (toArray [v_x,v_cmp]) w fun e' w'=>e'=.returned (Value.tuple #[])/\Sx.Own E e 0 M w' v_x r0/\Kp (ob v_x) w w':=by
    rintro a n rfl rfl;refine(AnyF.slices_SortFunc_none (P:=P) (ρ:=ρ) W a n v_cmp w).mono ?_;rintro e' w' ⟨rfl,rfl⟩;subst N;exact⟨rfl,by simpa using p_x,Kp.refl _ _⟩
   have p_x0:=p_x;rcases p_x with⟨a,rfl,rfl⟩|⟨g,cap,cur,rfl,h1,K,h3,h4,h5,h6⟩
   . exact none_ a _ rfl rfl
   . by_cases hx:x=[]
     . subst hx;exact none_ _ _ rfl rfl
     . have hg:=J6 K;obtain⟨h7,I⟩:=(ACZ hE).1 h6;obtain⟨r1,H⟩:=List.exists_mem_of_ne_nil x hx;letI:Inhabited (ElR In x):=⟨⟨r1,H,I r1 H⟩⟩
       obtain⟨d,hd⟩:∃d:List (ElR In x),d.map ElR.r=x:=⟨x.attach.map fun r=>⟨r.1,r.2,I r.1 r.2⟩,by rw[AY3];exact AY8 x⟩;have V:d.length=x.length:=by have:=AYe List.length hd;simpa using this
       have F:∀a:ElR In x,(enc a.r).length=E.n:=fun a=>h8 a.r;have p:d.flatMap (fun a=>enc a.r)=x.flatMap enc:=by have:=AYe (List.flatMap enc) hd;rw[List.flatMap_map]at this;exact this
       have hH:HoldsK (fun a:ElR In x=>enc a.r) E.n w g 0 d.toArray:=fun j i=>by
        have L:j<d.length*E.n:=by simpa using i
        have hv:(flatK (fun a:ElR In x=>enc a.r) E.n d.toArray).toList=x.flatMap enc:=by rw[AHx _ E.pos F,<-p]
        have hq:cur.toList[j]?=some ((flatK (fun a:ElR In x=>enc a.r) E.n d.toArray)[j]!):=by
         have e1:=AYe (fun l=>l[j]?) h7;simp only[List.getElem?_take,show j<x.length*E.n by rw[<-V];exact L,if_true]at e1;rw[e1,<-hv,AZj,getElem!_pos (flatK (fun a:ElR In x=>enc a.r) E.n d.toArray) j i,AZb i]
        constructor
        . have:w.cell? ⟨g,0+j,none⟩=cur[j]?:=by simp[World.cell?,K]
          rw[this,<-AZj,hq];rfl
        . simp[World.frozen?,K]
       obtain⟨gf,cb,rfl,eg,_⟩:=hf r1 r1 (cf r1 r1) w (@Kp.refl T9 _ _) (I r1 H) (I r1 H) (X r1 r1 H H);have G:CmpLays P gf cb (fun a:ElR In x=>enc a.r) E.n (fun a b=>cf a.r b.r) g 0 d.toArray.size w:=fun m os dk _ a b=>by
        obtain⟨gf',cb',o,_,hC⟩:=hf a.r b.r (cf a.r b.r) (sortWorldK (fun a:ElR In x=>enc a.r) E.n w g 0 m dk os) (@Kp.mono T9 _ _ _ _ (@AK4 T9 _ _ _ _ _ _ _ _ _) fun c Z=>.inl (by simpa[ob] using Z)) a.inn b.inn (X a.r b.r a.mem b.mem);cases o
        refine hC.mono ?_;rintro e' w' ⟨rfl,hx⟩;obtain⟨q,os',he⟩:=@Ext.grown T9 _ _ hx trivial;exact⟨rfl,q,os',he⟩
       have u:SWO (ltOf fun a b:ElR In x=>cf a.r b.r):=
        ⟨fun a=>y.irrefl ⟨a.r,a.mem⟩,fun a b c=>y.trans ⟨a.r,a.mem⟩ ⟨b.r,b.mem⟩ ⟨c.r,c.mem⟩,fun a b c=>y.ntrans ⟨a.r,a.mem⟩ ⟨b.r,b.mem⟩ ⟨c.r,c.mem⟩⟩
       have Z:=AnyQ.slices_SortFunc_total W E.n t R (fun a:ElR In x=>enc a.r) F (fun a v hv=>z a.r v hv) (fun a b=>cf a.r b.r) u gf cb g 0 (cap+1) d.toArray w eg G hH hg (by simpa[V] using T)
        (fun a b h1 K=>ElR.ext (hT a.r b.r a.mem b.mem (by simpa[ltOf] using h1) (by simpa[ltOf] using K)))
       rw[show d.toArray.size=x.length by simp[V]]at Z;refine Z.mono ?_;rintro e' w' ⟨rfl,n,os,rfl⟩;obtain⟨ys,C⟩:∃ys,ys=d.mergeSort fun a b:ElR In x=>!(ltOf fun a b:ElR In x=>cf a.r b.r) b a:=⟨_,rfl⟩;have J:ys.map ElR.r=r0:=by
        have I:=List.map_mergeSort (r:=fun a b:ElR In x=>!(ltOf fun a b:ElR In x=>cf a.r b.r) b a) (s:=fun a b=>!decide (cf b a<0)) (f:=ElR.r) (l:=d) fun a _ b _=>rfl;rw[hd,N]at I;rw[C];exact I
       have O:ys.length=x.length:=by rw[C,List.length_mergeSort,V]
       have D:r0.length=x.length:=by rw[<-J,AY1,O]
       have hW:(d.toArray.toList.mergeSort fun a b:ElR In x=>!(ltOf fun a b:ElR In x=>cf a.r b.r) b a).toArray=ys.toArray:=by rw[C]
       rw[hW];have S:Kp [g] w (sortWorldK (fun a:ElR In x=>enc a.r) E.n w g 0 n ys.toArray os):=AK4;have k:∀r∈r0,In r:=fun r Q=>by
        rw[<-J]at Q;obtain⟨a,_,rfl⟩:=mem_map.1 Q;exact a.inn
       have A:(flatK (fun a:ElR In x=>enc a.r) E.n ys.toArray).toList=r0.flatMap enc:=by have I:=AYe (List.flatMap enc) J;rw[List.flatMap_map]at I;rw[AHx _ E.pos F];exact I
       have Y:(flatK (fun a:ElR In x=>enc a.r) E.n ys.toArray).size=x.length*E.n:=by simp[O]
       refine⟨rfl,.inr ⟨g,cap,putCells id 0 (flatK (fun a:ElR In x=>enc a.r) E.n ys.toArray) cur,by rw[D],AY0 _,?_,by rw[D];exact h3,h4,?_,?_⟩,S.mono fun b hb=>.inl (by simpa[ob] using hb)⟩
       . unfold sortWorldK putRowK;rw[heap_grow_old _ _ (by simpa using hg)];show(w.heap.modify g (onCells (putCells id 0 (flatK (fun a:ElR In x=>enc a.r) E.n ys.toArray))))[g]?=_;rw[AaH,AYf rfl,K];rfl
       . rw[<-h5];simp[putCells]
       . refine(ACZ hE).2 ⟨?_,k⟩;have I:=AOv (ys:=(flatK (fun a:ElR In x=>enc a.r) E.n ys.toArray).toList) (cur:=cur) (by
          rw[AZe,Y,h5];exact AZc _ (by omega))
         rw[show(flatK (fun a:ElR In x=>enc a.r) E.n ys.toArray).toList.toArray=flatK (fun a:ElR In x=>enc a.r) E.n ys.toArray by simp,AZe,Y]at I;show(putCells id 0 (flatK (fun a:ElR In x=>enc a.r) E.n ys.toArray) cur).toList.take (r0.length*E.n)=_;rw[D,I,A]
 . cases h
end Go.Rx
namespace Go.Proofs.YtgioiejbphljoaaGreatDoor
open Go Go.Sx
instance trkF:Trk:=⟨False⟩
end Go.Proofs.YtgioiejbphljoaaGreatDoor
namespace Go.Proofs.YtgioiejbphljoaaGreatDoor
open Go Go.Proofs Go.Sx Go.Rx Go.RowKit
theorem ATv{kt:TypeId}{κ:Type}{K:Ky prog kt κ}{k:IntKind}{ag:Bool}{M:List Nat}{w:World}:∀{es:List MapEntry} {xs:List (κ×Int)},EntK K (B2 k) ag M w es xs->@EntK T9 _ _ _ _ K (@B2 T9 k) ag M w es xs
 |[],[],h=>h
 |_::_,_::_,⟨J,I,H⟩=>⟨J,I,ATv H⟩
 |[],_::_,h=>h.elim
 |_::_,[],h=>h.elim
theorem glT{M:List Nat}{w:World}(h:GlOk (P:=prog) M w):@GlOk T9 _ _ prog _ M w:=fun g s H ρ R=>by
 match g,H with
 |0,H=>cases H;exact h 0 _ rfl ρ R
 |1,H=>cases H;exact h 1 _ rfl ρ R
 |2,H=>
  cases H
  obtain⟨b,o0,u,vs,C,W,⟨V,cs,⟨v',K',rfl,hK,b',rfl,U,es,c,xs,g1,g2,g3,g4⟩,J⟩,I⟩:=h 2 _ rfl ρ R
  exact⟨b,o0,u,vs,C,W,⟨V,[.map (some b')],⟨.map (some b'),K',rfl,hK,b',rfl,U,es,c,xs,g1,g2,ATv g3,g4⟩,J⟩,I⟩
 |_+3,H=>cases H
def M6(by_:List Nat)(l:List Dispute):Option (Unit×List Dispute):=(ACY l fun a b=>P7 a b by_).bind fun r=>some ((),r)
def ATw:CtrM:={ ps:=[.d (.sl (.fno 130))],i:=0,c:=.sl 53 (.st 2),rs:=[],F:=fun a x=>M6 a.1 x,self:=true }
theorem AYP:CtrM.ok prog 58 ATw:=by
 refine⟨rfl,fun M w a x v vals us r x' B O hd Y hi Q _ hx V=>?_⟩;obtain⟨vb,_,rfl,J,rfl⟩:=Y;have F:us=[v,vb]:=by
  cases us with
  |nil=>cases hi
  |cons u l=>
   have U:u=v:=AYS hi
   have H:l=[vb]:=Q
   rw[U,H]
 subst F;have f_by:RdS AER (ob v++M) w vb a.1:=by
  obtain⟨cs,⟨u,rfl,U⟩,⟨H,_⟩|⟨_,H⟩⟩:=J
  . cases H
  . rw[<-List.singleton_inj.1 H];exact U
 have hx:Sx.Own DisputeE 53 0 (ob v++M) w v x:=hx;have p_l:Sx.Own DisputeE 53 0 M w v x:=hx.mon fun b J=>.inr (AYW _ J);have G:=ABo (fun b J=>B b (AYW _ J)) hd p_l;have V:M6 a.1 x=some (r,x'):=V;refine I0 func58 rfl ntmps58 rfl ?_;refine A6 (A9 ?_);refine AAQ G rfl (RdS.cells1 f_by) rfl ?_;intro b1 w2 W x4;have K:=W.freezeRow 0 rfl;have I:=W.erase 0;refine H2 rfl rfl (Reg.nil (A6 (A9 ?_)));refine K4 rfl rfl ?_;refine AEJ rfl rfl ?_;unfold M6 at V;obtain⟨l7,D,h⟩:=U2 V;refine AAC rfl call93 rfl ?_;have la:=AEL (σ:=[ownR (ob v) DisputeE 53 v x]) (M:=M) (w:=w2) 0 rfl;have q1:=I.lendM 0 rfl;have q2:@RdS T9 Nat (@AER T9) _ w2 vb a.1:=(f_by.adv I.adv).adv la;have q3:=K.adv la;have q4:=glT ((O.adv I.adv).adv la);have T:Calls prog 93 (toArray [v,.func (.func 94) #[] (toArray [.pointer (some ⟨b1,0,none⟩)])]) w2 _:=AF5 (E:=DisputeE) (enc:=fun x=>[Value.int .i64 x.id,Value.int .i64 x.report,Value.int .i64 x.day]) (In:=fun x=>InK .i64 x.id/\InK .i64 x.report/\InK .i64 x.day) AIF DisputeE_R (fun _=>rfl) (fun x v hv=>by
  simp only[mem_cons,List.not_mem_nil,or_false]at hv;rcases hv with rfl|rfl|rfl<;>rfl) isAgg53 sizeOf53 (I.lendOwn 0 rfl) (fun a0 a1 r w9 e9 f0 f1 V=>by
  letI:=T9
  refine CallsV.go call94 rfl (ok94.2 _ w9 (a0,a1,a.1,()) [_,_,_] r (q1.ext e9) (q4.adv (Adv.lent e9)) ⟨_,_,rfl,⟨_,DisputeE_R.2 ⟨rfl,f0⟩,.inl ⟨rfl,rfl⟩⟩,_,_,rfl,⟨_,DisputeE_R.2 ⟨rfl,f1⟩,.inl ⟨rfl,rfl⟩⟩,_,_,rfl,⟨b1,0,[vb],rfl,q3.adv (Adv.lent e9),vb,rfl,q2.adv (Adv.lent e9)⟩,rfl⟩ V) ?_;rintro e w3 ⟨us,rfl,⟨u,rfl,cs,U,⟨H,_⟩|⟨_,H⟩⟩,hx⟩
  . cases H
  . have U:cs=[.int .i64 r]/\_:=U;rw[U.1]at H;have H:=List.singleton_inj.1 H;subst H;exact⟨rfl,hx⟩) D
 refine T.mono ?_;rintro _ w9 ⟨rfl,A,hk⟩;refine⟨_,rfl,?_⟩;have C:=I.took 0 rfl ⟨A,fun b J=>.inl J,hk⟩;refine Reg.nil (A6 (A9 ?_));refine K4 rfl rfl (H2 rfl rfl (Reg.nil (O6 ?_)));have h:=AYS h;cases h
 refine fin1 results58 rfl ?_;obtain⟨k1,_,k3⟩:=C.ownBack 0 rfl;exact⟨[],rfl,rfl,k3,k1.mon fun b J=>mem_append.1 J⟩
def H4(by_:List Nat)(l:List Report):Option (Unit×List Report):=(ACY l fun a b=>J3 a b by_).bind fun r=>some ((),r)
def ctrm77:CtrM:={ ps:=[.d (.sl (.fno 160))],i:=0,c:=.sl 45 (.st 1),rs:=[],F:=fun a x=>H4 a.1 x,self:=true }
theorem okm77:CtrM.ok prog 77 ctrm77:=by
 refine⟨rfl,fun M w a x v vals us r x' B O hd Y hi Q _ hx V=>?_⟩;obtain⟨vb,_,rfl,J,rfl⟩:=Y;have F:us=[v,vb]:=by
  cases us with
  |nil=>cases hi
  |cons u l=>
   have U:u=v:=AYS hi
   have H:l=[vb]:=Q
   rw[U,H]
 subst F;have f_by:RdS AER (ob v++M) w vb a.1:=by
  obtain⟨cs,⟨u,rfl,U⟩,⟨H,_⟩|⟨_,H⟩⟩:=J
  . cases H
  . rw[<-List.singleton_inj.1 H];exact U
 have hx:Sx.Own ReportE 45 0 (ob v++M) w v x:=hx;have p_l:Sx.Own ReportE 45 0 M w v x:=hx.mon fun b J=>.inr (AYW _ J);have G:=ABo (fun b J=>B b (AYW _ J)) hd p_l;have V:H4 a.1 x=some (r,x'):=V;refine I0 func77 rfl ntmps77 rfl ?_;refine A6 (A9 ?_);refine AAQ G rfl (RdS.cells1 f_by) rfl ?_;intro b1 w2 W x4;have K:=W.freezeRow 0 rfl;have I:=W.erase 0;refine H2 rfl rfl (Reg.nil (A6 (A9 ?_)));refine K4 rfl rfl ?_;refine AEJ rfl rfl ?_;unfold H4 at V;obtain⟨l7,D,h⟩:=U2 V;refine AAC rfl call118 rfl ?_;have la:=AEL (σ:=[ownR (ob v) ReportE 45 v x]) (M:=M) (w:=w2) 0 rfl;have q1:=I.lendM 0 rfl;have q2:@RdS T9 Nat (@AER T9) _ w2 vb a.1:=(f_by.adv I.adv).adv la;have q3:=K.adv la;have q4:=glT ((O.adv I.adv).adv la);have T:Calls prog 118 (toArray [v,.func (.func 119) #[] (toArray [.pointer (some ⟨b1,0,none⟩)])]) w2 _:=AF5 (E:=ReportE) (enc:=fun x=>[Value.int .i64 x.id,Value.int .i64 x.source,Value.int .i64 x.account,Value.int .i64 x.made,Value.int .i64 x.about,Value.int .u8 x.kind,Value.int .i64 x.cents,Value.int .i64 x.of_]) (In:=fun x=>InK .i64 x.id/\InK .i64 x.source/\InK .i64 x.account/\InK .i64 x.made/\InK .i64 x.about/\InK .u8 x.kind/\InK .i64 x.cents/\InK .i64 x.of_) ADH ReportE_R (fun _=>rfl) (fun x v hv=>by
  simp only[mem_cons,List.not_mem_nil,or_false]at hv;rcases hv with rfl|rfl|rfl|rfl|rfl|rfl|rfl|rfl<;>rfl) isAgg45 sizeOf45 (I.lendOwn 0 rfl) (fun a0 a1 r w9 e9 f0 f1 V=>by
  letI:=T9
  refine CallsV.go call119 rfl (ok119.2 _ w9 (a0,a1,a.1,()) [_,_,_] r (q1.ext e9) (q4.adv (Adv.lent e9)) ⟨_,_,rfl,⟨_,ReportE_R.2 ⟨rfl,f0⟩,.inl ⟨rfl,rfl⟩⟩,_,_,rfl,⟨_,ReportE_R.2 ⟨rfl,f1⟩,.inl ⟨rfl,rfl⟩⟩,_,_,rfl,⟨b1,0,[vb],rfl,q3.adv (Adv.lent e9),vb,rfl,q2.adv (Adv.lent e9)⟩,rfl⟩ V) ?_;rintro e w3 ⟨us,rfl,⟨u,rfl,cs,U,⟨H,_⟩|⟨_,H⟩⟩,hx⟩
  . cases H
  . have U:cs=[.int .i64 r]/\_:=U;rw[U.1]at H;have H:=List.singleton_inj.1 H;subst H;exact⟨rfl,hx⟩) D
 refine T.mono ?_;rintro _ w9 ⟨rfl,A,hk⟩;refine⟨_,rfl,?_⟩;have C:=I.took 0 rfl ⟨A,fun b J=>.inl J,hk⟩;refine Reg.nil (A6 (A9 ?_));refine K4 rfl rfl (H2 rfl rfl (Reg.nil (O6 ?_)));have h:=AYS h;cases h
 refine fin1 results77 rfl ?_;obtain⟨k1,_,k3⟩:=C.ownBack 0 rfl;exact⟨[],rfl,rfl,k3,k1.mon fun b J=>mem_append.1 J⟩
def H5(by_:List Nat)(l:List Letter):Option (Unit×List Letter):=(ACY l fun a b=>J4 a b by_).bind fun r=>some ((),r)
def ctrm48:CtrM:={ ps:=[.d (.sl (.fno 118))],i:=0,c:=.sl 70 (.st 6),rs:=[],F:=fun a x=>H5 a.1 x,self:=true }
theorem okm48:CtrM.ok prog 48 ctrm48:=by
 refine⟨rfl,fun M w a x v vals us r x' B O hd Y hi Q _ hx V=>?_⟩;obtain⟨vb,_,rfl,J,rfl⟩:=Y;have F:us=[v,vb]:=by
  cases us with
  |nil=>cases hi
  |cons u l=>
   have U:u=v:=AYS hi
   have H:l=[vb]:=Q
   rw[U,H]
 subst F;have f_by:RdS AER (ob v++M) w vb a.1:=by
  obtain⟨cs,⟨u,rfl,U⟩,⟨H,_⟩|⟨_,H⟩⟩:=J
  . cases H
  . rw[<-List.singleton_inj.1 H];exact U
 have hx:Sx.Own LetterE 70 0 (ob v++M) w v x:=hx;have p_l:Sx.Own LetterE 70 0 M w v x:=hx.mon fun b J=>.inr (AYW _ J);have G:=ABo (fun b J=>B b (AYW _ J)) hd p_l;have V:H5 a.1 x=some (r,x'):=V;refine I0 func48 rfl ntmps48 rfl ?_;refine A6 (A9 ?_);refine AAQ G rfl (RdS.cells1 f_by) rfl ?_;intro b1 w2 W x4;have K:=W.freezeRow 0 rfl;have I:=W.erase 0;refine H2 rfl rfl (Reg.nil (A6 (A9 ?_)));refine K4 rfl rfl ?_;refine AEJ rfl rfl ?_;unfold H5 at V;obtain⟨l7,D,h⟩:=U2 V;refine AAC rfl call86 rfl ?_;have la:=AEL (σ:=[ownR (ob v) LetterE 70 v x]) (M:=M) (w:=w2) 0 rfl;have q1:=I.lendM 0 rfl;have q2:@RdS T9 Nat (@AER T9) _ w2 vb a.1:=(f_by.adv I.adv).adv la;have q3:=K.adv la;have q4:=glT ((O.adv I.adv).adv la);have T:Calls prog 86 (toArray [v,.func (.func 87) #[] (toArray [.pointer (some ⟨b1,0,none⟩)])]) w2 _:=AF5 (E:=LetterE) (enc:=fun x=>[Value.int .i64 x.dispute,Value.int .i64 x.who,Value.int .i64 x.asked]) (In:=fun x=>InK .i64 x.dispute/\InK .i64 x.who/\InK .i64 x.asked) AIG LetterE_R (fun _=>rfl) (fun x v hv=>by
  simp only[mem_cons,List.not_mem_nil,or_false]at hv;rcases hv with rfl|rfl|rfl<;>rfl) isAgg70 sizeOf70 (I.lendOwn 0 rfl) (fun a0 a1 r w9 e9 f0 f1 V=>by
  letI:=T9
  refine CallsV.go call87 rfl (ok87.2 _ w9 (a0,a1,a.1,()) [_,_,_] r (q1.ext e9) (q4.adv (Adv.lent e9)) ⟨_,_,rfl,⟨_,LetterE_R.2 ⟨rfl,f0⟩,.inl ⟨rfl,rfl⟩⟩,_,_,rfl,⟨_,LetterE_R.2 ⟨rfl,f1⟩,.inl ⟨rfl,rfl⟩⟩,_,_,rfl,⟨b1,0,[vb],rfl,q3.adv (Adv.lent e9),vb,rfl,q2.adv (Adv.lent e9)⟩,rfl⟩ V) ?_;rintro e w3 ⟨us,rfl,⟨u,rfl,cs,U,⟨H,_⟩|⟨_,H⟩⟩,hx⟩
  . cases H
  . have U:cs=[.int .i64 r]/\_:=U;rw[U.1]at H;have H:=List.singleton_inj.1 H;subst H;exact⟨rfl,hx⟩) D
 refine T.mono ?_;rintro _ w9 ⟨rfl,A,hk⟩;refine⟨_,rfl,?_⟩;have C:=I.took 0 rfl ⟨A,fun b J=>.inl J,hk⟩;refine Reg.nil (A6 (A9 ?_));refine K4 rfl rfl (H2 rfl rfl (Reg.nil (O6 ?_)));have h:=AYS h;cases h
 refine fin1 results48 rfl ?_;obtain⟨k1,_,k3⟩:=C.ownBack 0 rfl;exact⟨[],rfl,rfl,k3,k1.mon fun b J=>mem_append.1 J⟩
def F2(by_:List Nat)(l:List Report):Option (Unit×List Report):=(ACY l fun a b=>J5 a b by_).bind fun r=>some ((),r)
def ctrm106:CtrM:={ ps:=[.d (.sl (.fno 160))],i:=0,c:=.sl 45 (.st 1),rs:=[],F:=fun a x=>F2 a.1 x,self:=true }
theorem okm106:CtrM.ok prog 106 ctrm106:=by
 refine⟨rfl,fun M w a x v vals us r x' B O hd Y hi Q _ hx V=>?_⟩;obtain⟨vb,_,rfl,J,rfl⟩:=Y;have F:us=[v,vb]:=by
  cases us with
  |nil=>cases hi
  |cons u l=>
   have U:u=v:=AYS hi
   have H:l=[vb]:=Q
   rw[U,H]
 subst F;have f_by:RdS AER (ob v++M) w vb a.1:=by
  obtain⟨cs,⟨u,rfl,U⟩,⟨H,_⟩|⟨_,H⟩⟩:=J
  . cases H
  . rw[<-List.singleton_inj.1 H];exact U
 have hx:Sx.Own ReportE 45 0 (ob v++M) w v x:=hx;have p_l:Sx.Own ReportE 45 0 M w v x:=hx.mon fun b J=>.inr (AYW _ J);have G:=ABo (fun b J=>B b (AYW _ J)) hd p_l;have V:F2 a.1 x=some (r,x'):=V;refine I0 func106 rfl ntmps106 rfl ?_;refine A6 (A9 ?_);refine AAQ G rfl (RdS.cells1 f_by) rfl ?_;intro b1 w2 W x4;have K:=W.freezeRow 0 rfl;have I:=W.erase 0;refine H2 rfl rfl (Reg.nil (A6 (A9 ?_)));refine K4 rfl rfl ?_;refine AEJ rfl rfl ?_;unfold F2 at V;obtain⟨l7,D,h⟩:=U2 V;refine AAC rfl call118 rfl ?_;have la:=AEL (σ:=[ownR (ob v) ReportE 45 v x]) (M:=M) (w:=w2) 0 rfl;have q1:=I.lendM 0 rfl;have q2:@RdS T9 Nat (@AER T9) _ w2 vb a.1:=(f_by.adv I.adv).adv la;have q3:=K.adv la;have q4:=glT ((O.adv I.adv).adv la);have T:Calls prog 118 (toArray [v,.func (.func 131) #[] (toArray [.pointer (some ⟨b1,0,none⟩)])]) w2 _:=AF5 (E:=ReportE) (enc:=fun x=>[Value.int .i64 x.id,Value.int .i64 x.source,Value.int .i64 x.account,Value.int .i64 x.made,Value.int .i64 x.about,Value.int .u8 x.kind,Value.int .i64 x.cents,Value.int .i64 x.of_]) (In:=fun x=>InK .i64 x.id/\InK .i64 x.source/\InK .i64 x.account/\InK .i64 x.made/\InK .i64 x.about/\InK .u8 x.kind/\InK .i64 x.cents/\InK .i64 x.of_) ADH ReportE_R (fun _=>rfl) (fun x v hv=>by
  simp only[mem_cons,List.not_mem_nil,or_false]at hv;rcases hv with rfl|rfl|rfl|rfl|rfl|rfl|rfl|rfl<;>rfl) isAgg45 sizeOf45 (I.lendOwn 0 rfl) (fun a0 a1 r w9 e9 f0 f1 V=>by
  letI:=T9
  refine CallsV.go call131 rfl (ok131.2 _ w9 (a0,a1,a.1,()) [_,_,_] r (q1.ext e9) (q4.adv (Adv.lent e9)) ⟨_,_,rfl,⟨_,ReportE_R.2 ⟨rfl,f0⟩,.inl ⟨rfl,rfl⟩⟩,_,_,rfl,⟨_,ReportE_R.2 ⟨rfl,f1⟩,.inl ⟨rfl,rfl⟩⟩,_,_,rfl,⟨b1,0,[vb],rfl,q3.adv (Adv.lent e9),vb,rfl,q2.adv (Adv.lent e9)⟩,rfl⟩ V) ?_;rintro e w3 ⟨us,rfl,⟨u,rfl,cs,U,⟨H,_⟩|⟨_,H⟩⟩,hx⟩
  . cases H
  . have U:cs=[.int .i64 r]/\_:=U;rw[U.1]at H;have H:=List.singleton_inj.1 H;subst H;exact⟨rfl,hx⟩) D
 refine T.mono ?_;rintro _ w9 ⟨rfl,A,hk⟩;refine⟨_,rfl,?_⟩;have C:=I.took 0 rfl ⟨A,fun b J=>.inl J,hk⟩;refine Reg.nil (A6 (A9 ?_));refine K4 rfl rfl (H2 rfl rfl (Reg.nil (O6 ?_)));have h:=AYS h;cases h
 refine fin1 results106 rfl ?_;obtain⟨k1,_,k3⟩:=C.ownBack 0 rfl;exact⟨[],rfl,rfl,k3,k1.mon fun b J=>mem_append.1 J⟩
end Go.Proofs.YtgioiejbphljoaaGreatDoor
end
