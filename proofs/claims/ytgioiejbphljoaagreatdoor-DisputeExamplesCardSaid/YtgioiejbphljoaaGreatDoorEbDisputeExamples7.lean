/-
  Part DisputeExamples 7 of the texts that the statement's proof stands on: what memory holds, how code is walked, what the functions reckon. In the order in which they build.
-/
import Derived.Test.YtgioiejbphljoaaGreatDoorProg
import Derived.Shelf.SlSortCmp.WholeK
import Derived.Shelf.SlSortCmp.NoneTotal
import Derived.Test.YtgioiejbphljoaaGreatDoorEbDisputeExamples6
open List (mem_append mem_cons mem_map mem_singleton toArray)
open Nat (beq blt)
open Go.Proofs.Tryz
set_option linter.unusedVariables false
set_option linter.unusedSectionVars false
set_option maxRecDepth 20000
set_option maxHeartbeats 4000000
noncomputable section
namespace Go.Rx
open Go Go.Sx Go.RowKit Go.ChangeMaps
theorem AIz:∀{l pre:List Oper} {o:Oper},AHX l=some (pre,o)->l=pre++[o]
 |[],_,_,h=>by cases h
 |[q],_,_,h=>by cases h;rfl
 |q::r::l,pre,o,h=>by
  have h:(match AHX (r::l) with
   |some (l,q')=>some (q::l,q')
   |none=>none)=some (pre,o):=h
  cases H:AHX (r::l) with
  |none=>rw[H]at h;cases h
  |some p=>
   rw[H]at h
   cases h
   rw[AIz H];rfl
theorem ARx{l pre:List Oper}{t:Nat}{mt:TypeId}{x:Operand}(h:rgO l=some (pre,t,mt,x)):∃ty pos af,l=pre++[⟨some t,.range mt x,ty,pos,af,none⟩]:=by
 unfold rgO at h;split at h
 . rename_i H;cases h
   exact⟨_,_,_,AIz H⟩
 . cases h
theorem ARy{l:List Oper}{t n c:Nat}(h:nxO l=some (t,n,c)):∃ty pos af ty' pos' af',l=[⟨some n,.next (.tmp t) false,ty,pos,af,none⟩,⟨some c,.extract (.tmp n) 0,ty',pos',af',none⟩]:=by
 unfold nxO at h;split at h
 . rename_i n' t' ty pos af c' n2 ty' pos' af';cases H:beq n2 n' with
   |false=>rw[H,cond_false]at h;cases h
   |true=>
    rw[H,cond_true]at h
    have:=AX5 H
    cases h
    subst this
    exact⟨_,_,_,_,_,_,rfl⟩
 . cases h
theorem ARz{l:List Oper}{t e:Nat}{r:List Oper}(h:enO l=some (t,e,r)):∃ty pos af,l=⟨some e,.entry (.tmp t),ty,pos,af,none⟩::r:=by
 unfold enO at h;split at h
 . cases h;exact⟨_,_,_,rfl⟩
 . cases h
theorem APy{a b:Code}{u:MU}(h:AAg a b=some u):∃i i1 i2 rty rpos raf nty npos naf cty cpos caf ety epos eaf,a=.region i (toArray u.all) false /\
  b=.block u.j (.loop (.seq (.region i1 (toArray [⟨some u.n,.next (.tmp u.t) false,nty,npos,naf,none⟩,⟨some u.c,.extract (.tmp u.n) 0,cty,cpos,caf,none⟩]) false) (.seq (.cond (.tmp u.c) .skip (.exit u.j)) (.block u.j2 (.seq (.region i2 (toArray u.all2) false) u.rest))))) /\
  u.all=u.pre++[⟨some u.t,.range u.mt u.x,rty,rpos,raf,none⟩]/\u.all2=⟨some u.e,.entry (.tmp u.t),ety,epos,eaf,none⟩::u.ops2:=by
 unfold AAg at h
 split at h
 . rename_i i ops j i1 nops c' j' j2 i2 eops rest
   split at h
   . rename_i pre t mt x t1 n c t2 e ops2 U J I
     cases H:(beq t1 t&&beq t2 t&&beq c' c&&beq j' j&&Z4 eops.toList) with
     |false=>rw[H,cond_false]at h;cases h
     |true=>
      rw[H,cond_true]at h
      simp only[Bool.and_eq_true]at H
      obtain⟨⟨⟨⟨b1,b2⟩,b3⟩,b4⟩,b5⟩:=H
      have e1:=AX5 b1
      have e2:=AX5 b2
      have e3:=AX5 b3
      have e4:=AX5 b4
      subst e1;subst e2;subst e3;subst e4
      cases h
      obtain⟨ty,pos,af,k1⟩:=ARx U
      obtain⟨nty,npos,naf,cty,cpos,caf,k2⟩:=ARy J
      obtain⟨ety,epos,eaf,k3⟩:=ARz I
      obtain⟨ops⟩:=ops
      obtain⟨nops⟩:=nops
      obtain⟨eops⟩:=eops
      have k2:nops=_:=k2
      subst k2
      exact⟨_,_,_,_,_,_,_,_,_,_,_,_,_,_,_,rfl,rfl,k1,k3⟩
   . cases h
 . cases h
variable[Trk][Sg][Sf]{P:Program}[Se P]
@[reducible] def fx1(r:Nat)(o:Obj):Fx:=⟨fun b=>if b=r then some o else none⟩
variable{w0 w w':World}{Mu M:List Nat}{S:List Res}{R:Res}{r:Nat}{o:Obj}
theorem X8(H:R.fp=[r]){b:Nat}:b∈mm S (r::M)↔b∈mm (R::S) M:=by
 show _↔b∈R.fp++mm S M;rw[H,mem_mm,AYY,mem_mm,AYS,AZp];constructor
 . rintro (h|h|h)
   . exact .inr (.inl h)
   . exact .inl h
   . exact .inr (.inr h)
 . rintro (h|h|h)
   . exact .inr (.inl h)
   . exact .inl h
   . exact .inr (.inr h)
theorem AOY(h:Hp w0 Mu M (R::S) w)(J:R.fp=[r])(D:w.heap[r]?=some o):@Hp _ (fx1 r o) w0 Mu (r::M) S w:=by
 have U:r∈R.fp:=by rw[J];exact mem_singleton.2 rfl
 obtain⟨Y,T,C,Q,O,K,W,F,_⟩:=h;refine @Hp.mk _ (fx1 r o) _ _ _ _ _ Y (fun b H=>T b ((X8 J).1 H)) ⟨C.kp.mono fun b H=>.inl ?_,fun b H=>(C.new b ((X8 J).1 H)).imp (fun H=>?_) id⟩ (fun b H=>?_) (fun R' I b H hm=>?_) (fun R' I=>K R' (AX0 _ I)) (fun i j a b hi V E=>W (i+1) (j+1) a b hi V (by omega)) (fun R' I=>R'.adv (Adv.drop fun b H=>(X8 J).1 H) (fun _ _=>rfl) (F R' (AX0 _ I))) (fun b o' H=>?_)
 . exact(mem_append.1 H).elim (AX2 _) fun h=>AX3 _ (AX0 _ h)
 . exact(mem_append.1 H).elim (AX2 _) fun h=>AX3 _ (AX0 _ h)
 . rcases mem_cons.1 H with rfl|H
   . exact .inr ⟨o,AYB rfl⟩
   . exact(Q b H).imp id fun⟨_,h⟩=>by cases h
 . rcases mem_cons.1 hm with rfl|hm
   . obtain⟨j,V⟩:=AYW I;exact W 0 (j+1) R R' rfl V (by omega) _ U H
   . exact O R' (AX0 _ I) b H hm
 . have H:(if b=r then some o else none)=some o':=H
   split at H
   . rename_i e;cases H
     subst e;exact⟨AX4 ..,D⟩
   . cases H
theorem ATf(h:@Hp _ (fx1 r o) w0 Mu (r::M) S w)(U:R.fp=[r])(E:R.mu=[])(C:w0.heap.size<=r)(F:MLt M w0)(Q:∀M',R.holds M' w):Hp w0 Mu M (R::S) w:=by
 obtain⟨G,B,O,X,K,A,Y,T,_⟩:=h;refine⟨G,fun b H=>B b ((X8 U).2 H),⟨O.kp.mono fun b H=>?_,fun b H=>?_⟩,fun b H=>.inl (F b H),fun R' I b H hm=>?_,fun R' I=>?_,fun i j a b hi W D c V J=>?_,fun R' I=>?_,fun _ _ h=>by cases h⟩
 . rcases mem_append.1 H with H|H
   . exact .inl (AX2 _ H)
   . rcases mem_cons.1 H with rfl|H
     . exact .inr C
     . exact .inl (AX3 _ H)
 . rcases O.new b ((X8 U).2 H) with H|H
   . rcases mem_append.1 H with H|H
     . exact .inl (AX2 _ H)
     . rcases mem_cons.1 H with rfl|H
       . exact .inr C
       . exact .inl (AX3 _ H)
   . exact .inr H
 . rcases mem_cons.1 I with rfl|I
   . rw[U]at H;have:=mem_singleton.1 H;subst this;have:=F _ hm;omega
   . exact K R' I b H (AX0 _ hm)
 . rcases mem_cons.1 I with rfl|I
   . refine⟨(by rw[E];intro b H;cases H),fun b H=>.inr ?_⟩;rw[U]at H;have:=mem_singleton.1 H;subst this;exact C
   . exact A R' I
 . have key:∀R'∈S,∀c∈R.fp,c∉R'.fp:=fun R' I c V J=>by
    rw[U]at V;have:=mem_singleton.1 V;subst this;exact K R' I _ J (AX4 ..)
   cases i with
   |zero=>
    have hi:R=a:=by simpa using hi
    subst hi
    cases j with
    |zero=>exact D rfl
    |succ j=>exact key b (AX1 (i:=j) (by simpa using W)) c V J
   |succ i=>
    cases j with
    |zero=>
     have W:R=b:=by simpa using W
     subst W
     exact key a (AX1 (i:=i) (by simpa using hi)) c J V
    |succ j=>exact Y i j a b (by simpa using hi) (by simpa using W) (by omega) c V J
 . rcases mem_cons.1 I with rfl|I
   . exact Q _
   . exact R'.adv (Adv.drop fun b H=>(X8 U).2 H) (fun _ _=>rfl) (T R' I)
theorem HS.conv{an:Anch}{fa fb:Fx}{w0 w w':World}{Mu M M':List Nat}{σ:AS}{L L':A7}{S S':List Res}{ρ:Nat->Value}{γ:Nat->List Value}{μ:Nat->List Nat}{ι ι':Nat->Nat}(h:@HS _ _ _ P _ an fa w0 Mu M σ L w S ρ γ μ ι)(U:@Hp _ fb w0 Mu M' S' w')(hA:Adv (mm S M) (mm S' M') w w')(J:∀i,S'[ι' i]?=S[ι i]?)(hi:∀i j,ι' i=ι' j->ι i=ι j)(W:∀t s,A1 σ.env t=some s->Sx.A5 L' t=Sx.A5 L t):@HS _ _ _ P _ an fb w0 Mu M' σ L' w' S' ρ γ μ ι':=by
 obtain⟨_,K,F,E,D,C⟩:=h;exact⟨U,fun i a H=>(J i).trans (K i a H),fun i j a b H V e=>F i j a b H V (hi i j e),fun i a H=>(E i a H).adv hA,fun t s I=>by
  obtain⟨v,k1,k2⟩:=D t s I;exact⟨v,(W t s I).trans k1,Ok.adv hA s k2⟩,C.adv hA⟩
theorem HS.anchX[Fx](a b:Anch){w0 w:World}{Mu M:List Nat}{σ:AS}{L:A7}{S:List Res}{ρ:Nat->Value}{γ:Nat->List Value}{μ:Nat->List Nat}{ι:Nat->Nat}(h:@HS _ _ _ P _ a _ w0 Mu M σ L w S ρ γ μ ι)(I:a.Q (mm S M) w->b.Q (mm S M) w):@HS _ _ _ P _ b _ w0 Mu M σ L w S ρ γ μ ι:=by
 obtain⟨C,W,V,U,J,H⟩:=h;exact⟨C,W,V,U,J,I H.1,H.2⟩
abbrev AQn(a:Anch){kt:TypeId}{κ α:Type}(K:Ky P kt κ)(E:Enc α)(ag:Bool)(b:Nat)(es:Array MapEntry)(c:Nat)(xs:List (κ×α)):Anch:=
 ⟨fun M w=>a.Q M w/\RdX K E ag M w b es c xs,fun h k=>⟨a.adv h.1 k,h.2.adv k⟩⟩
end Go.Rx
namespace Go.Rx
open Go Go.Sx Go.RowKit Go.ChangeMaps
variable[Trk][Sg][Sf]{P:Program}[Se P]
theorem ADQ{W:List Nat}{hd:Sh}{σ:AS}{x:O2 hd.cs}{t:Nat}{s:SV}(I:A1 (B6 W hd σ x).env t=some s)(U:t∈W):t∈J5 hd.cs:=by
 have h:A1 (allV AAy (U7 hd.cs x)++AB8 W hd.keep σ.env) t=some s:=I;rw[fnd_app]at h;cases H:A1 (allV AAy (U7 hd.cs x)) t with
 |none=>
  rw[H]at h
  simp only at h
  rw[fnd_keepE,AYB U]at h
  cases h
 |some y=>
  obtain⟨p,J,hy⟩:=allV_mem.1 (ABL H)
  have C:=AFD hy
  have V:=AFc J
  exact AA0 (c:=p.1.2) (by rw[<-C];exact V)
abbrev AM8(a:Anch)(Q:List Nat->World->Prop)(h:∀{M M':List Nat} {w w':World},Q M w->Adv M M' w w'->Q M' w'):Anch:=⟨fun M w=>a.Q M w/\Q M w,fun h1 k=>⟨a.adv h1.1 k,h h1.2 k⟩⟩
section
variable[Anch]{w0 w:World}{M:List Nat}{σ:AS}{L:A7}{N:Nat}{Γ:Type}{pr:AS->Option Γ}{ds:List Deferred}{A B:A3}{X:Nat->A3}{Z:List PanicEntry->A3}
def AKr(P:Program)[Se P](w0:World)(M:List Nat)(u:MU){m:Nat}{k v:Ty}(K:Ky P m (den k))(r b c:Nat)(es:Array MapEntry)(xs:List (den k×den v))(Wr:List Nat)(L0:A7)(τ:AS)(L:A7)(W:World)(l:List (den k×den v)):Prop:=
 EnvS Wr L0 L/\Sx.A5 L u.t=some (.pointer (some ⟨r,0,none⟩))/\∃seen S ρ γ μ ι,@HS _ _ _ P _ (AQn (α:=den v) inferInstance K (enc v) v.agg b es c xs) (fx1 r (.mapIter (some b) c seen c)) w0 [] (r::M) τ L W S ρ γ μ ι/\l.Perm (J4 (es.toList.zip xs) seen)
theorem AOZ[Sl (P:=P)]{G:Gx}(hG:GxOk P G){u:MU}{hd:Sh}{l:An}{m:Nat}{k v:Ty}{K:Ky P m (den k)}(hKo:∀M w (a:den k),K.ok a->OkD (P:=P) M w k a (K.val a))(hc:AII N u hd l=true){r b c:Nat}{es:Array MapEntry}{xs l0:List (den k×den v)}(hr:w0.heap.size<=r)(hM0:MLt M w0){L0:A7}{s:O2 hd.cs}{nty cty ety:TypeId}{npos cpos epos:String}{naf caf eaf:Array Edge}{i1 i2:Nat}(u2:u.all2=⟨some u.e,.entry (.tmp u.t),ety,epos,eaf,none⟩::u.ops2)(hI:AKr P w0 M u K r b c es xs (u.t::G1 u hd l) L0 (B6 (u.t::G1 u hd l) hd σ s) L w l0)(g:∀L' w',l0=[]->EnvS (u.t::G1 u hd l) L0 L'->Holds (P:=P) w0 [] M (B6 (u.t::G1 u hd l) hd σ s) L' w'->A ds L' w')(hgo:∀y l',l0.Perm (y::l')->∃s',ACo G N pr u hd l (u.t::G1 u hd l) σ k v s y=some s'){I:List (den k×den v)->O2 hd.cs->A7->World->Prop}(hnext:∀y l' s' L' w',l0.Perm (y::l')->ACo G N pr u hd l (u.t::G1 u hd l) σ k v s y=some s'->AKr P w0 M u K r b c es xs (u.t::G1 u hd l) L0 (B6 (u.t::G1 u hd l) hd σ s') L' w' l'->I l' s' L' w'):
  CW P N (.seq (.region i1 (toArray [⟨some u.n,.next (.tmp u.t) false,nty,npos,naf,none⟩,⟨some u.c,.extract (.tmp u.n) 0,cty,cpos,caf,none⟩]) false) (.seq (.cond (.tmp u.c) .skip (.exit u.j)) (.block u.j2 (.seq (.region i2 (toArray u.all2) false) u.rest)))) ds L w
   (fun ds' L' w'=>ds'=ds/\∃l' s',I l' s' L' w'/\l'.length<l0.length) B (exB u.j A X) Z:=by
 simp only[AII,Bool.and_eq_true,Bool.not_eq_true']at hc
 obtain⟨⟨⟨⟨⟨⟨⟨c1,c2⟩,c3⟩,c4⟩,c5⟩,c6⟩,c7⟩,c8⟩:=hc
 have d6:u.t∉G1 u hd l:=fun h=>by rw[has_iff.2 h]at c6;cases c6
 have d7:u.n∉J5 hd.cs:=fun h=>by rw[has_iff.2 h]at c7;cases c7
 have d8:u.c∉J5 hd.cs:=fun h=>by rw[has_iff.2 h]at c8;cases c8
 have wn:u.n∈u.t::G1 u hd l:=AX0 _ (AX4 ..)
 have wc:u.c∈u.t::G1 u hd l:=AX0 _ (AX0 _ (AX4 ..))
 have we:u.e∈G1 u hd l:=AX0 _ (AX0 _ (AX4 ..))
 have wsl:∀t∈J5 hd.cs,t∈u.t::G1 u hd l:=fun t H=>AX0 _ (AX0 _ (AX0 _ (AX0 _ (AX2 _ H))))
 have wop:∀t∈C1 u.ops2,t∈G1 u hd l:=fun t H=>AX0 _ (AX0 _ (AX0 _ (AX3 _ (AX2 _ H))))
 have wrs:∀t∈D4 u.rest++C9 l,t∈G1 u hd l:=fun t H=>AX0 _ (AX0 _ (AX0 _ (AX3 _ (AX3 _ H))))
 have tn:u.t≠u.n:=fun e=>d6 (e▸AX4 ..)
 have tc:u.t≠u.c:=fun e=>d6 (e▸AX0 _ (AX4 ..))
 have te:u.t≠u.e:=fun e=>d6 (e▸we)
 obtain⟨o,R,seen,S,ρ,γ,μ,ι,hS,hpm⟩:=hI
 have hS0:=hS
 obtain⟨s1,_,_,_,_,s6⟩:=hS0
 have hX9:RdX K (enc (P:=P) v) v.agg (mm S (r::M)) w b es c xs:=s6.1.2
 obtain⟨_,_,_,_,_,_,_,_,s9⟩:=id s1
 have hfx:w.heap[r]?=some (.mapIter (some b) c seen c):=(s9 r _ (AYB rfl)).2
 have Y:Hp w0 [] M (U0 (κ:=den k) (α:=den v) r b c es xs none l0::S) w:=ATf s1 rfl rfl hr hM0 fun _=>⟨seen,hfx,hpm,fun _ h=>by cases h⟩
 have j:RdX K (enc (P:=P) v) v.agg (mm (U0 (κ:=den k) (α:=den v) r b c es xs none l0::S) M) w b es c xs:=hX9.adv (Adv.drop fun x hx=>(X8 rfl).2 hx)
 have out:∀(v1 v2:Value) t q,A1 (B6 (u.t::G1 u hd l) hd σ s).env t=some q->Sx.A5 ((u.c,v2)::(u.n,v1)::L) t=Sx.A5 L t:=fun v1 v2 t q H=>by
  rw[look_cons,if_neg (fun e=>d8 (ADQ (e▸H) wc)),look_cons,if_neg (fun e=>d7 (ADQ (e▸H) wn))]
 refine A6 (A8 (ASg 0 Y j rfl R c2 (fun hl=>?_) (fun y l' kv vv w1 hp U E=>?_)))
 . refine AF9 (vs:=[.bool false]) (i:=0) (by show Sx.A5 _ _=_;rw[look_cons,AYB rfl]) rfl c3 (Reg.nil (A6 (ABA (by show Sx.A5 _ _=_;rw[look_cons,AYB rfl]) (AA9 (T7 (g _ _ hl (o.trans (((EnvS.put u.n L _).mono fun t H=>by rw[mem_singleton.1 H];exact wn).trans ((EnvS.put u.c _ _).mono fun t H=>by rw[mem_singleton.1 H];exact wc))) ?_))))))
   have hp2:Hp w0 [] M S w:=Y.sub (List.sublist_cons_self ..)
   have O:=hS.conv hp2 (Adv.drop fun x hx=>mem_mm.2 ((mem_mm.1 hx).imp id (AX0 _))) (fun _=>rfl) (fun _ _ e=>e) (out (.tuple #[.bool false]) (.bool false))
   exact⟨S,ρ,γ,μ,ι,O.anchX _ _ fun h=>h.1⟩
 . refine AF9 (vs:=[.bool true,kv,vv]) (i:=0) (by show Sx.A5 _ _=_;rw[look_cons,AYB rfl]) rfl c3 (Reg.nil (A6 (ACM (by show Sx.A5 _ _=_;rw[look_cons,AYB rfl]) (P5 ?_))))
   refine Y1 (n:=3) (ACk (AVT (H4 (A6 (A8 ?_)))))
   suffices key:Reg P N (toArray u.all2) .seq (⟨some u.e,.entry (.tmp u.t),ety,epos,eaf,none⟩::u.ops2) ds ((u.c,.bool true)::(u.n,.tuple #[.bool true,kv,vv])::L) w1 (fun ds' L' w'=>CW P N u.rest ds' L' w' (fun ds' L' w'=>ds'=ds/\∃l' s',I l' s' L' w'/\l'.length<l0.length) B (exB u.j2 (fun ds' L' w'=>ds'=ds/\∃l' s',I l' s' L' w'/\l'.length<l0.length) NoX) Z) B (exB u.j2 (fun ds' L' w'=>ds'=ds/\∃l' s',I l' s' L' w'/\l'.length<l0.length) NoX) Z by rw[<-u2]at key;exact key
   have U:Hp w0 [] M (U0 (κ:=den k) (α:=den v) r b c es xs (some y) l'::S) w1:=U
   have E:Adv (mm (U0 (κ:=den k) (α:=den v) r b c es xs none l0::S) M) (mm (U0 (κ:=den k) (α:=den v) r b c es xs (some y) l'::S) M) w w1:=E
   have hA2:Adv (mm S (r::M)) (mm S (r::M)) w w1:=⟨E.kp.mono fun x hx=>.inl ((X8 rfl).2 hx),fun x hx=>(E.new x ((X8 rfl).1 hx)).imp (X8 rfl).2 id⟩
   have f:Sx.A5 ((u.c,.bool true)::(u.n,.tuple #[.bool true,kv,vv])::L) u.t=some (.pointer (some ⟨r,0,none⟩)):=by rw[look_cons,if_neg (fun e=>tc e.symm),look_cons,if_neg (fun e=>tn e.symm)];exact R
   refine ASh 0 U (j.adv E) rfl f c4 fun v5 hok hv=>?_
   obtain⟨seen1,hr1,T,_⟩:=U.get 0 rfl
   obtain⟨s',Q⟩:=hgo y l' hp
   have hS1:=hS.conv (AOY U rfl hr1) hA2 (fun _=>rfl) (fun _ _ e=>e) (out (.tuple #[.bool true,kv,vv]) (.bool true))
   have z:OkD (P:=P) (mm S (r::M)) w1 v y.2 v5:=Vl.adv (Adv.drop fun x hx=>(X8 rfl).1 hx) hv
   letI AK:Anch:=AQn (α:=den v) inferInstance K (enc (P:=P) v) v.agg b es c xs
   letI FX:Fx:=fx1 r (.mapIter (some b) c seen1 c)
   have O:=HS.put (d:=u.e) (s:=.tup [G0 k y.1,G0 v y.2]) (v:=.tuple #[K.val y.1,v5]) hS1 ⟨[K.val y.1,v5],rfl,_,_,rfl,E1 k (hKo _ _ _ hok),_,_,rfl,E1 v z,rfl⟩
   have fin:∀σ3 L3 σ4 L4 w4,I8 hd σ4=some s'->Rel P (G1 u hd l) { B6 (u.t::G1 u hd l) hd σ s with env:=(u.e,.tup [G0 k y.1,G0 v y.2])::(B6 (u.t::G1 u hd l) hd σ s).env } σ3->EnvS (G1 u hd l) ((u.e,.tuple #[K.val y.1,v5])::(u.c,.bool true)::(u.n,.tuple #[.bool true,kv,vv])::L) L3->Rel P (D4 u.rest++C9 l) σ3 σ4->EnvS (D4 u.rest++C9 l) L3 L4->Holds (P:=P) w0 [] (r::M) σ4 L4 w4->ds=ds/\∃l' s',I l' s' L4 w4/\l'.length<l0.length:=fun σ3 L3 σ4 L4 w4 h4 F D V J C=>by
    obtain⟨S4,ρ4,γ4,μ4,ι4,hS4⟩:=C;have hR1:Rel P (u.t::G1 u hd l) σ (B6 (u.t::G1 u hd l) hd σ s):=ACA wsl fun _ h=>h;have hR2:Rel P (u.t::G1 u hd l) (B6 (u.t::G1 u hd l) hd σ s) { B6 (u.t::G1 u hd l) hd σ s with env:=(u.e,.tup [G0 k y.1,G0 v y.2])::(B6 (u.t::G1 u hd l) hd σ s).env }:=⟨fun _ h=>h,fun _ h=>h,fun i a h _=>⟨a,h,RelA.refl a⟩,fun t H q hq=>⟨q,by
     show A1 ((u.e,_)::_) t=_;rw[fnd_cons,if_neg (fun (e:u.e=t)=>H (e▸AX0 _ we))];exact hq,Wk.refl q⟩⟩
    have hR:Rel P (u.t::G1 u hd l) σ σ4:=hR1.trans (hR2.trans ((F.mono fun t H=>AX0 _ H).trans (V.mono fun t H=>AX0 _ (wrs t H))));obtain⟨S5,ρ5,γ5,μ5,ι5,hS5⟩:=T2 (W:=u.t::G1 u hd l) (σ:=σ) hS4 hR h4;have hl4:Sx.A5 L4 u.t=some (.pointer (some ⟨r,0,none⟩)):=by
     rw[J u.t (fun h=>d6 (wrs _ h)),D u.t d6,look_cons,if_neg (fun e=>te e.symm)];exact f
    have hE9:EnvS (u.t::G1 u hd l) L0 L4:=o.trans (((EnvS.put u.n L _).mono fun t H=>by rw[mem_singleton.1 H];exact wn).trans (((EnvS.put u.c _ _).mono fun t H=>by rw[mem_singleton.1 H];exact wc).trans (((EnvS.put u.e _ _).mono fun t H=>by rw[mem_singleton.1 H];exact AX0 _ we).trans ((D.mono fun t H=>AX0 _ H).trans (J.mono fun t H=>AX0 _ (wrs t H))))));exact⟨rfl,l',s',hnext y l' s' L4 w4 hp Q ⟨hE9,hl4,seen1,S5,ρ5,γ5,μ5,ι5,hS5,T⟩,by have:=hp.length_eq;simp at this;omega⟩
   refine S9 (P:=P) (w0:=w0) (Mu:=[]) (M:=r::M) (W:=G1 u hd l) hG u.ops2 _ _ _ Q wop ⟨S,ρ,γ,μ,ι,O⟩ fun σ3 L3 w3 hK3 F D hH3=>?_
   refine Y1 (n:=3) (I0 hG u.rest l _ _ _ _ _ _ _ _ _ _ _ _ _ hK3 hH3 (fun σ4 L4 w4 h4 V J C=>fin σ3 L3 σ4 L4 w4 h4 F D V J C) (fun i σ4 L4 w4 h5 V J C=>?_) (fun _ _ _ _ _ h=>by cases h) (PZ.no.block c5))
   have p:(bif beq i u.j2 then I8 hd σ4 else none)=some s':=h5
   clear h5
   cases hb:beq i u.j2 with
   |false=>rw[hb,cond_false]at p;exact(A2 p).elim
   |true=>
    rw[hb,cond_true]at p
    have:=AX5 hb
    subst this
    exact T7 (fin σ3 L3 σ4 L4 w4 p F D V J C)
end
end Go.Rx
namespace Go.Rx
open Go Go.Sx Go.RowKit Go.ChangeMaps
section
variable[Sg][Sf](G:Gx)
def ATg(f:Func)(an:An)(ps:List Pt)(cs:List Ck)(a:E0 ps):Option (E2 cs):=match f.body with
 |some c=>X2 G f.ntmps (V0 G cs f.results.toList) c an (V0 G cs f.results.toList) some ⟨AA4 0 ps a,[],[],[]⟩
 |none=>none
end
variable[Trk][Sg][Sf]{P:Program}[Se P]
section
variable[Anch]{w0 w:World}{M:List Nat}{σ:AS}{L:A7}{N:Nat}{Γ:Type}{pr:AS->Option Γ}{ds:List Deferred}{A B:A3}{X:Nat->A3}{Z:List PanicEntry->A3}
theorem AR0[Sl (P:=P)]{G:Gx}(hG:GxOk P G){a b:Code}{u:MU}(hu:AAg a b=some u){an:An}{Y:Type}{KN:AS->Option Y}{z:Y}(h:mapM G N pr u an KN σ=some z)(hH:Holds (P:=P) w0 [] M σ L w)(hA:∀σ' L' w',KN σ'=some z->EnvS (wrE (.seq a b) an) L L'->Holds (P:=P) w0 [] M σ' L' w'->A ds L' w'):CW P N (.seq a b) ds L w A B X Z:=by
 have hw:∀hd ks l,wrE (.seq a b) (.lp hd ks l)=C1 u.pre++(u.t::G1 u hd l):=fun hd ks l=>by
  show(match AAg a b with
   |some u=>_
   |none=>_)=_
  rw[hu]
 obtain⟨i,i1,i2,rty,rpos,raf,nty,npos,naf,cty,cpos,caf,ety,epos,eaf,rfl,rfl,u1,u2⟩:=APy hu;cases an with
 |x=>exact(A2 h).elim
 |nd _ _=>exact(A2 h).elim
 |jn _ _=>exact(A2 h).elim
 |lp hd ks l=>
  have main:∀σ1 L1 w1,(match lk G.mp u.mt,B2 σ1.env u.x with
   |some (m,_,k,v),some sx=>match B9 (A1 σ1.res) (.mp m k v) sx,frz (A1 σ1.res) (A9 sx),AII N u hd l with
    |some f,some fz,true=>match I8 hd (apps none fz σ1).start with
     |some s0=>AAP (show A4 (den k) (den v) from f) fun xs=>(List.foldlM (ACo G N pr u hd l (u.t::G1 u hd l) (apps none fz σ1).start k v) s0 xs).bind fun s=>KN (B6 (u.t::G1 u hd l) hd (apps none fz σ1).start s)
     |none=>none
    |_,_,_=>none
   |_,_=>none)=some z->EnvS (C1 u.pre) L L1->Holds (P:=P) w0 [] M σ1 L1 w1->Reg P N (toArray u.all) .seq [⟨some u.t,.range u.mt u.x,rty,rpos,raf,none⟩] ds L1 w1 (fun ds' L' w'=>CW P N (.block u.j (.loop (.seq (.region i1 (toArray [⟨some u.n,.next (.tmp u.t) false,nty,npos,naf,none⟩,⟨some u.c,.extract (.tmp u.n) 0,cty,cpos,caf,none⟩]) false) (.seq (.cond (.tmp u.c) .skip (.exit u.j)) (.block u.j2 (.seq (.region i2 (toArray u.all2) false) u.rest)))))) ds' L' w' A B X Z) B X Z:=by
   intro σ1 L1 w1 hK F E
   cases hl:lk G.mp u.mt with
   |none=>rw[hl]at hK;exact(A2 hK).elim
   |some q=>
    obtain⟨m,e,k,v⟩:=q
    rw[hl]at hK
    cases hx:B2 σ1.env u.x with
    |none=>rw[hx]at hK;exact(A2 hK).elim
    |some sx=>
     rw[hx]at hK
     simp only at hK
     generalize H:B9 (A1 σ1.res) (.mp m k v) sx=o1 at hK
     generalize hz:frz (A1 σ1.res) (A9 sx)=o2 at hK
     generalize hc:AII N u hd l=o3 at hK
     cases o1 with
     |none=>exact(A2 hK).elim
     |some f=>
     cases o2 with
     |none=>exact(A2 hK).elim
     |some fz=>
     cases o3 with
     |false=>exact(A2 hK).elim
     |true=>
     simp only at hK
     cases h0:I8 hd (apps none fz σ1).start with
     |none=>rw[h0]at hK;exact(A2 hK).elim
     |some s0=>
     rw[h0]at hK
     simp only at hK
     have T:=hc
     simp only[AII,Bool.and_eq_true,Bool.not_eq_true']at T
     obtain⟨⟨⟨⟨⟨⟨⟨c1,_⟩,_⟩,_⟩,_⟩,c6⟩,_⟩,_⟩:=T
     have d6:u.t∉G1 u hd l:=fun h=>by rw[has_iff.2 h]at c6;cases c6
     obtain⟨K,hKy,hKv,j,hzv,hKo⟩:=AGO hG.mp hl
     obtain⟨S,ρ,γ,μ,ι,hS⟩:=E
     obtain⟨vx,e1,e2⟩:=hS.ev hx
     obtain⟨S1,ι1,k1,k2,k3⟩:=hS.frzO (d:=none) hz
     have k4:OkD (P:=P) (mm S1 M) w1 (.mp m k v) f vx:=I5 k3 (.mp m k v) sx k2.1 H e2
     have k5:RdF K (enc (P:=P) v) v.agg (mm S1 M) w1 vx f:=by
      obtain⟨cs,⟨u',K',rfl,R,hf⟩,⟨hh,_⟩|⟨_,hh⟩⟩:=k4
      . cases hh
      . rw[hKy]at R;cases R;rw[<-List.singleton_inj.1 hh];exact hf
     have k6:@HS _ _ _ P _ (AM8 inferInstance (fun M w=>RdF K (enc (P:=P) v) v.agg M w vx f) (fun h a=>h.adv a)) _ w0 [] M (apps none fz σ1).start L1 w1 S1 ρ γ μ ι1:=HS.anchX _ _ (⟨k1.hp,k1.res,k1.inj,k1.row,k1.env,k1.anch⟩:HS (P:=P) w0 [] M (apps none fz σ1).start L1 w1 S1 ρ γ μ ι1) fun h=>⟨h,k5⟩
     obtain⟨S3,ρ3,γ3,μ3,ι3,k7⟩:@Holds _ _ _ P _ (AM8 inferInstance (fun M w=>RdF K (enc (P:=P) v) v.agg M w vx f) (fun h a=>h.adv a)) _ w0 [] M (B6 (u.t::G1 u hd l) hd (apps none fz σ1).start s0) L1 w1:=by
      letI:Anch:=AM8 inferInstance (fun M w=>RdF K (enc (P:=P) v) v.agg M w vx f) (fun h a=>h.adv a)
      exact T2 k6 (Rel.refl _) h0
     obtain⟨q1,_,_,_,_,q6⟩:=id k7
     have hRd:RdF K (enc (P:=P) v) v.agg (mm S3 M) w1 vx f:=q6.1.2
     refine ASf q1 hRd e1 j c1 fun r b c es xs w2 hX hLs V hA2=>Reg.nil ?_
     obtain⟨seen,p,hpm,_⟩:=V.get 0 rfl
     have o:w0.heap.size<=r:=((V.own _ (AX4 ..)).2 r (mem_singleton.2 rfl)).elim (fun h=>by cases h) id
     have hM0:MLt M w0:=q1.base0
     have g:Adv (mm S3 M) (mm S3 (r::M)) w1 w2:=hA2.trans (Adv.drop fun x hx=>(X8 rfl).1 hx)
     have Q:u.t∈u.t::G1 u hd l:=AX4 ..
     have n:∀t∈J5 hd.cs,t∈G1 u hd l:=fun t H=>AX0 _ (AX0 _ (AX0 _ (AX2 _ H)))
     have hI0:AKr P w0 M u K r b c es xs (u.t::G1 u hd l) L1 (B6 (u.t::G1 u hd l) hd (apps none fz σ1).start s0) ((u.t,.pointer (some ⟨r,0,none⟩))::L1) w2 xs:=by
      refine⟨(EnvS.put u.t L1 _).mono fun t H=>by rw[mem_singleton.1 H];exact Q,by rw[look_cons,AYB rfl],seen,S3,ρ3,γ3,μ3,ι3,?_,hpm⟩;have k8:=k7.conv (L':=(u.t,.pointer (some ⟨r,0,none⟩))::L1) (AOY V rfl p) g (fun _=>rfl) (fun _ _ e=>e) fun t q H=>by
       rw[look_cons,if_neg (fun (e:u.t=t)=>d6 (n _ (by subst e;exact ADQ H Q)))]
      exact @HS.anchX _ _ _ P _ (fx1 r _) _ _ _ _ _ _ _ _ _ _ _ _ _ k8 fun h=>⟨h.1,hX.adv g⟩
     obtain⟨Bd,hBd,U⟩:=AJp hK hLs
     subst hBd
     refine H4 (ABB (ι:=A7×O2 hd.cs×List (den k×den v)) (fun i=>i.1) (fun i W=>AKr P w0 M u K r b c es xs (u.t::G1 u hd l) L1 (B6 (u.t::G1 u hd l) hd (apps none fz σ1).start i.2.1) i.1 W i.2.2/\∃d:List (den k×den v),(d++i.2.2).Perm xs/\List.foldlM (ACo G N pr u hd l (u.t::G1 u hd l) (apps none fz σ1).start k v) s0 d=some i.2.1) (fun i=>i.2.2.length) (_,s0,xs) ⟨hI0,[],AZG _,rfl⟩ (Sub.refl _) ?_)
     rintro⟨L3,s,l3⟩ w3 ⟨hI,d,J,C⟩
     have J:(d++l3).Perm xs:=J
     refine AQ4 (AOZ (pr:=pr) (B:=B) (X:=X) (Z:=Z) hG hKo hc o hM0 u2 hI (A:=A) (I:=fun l' s' L' W=>AKr P w0 M u K r b c es xs (u.t::G1 u hd l) L1 (B6 (u.t::G1 u hd l) hd (apps none fz σ1).start s') L' W l'/\∃d:List (den k×den v),(d++l').Perm xs/\List.foldlM (ACo G N pr u hd l (u.t::G1 u hd l) (apps none fz σ1).start k v) s0 d=some s') (fun L' w' hl hE9 hH=>?_) (fun y l' hp=>?_) (fun y l' s' L' w' hp hr' D=>⟨D,d++[y],?_,?_⟩)) fun e a w hq=>?_
     . subst hl
       obtain⟨s9,O,hk9⟩:=U d (by simpa using J)
       rw[C]at O
       cases O
       exact hA _ _ _ hk9 (by rw[hw];exact(F.mono fun t H=>AX2 _ H).trans (hE9.mono fun t H=>AX3 _ H)) hH
     . obtain⟨s9,O,_⟩:=U (d++(y::l')) (((AZG d).append hp.symm).trans J)
       rw[AY2,C]at O
       simp only[Option.bind_eq_bind,Option.bind_some,List.foldlM_cons]at O
       cases hb:ACo G N pr u hd l (u.t::G1 u hd l) (apps none fz σ1).start k v s y with
       |none=>rw[hb]at O;cases O
       |some s'=>exact⟨s',rfl⟩
     . rw[AYU];exact((AZG d).append hp.symm).trans J
     . rw[AY2,C]
       simp only[Option.bind_eq_bind,Option.bind_some,List.foldlM_cons,hr',List.foldlM_nil]
       rfl
     . cases e with
       |normal=>
        obtain⟨ds',L',ha,rfl,l',s',D,hlt⟩:=hq
        exact⟨_,L',ha,rfl,(L',s',l'),D,Sub.refl _,hlt⟩
       |_=>exact hq
  refine A6 (A8 ?_)
  have key:=S9 (P:=P) (w0:=w0) (Mu:=[]) (M:=M) (A:=fun ds1 L1 w1=>Reg P N (toArray u.all) .seq [⟨some u.t,.range u.mt u.x,rty,rpos,raf,none⟩] ds1 L1 w1 (fun ds' L' w'=>CW P N (.block u.j (.loop (.seq (.region i1 (toArray [⟨some u.n,.next (.tmp u.t) false,nty,npos,naf,none⟩,⟨some u.c,.extract (.tmp u.n) 0,cty,cpos,caf,none⟩]) false) (.seq (.cond (.tmp u.c) .skip (.exit u.j)) (.block u.j2 (.seq (.region i2 (toArray u.all2) false) u.rest)))))) ds' L' w' A B X Z) B X Z) (B:=B) (X:=X) (Z:=Z) (W:=C1 u.pre) hG u.pre σ L w h (fun t H=>H) hH fun σ1 L1 w1 hK _ F E=>main σ1 L1 w1 hK F E
  rw[u1]at key ⊢
  exact fun a ha=>X0 (fun a w h=>by
   obtain⟨ds',L',hk,hr⟩:=h;exact hr a hk) u.pre a w (key a ha)
theorem AGj[Sl (P:=P)]{G:Gx}(Q:GxOk P G):∀(c:Code) (an:An) {Y:Type} {KN:AS->Option Y} {KR:Γ->Option Y} {σ:AS} {L:A7} {w:World} {z:Y} {A B:A3} {X:Nat->A3} {Z:List PanicEntry->A3},X2 G N pr c an KN KR σ=some z->Holds (P:=P) w0 [] M σ L w ->
  (∀σ' L' w',KN σ'=some z->EnvS (wrE c an) L L'->Holds (P:=P) w0 [] M σ' L' w'->A ds L' w')->(∀r σ' L' w',pr σ'=some r->KR r=some z->Holds (P:=P) w0 [] M σ' L' w'->B ds L' w')->CW P N c ds L w A B X Z:=by
 intro c
 have plain:∀(c:Code) (an:An) {Y:Type} {KN:AS->Option Y} {KR:Γ->Option Y} {σ:AS} {L:A7} {w:World} {z:Y} {A B:A3} {X:Nat->A3} {Z:List PanicEntry->A3},exec G N pr c an KN (fun _ _=>none) KR σ=some z->Holds (P:=P) w0 [] M σ L w ->
   (∀σ' L' w',KN σ'=some z->EnvS (D4 c++C9 an) L L'->Holds (P:=P) w0 [] M σ' L' w'->A ds L' w')->(∀r σ' L' w',pr σ'=some r->KR r=some z->Holds (P:=P) w0 [] M σ' L' w'->B ds L' w')->CW P N c ds L w A B X Z:=fun c an {_ _ _ _ _ _ _ _ _ _ _} h W hA U=>
  Y1 (n:=3) (ACk (I0 Q c an _ _ _ _ _ _ _ _ _ _ _ _ _ h W (fun σ1 L1 w1 F _ J I=>hA σ1 L1 w1 F J I) (fun i σ2 L2 w2 D=>by cases D) (fun r σ2 L2 w2 D T _ H=>U r σ2 L2 w2 D T H) PZ.no))
 induction c with
 |seq a b iha ihb=>
  intro an Y KN KR σ L w z A B X Z h W hA U
  have h:(match AAg a b with
   |some u=>mapM G N pr u an KN σ
   |none=>match ABX a with
    |true=>X2 G N pr a an.l (fun σ'=>X2 G N pr b an.r KN KR σ') KR σ
    |false=>exec G N pr a an.l (fun σ'=>X2 G N pr b an.r KN KR σ') (fun _ _=>none) KR σ)=some z:=h
  have E:wrE (.seq a b) an=(match (generalizing:=false) AAg a b with
   |some u=>match (generalizing:=false) an with
    |.lp hd _ l=>C1 u.pre++(u.t::G1 u hd l)
    |_=>[]
   |none=>match (generalizing:=false) ABX a with
    |true=>wrE a an.l++wrE b an.r
    |false=>(D4 a++C9 an.l)++wrE b an.r):=rfl
  cases K:AAg a b with
  |some u=>rw[K]at h;exact AR0 Q K h W hA
  |none=>
   rw[K]at h E
   simp only at h E
   cases O:ABX a with
   |true=>
    rw[O]at h E
    exact A6 (iha an.l h W (fun σ1 L1 w1 F J I=>ihb an.r F I (fun σ2 L2 w2 D C H=>hA σ2 L2 w2 D (by rw[E];exact(J.mono fun t V=>AX2 _ V).trans (C.mono fun t V=>AX3 _ V)) H) U) U)
   |false=>
    rw[O]at h E
    exact A6 (plain a an.l h W (fun σ1 L1 w1 F J I=>ihb an.r F I (fun σ2 L2 w2 D C H=>hA σ2 L2 w2 D (by rw[E];exact(J.mono fun t V=>AX2 _ V).trans (C.mono fun t V=>AX3 _ V)) H) U) U)
 |_=>intro an Y KN KR σ L w z A B X Z h W hA U;exact plain _ an h W hA U
end
theorem AR1[Sl (P:=P)]{G:Gx}(D:GxOk P G){k:Nat}{f:Func}{c:Code}{an:An}{ps:List Pt}{cs:List Ck}{F:E0 ps->Option (E2 cs)}(T:P.funcs[k]?=some f)(W:f.body=some c)(hl:Nat.ble ps.length f.ntmps=true)(O:Nat.ble cs.length 4=true)(K:Nat.ble (own1 cs) 1=true)(A:∀a,F a=ATg G f an ps cs a):Ctr.ok P k ⟨ps,cs,F⟩:=by
 refine⟨AYT K,fun M w a vals r Y Q C H=>?_⟩;have H:F a=some r:=H;rw[A]at H;unfold ATg at H;rw[W]at H;have I:∀(ps:List Pt) {a:E0 ps} {vals:List Value},ArgsOk M w ps a vals->vals.length=ps.length:=by
  intro ps;induction ps with
  |nil=>intro a vals h;have h:vals=[]:=h;rw[h];rfl
  |cons p ps ih=>intro a vals h;obtain⟨v,r,rfl,_,U⟩:=h;simp[ih U]
 have R:Holds (P:=P) w [] M ⟨AA4 0 ps a,[],[],[]⟩ (P6 0 vals) w:=by
  refine⟨[],fun _=>undef,fun _=>[],fun _=>[],fun _=>0,Hp.start Y,(fun i a h=>by cases h),(fun i j a b h=>by cases h),(fun i a h=>by cases h),fun t s h=>?_,trivial,Q⟩;exact AFl ps 0 C t s h
 have fin:∀σ' L' w',V0 G cs f.results.toList σ'=some r->Holds (P:=P) w [] M σ' L' w'->ABC P f (fun e w'=>∃vs,e=.returned (ABs vs)/\KsOk (P:=P) M (X7 cs vs++M) w w' cs r vs/\Ext w w') [] L' w':=fun σ' L' w' V J=>by
  obtain⟨vs,Z,U,X,B⟩:=AL1 D J V;exact N8 (by simp) Z (by rw[U];exact O) ⟨vs,by rw[AER],X,B⟩
 refine G6 T W rfl (by rw[I ps C];exact hl) ?_;exact AGj D c an H R (fun σ' L' w' V _ J=>fin σ' L' w' V J) fun r' σ' L' w' E hk J=>by
  have hk:r'=r:=AXz hk;subst hk;exact fin σ' L' w' E J
end Go.Rx
namespace Go.Proofs.YtgioiejbphljoaaGreatDoor
open Go Go.Sx Go.Rx Go.RowKit
variable[Trk]
@[ext] structure Terms where
 answer:Int
 mark:Int
 lately:Int
 deriving DecidableEq
def TermsE:Enc Terms:=U4 (fun x=>(x.answer,(x.mark,x.lately))) (B0 (B1 .i64) (B0 (B1 .i64) ((B1 .i64))))
theorem AKs{M:List Nat}{w:World}{cs:List Value}{x:Terms}:TermsE.R M w cs x↔cs=[Value.int .i64 x.answer,Value.int .i64 x.mark,Value.int .i64 x.lately]/\InK .i64 x.answer/\InK .i64 x.mark/\InK .i64 x.lately:=by
 simp only[TermsE,mapE_R,prodE_R,intE_R];constructor
 . rintro⟨_,_,rfl,⟨rfl,J⟩,_,_,rfl,⟨rfl,I⟩,rfl,H⟩;exact⟨rfl,J,I,H⟩
 . rintro⟨rfl,J,I,H⟩;exact⟨[_],_,rfl,⟨rfl,J⟩,[_],_,rfl,⟨rfl,I⟩,rfl,H⟩
theorem APz(x y:Terms)(w:World):(Op.equalIn 10000 23 (.agg (toArray [Value.int .i64 x.answer,Value.int .i64 x.mark,Value.int .i64 x.lately])) (.agg (toArray [Value.int .i64 y.answer,Value.int .i64 y.mark,Value.int .i64 y.lately]))).run prog w=.ok (decide (x=y)) w:=by
 have H:prog.underlying 23=some (.struct (prog.fieldsOf 23)):=by simp[Program.fieldsOf,underlying23]
 rw[show(10000:Nat)=9999+1 from rfl,run_equalIn_agg w 9999 23 _ _ H stoodInHeld23];cases x;cases y
 simp[Program.fieldsOf,underlying23,Op.eqFields,part,isAgg3,run_equalIn_int w 9998 3 .i64 .i64 _ _ underlying3];repeat' split
 all_goals simp_all
@[ext] structure Report where
 id:Int
 source:Int
 account:Int
 made:Int
 about:Int
 kind:Int
 cents:Int
 of_:Int
 deriving DecidableEq
def ReportE:Enc Report:=U4 (fun x=>(x.id,(x.source,(x.account,(x.made,(x.about,(x.kind,(x.cents,x.of_)))))))) (B0 (B1 .i64) (B0 (B1 .i64) (B0 (B1 .i64) (B0 (B1 .i64) (B0 (B1 .i64) (B0 (B1 .u8) (B0 (B1 .i64) ((B1 .i64)))))))))
theorem ReportE_R{M:List Nat}{w:World}{cs:List Value}{x:Report}:ReportE.R M w cs x↔cs=[Value.int .i64 x.id,Value.int .i64 x.source,Value.int .i64 x.account,Value.int .i64 x.made,Value.int .i64 x.about,Value.int .u8 x.kind,Value.int .i64 x.cents,Value.int .i64 x.of_]/\InK .i64 x.id/\InK .i64 x.source/\InK .i64 x.account/\InK .i64 x.made/\InK .i64 x.about/\InK .u8 x.kind/\InK .i64 x.cents/\InK .i64 x.of_:=by
 simp only[ReportE,mapE_R,prodE_R,intE_R];constructor
 . rintro⟨_,_,rfl,⟨rfl,D⟩,_,_,rfl,⟨rfl,C⟩,_,_,rfl,⟨rfl,W⟩,_,_,rfl,⟨rfl,V⟩,_,_,rfl,⟨rfl,U⟩,_,_,rfl,⟨rfl,J⟩,_,_,rfl,⟨rfl,I⟩,rfl,H⟩;exact⟨rfl,D,C,W,V,U,J,I,H⟩
 . rintro⟨rfl,D,C,W,V,U,J,I,H⟩;exact⟨[_],_,rfl,⟨rfl,D⟩,[_],_,rfl,⟨rfl,C⟩,[_],_,rfl,⟨rfl,W⟩,[_],_,rfl,⟨rfl,V⟩,[_],_,rfl,⟨rfl,U⟩,[_],_,rfl,⟨rfl,J⟩,[_],_,rfl,⟨rfl,I⟩,rfl,H⟩
theorem AOa(x y:Report)(w:World):(Op.equalIn 10000 45 (.agg (toArray [Value.int .i64 x.id,Value.int .i64 x.source,Value.int .i64 x.account,Value.int .i64 x.made,Value.int .i64 x.about,Value.int .u8 x.kind,Value.int .i64 x.cents,Value.int .i64 x.of_])) (.agg (toArray [Value.int .i64 y.id,Value.int .i64 y.source,Value.int .i64 y.account,Value.int .i64 y.made,Value.int .i64 y.about,Value.int .u8 y.kind,Value.int .i64 y.cents,Value.int .i64 y.of_]))).run prog w=.ok (decide (x=y)) w:=by
 have H:prog.underlying 45=some (.struct (prog.fieldsOf 45)):=by simp[Program.fieldsOf,underlying45]
 rw[show(10000:Nat)=9999+1 from rfl,run_equalIn_agg w 9999 45 _ _ H stoodInHeld45];cases x;cases y
 simp[Program.fieldsOf,underlying45,Op.eqFields,part,isAgg3,run_equalIn_int w 9998 3 .i64 .i64 _ _ underlying3,isAgg5,run_equalIn_int w 9998 5 .u8 .u8 _ _ underlying5];repeat' split
 all_goals simp_all
@[ext] structure Dispute where
 id:Int
 report:Int
 day:Int
 deriving DecidableEq
def DisputeE:Enc Dispute:=U4 (fun x=>(x.id,(x.report,x.day))) (B0 (B1 .i64) (B0 (B1 .i64) ((B1 .i64))))
theorem DisputeE_R{M:List Nat}{w:World}{cs:List Value}{x:Dispute}:DisputeE.R M w cs x↔cs=[Value.int .i64 x.id,Value.int .i64 x.report,Value.int .i64 x.day]/\InK .i64 x.id/\InK .i64 x.report/\InK .i64 x.day:=by
 simp only[DisputeE,mapE_R,prodE_R,intE_R];constructor
 . rintro⟨_,_,rfl,⟨rfl,J⟩,_,_,rfl,⟨rfl,I⟩,rfl,H⟩;exact⟨rfl,J,I,H⟩
 . rintro⟨rfl,J,I,H⟩;exact⟨[_],_,rfl,⟨rfl,J⟩,[_],_,rfl,⟨rfl,I⟩,rfl,H⟩
theorem AM9(x y:Dispute)(w:World):(Op.equalIn 10000 53 (.agg (toArray [Value.int .i64 x.id,Value.int .i64 x.report,Value.int .i64 x.day])) (.agg (toArray [Value.int .i64 y.id,Value.int .i64 y.report,Value.int .i64 y.day]))).run prog w=.ok (decide (x=y)) w:=by
 have H:prog.underlying 53=some (.struct (prog.fieldsOf 53)):=by simp[Program.fieldsOf,underlying53]
 rw[show(10000:Nat)=9999+1 from rfl,run_equalIn_agg w 9999 53 _ _ H stoodInHeld53];cases x;cases y
 simp[Program.fieldsOf,underlying53,Op.eqFields,part,isAgg3,run_equalIn_int w 9998 3 .i64 .i64 _ _ underlying3];repeat' split
 all_goals simp_all
@[ext] structure Answer where
 id:Int
 dispute:Int
 day:Int
 says:Int
 about:Int
 cents:Int
 deriving DecidableEq
def AnswerE:Enc Answer:=U4 (fun x=>(x.id,(x.dispute,(x.day,(x.says,(x.about,x.cents)))))) (B0 (B1 .i64) (B0 (B1 .i64) (B0 (B1 .i64) (B0 (B1 .u8) (B0 (B1 .i64) ((B1 .i64)))))))
theorem AnswerE_R{M:List Nat}{w:World}{cs:List Value}{x:Answer}:AnswerE.R M w cs x↔cs=[Value.int .i64 x.id,Value.int .i64 x.dispute,Value.int .i64 x.day,Value.int .u8 x.says,Value.int .i64 x.about,Value.int .i64 x.cents]/\InK .i64 x.id/\InK .i64 x.dispute/\InK .i64 x.day/\InK .u8 x.says/\InK .i64 x.about/\InK .i64 x.cents:=by
 simp only[AnswerE,mapE_R,prodE_R,intE_R];constructor
 . rintro⟨_,_,rfl,⟨rfl,W⟩,_,_,rfl,⟨rfl,V⟩,_,_,rfl,⟨rfl,U⟩,_,_,rfl,⟨rfl,J⟩,_,_,rfl,⟨rfl,I⟩,rfl,H⟩;exact⟨rfl,W,V,U,J,I,H⟩
 . rintro⟨rfl,W,V,U,J,I,H⟩;exact⟨[_],_,rfl,⟨rfl,W⟩,[_],_,rfl,⟨rfl,V⟩,[_],_,rfl,⟨rfl,U⟩,[_],_,rfl,⟨rfl,J⟩,[_],_,rfl,⟨rfl,I⟩,rfl,H⟩
theorem AOb(x y:Answer)(w:World):(Op.equalIn 10000 60 (.agg (toArray [Value.int .i64 x.id,Value.int .i64 x.dispute,Value.int .i64 x.day,Value.int .u8 x.says,Value.int .i64 x.about,Value.int .i64 x.cents])) (.agg (toArray [Value.int .i64 y.id,Value.int .i64 y.dispute,Value.int .i64 y.day,Value.int .u8 y.says,Value.int .i64 y.about,Value.int .i64 y.cents]))).run prog w=.ok (decide (x=y)) w:=by
 have H:prog.underlying 60=some (.struct (prog.fieldsOf 60)):=by simp[Program.fieldsOf,underlying60]
 rw[show(10000:Nat)=9999+1 from rfl,run_equalIn_agg w 9999 60 _ _ H stoodInHeld60];cases x;cases y
 simp[Program.fieldsOf,underlying60,Op.eqFields,part,isAgg3,run_equalIn_int w 9998 3 .i64 .i64 _ _ underlying3,isAgg5,run_equalIn_int w 9998 5 .u8 .u8 _ _ underlying5];repeat' split
 all_goals simp_all
@[ext] structure Desk where
 terms:Terms
 reports:(List Report)
 disputes:(List Dispute)
 answers:(List Answer)
 deriving DecidableEq
def AJM:Enc Desk:=U4 (fun x=>(x.terms.answer,(x.terms.mark,(x.terms.lately,(x.reports,(x.disputes,x.answers)))))) (B0 (B1 .i64) (B0 (B1 .i64) (B0 (B1 .i64) (B0 (K5 ReportE) (B0 (K5 DisputeE) (K5 AnswerE))))))
@[ext] structure Asked where
 id:Int
 who:Int
 account:Int
 day:Int
 deriving DecidableEq
def AskedE:Enc Asked:=U4 (fun x=>(x.id,(x.who,(x.account,x.day)))) (B0 (B1 .i64) (B0 (B1 .i64) (B0 (B1 .i64) ((B1 .i64)))))
theorem AGk{M:List Nat}{w:World}{cs:List Value}{x:Asked}:AskedE.R M w cs x↔cs=[Value.int .i64 x.id,Value.int .i64 x.who,Value.int .i64 x.account,Value.int .i64 x.day]/\InK .i64 x.id/\InK .i64 x.who/\InK .i64 x.account/\InK .i64 x.day:=by
 simp only[AskedE,mapE_R,prodE_R,intE_R];constructor
 . rintro⟨_,_,rfl,⟨rfl,U⟩,_,_,rfl,⟨rfl,J⟩,_,_,rfl,⟨rfl,I⟩,rfl,H⟩;exact⟨rfl,U,J,I,H⟩
 . rintro⟨rfl,U,J,I,H⟩;exact⟨[_],_,rfl,⟨rfl,U⟩,[_],_,rfl,⟨rfl,J⟩,[_],_,rfl,⟨rfl,I⟩,rfl,H⟩
theorem AP0(x y:Asked)(w:World):(Op.equalIn 10000 47 (.agg (toArray [Value.int .i64 x.id,Value.int .i64 x.who,Value.int .i64 x.account,Value.int .i64 x.day])) (.agg (toArray [Value.int .i64 y.id,Value.int .i64 y.who,Value.int .i64 y.account,Value.int .i64 y.day]))).run prog w=.ok (decide (x=y)) w:=by
 have H:prog.underlying 47=some (.struct (prog.fieldsOf 47)):=by simp[Program.fieldsOf,underlying47]
 rw[show(10000:Nat)=9999+1 from rfl,run_equalIn_agg w 9999 47 _ _ H stoodInHeld47];cases x;cases y
 simp[Program.fieldsOf,underlying47,Op.eqFields,part,isAgg3,run_equalIn_int w 9998 3 .i64 .i64 _ _ underlying3];repeat' split
 all_goals simp_all
@[ext] structure Letter where
 dispute:Int
 who:Int
 asked:Int
 deriving DecidableEq
def LetterE:Enc Letter:=U4 (fun x=>(x.dispute,(x.who,x.asked))) (B0 (B1 .i64) (B0 (B1 .i64) ((B1 .i64))))
theorem LetterE_R{M:List Nat}{w:World}{cs:List Value}{x:Letter}:LetterE.R M w cs x↔cs=[Value.int .i64 x.dispute,Value.int .i64 x.who,Value.int .i64 x.asked]/\InK .i64 x.dispute/\InK .i64 x.who/\InK .i64 x.asked:=by
 simp only[LetterE,mapE_R,prodE_R,intE_R];constructor
 . rintro⟨_,_,rfl,⟨rfl,J⟩,_,_,rfl,⟨rfl,I⟩,rfl,H⟩;exact⟨rfl,J,I,H⟩
 . rintro⟨rfl,J,I,H⟩;exact⟨[_],_,rfl,⟨rfl,J⟩,[_],_,rfl,⟨rfl,I⟩,rfl,H⟩
theorem AOc(x y:Letter)(w:World):(Op.equalIn 10000 70 (.agg (toArray [Value.int .i64 x.dispute,Value.int .i64 x.who,Value.int .i64 x.asked])) (.agg (toArray [Value.int .i64 y.dispute,Value.int .i64 y.who,Value.int .i64 y.asked]))).run prog w=.ok (decide (x=y)) w:=by
 have H:prog.underlying 70=some (.struct (prog.fieldsOf 70)):=by simp[Program.fieldsOf,underlying70]
 rw[show(10000:Nat)=9999+1 from rfl,run_equalIn_agg w 9999 70 _ _ H stoodInHeld70];cases x;cases y
 simp[Program.fieldsOf,underlying70,Op.eqFields,part,isAgg3,run_equalIn_int w 9998 3 .i64 .i64 _ _ underlying3];repeat' split
 all_goals simp_all
@[ext] structure Told where
 known:Int
 cents:Int
 since:Int
 by_:(List Int)
 deriving DecidableEq
def AJN:Enc Told:=U4 (fun x=>(x.known,(x.cents,(x.since,x.by_)))) (B0 (B1 .u8) (B0 (B1 .i64) (B0 (B1 .i64) (K5 (B1 .i64)))))
@[ext] structure Span where
 lo:Int
 hi:Int
 deriving DecidableEq
def SpanE:Enc Span:=U4 (fun x=>(x.lo,x.hi)) (B0 (B1 .i64) ((B1 .i64)))
theorem AL3{M:List Nat}{w:World}{cs:List Value}{x:Span}:SpanE.R M w cs x↔cs=[Value.int .i64 x.lo,Value.int .i64 x.hi]/\InK .i64 x.lo/\InK .i64 x.hi:=by
 simp only[SpanE,mapE_R,prodE_R,intE_R];constructor
 . rintro⟨_,_,rfl,⟨rfl,I⟩,rfl,H⟩;exact⟨rfl,I,H⟩
 . rintro⟨rfl,I,H⟩;exact⟨[_],_,rfl,⟨rfl,I⟩,rfl,H⟩
theorem AR2(x y:Span)(w:World):(Op.equalIn 10000 88 (.agg (toArray [Value.int .i64 x.lo,Value.int .i64 x.hi])) (.agg (toArray [Value.int .i64 y.lo,Value.int .i64 y.hi]))).run prog w=.ok (decide (x=y)) w:=by
 have H:prog.underlying 88=some (.struct (prog.fieldsOf 88)):=by simp[Program.fieldsOf,underlying88]
 rw[show(10000:Nat)=9999+1 from rfl,run_equalIn_agg w 9999 88 _ _ H stoodInHeld88];cases x;cases y
 simp[Program.fieldsOf,underlying88,Op.eqFields,part,isAgg3,run_equalIn_int w 9998 3 .i64 .i64 _ _ underlying3];repeat' split
 all_goals simp_all
@[ext] structure State where
 opened:Told
 limit:Told
 owed:Told
 late:Told
 default:Told
 closed:Told
 paid:Span
 is_:Int
 deriving DecidableEq
def AHY:Enc State:=U4 (fun x=>(x.opened.known,(x.opened.cents,(x.opened.since,(x.opened.by_,(x.limit.known,(x.limit.cents,(x.limit.since,(x.limit.by_,(x.owed.known,(x.owed.cents,(x.owed.since,(x.owed.by_,(x.late.known,(x.late.cents,(x.late.since,(x.late.by_,(x.default.known,(x.default.cents,(x.default.since,(x.default.by_,(x.closed.known,(x.closed.cents,(x.closed.since,(x.closed.by_,(x.paid.lo,(x.paid.hi,x.is_))))))))))))))))))))))))))) (B0 (B1 .u8) (B0 (B1 .i64) (B0 (B1 .i64) (B0 (K5 (B1 .i64)) (B0 (B1 .u8) (B0 (B1 .i64) (B0 (B1 .i64) (B0 (K5 (B1 .i64)) (B0 (B1 .u8) (B0 (B1 .i64) (B0 (B1 .i64) (B0 (K5 (B1 .i64)) (B0 (B1 .u8) (B0 (B1 .i64) (B0 (B1 .i64) (B0 (K5 (B1 .i64)) (B0 (B1 .u8) (B0 (B1 .i64) (B0 (B1 .i64) (B0 (K5 (B1 .i64)) (B0 (B1 .u8) (B0 (B1 .i64) (B0 (B1 .i64) (B0 (K5 (B1 .i64)) (B0 (B1 .i64) (B0 (B1 .i64) (B1 .u8)))))))))))))))))))))))))))
@[ext] structure Desk_99 where
 desk:Desk
 facts:(A4 Int Report)
 answers:(A4 Int (List Answer))
def AP1:Enc Desk_99:=U4 (fun x=>(x.desk.terms.answer,(x.desk.terms.mark,(x.desk.terms.lately,(x.desk.reports,(x.desk.disputes,(x.desk.answers,(x.facts,x.answers)))))))) (B0 (B1 .i64) (B0 (B1 .i64) (B0 (B1 .i64) (B0 (K5 ReportE) (B0 (K5 DisputeE) (B0 (K5 AnswerE) (B0 (mpE (some (W5 .i64 underlying3)) ReportE true) (mpE (some (W5 .i64 underlying3)) (K5 AnswerE) false))))))))
@[ext] structure Arr116 where
 x0:Int
 x1:Int
 deriving DecidableEq
def AFm:Enc Arr116:=U4 (fun x=>(x.x0,x.x1)) (B0 (B1 .i64) (B1 .i64))
@[ext] structure Verdict where
 day:Int
 is_:Int
 by_:Answer
 deriving DecidableEq
def AES:Enc Verdict:=U4 (fun x=>(x.day,(x.is_,(x.by_.id,(x.by_.dispute,(x.by_.day,(x.by_.says,(x.by_.about,x.by_.cents)))))))) (B0 (B1 .i64) (B0 (B1 .u8) (B0 (B1 .i64) (B0 (B1 .i64) (B0 (B1 .i64) (B0 (B1 .u8) (B0 (B1 .i64) (B1 .i64))))))))
@[ext] structure Store where
 reports:(A4 Int Report)
def ATh:Enc Store:=U4 (fun x=>x.reports) (mpE (some (W5 .i64 underlying3)) ReportE true)
@[ext] structure Desk_139 where
 store:Store
 gone:(A4 Int Int)
 fixed:(A4 Int Int)
def AOd:Enc Desk_139:=U4 (fun x=>(x.store.reports,(x.gone,x.fixed))) (B0 (mpE (some (W5 .i64 underlying3)) ReportE true) (B0 (mpE (some (W5 .i64 underlying3)) (B1 .i64) false) (mpE (some (W5 .i64 underlying3)) (B1 .i64) false)))
@[ext] structure Book where
 facts:(List Report)
 deriving DecidableEq
def AJO:Enc Book:=U4 (fun x=>x.facts) (K5 ReportE)
@[ext] structure Payer where
 day:Int
 source:Int
 deriving DecidableEq
def AHZ:Enc Payer:=U4 (fun x=>(x.day,x.source)) (B0 (B1 .i64) (B1 .i64))
instance:Sg where
 S:=fun
  |0=>Terms
  |1=>Report
  |2=>Dispute
  |3=>Answer
  |4=>Desk
  |5=>Asked
  |6=>Letter
  |7=>Told
  |8=>Span
  |9=>State
  |10=>Desk_99
  |11=>Arr116
  |12=>Verdict
  |13=>Store
  |14=>Desk_139
  |15=>Book
  |16=>Payer
  |_+17=>Bool
def glob0:List Int:=[0,0,1000000000000,1000000000000,1000000000000,10000,1000000000000,0,1000000000000,0]
def AFn:A4 Int Int:=(B5 (B5 (B5 fnone 1 2) 2 3) 3 4)
instance:Sf where
 ft:=fun
  |0=>[(.int .i64),(.int .i64),(.int .i64)]
  |1=>[(.int .i64),(.int .i64),(.int .i64),(.int .i64),(.int .i64),(.int .u8),(.int .i64),(.int .i64)]
  |2=>[(.int .i64),(.int .i64),(.int .i64)]
  |3=>[(.int .i64),(.int .i64),(.int .i64),(.int .u8),(.int .i64),(.int .i64)]
  |4=>[(.int .i64),(.int .i64),(.int .i64),(.sl (.st 1)),(.sl (.st 2)),(.sl (.st 3))]
  |5=>[(.int .i64),(.int .i64),(.int .i64),(.int .i64)]
  |6=>[(.int .i64),(.int .i64),(.int .i64)]
  |7=>[(.int .u8),(.int .i64),(.int .i64),(.sl (.int .i64))]
  |8=>[(.int .i64),(.int .i64)]
  |9=>[(.int .u8),(.int .i64),(.int .i64),(.sl (.int .i64)),(.int .u8),(.int .i64),(.int .i64),(.sl (.int .i64)),(.int .u8),(.int .i64),(.int .i64),(.sl (.int .i64)),(.int .u8),(.int .i64),(.int .i64),(.sl (.int .i64)),(.int .u8),(.int .i64),(.int .i64),(.sl (.int .i64)),(.int .u8),(.int .i64),(.int .i64),(.sl (.int .i64)),(.int .i64),(.int .i64),(.int .u8)]
  |10=>[(.int .i64),(.int .i64),(.int .i64),(.sl (.st 1)),(.sl (.st 2)),(.sl (.st 3)),(.mp 3 (.int .i64) (.st 1)),(.mp 3 (.int .i64) (.sl (.st 3)))]
  |11=>[(.int .i64),(.int .i64)]
  |12=>[(.int .i64),(.int .u8),(.int .i64),(.int .i64),(.int .i64),(.int .u8),(.int .i64),(.int .i64)]
  |13=>[(.mp 3 (.int .i64) (.st 1))]
  |14=>[(.mp 3 (.int .i64) (.st 1)),(.mp 3 (.int .i64) (.int .i64)),(.mp 3 (.int .i64) (.int .i64))]
  |15=>[(.sl (.st 1))]
  |16=>[(.int .i64),(.int .i64)]
  |_+17=>[.bool]
 un:=fun
  |0=>fun x=>(x.answer,(x.mark,x.lately))
  |1=>fun x=>(x.id,(x.source,(x.account,(x.made,(x.about,(x.kind,(x.cents,x.of_)))))))
  |2=>fun x=>(x.id,(x.report,x.day))
  |3=>fun x=>(x.id,(x.dispute,(x.day,(x.says,(x.about,x.cents)))))
  |4=>fun x=>(x.terms.answer,(x.terms.mark,(x.terms.lately,(x.reports,(x.disputes,x.answers)))))
  |5=>fun x=>(x.id,(x.who,(x.account,x.day)))
  |6=>fun x=>(x.dispute,(x.who,x.asked))
  |7=>fun x=>(x.known,(x.cents,(x.since,x.by_)))
  |8=>fun x=>(x.lo,x.hi)
  |9=>fun x=>(x.opened.known,(x.opened.cents,(x.opened.since,(x.opened.by_,(x.limit.known,(x.limit.cents,(x.limit.since,(x.limit.by_,(x.owed.known,(x.owed.cents,(x.owed.since,(x.owed.by_,(x.late.known,(x.late.cents,(x.late.since,(x.late.by_,(x.default.known,(x.default.cents,(x.default.since,(x.default.by_,(x.closed.known,(x.closed.cents,(x.closed.since,(x.closed.by_,(x.paid.lo,(x.paid.hi,x.is_))))))))))))))))))))))))))
  |10=>fun x=>(x.desk.terms.answer,(x.desk.terms.mark,(x.desk.terms.lately,(x.desk.reports,(x.desk.disputes,(x.desk.answers,(x.facts,x.answers)))))))
  |11=>fun x=>(x.x0,x.x1)
  |12=>fun x=>(x.day,(x.is_,(x.by_.id,(x.by_.dispute,(x.by_.day,(x.by_.says,(x.by_.about,x.by_.cents)))))))
  |13=>fun x=>x.reports
  |14=>fun x=>(x.store.reports,(x.gone,x.fixed))
  |15=>fun x=>x.facts
  |16=>fun x=>(x.day,x.source)
  |_+17=>fun x=>x
 mkS:=fun
  |0=>fun x=>(Terms.mk x.1 x.2.1 x.2.2)
  |1=>fun x=>(Report.mk x.1 x.2.1 x.2.2.1 x.2.2.2.1 x.2.2.2.2.1 x.2.2.2.2.2.1 x.2.2.2.2.2.2.1 x.2.2.2.2.2.2.2)
  |2=>fun x=>(Dispute.mk x.1 x.2.1 x.2.2)
  |3=>fun x=>(Answer.mk x.1 x.2.1 x.2.2.1 x.2.2.2.1 x.2.2.2.2.1 x.2.2.2.2.2)
  |4=>fun x=>(Desk.mk (Terms.mk x.1 x.2.1 x.2.2.1) x.2.2.2.1 x.2.2.2.2.1 x.2.2.2.2.2)
  |5=>fun x=>(Asked.mk x.1 x.2.1 x.2.2.1 x.2.2.2)
  |6=>fun x=>(Letter.mk x.1 x.2.1 x.2.2)
  |7=>fun x=>(Told.mk x.1 x.2.1 x.2.2.1 x.2.2.2)
  |8=>fun x=>(Span.mk x.1 x.2)
  |9=>fun x=>(State.mk (Told.mk x.1 x.2.1 x.2.2.1 x.2.2.2.1) (Told.mk x.2.2.2.2.1 x.2.2.2.2.2.1 x.2.2.2.2.2.2.1 x.2.2.2.2.2.2.2.1) (Told.mk x.2.2.2.2.2.2.2.2.1 x.2.2.2.2.2.2.2.2.2.1 x.2.2.2.2.2.2.2.2.2.2.1 x.2.2.2.2.2.2.2.2.2.2.2.1) (Told.mk x.2.2.2.2.2.2.2.2.2.2.2.2.1 x.2.2.2.2.2.2.2.2.2.2.2.2.2.1 x.2.2.2.2.2.2.2.2.2.2.2.2.2.2.1 x.2.2.2.2.2.2.2.2.2.2.2.2.2.2.2.1) (Told.mk x.2.2.2.2.2.2.2.2.2.2.2.2.2.2.2.2.1 x.2.2.2.2.2.2.2.2.2.2.2.2.2.2.2.2.2.1 x.2.2.2.2.2.2.2.2.2.2.2.2.2.2.2.2.2.2.1 x.2.2.2.2.2.2.2.2.2.2.2.2.2.2.2.2.2.2.2.1) (Told.mk x.2.2.2.2.2.2.2.2.2.2.2.2.2.2.2.2.2.2.2.2.1 x.2.2.2.2.2.2.2.2.2.2.2.2.2.2.2.2.2.2.2.2.2.1 x.2.2.2.2.2.2.2.2.2.2.2.2.2.2.2.2.2.2.2.2.2.2.1 x.2.2.2.2.2.2.2.2.2.2.2.2.2.2.2.2.2.2.2.2.2.2.2.1) (Span.mk x.2.2.2.2.2.2.2.2.2.2.2.2.2.2.2.2.2.2.2.2.2.2.2.2.1 x.2.2.2.2.2.2.2.2.2.2.2.2.2.2.2.2.2.2.2.2.2.2.2.2.2.1) x.2.2.2.2.2.2.2.2.2.2.2.2.2.2.2.2.2.2.2.2.2.2.2.2.2.2)
  |10=>fun x=>(Desk_99.mk (Desk.mk (Terms.mk x.1 x.2.1 x.2.2.1) x.2.2.2.1 x.2.2.2.2.1 x.2.2.2.2.2.1) x.2.2.2.2.2.2.1 x.2.2.2.2.2.2.2)
  |11=>fun x=>(Arr116.mk x.1 x.2)
  |12=>fun x=>(Verdict.mk x.1 x.2.1 (Answer.mk x.2.2.1 x.2.2.2.1 x.2.2.2.2.1 x.2.2.2.2.2.1 x.2.2.2.2.2.2.1 x.2.2.2.2.2.2.2))
  |13=>fun x=>(Store.mk x)
  |14=>fun x=>(Desk_139.mk (Store.mk x.1) x.2.1 x.2.2)
  |15=>fun x=>(Book.mk x)
  |16=>fun x=>(Payer.mk x.1 x.2)
  |_+17=>fun x=>x
 eq:=fun
  |0=>fun (x y:Terms)=>decide (x=y)
  |1=>fun (x y:Report)=>decide (x=y)
  |2=>fun (x y:Dispute)=>decide (x=y)
  |3=>fun (x y:Answer)=>decide (x=y)
  |4=>fun (x y:Desk)=>decide (x=y)
  |5=>fun (x y:Asked)=>decide (x=y)
  |6=>fun (x y:Letter)=>decide (x=y)
  |7=>fun (x y:Told)=>decide (x=y)
  |8=>fun (x y:Span)=>decide (x=y)
  |9=>fun (x y:State)=>decide (x=y)
  |10=>fun (x y:Desk_99)=>false
  |11=>fun (x y:Arr116)=>decide (x=y)
  |12=>fun (x y:Verdict)=>decide (x=y)
  |13=>fun (x y:Store)=>false
  |14=>fun (x y:Desk_139)=>false
  |15=>fun (x y:Book)=>decide (x=y)
  |16=>fun (x y:Payer)=>decide (x=y)
  |_+17=>fun _ _=>false
 dec:=fun _ _ _=>Classical.propDecidable _
 un_mk:=fun n x=>by rcases n with _|_|_|_|_|_|_|_|_|_|_|_|_|_|_|_|_|_<;>rfl
 leaf:=fun n=>by rcases n with _|_|_|_|_|_|_|_|_|_|_|_|_|_|_|_|_|_<;>rfl
 nm:=fun
  |10=>false
  |13=>false
  |14=>false
  |n=>blt n 17
 gv:=fun
  |0=>some (.rp (.ary .i64 10 glob0) 0)
  |1=>some (.rp (.agg [.fn 202 [],.fn 203 [],.fn 204 [],.fn 208 []]) 0)
  |2=>some (.rp (.dat (.mp 5 (.int .u8) (.int .u8)) AFn) 0)
  |_=>none
instance:Se prog where
 E:=fun
  |0=>TermsE
  |1=>ReportE
  |2=>DisputeE
  |3=>AnswerE
  |4=>AJM
  |5=>AskedE
  |6=>LetterE
  |7=>AJN
  |8=>SpanE
  |9=>AHY
  |10=>AP1
  |11=>AFm
  |12=>AES
  |13=>ATh
  |14=>AOd
  |15=>AJO
  |16=>AHZ
  |_+17=>boolE
 ky:=fun m k=>match m,k with
  |3,.int .i64=>some (W5 .i64 underlying3)
  |5,.int .u8=>some (W5 .u8 underlying5)
  |_,_=>none
instance:Sl (P:=prog) where
 is:=fun n M w cs x=>by rcases n with _|_|_|_|_|_|_|_|_|_|_|_|_|_|_|_|_|_<;>exact AZy
instance:TnE TermsE:=by unfold TermsE;infer_instance
instance:TnE ReportE:=by unfold ReportE;infer_instance
instance:TnE DisputeE:=by unfold DisputeE;infer_instance
instance:TnE AnswerE:=by unfold AnswerE;infer_instance
instance:TnE AJM:=by unfold AJM;infer_instance
instance:TnE AskedE:=by unfold AskedE;infer_instance
instance:TnE LetterE:=by unfold LetterE;infer_instance
instance:TnE AJN:=by unfold AJN;infer_instance
instance:TnE SpanE:=by unfold SpanE;infer_instance
instance:TnE AHY:=by unfold AHY;infer_instance
instance:TnE AFm:=by unfold AFm;infer_instance
instance:TnE AES:=by unfold AES;infer_instance
instance:TnE AJO:=by unfold AJO;infer_instance
instance:TnE AHZ:=by unfold AHZ;infer_instance
instance:Sn prog where
 tn:=fun n h=>by
  match n,h with
  |0,_=>exact inferInstanceAs (TnE TermsE)
  |1,_=>exact inferInstanceAs (TnE ReportE)
  |2,_=>exact inferInstanceAs (TnE DisputeE)
  |3,_=>exact inferInstanceAs (TnE AnswerE)
  |4,_=>exact inferInstanceAs (TnE AJM)
  |5,_=>exact inferInstanceAs (TnE AskedE)
  |6,_=>exact inferInstanceAs (TnE LetterE)
  |7,_=>exact inferInstanceAs (TnE AJN)
  |8,_=>exact inferInstanceAs (TnE SpanE)
  |9,_=>exact inferInstanceAs (TnE AHY)
  |10,h=>cases h
  |11,_=>exact inferInstanceAs (TnE AFm)
  |12,_=>exact inferInstanceAs (TnE AES)
  |13,h=>cases h
  |14,h=>cases h
  |15,_=>exact inferInstanceAs (TnE AJO)
  |16,_=>exact inferInstanceAs (TnE AHZ)
  |_+17,h=>cases h
variable{M:List Nat}{w:World}{cs:List Value}{cs':List Value}{fs:List (Nat×Ctr)}{pf:List (Nat×CtrP)}{fm:List (Nat×CtrM)}
theorem rsl24:SlT prog 24 45 (enc (P:=prog) (.st 1)).n 64:=⟨underlying24,Tryz.t45,_,by kernel_rfl,rfl,rfl,rfl,rfl⟩
theorem rsl25:SlT prog 25 53 (enc (P:=prog) (.st 2)).n 24:=⟨underlying25,Tryz.t53,_,by kernel_rfl,rfl,rfl,rfl,rfl⟩
theorem rsl26:SlT prog 26 60 (enc (P:=prog) (.st 3)).n 48:=⟨underlying26,t60,_,by kernel_rfl,rfl,rfl,rfl,rfl⟩
theorem rsl29:SlT prog 29 47 (enc (P:=prog) (.st 5)).n 32:=⟨underlying29,t47,_,by kernel_rfl,rfl,rfl,rfl,rfl⟩
theorem rsl37:SlT prog 37 70 (enc (P:=prog) (.st 6)).n 24:=⟨underlying37,Tryz.t70,_,by kernel_rfl,rfl,rfl,rfl,rfl⟩
theorem rsl56:SlT prog 56 3 (enc (P:=prog) (.int .i64)).n 8:=⟨underlying56,Tryz.t3,_,by kernel_rfl,rfl,rfl,rfl,rfl⟩
theorem rsl65:SlT prog 65 28 (enc (P:=prog) (.st 4)).n 96:=⟨underlying65,t28,_,by kernel_rfl,rfl,rfl,rfl,rfl⟩
theorem rsl81:SlT prog 81 82 (enc (P:=prog) (.int .u32)).n 4:=⟨underlying81,t82,_,by kernel_rfl,rfl,rfl,rfl,rfl⟩
theorem rsl167:SlT prog 167 118 (enc (P:=prog) (.fno 118)).n 8:=⟨underlying167,t118,_,by kernel_rfl,rfl,rfl,rfl,rfl⟩
theorem rsl175:SlT prog 175 130 (enc (P:=prog) (.fno 130)).n 8:=⟨underlying175,t130,_,by kernel_rfl,rfl,rfl,rfl,rfl⟩
theorem rsl191:SlT prog 191 160 (enc (P:=prog) (.fno 160)).n 8:=⟨underlying191,t160,_,by kernel_rfl,rfl,rfl,rfl,rfl⟩
theorem rsl194:SlT prog 194 24 (enc (P:=prog) (.sl (.st 1))).n 24:=⟨underlying194,t24,_,by kernel_rfl,rfl,rfl,rfl,rfl⟩
def gxb:Gx where
 tb:=⟨[(23,[(0,3),(1,3),(2,3)]),(28,[(0,23),(3,24),(4,25),(5,26)]),(45,[(0,3),(1,3),(2,3),(3,3),(4,3),(5,5),(6,3),(7,3)]),(47,[(0,3),(1,3),(2,3),(3,3)]),(53,[(0,3),(1,3),(2,3)]),(60,[(0,3),(1,3),(2,3),(3,5),(4,3),(5,3)]),(70,[(0,3),(1,3),(2,3)]),(86,[(0,5),(1,3),(2,3),(3,56)]),(88,[(0,3),(1,3)]),(90,[(0,86),(4,86),(8,86),(12,86),(16,86),(20,86),(24,88),(26,5)]),(99,[(0,28),(6,96),(7,97)]),(111,[(0,3),(1,5),(2,60)]),(137,[(0,96)]),(139,[(0,137),(1,71),(2,71)]),(146,[(0,24)]),(153,[(0,5),(1,150),(2,151)]),(189,[(0,3),(1,3)])],[(3,0),(4,0),(5,0),(23,4),(24,0),(25,0),(26,0),(28,7),(29,0),(32,0),(37,0),(45,9),(47,5),(53,4),(56,0),(60,7),(65,0),(70,4),(71,0),(81,0),(82,0),(86,5),(88,3),(90,28),(96,0),(97,0),(99,9),(106,0),(108,0),(111,9),(114,0),(116,3),(118,0),(125,0),(130,0),(135,0),(137,2),(139,4),(144,0),(146,2),(148,0),(150,0),(151,0),(153,4),(154,0),(155,0),(156,0),(160,0),(164,0),(165,0),(166,0),(167,0),(170,0),(175,0),(177,0),(181,11),(184,5),(186,0),(189,3),(191,0),(193,0),(194,0),(199,0),(202,0),(209,0),(217,0),(230,0),(234,0),(241,0),(263,0),(265,0),(267,0)]⟩
 sl:=[(24,45,(.st 1),64),(25,53,(.st 2),24),(26,60,(.st 3),48),(29,47,(.st 5),32),(37,70,(.st 6),24),(56,3,(.int .i64),8),(65,28,(.st 4),96),(81,82,(.int .u32),4),(167,118,(.fno 118),8),(175,130,(.fno 130),8),(191,160,(.fno 160),8),(194,24,(.sl (.st 1)),24)]
 sz:=[(3,1),(4,1),(5,1),(23,3),(24,1),(25,1),(26,1),(28,6),(29,1),(32,1),(37,1),(45,8),(47,4),(53,3),(56,1),(60,6),(65,1),(70,3),(71,1),(81,1),(82,1),(86,4),(88,2),(90,27),(96,1),(97,1),(99,8),(106,1),(111,8),(116,2),(137,1),(139,3),(146,1),(156,1),(167,1),(175,1),(181,10),(186,1),(189,2),(191,1),(194,1),(199,1),(202,1),(209,1),(217,1),(230,1),(263,1),(108,1),(114,1),(118,1),(125,1),(130,1),(135,1),(144,1),(150,1),(151,1),(154,1),(155,1),(160,1),(164,1),(165,1),(166,1),(170,1),(177,1),(193,1),(234,1),(241,1),(265,1),(267,1)]
 ty:=[(3,(.int .i64)),(4,.bool),(5,(.int .u8)),(23,(.st 0)),(24,(.sl (.st 1))),(25,(.sl (.st 2))),(26,(.sl (.st 3))),(28,(.st 4)),(29,(.sl (.st 5))),(32,(.int .i64)),(37,(.sl (.st 6))),(45,(.st 1)),(47,(.st 5)),(53,(.st 2)),(56,(.sl (.int .i64))),(60,(.st 3)),(65,(.sl (.st 4))),(70,(.st 6)),(71,(.mp 3 (.int .i64) (.int .i64))),(81,(.sl (.int .u32))),(82,(.int .u32)),(86,(.st 7)),(88,(.st 8)),(90,(.st 9)),(96,(.mp 3 (.int .i64) (.st 1))),(97,(.mp 3 (.int .i64) (.sl (.st 3)))),(99,(.st 10)),(106,(.mp 116 (.st 11) (.int .i64))),(111,(.st 12)),(116,(.st 11)),(137,(.st 13)),(139,(.st 14)),(146,(.st 15)),(156,(.mp 3 (.int .i64) (.st 8))),(167,(.sl (.fno 118))),(175,(.sl (.fno 130))),(181,(.arr .i64 10)),(186,(.mp 189 (.st 16) (.int .i64))),(189,(.st 16)),(191,(.sl (.fno 160))),(194,(.sl (.sl (.st 1)))),(199,(.int .u64)),(202,(.mp 5 (.int .u8) (.int .u8))),(209,(.int .i64)),(217,(.int .u64)),(230,(.int .u64)),(263,(.mp 3 (.int .i64) .bool))]
 fs:=[]
 bd:=[(23,[(0,1),(1,1),(2,1)]),(28,[(0,3),(3,1),(4,1),(5,1)]),(45,[(0,1),(1,1),(2,1),(3,1),(4,1),(5,1),(6,1),(7,1)]),(47,[(0,1),(1,1),(2,1),(3,1)]),(53,[(0,1),(1,1),(2,1)]),(60,[(0,1),(1,1),(2,1),(3,1),(4,1),(5,1)]),(70,[(0,1),(1,1),(2,1)]),(86,[(0,1),(1,1),(2,1),(3,1)]),(88,[(0,1),(1,1)]),(90,[(0,4),(4,4),(8,4),(12,4),(16,4),(20,4),(24,2),(26,1)]),(99,[(0,6),(6,1),(7,1)]),(111,[(0,1),(1,1),(2,6)]),(137,[(0,1)]),(139,[(0,1),(1,1),(2,1)]),(153,[(0,1),(1,1),(2,1)]),(189,[(0,1),(1,1)])]
 eq:=[(23,0),(45,1),(47,5),(53,2),(60,3),(70,6),(88,8)]
 mp:=[(71,3,3,(.int .i64),(.int .i64)),(96,3,45,(.int .i64),(.st 1)),(97,3,26,(.int .i64),(.sl (.st 3))),(156,3,88,(.int .i64),(.st 8)),(202,5,5,(.int .u8),(.int .u8)),(263,3,4,(.int .i64),.bool)]
 ar:=[(116,2,1),(181,10,1)]
 pz:=[(108,1),(114,1),(118,1),(125,1),(130,1),(135,1),(144,1),(150,1),(151,1),(154,0),(155,0),(160,1),(164,1),(165,1),(166,1),(170,1),(177,1),(193,1),(234,0),(241,0),(265,1),(267,1)]
 pf:=[]
 fm:=[]
 fd:=[]
theorem gx_st:StOk prog gxb.tb.st:=⟨⟨_,underlying23,⟨_,_,rfl,rfl,rfl,sizeOf3⟩,⟨_,_,rfl,rfl,rfl,sizeOf3⟩,⟨_,_,rfl,rfl,rfl,sizeOf3⟩,trivial⟩,⟨_,underlying28,⟨_,_,rfl,rfl,rfl,sizeOf23⟩,⟨_,_,rfl,rfl,rfl,sizeOf24⟩,⟨_,_,rfl,rfl,rfl,sizeOf25⟩,⟨_,_,rfl,rfl,rfl,sizeOf26⟩,trivial⟩,⟨_,underlying45,⟨_,_,rfl,rfl,rfl,sizeOf3⟩,⟨_,_,rfl,rfl,rfl,sizeOf3⟩,⟨_,_,rfl,rfl,rfl,sizeOf3⟩,⟨_,_,rfl,rfl,rfl,sizeOf3⟩,⟨_,_,rfl,rfl,rfl,sizeOf3⟩,⟨_,_,rfl,rfl,rfl,sizeOf5⟩,⟨_,_,rfl,rfl,rfl,sizeOf3⟩,⟨_,_,rfl,rfl,rfl,sizeOf3⟩,trivial⟩,⟨_,underlying47,⟨_,_,rfl,rfl,rfl,sizeOf3⟩,⟨_,_,rfl,rfl,rfl,sizeOf3⟩,⟨_,_,rfl,rfl,rfl,sizeOf3⟩,⟨_,_,rfl,rfl,rfl,sizeOf3⟩,trivial⟩,⟨_,underlying53,⟨_,_,rfl,rfl,rfl,sizeOf3⟩,⟨_,_,rfl,rfl,rfl,sizeOf3⟩,⟨_,_,rfl,rfl,rfl,sizeOf3⟩,trivial⟩,⟨_,underlying60,⟨_,_,rfl,rfl,rfl,sizeOf3⟩,⟨_,_,rfl,rfl,rfl,sizeOf3⟩,⟨_,_,rfl,rfl,rfl,sizeOf3⟩,⟨_,_,rfl,rfl,rfl,sizeOf5⟩,⟨_,_,rfl,rfl,rfl,sizeOf3⟩,⟨_,_,rfl,rfl,rfl,sizeOf3⟩,trivial⟩,⟨_,underlying70,⟨_,_,rfl,rfl,rfl,sizeOf3⟩,⟨_,_,rfl,rfl,rfl,sizeOf3⟩,⟨_,_,rfl,rfl,rfl,sizeOf3⟩,trivial⟩,⟨_,underlying86,⟨_,_,rfl,rfl,rfl,sizeOf5⟩,⟨_,_,rfl,rfl,rfl,sizeOf3⟩,⟨_,_,rfl,rfl,rfl,sizeOf3⟩,⟨_,_,rfl,rfl,rfl,sizeOf56⟩,trivial⟩,⟨_,underlying88,⟨_,_,rfl,rfl,rfl,sizeOf3⟩,⟨_,_,rfl,rfl,rfl,sizeOf3⟩,trivial⟩,⟨_,underlying90,⟨_,_,rfl,rfl,rfl,sizeOf86⟩,⟨_,_,rfl,rfl,rfl,sizeOf86⟩,⟨_,_,rfl,rfl,rfl,sizeOf86⟩,⟨_,_,rfl,rfl,rfl,sizeOf86⟩,⟨_,_,rfl,rfl,rfl,sizeOf86⟩,⟨_,_,rfl,rfl,rfl,sizeOf86⟩,⟨_,_,rfl,rfl,rfl,sizeOf88⟩,⟨_,_,rfl,rfl,rfl,sizeOf5⟩,trivial⟩,⟨_,underlying99,⟨_,_,rfl,rfl,rfl,sizeOf28⟩,⟨_,_,rfl,rfl,rfl,sizeOf96⟩,⟨_,_,rfl,rfl,rfl,sizeOf97⟩,trivial⟩,⟨_,underlying111,⟨_,_,rfl,rfl,rfl,sizeOf3⟩,⟨_,_,rfl,rfl,rfl,sizeOf5⟩,⟨_,_,rfl,rfl,rfl,sizeOf60⟩,trivial⟩,⟨_,underlying137,⟨_,_,rfl,rfl,rfl,sizeOf96⟩,trivial⟩,⟨_,underlying139,⟨_,_,rfl,rfl,rfl,sizeOf137⟩,⟨_,_,rfl,rfl,rfl,sizeOf71⟩,⟨_,_,rfl,rfl,rfl,sizeOf71⟩,trivial⟩,⟨_,underlying146,⟨_,_,rfl,rfl,rfl,sizeOf24⟩,trivial⟩,⟨_,underlying153,⟨_,_,rfl,rfl,rfl,sizeOf5⟩,⟨_,_,rfl,rfl,rfl,sizeOf150⟩,⟨_,_,rfl,rfl,rfl,sizeOf151⟩,trivial⟩,⟨_,underlying189,⟨_,_,rfl,rfl,rfl,sizeOf3⟩,⟨_,_,rfl,rfl,rfl,sizeOf3⟩,trivial⟩,trivial⟩
theorem gx_ag:AgOk prog gxb.tb.ag:=⟨isAgg3,isAgg4,isAgg5,⟨isAgg23,sizeOf23⟩,isAgg24,isAgg25,isAgg26,⟨isAgg28,sizeOf28⟩,isAgg29,isAgg32,isAgg37,⟨isAgg45,sizeOf45⟩,⟨isAgg47,sizeOf47⟩,⟨isAgg53,sizeOf53⟩,isAgg56,⟨isAgg60,sizeOf60⟩,isAgg65,⟨isAgg70,sizeOf70⟩,isAgg71,isAgg81,isAgg82,⟨isAgg86,sizeOf86⟩,⟨isAgg88,sizeOf88⟩,⟨isAgg90,sizeOf90⟩,isAgg96,isAgg97,⟨isAgg99,sizeOf99⟩,isAgg106,isAgg108,⟨isAgg111,sizeOf111⟩,isAgg114,⟨isAgg116,sizeOf116⟩,isAgg118,isAgg125,isAgg130,isAgg135,⟨isAgg137,sizeOf137⟩,⟨isAgg139,sizeOf139⟩,isAgg144,⟨isAgg146,sizeOf146⟩,isAgg148,isAgg150,isAgg151,⟨isAgg153,sizeOf153⟩,isAgg154,isAgg155,isAgg156,isAgg160,isAgg164,isAgg165,isAgg166,isAgg167,isAgg170,isAgg175,isAgg177,⟨isAgg181,sizeOf181⟩,⟨isAgg184,sizeOf184⟩,isAgg186,⟨isAgg189,sizeOf189⟩,isAgg191,isAgg193,isAgg194,isAgg199,isAgg202,isAgg209,isAgg217,isAgg230,isAgg234,isAgg241,isAgg263,isAgg265,isAgg267,trivial⟩
theorem gx_sl:SlOk prog gxb.sl:=⟨rsl24,rsl25,rsl26,rsl29,rsl37,rsl56,rsl65,rsl81,rsl167,rsl175,rsl191,rsl194,trivial⟩
theorem gx_sz:SzOk prog gxb.sz:=⟨sizeOf3,sizeOf4,sizeOf5,sizeOf23,sizeOf24,sizeOf25,sizeOf26,sizeOf28,sizeOf29,sizeOf32,sizeOf37,sizeOf45,sizeOf47,sizeOf53,sizeOf56,sizeOf60,sizeOf65,sizeOf70,sizeOf71,sizeOf81,sizeOf82,sizeOf86,sizeOf88,sizeOf90,sizeOf96,sizeOf97,sizeOf99,sizeOf106,sizeOf111,sizeOf116,sizeOf137,sizeOf139,sizeOf146,sizeOf156,sizeOf167,sizeOf175,sizeOf181,sizeOf186,sizeOf189,sizeOf191,sizeOf194,sizeOf199,sizeOf202,sizeOf209,sizeOf217,sizeOf230,sizeOf263,sizeOf108,sizeOf114,sizeOf118,sizeOf125,sizeOf130,sizeOf135,sizeOf144,sizeOf150,sizeOf151,sizeOf154,sizeOf155,sizeOf160,sizeOf164,sizeOf165,sizeOf166,sizeOf170,sizeOf177,sizeOf193,sizeOf234,sizeOf241,sizeOf265,sizeOf267,trivial⟩
theorem gx_ty:TyOk prog gxb.ty:=⟨⟨(fun k h=>by cases h;exact underlying3),(fun h=>by cases h),zeroValue3⟩,⟨(fun k h=>by cases h),(fun _=>underlying4),zeroValue4⟩,⟨(fun k h=>by cases h;exact underlying5),(fun h=>by cases h),zeroValue5⟩,⟨(fun k h=>by cases h),(fun h=>by cases h),zeroValue23⟩,⟨(fun k h=>by cases h),(fun h=>by cases h),zeroValue24⟩,⟨(fun k h=>by cases h),(fun h=>by cases h),zeroValue25⟩,⟨(fun k h=>by cases h),(fun h=>by cases h),zeroValue26⟩,⟨(fun k h=>by cases h),(fun h=>by cases h),zeroValue28⟩,⟨(fun k h=>by cases h),(fun h=>by cases h),zeroValue29⟩,⟨(fun k h=>by cases h;exact underlying32),(fun h=>by cases h),zeroValue32⟩,⟨(fun k h=>by cases h),(fun h=>by cases h),zeroValue37⟩,⟨(fun k h=>by cases h),(fun h=>by cases h),zeroValue45⟩,⟨(fun k h=>by cases h),(fun h=>by cases h),zeroValue47⟩,⟨(fun k h=>by cases h),(fun h=>by cases h),zeroValue53⟩,⟨(fun k h=>by cases h),(fun h=>by cases h),zeroValue56⟩,⟨(fun k h=>by cases h),(fun h=>by cases h),zeroValue60⟩,⟨(fun k h=>by cases h),(fun h=>by cases h),zeroValue65⟩,⟨(fun k h=>by cases h),(fun h=>by cases h),zeroValue70⟩,⟨(fun k h=>by cases h),(fun h=>by cases h),zeroValue71⟩,⟨(fun k h=>by cases h),(fun h=>by cases h),zeroValue81⟩,⟨(fun k h=>by cases h;exact underlying82),(fun h=>by cases h),zeroValue82⟩,⟨(fun k h=>by cases h),(fun h=>by cases h),zeroValue86⟩,⟨(fun k h=>by cases h),(fun h=>by cases h),zeroValue88⟩,⟨(fun k h=>by cases h),(fun h=>by cases h),zeroValue90⟩,⟨(fun k h=>by cases h),(fun h=>by cases h),zeroValue96⟩,⟨(fun k h=>by cases h),(fun h=>by cases h),zeroValue97⟩,⟨(fun k h=>by cases h),(fun h=>by cases h),zeroValue99⟩,⟨(fun k h=>by cases h),(fun h=>by cases h),zeroValue106⟩,⟨(fun k h=>by cases h),(fun h=>by cases h),zeroValue111⟩,⟨(fun k h=>by cases h),(fun h=>by cases h),zeroValue116⟩,⟨(fun k h=>by cases h),(fun h=>by cases h),zeroValue137⟩,⟨(fun k h=>by cases h),(fun h=>by cases h),zeroValue139⟩,⟨(fun k h=>by cases h),(fun h=>by cases h),zeroValue146⟩,⟨(fun k h=>by cases h),(fun h=>by cases h),zeroValue156⟩,⟨(fun k h=>by cases h),(fun h=>by cases h),zeroValue167⟩,⟨(fun k h=>by cases h),(fun h=>by cases h),zeroValue175⟩,⟨(fun k h=>by cases h),(fun h=>by cases h),zeroValue181⟩,⟨(fun k h=>by cases h),(fun h=>by cases h),zeroValue186⟩,⟨(fun k h=>by cases h),(fun h=>by cases h),zeroValue189⟩,⟨(fun k h=>by cases h),(fun h=>by cases h),zeroValue191⟩,⟨(fun k h=>by cases h),(fun h=>by cases h),zeroValue194⟩,⟨(fun k h=>by cases h;exact underlying199),(fun h=>by cases h),zeroValue199⟩,⟨(fun k h=>by cases h),(fun h=>by cases h),zeroValue202⟩,⟨(fun k h=>by cases h;exact underlying209),(fun h=>by cases h),zeroValue209⟩,⟨(fun k h=>by cases h;exact underlying217),(fun h=>by cases h),zeroValue217⟩,⟨(fun k h=>by cases h;exact underlying230),(fun h=>by cases h),zeroValue230⟩,⟨(fun k h=>by cases h),(fun h=>by cases h),zeroValue263⟩,trivial⟩
theorem gx_bd:BdOk prog gxb.bd:=⟨⟨_,underlying23,fun _=>by simp[sizeOf3]⟩,⟨_,underlying28,fun _=>by simp[sizeOf23,sizeOf24,sizeOf25,sizeOf26]⟩,⟨_,underlying45,fun _=>by simp[sizeOf3,sizeOf5]⟩,⟨_,underlying47,fun _=>by simp[sizeOf3]⟩,⟨_,underlying53,fun _=>by simp[sizeOf3]⟩,⟨_,underlying60,fun _=>by simp[sizeOf3,sizeOf5]⟩,⟨_,underlying70,fun _=>by simp[sizeOf3]⟩,⟨_,underlying86,fun _=>by simp[sizeOf3,sizeOf5,sizeOf56]⟩,⟨_,underlying88,fun _=>by simp[sizeOf3]⟩,⟨_,underlying90,fun _=>by simp[sizeOf5,sizeOf86,sizeOf88]⟩,⟨_,underlying99,fun _=>by simp[sizeOf28,sizeOf96,sizeOf97]⟩,⟨_,underlying111,fun _=>by simp[sizeOf3,sizeOf5,sizeOf60]⟩,⟨_,underlying137,fun _=>by simp[sizeOf96]⟩,⟨_,underlying139,fun _=>by simp[sizeOf137,sizeOf71]⟩,⟨_,underlying153,fun _=>by simp[sizeOf150,sizeOf151,sizeOf5]⟩,⟨_,underlying189,fun _=>by simp[sizeOf3]⟩,trivial⟩
theorem AVW{x y:Terms}(hx:TermsE.R M w cs x)(hy:TermsE.R M w cs' y)(w':World):(Op.equalIn 10000 23 (.agg (toArray cs)) (.agg (toArray cs'))).run prog w'=.ok (decide (x=y)) w':=by
 obtain⟨rfl,_⟩:=(AKs (x:=x)).1 hx;obtain⟨rfl,_⟩:=(AKs (x:=y)).1 hy;exact APz x y w'
theorem AVX{x y:Report}(hx:ReportE.R M w cs x)(hy:ReportE.R M w cs' y)(w':World):(Op.equalIn 10000 45 (.agg (toArray cs)) (.agg (toArray cs'))).run prog w'=.ok (decide (x=y)) w':=by
 obtain⟨rfl,_⟩:=(ReportE_R (x:=x)).1 hx;obtain⟨rfl,_⟩:=(ReportE_R (x:=y)).1 hy;exact AOa x y w'
theorem AVY{x y:Asked}(hx:AskedE.R M w cs x)(hy:AskedE.R M w cs' y)(w':World):(Op.equalIn 10000 47 (.agg (toArray cs)) (.agg (toArray cs'))).run prog w'=.ok (decide (x=y)) w':=by
 obtain⟨rfl,_⟩:=(AGk (x:=x)).1 hx;obtain⟨rfl,_⟩:=(AGk (x:=y)).1 hy;exact AP0 x y w'
theorem AVZ{x y:Dispute}(hx:DisputeE.R M w cs x)(hy:DisputeE.R M w cs' y)(w':World):(Op.equalIn 10000 53 (.agg (toArray cs)) (.agg (toArray cs'))).run prog w'=.ok (decide (x=y)) w':=by
 obtain⟨rfl,_⟩:=(DisputeE_R (x:=x)).1 hx;obtain⟨rfl,_⟩:=(DisputeE_R (x:=y)).1 hy;exact AM9 x y w'
theorem AVa{x y:Answer}(hx:AnswerE.R M w cs x)(hy:AnswerE.R M w cs' y)(w':World):(Op.equalIn 10000 60 (.agg (toArray cs)) (.agg (toArray cs'))).run prog w'=.ok (decide (x=y)) w':=by
 obtain⟨rfl,_⟩:=(AnswerE_R (x:=x)).1 hx;obtain⟨rfl,_⟩:=(AnswerE_R (x:=y)).1 hy;exact AOb x y w'
theorem AVb{x y:Letter}(hx:LetterE.R M w cs x)(hy:LetterE.R M w cs' y)(w':World):(Op.equalIn 10000 70 (.agg (toArray cs)) (.agg (toArray cs'))).run prog w'=.ok (decide (x=y)) w':=by
 obtain⟨rfl,_⟩:=(LetterE_R (x:=x)).1 hx;obtain⟨rfl,_⟩:=(LetterE_R (x:=y)).1 hy;exact AOc x y w'
theorem AVc{x y:Span}(hx:SpanE.R M w cs x)(hy:SpanE.R M w cs' y)(w':World):(Op.equalIn 10000 88 (.agg (toArray cs)) (.agg (toArray cs'))).run prog w'=.ok (decide (x=y)) w':=by
 obtain⟨rfl,_⟩:=(AL3 (x:=x)).1 hx;obtain⟨rfl,_⟩:=(AL3 (x:=y)).1 hy;exact AR2 x y w'
theorem gx_eq:EqOk prog gxb.eq:=⟨⟨eqGuardType23,fun _ _ _ _ _ _ hx hy w'=>AVW hx hy w'⟩,⟨eqGuardType45,fun _ _ _ _ _ _ hx hy w'=>AVX hx hy w'⟩,⟨eqGuardType47,fun _ _ _ _ _ _ hx hy w'=>AVY hx hy w'⟩,⟨eqGuardType53,fun _ _ _ _ _ _ hx hy w'=>AVZ hx hy w'⟩,⟨eqGuardType60,fun _ _ _ _ _ _ hx hy w'=>AVa hx hy w'⟩,⟨eqGuardType70,fun _ _ _ _ _ _ hx hy w'=>AVb hx hy w'⟩,⟨eqGuardType88,fun _ _ _ _ _ _ hx hy w'=>AVc hx hy w'⟩,trivial⟩
theorem gx_mp:MpOk prog gxb.mp:=⟨⟨_,rfl,ACH (hk:=underlying3),underlying71,zeroValue3,int_key2⟩,⟨_,rfl,ACH (hk:=underlying3),underlying96,zeroValue45,int_key2⟩,⟨_,rfl,ACH (hk:=underlying3),underlying97,zeroValue26,int_key2⟩,⟨_,rfl,ACH (hk:=underlying3),underlying156,zeroValue88,int_key2⟩,⟨_,rfl,ACH (hk:=underlying5),underlying202,zeroValue5,int_key2⟩,⟨_,rfl,ACH (hk:=underlying3),underlying263,zeroValue4,int_key2⟩,trivial⟩
theorem gx_ar:ArOk prog gxb.ar:=⟨⟨_,underlying116,sizeOf3⟩,⟨_,underlying181,sizeOf3⟩,trivial⟩
theorem gx_pz:PzOk prog gxb.pz:=⟨zeroValue108,zeroValue114,zeroValue118,zeroValue125,zeroValue130,zeroValue135,zeroValue144,zeroValue150,zeroValue151,zeroValue154,zeroValue155,zeroValue160,zeroValue164,zeroValue165,zeroValue166,zeroValue170,zeroValue177,zeroValue193,zeroValue234,zeroValue241,zeroValue265,zeroValue267,trivial⟩
theorem gx_mix:prog.follows .mixedOrders=true:=by kernel_rfl
theorem ACp(h:FsOk prog fs)(H:PfOk prog pf)(hm:FmOk prog fm):GxOk prog { gxb with fs:=fs,pf:=pf,fm:=fm }:=⟨gx_st,gx_ag,gx_sl,gx_sz,gx_ty,h,gx_bd,gx_eq,gx_mp,gx_ar,gx_pz,H,hm,gx_mix,trivial⟩
theorem AHa{fd:List (Nat×Rx.Fd)}(h:FsOk prog fs)(H:PfOk prog pf)(hm:FmOk prog fm)(hd:FdOk prog fd):GxOk prog { gxb with fs:=fs,pf:=pf,fm:=fm,fd:=fd }:=⟨gx_st,gx_ag,gx_sl,gx_sz,gx_ty,h,gx_bd,gx_eq,gx_mp,gx_ar,gx_pz,H,hm,gx_mix,hd⟩
theorem ATi(h:FsOk prog fs)(H:PfOk prog pf):GxOk prog { gxb with fs:=fs,pf:=pf }:=ACp (fm:=[]) h H trivial
theorem B4(h:FsOk prog fs):GxOk prog { gxb with fs:=fs }:=ATi (pf:=[]) h trivial
def AB0(y:Dispute):Option Int:=some y.day
def AWk:An:=.x
def ctr60:Ctr:=⟨[.d (.st 2)],[.d (.int .i64)],fun a=>AB0 a.1⟩
theorem ok60:Ctr.ok prog 60 ctr60:=B3 (G:={ gxb with fs:=[] }) (an:=AWk) (B4 trivial) func60 rfl rfl rfl rfl (fun a=>by kernel_rfl)
def AB1(y:Dispute):Option Int:=some y.id
def AWl:An:=.x
def ctr61:Ctr:=⟨[.d (.st 2)],[.d (.int .i64)],fun a=>AB1 a.1⟩
theorem ok61:Ctr.ok prog 61 ctr61:=B3 (G:={ gxb with fs:=[] }) (an:=AWl) (B4 trivial) func61 rfl rfl rfl rfl (fun a=>by kernel_rfl)
def Y6(x:Int):Option Bool:=some (!decide (x=x))
def AVd:An:=.x
def ctr124:Ctr:=⟨[.d (.int .i64)],[.d .bool],fun a=>Y6 a.1⟩
theorem ok124:Ctr.ok prog 124 ctr124:=B3 (G:={ gxb with fs:=[] }) (an:=AVd) (B4 trivial) func124 rfl rfl rfl rfl (fun a=>by kernel_rfl)
def D7(x:Int)(y:Int):Option Int:=(Y6 x).bind fun r1=>(Y6 y).bind fun r2=>cond (r1) (cond (r2) (some (0:Int)) (some ((-1):Int))) (cond (r2) (some (1:Int)) (cond (decide (x<y)) (some ((-1):Int)) (cond (decide (y<x)) (some (1:Int)) (some (0:Int)))))
def AWm:An:=.x
def ctr88:Ctr:=⟨[.d (.int .i64),.d (.int .i64)],[.d (.int .i64)],fun a=>D7 a.1 a.2.1⟩
theorem ok88:Ctr.ok prog 88 ctr88:=B3 (G:={ gxb with fs:=[(124,ctr124)] }) (an:=AWm) (B4 ⟨⟨ok124,call124⟩,trivial⟩) func88 rfl rfl rfl rfl (fun a=>by kernel_rfl)
def fd130:Rx.Fd:=⟨[(.st 2)],(.int .i64),fun n=>if n=60 then fun x0=>AB0 x0 else if n=61 then fun x0=>AB1 x0 else fun _=>none⟩
theorem okd130:∀n M w,GlOk (P:=prog) M w->FnOk (P:=prog) M w (.func (.func n) #[] #[]) fd130.a fd130.r (fd130.D n):=fun n M w H=>by
 by_cases J:n=60
 . subst J;exact W7 (G:={ gxb with fs:=[(60,ctr60)] }) (B4 ⟨⟨ok60,call60⟩,trivial⟩) H (M:=M) (fun _ h=>h) (R:=fun _=>none) (ρ:=fun _=>undef) (γ:=fun _=>[]) (caps:=[]) (vs:=[]) RdN.nil (by kernel_rfl) rfl
 by_cases I:n=61
 . subst I;exact W7 (G:={ gxb with fs:=[(61,ctr61)] }) (B4 ⟨⟨ok61,call61⟩,trivial⟩) H (M:=M) (fun _ h=>h) (R:=fun _=>none) (ρ:=fun _=>undef) (γ:=fun _=>[]) (caps:=[]) (vs:=[]) RdN.nil (by kernel_rfl) rfl
 have e:fd130.D n=fun _=>none:=by simp[fd130,J,I]<;>rfl
 rw[e];exact fun _ _ _ _ _ _ _ y hy=>by cases hy
def J7(a:Dispute)(b:Dispute)(a2_:List Nat):Option Int:=(C0 (S:=Int) (R:=(Unit⊕Int)) (fun x7=>cond (decide (x7<(a2_.length:Int))) ((ixo a2_ x7).bind fun y8=>(fd130.D y8 a).bind fun y9=>(fd130.D y8 b).bind fun y10=>(D7 y9 y10).bind fun r11=>cond ((!decide (r11=0))) (some (Sum.inr (Sum.inr r11))) ((chk .i64 (x7+1)).bind fun n12=>some (Sum.inl n12))) (some (Sum.inr (Sum.inl ())))) (0:Int)).bind ((Sum.elim (fun _=>some (0:Int)) (fun r13=>some r13)))
def AWn:An:=.nd .x (.nd (.nd .x (.lp ⟨[(.slot 11,.d (.int .i64))],[4,3]⟩ [.exit 0 ⟨[],[]⟩,.ret] .x)) .x)
def AVe:Ctr:=⟨[.d (.st 2),.d (.st 2),.pt (.sl (.fno 130))],[.d (.int .i64)],fun a=>J7 a.1 a.2.1 a.2.2.1⟩
theorem ok94:Ctr.ok prog 94 AVe:=B3 (G:={ gxb with fs:=[(88,ctr88)],fd:=[(130,fd130)] }) (an:=AWn) (AHa ⟨⟨ok88,call88⟩,trivial⟩ trivial trivial ⟨okd130,trivial⟩) func94 rfl rfl rfl rfl (fun a=>by kernel_rfl)
def ADF(r:Report):Option Int:=some r.about
def AVf:An:=.x
def ctr107:Ctr:=⟨[.d (.st 1)],[.d (.int .i64)],fun a=>ADF a.1⟩
theorem ok107:Ctr.ok prog 107 ctr107:=B3 (G:={ gxb with fs:=[] }) (an:=AVf) (B4 trivial) func107 rfl rfl rfl rfl (fun a=>by kernel_rfl)
def AFH(r:Report):Option Int:=some r.id
def AVg:An:=.x
def ctr108:Ctr:=⟨[.d (.st 1)],[.d (.int .i64)],fun a=>AFH a.1⟩
theorem ok108:Ctr.ok prog 108 ctr108:=B3 (G:={ gxb with fs:=[] }) (an:=AVg) (B4 trivial) func108 rfl rfl rfl rfl (fun a=>by kernel_rfl)
def Y7(r:Report):Option Int:=some r.made
def AWo:An:=.x
def ctr78:Ctr:=⟨[.d (.st 1)],[.d (.int .i64)],fun a=>Y7 a.1⟩
theorem ok78:Ctr.ok prog 78 ctr78:=B3 (G:={ gxb with fs:=[] }) (an:=AWo) (B4 trivial) func78 rfl rfl rfl rfl (fun a=>by kernel_rfl)
def Y8(r:Report):Option Int:=some r.id
def AWp:An:=.x
def ctr79:Ctr:=⟨[.d (.st 1)],[.d (.int .i64)],fun a=>Y8 a.1⟩
theorem ok79:Ctr.ok prog 79 ctr79:=B3 (G:={ gxb with fs:=[] }) (an:=AWp) (B4 trivial) func79 rfl rfl rfl rfl (fun a=>by kernel_rfl)
def fd160:Rx.Fd:=⟨[(.st 1)],(.int .i64),fun n=>if n=78 then fun x0=>Y7 x0 else if n=79 then fun x0=>Y8 x0 else if n=107 then fun x0=>ADF x0 else if n=108 then fun x0=>AFH x0 else fun _=>none⟩
theorem okd160:∀n M w,GlOk (P:=prog) M w->FnOk (P:=prog) M w (.func (.func n) #[] #[]) fd160.a fd160.r (fd160.D n):=fun n M w H=>by
 by_cases V:n=78
 . subst V;exact W7 (G:={ gxb with fs:=[(78,ctr78)] }) (B4 ⟨⟨ok78,call78⟩,trivial⟩) H (M:=M) (fun _ h=>h) (R:=fun _=>none) (ρ:=fun _=>undef) (γ:=fun _=>[]) (caps:=[]) (vs:=[]) RdN.nil (by kernel_rfl) rfl
 by_cases U:n=79
 . subst U;exact W7 (G:={ gxb with fs:=[(79,ctr79)] }) (B4 ⟨⟨ok79,call79⟩,trivial⟩) H (M:=M) (fun _ h=>h) (R:=fun _=>none) (ρ:=fun _=>undef) (γ:=fun _=>[]) (caps:=[]) (vs:=[]) RdN.nil (by kernel_rfl) rfl
 by_cases J:n=107
 . subst J;exact W7 (G:={ gxb with fs:=[(107,ctr107)] }) (B4 ⟨⟨ok107,call107⟩,trivial⟩) H (M:=M) (fun _ h=>h) (R:=fun _=>none) (ρ:=fun _=>undef) (γ:=fun _=>[]) (caps:=[]) (vs:=[]) RdN.nil (by kernel_rfl) rfl
 by_cases I:n=108
 . subst I;exact W7 (G:={ gxb with fs:=[(108,ctr108)] }) (B4 ⟨⟨ok108,call108⟩,trivial⟩) H (M:=M) (fun _ h=>h) (R:=fun _=>none) (ρ:=fun _=>undef) (γ:=fun _=>[]) (caps:=[]) (vs:=[]) RdN.nil (by kernel_rfl) rfl
 have e:fd160.D n=fun _=>none:=by simp[fd160,V,U,J,I]<;>rfl
 rw[e];exact fun _ _ _ _ _ _ _ y hy=>by cases hy
def K1(a:Report)(b:Report)(a2_:List Nat):Option Int:=(C0 (S:=Int) (R:=(Unit⊕Int)) (fun x7=>cond (decide (x7<(a2_.length:Int))) ((ixo a2_ x7).bind fun y8=>(fd160.D y8 a).bind fun y9=>(fd160.D y8 b).bind fun y10=>(D7 y9 y10).bind fun r11=>cond ((!decide (r11=0))) (some (Sum.inr (Sum.inr r11))) ((chk .i64 (x7+1)).bind fun n12=>some (Sum.inl n12))) (some (Sum.inr (Sum.inl ())))) (0:Int)).bind ((Sum.elim (fun _=>some (0:Int)) (fun r13=>some r13)))
def AVh:An:=.nd .x (.nd (.nd .x (.lp ⟨[(.slot 11,.d (.int .i64))],[4,3]⟩ [.exit 0 ⟨[],[]⟩,.ret] .x)) .x)
def ATj:Ctr:=⟨[.d (.st 1),.d (.st 1),.pt (.sl (.fno 160))],[.d (.int .i64)],fun a=>K1 a.1 a.2.1 a.2.2.1⟩
theorem ok119:Ctr.ok prog 119 ATj:=B3 (G:={ gxb with fs:=[(88,ctr88)],fd:=[(160,fd160)] }) (an:=AVh) (AHa ⟨⟨ok88,call88⟩,trivial⟩ trivial trivial ⟨okd160,trivial⟩) func119 rfl rfl rfl rfl (fun a=>by kernel_rfl)
def AAm(l:Letter):Option Int:=some l.dispute
def AWq:An:=.x
def ctr49:Ctr:=⟨[.d (.st 6)],[.d (.int .i64)],fun a=>AAm a.1⟩
theorem ok49:Ctr.ok prog 49 ctr49:=B3 (G:={ gxb with fs:=[] }) (an:=AWq) (B4 trivial) func49 rfl rfl rfl rfl (fun a=>by kernel_rfl)
def AAn(l:Letter):Option Int:=some l.who
def AWr:An:=.x
def ctr50:Ctr:=⟨[.d (.st 6)],[.d (.int .i64)],fun a=>AAn a.1⟩
theorem ok50:Ctr.ok prog 50 ctr50:=B3 (G:={ gxb with fs:=[] }) (an:=AWr) (B4 trivial) func50 rfl rfl rfl rfl (fun a=>by kernel_rfl)
def fd118:Rx.Fd:=⟨[(.st 6)],(.int .i64),fun n=>if n=49 then fun x0=>AAm x0 else if n=50 then fun x0=>AAn x0 else fun _=>none⟩
theorem okd118:∀n M w,GlOk (P:=prog) M w->FnOk (P:=prog) M w (.func (.func n) #[] #[]) fd118.a fd118.r (fd118.D n):=fun n M w H=>by
 by_cases J:n=49
 . subst J;exact W7 (G:={ gxb with fs:=[(49,ctr49)] }) (B4 ⟨⟨ok49,call49⟩,trivial⟩) H (M:=M) (fun _ h=>h) (R:=fun _=>none) (ρ:=fun _=>undef) (γ:=fun _=>[]) (caps:=[]) (vs:=[]) RdN.nil (by kernel_rfl) rfl
 by_cases I:n=50
 . subst I;exact W7 (G:={ gxb with fs:=[(50,ctr50)] }) (B4 ⟨⟨ok50,call50⟩,trivial⟩) H (M:=M) (fun _ h=>h) (R:=fun _=>none) (ρ:=fun _=>undef) (γ:=fun _=>[]) (caps:=[]) (vs:=[]) RdN.nil (by kernel_rfl) rfl
 have e:fd118.D n=fun _=>none:=by simp[fd118,J,I]<;>rfl
 rw[e];exact fun _ _ _ _ _ _ _ y hy=>by cases hy
def K2(a:Letter)(b:Letter)(a2_:List Nat):Option Int:=(C0 (S:=Int) (R:=(Unit⊕Int)) (fun x7=>cond (decide (x7<(a2_.length:Int))) ((ixo a2_ x7).bind fun y8=>(fd118.D y8 a).bind fun y9=>(fd118.D y8 b).bind fun y10=>(D7 y9 y10).bind fun r11=>cond ((!decide (r11=0))) (some (Sum.inr (Sum.inr r11))) ((chk .i64 (x7+1)).bind fun n12=>some (Sum.inl n12))) (some (Sum.inr (Sum.inl ())))) (0:Int)).bind ((Sum.elim (fun _=>some (0:Int)) (fun r13=>some r13)))
def AWs:An:=.nd .x (.nd (.nd .x (.lp ⟨[(.slot 11,.d (.int .i64))],[4,3]⟩ [.exit 0 ⟨[],[]⟩,.ret] .x)) .x)
def AVi:Ctr:=⟨[.d (.st 6),.d (.st 6),.pt (.sl (.fno 118))],[.d (.int .i64)],fun a=>K2 a.1 a.2.1 a.2.2.1⟩
theorem ok87:Ctr.ok prog 87 AVi:=B3 (G:={ gxb with fs:=[(88,ctr88)],fd:=[(118,fd118)] }) (an:=AWs) (AHa ⟨⟨ok88,call88⟩,trivial⟩ trivial trivial ⟨okd118,trivial⟩) func87 rfl rfl rfl rfl (fun a=>by kernel_rfl)
def K4(a:Report)(b:Report)(a2_:List Nat):Option Int:=(C0 (S:=Int) (R:=(Unit⊕Int)) (fun x7=>cond (decide (x7<(a2_.length:Int))) ((ixo a2_ x7).bind fun y8=>(fd160.D y8 a).bind fun y9=>(fd160.D y8 b).bind fun y10=>(D7 y9 y10).bind fun r11=>cond ((!decide (r11=0))) (some (Sum.inr (Sum.inr r11))) ((chk .i64 (x7+1)).bind fun n12=>some (Sum.inl n12))) (some (Sum.inr (Sum.inl ())))) (0:Int)).bind ((Sum.elim (fun _=>some (0:Int)) (fun r13=>some r13)))
def AVj:An:=.nd .x (.nd (.nd .x (.lp ⟨[(.slot 11,.d (.int .i64))],[4,3]⟩ [.exit 0 ⟨[],[]⟩,.ret] .x)) .x)
def ATk:Ctr:=⟨[.d (.st 1),.d (.st 1),.pt (.sl (.fno 160))],[.d (.int .i64)],fun a=>K4 a.1 a.2.1 a.2.2.1⟩
theorem ok131:Ctr.ok prog 131 ATk:=B3 (G:={ gxb with fs:=[(88,ctr88)],fd:=[(160,fd160)] }) (an:=AVj) (AHa ⟨⟨ok88,call88⟩,trivial⟩ trivial trivial ⟨okd160,trivial⟩) func131 rfl rfl rfl rfl (fun a=>by kernel_rfl)
end Go.Proofs.YtgioiejbphljoaaGreatDoor
namespace Go.Rx
open Go Go.Proofs Go.Sx Go.RowKit Go.Sort Go.Shelf
@[reducible] def T8:Trk:=⟨True⟩
def AKt{α:Type}(x:List α)(cmp:α->α->Option Int)(cf:α->α->Int):Prop:=
 (∀a b,a∈x->b∈x->cmp a b=some (cf a b))/\SWO (ltOf fun a b:{ r:α // r∈x }=>cf a.1 b.1)/\∀a b,a∈x->b∈x->¬cf a b<0->¬cf b a<0->a=b
open Classical in
def ACC{α:Type}(x:List α)(cmp:α->α->Option Int):Option (List α):=
 if h:x.length<4611686018427387904/\∃cf,AKt x cmp cf then some (x.mergeSort fun a b=>!decide (h.2.choose b a<0)) else none
variable[Trk]
theorem AKu{α:Type}(enc:α->List Value){n:Nat}(I:0<n)(H:∀x,(enc x).length=n):∀(xs:List α) (t:Nat),(xs.flatMap enc)[t]?=(xs[t / n]?).bind fun x=>(enc x)[t % n]?
 |[],t=>by simp
 |x::xs,t=>by
  rw[List.flatMap_cons];rcases AYF t n with h|h
  . rw[AYP (by rw[H];exact h),Nat.div_eq_of_lt h,Nat.mod_eq_of_lt h];rfl
  . rw[AYX (by rw[H];exact h),H,AKu enc I H xs (t-n),Nat.div_eq_sub_div I h,Nat.mod_eq_sub_mod h];rfl
theorem AHb{α:Type}[Inhabited α](enc:α->List Value){n:Nat}(I:0<n)(J:∀x,(enc x).length=n)(d:Array α):(flatK enc n d).toList=d.toList.flatMap enc:=by
 refine AYr fun t=>?_;rw[AKu enc I J];unfold flatK;rcases AYF t (d.size*n) with h|h
 . have H:t / n<d.size:=Nat.div_lt_of_lt_mul (by rw[Nat.mul_comm];exact h);have V:t % n<n:=Nat.mod_lt _ I;simp only[Array.getElem?_toList,Array.getElem?_map,Array.getElem?_range,h,Array.getElem?_eq_getElem H];have U:t % n<(enc d[t / n]).length:=by rw[J];exact V
   simp[H,getElem!_pos,U]
 . have H:d.size<=t / n:=(Nat.le_div_iff_mul_le I).2 h;simp only[Array.getElem?_toList,Array.getElem?_eq_none H,Option.bind_none];simp[h]
theorem AOe{ys:List Value}{cur:Array Value}(h:ys.length<=cur.size):(putCells id 0 ys.toArray cur).toList.take ys.length=ys:=by
 apply AYr;intro i;rw[AYa];split
 . rename_i hi;have H:cur[i]?=some cur[i]:=AY3 (by omega);simp only[putCells,Array.getElem?_toList,Array.getElem?_mapIdx,H,Option.map_some];rw[AYB ⟨by omega,by simpa using hi⟩];simp[hi]
 . rename_i hi;rw[AYC (by omega)]
theorem AKv{α:Type}[Inhabited α]{enc:α->List Value}{k:Nat}{w:World}{g n:Nat}{d:Array α}{os:Array Obj}:Kp [g] w (sortWorldK enc k w g 0 n d os):=by
 refine⟨rfl,rfl,rfl,by simp[sortWorldK,putRowK],fun j I hm=>?_,fun _=>show w.drawn<=w.drawn+n from Nat.le_add_right _ _⟩;have H:¬g=j:=fun e=>hm (by simp[e]);unfold sortWorldK putRowK;rw[heap_grow_old _ _ (by simpa using I)];show(w.heap.modify g (onCells (putCells id 0 (flatK enc k d))))[j]?=_;rw[AZi,if_neg H]
variable{P:Program}{ρ:Ren}{α:Type}{E:Enc α}{enc:α->List Value}{In:α->Prop}
theorem ACD(J:∀{M w cs x},E.R M w cs x↔cs=enc x/\In x){M:List Nat}{w:World}:∀{cs:List Value} {xs:List α},Chunks E M w cs xs↔cs=xs.flatMap enc/\∀r∈xs,In r
 |cs,[]=>by
  constructor
  . intro h;exact⟨h,fun _ h=>by cases h⟩
  . rintro⟨h,_⟩;exact h
 |cs,x::xs=>by
  constructor
  . rintro⟨c,rest,U,V,H⟩;obtain⟨rfl,D⟩:=J.1 V;obtain⟨C,W⟩:=(ACD J).1 H;refine⟨by rw[U,C];rfl,fun r H=>?_⟩;rcases mem_cons.1 H with rfl|H
    . exact D
    . exact W r H
  . rintro⟨U,I⟩;exact⟨enc x,xs.flatMap enc,by rw[U];rfl,J.2 ⟨rfl,I x (AX4 ..)⟩,(ACD J).2 ⟨rfl,fun r H=>I r (AX0 _ H)⟩⟩
@[ext] structure ElR(In:α->Prop)(x:List α)where
 r:α
 mem:r∈x
 inn:In r
theorem AFo(W:SlLaysF0.n6 P ρ)(hE:∀{M w cs x},E.R M w cs x↔cs=enc x/\In x)(h8:∀x,(enc x).length=E.n)(z:∀x v,v∈enc x->v.oneCell'=true)(t:∀w,(isAgg (ρ.t 24)).run P w=.ok true w)(R:∀w,(sizeOf (ρ.t 24)).run P w=.ok E.n w){e:TypeId}{M:List Nat}{w:World}{v_x:Value}{x:List α}(p_x:Sx.Own E e 0 M w v_x x){v_cmp:Value}{cmp:α->α->Option Int}(hf:∀(x0 x1:α) (r:Int) (w1:World),@Kp T8 (ob v_x) w w1->In x0->In x1->cmp x0 x1=some r->CallsV P v_cmp [.agg (toArray (enc x0)),.agg (toArray (enc x1))] w1 fun e w2=>e=.returned (Value.int .i64 r)/\@Ext T8 w1 w2){r0:List α}(h:ACC x cmp=some r0):Calls P (ρ.f 6) (toArray [v_x,v_cmp]) w fun e' w'=>e'=.returned (Value.tuple #[])/\Sx.Own E e 0 M w' v_x r0/\Kp (ob v_x) w w':=by
 unfold ACC at h;split at h
 . rename_i U;have N:=AXz h;obtain⟨T,B⟩:=U;have U:=B.choose_spec;generalize B.choose=cf at N U;obtain⟨X,y,hT⟩:=U;have none_:∀a n,v_x=.slice a 0 n->x=[]->Calls P (ρ.f 6) (toArray [v_x,v_cmp]) w fun e' w'=>e'=.returned (Value.tuple #[])/\Sx.Own E e 0 M w' v_x r0/\Kp (ob v_x) w w':=by
    rintro a n rfl rfl;refine(AnyF.slices_SortFunc_none (P:=P) (ρ:=ρ) W a n v_cmp w).mono ?_;rintro e' w' ⟨rfl,rfl⟩;subst N;exact⟨rfl,by simpa using p_x,Kp.refl _ _⟩
   have p_x0:=p_x;rcases p_x with⟨a,rfl,rfl⟩|⟨g,cap,cur,rfl,h1,K,h3,h4,h5,h6⟩
   . exact none_ a _ rfl rfl
   . by_cases hx:x=[]
     . subst hx;exact none_ _ _ rfl rfl
     . have hg:=K7 K;obtain⟨h7,I⟩:=(ACD hE).1 h6;obtain⟨r1,H⟩:=List.exists_mem_of_ne_nil x hx;letI:Inhabited (ElR In x):=⟨⟨r1,H,I r1 H⟩⟩
       obtain⟨d,hd⟩:∃d:List (ElR In x),d.map ElR.r=x:=⟨x.attach.map fun r=>⟨r.1,r.2,I r.1 r.2⟩,by rw[AYe];exact AYd x⟩;have V:d.length=x.length:=by have:=AX9 List.length hd;simpa using this
       have F:∀a:ElR In x,(enc a.r).length=E.n:=fun a=>h8 a.r;have p:d.flatMap (fun a=>enc a.r)=x.flatMap enc:=by have:=AX9 (List.flatMap enc) hd;rw[List.flatMap_map]at this;exact this
       have hH:HoldsK (fun a:ElR In x=>enc a.r) E.n w g 0 d.toArray:=fun j i=>by
        have L:j<d.length*E.n:=by simpa using i
        have hv:(flatK (fun a:ElR In x=>enc a.r) E.n d.toArray).toList=x.flatMap enc:=by rw[AHb _ E.pos F,<-p]
        have hq:cur.toList[j]?=some ((flatK (fun a:ElR In x=>enc a.r) E.n d.toArray)[j]!):=by
         have e1:=AX9 (fun l=>l[j]?) h7;simp only[List.getElem?_take,show j<x.length*E.n by rw[<-V];exact L,if_true]at e1;rw[e1,<-hv,AZA,getElem!_pos (flatK (fun a:ElR In x=>enc a.r) E.n d.toArray) j i,AY3 i]
        constructor
        . have:w.cell? ⟨g,0+j,none⟩=cur[j]?:=by simp[World.cell?,K]
          rw[this,<-AZA,hq];rfl
        . simp[World.frozen?,K]
       obtain⟨gf,cb,rfl,eg,_⟩:=hf r1 r1 (cf r1 r1) w (@Kp.refl T8 _ _) (I r1 H) (I r1 H) (X r1 r1 H H);have G:CmpLays P gf cb (fun a:ElR In x=>enc a.r) E.n (fun a b=>cf a.r b.r) g 0 d.toArray.size w:=fun m os dk _ a b=>by
        obtain⟨gf',cb',o,_,hC⟩:=hf a.r b.r (cf a.r b.r) (sortWorldK (fun a:ElR In x=>enc a.r) E.n w g 0 m dk os) (@Kp.mono T8 _ _ _ _ (@AKv T8 _ _ _ _ _ _ _ _ _) fun c Z=>.inl (by simpa[ob] using Z)) a.inn b.inn (X a.r b.r a.mem b.mem);cases o
        refine hC.mono ?_;rintro e' w' ⟨rfl,hx⟩;obtain⟨q,os',he⟩:=@Ext.grown T8 _ _ hx trivial;exact⟨rfl,q,os',he⟩
       have u:SWO (ltOf fun a b:ElR In x=>cf a.r b.r):=
        ⟨fun a=>y.irrefl ⟨a.r,a.mem⟩,fun a b c=>y.trans ⟨a.r,a.mem⟩ ⟨b.r,b.mem⟩ ⟨c.r,c.mem⟩,fun a b c=>y.ntrans ⟨a.r,a.mem⟩ ⟨b.r,b.mem⟩ ⟨c.r,c.mem⟩⟩
       have Z:=AnyQ.slices_SortFunc_total W E.n t R (fun a:ElR In x=>enc a.r) F (fun a v hv=>z a.r v hv) (fun a b=>cf a.r b.r) u gf cb g 0 (cap+1) d.toArray w eg G hH hg (by simpa[V] using T)
        (fun a b h1 K=>ElR.ext (hT a.r b.r a.mem b.mem (by simpa[ltOf] using h1) (by simpa[ltOf] using K)))
       rw[show d.toArray.size=x.length by simp[V]]at Z;refine Z.mono ?_;rintro e' w' ⟨rfl,n,os,rfl⟩;obtain⟨ys,C⟩:∃ys,ys=d.mergeSort fun a b:ElR In x=>!(ltOf fun a b:ElR In x=>cf a.r b.r) b a:=⟨_,rfl⟩;have J:ys.map ElR.r=r0:=by
        have I:=List.map_mergeSort (r:=fun a b:ElR In x=>!(ltOf fun a b:ElR In x=>cf a.r b.r) b a) (s:=fun a b=>!decide (cf b a<0)) (f:=ElR.r) (l:=d) fun a _ b _=>rfl;rw[hd,N]at I;rw[C];exact I
       have O:ys.length=x.length:=by rw[C,List.length_mergeSort,V]
       have D:r0.length=x.length:=by rw[<-J,AYZ,O]
       have hW:(d.toArray.toList.mergeSort fun a b:ElR In x=>!(ltOf fun a b:ElR In x=>cf a.r b.r) b a).toArray=ys.toArray:=by rw[C]
       rw[hW];have S:Kp [g] w (sortWorldK (fun a:ElR In x=>enc a.r) E.n w g 0 n ys.toArray os):=AKv;have k:∀r∈r0,In r:=fun r Q=>by
        rw[<-J]at Q;obtain⟨a,_,rfl⟩:=mem_map.1 Q;exact a.inn
       have A:(flatK (fun a:ElR In x=>enc a.r) E.n ys.toArray).toList=r0.flatMap enc:=by have I:=AX9 (List.flatMap enc) J;rw[List.flatMap_map]at I;rw[AHb _ E.pos F];exact I
       have Y:(flatK (fun a:ElR In x=>enc a.r) E.n ys.toArray).size=x.length*E.n:=by simp[O]
       refine⟨rfl,.inr ⟨g,cap,putCells id 0 (flatK (fun a:ElR In x=>enc a.r) E.n ys.toArray) cur,by rw[D],AYh _,?_,by rw[D];exact h3,h4,?_,?_⟩,S.mono fun b hb=>.inl (by simpa[ob] using hb)⟩
       . unfold sortWorldK putRowK;rw[heap_grow_old _ _ (by simpa using hg)];show(w.heap.modify g (onCells (putCells id 0 (flatK (fun a:ElR In x=>enc a.r) E.n ys.toArray))))[g]?=_;rw[AZi,AYB rfl,K];rfl
       . rw[<-h5];simp[putCells]
       . refine(ACD hE).2 ⟨?_,k⟩;have I:=AOe (ys:=(flatK (fun a:ElR In x=>enc a.r) E.n ys.toArray).toList) (cur:=cur) (by
          rw[AY5,Y,h5];exact AYy _ (by omega))
         rw[show(flatK (fun a:ElR In x=>enc a.r) E.n ys.toArray).toList.toArray=flatK (fun a:ElR In x=>enc a.r) E.n ys.toArray by simp,AY5,Y]at I;show(putCells id 0 (flatK (fun a:ElR In x=>enc a.r) E.n ys.toArray) cur).toList.take (r0.length*E.n)=_;rw[D,I,A]
 . cases h
end Go.Rx
namespace Go.Proofs.YtgioiejbphljoaaGreatDoor
open Go Go.Sx
instance trkF:Trk:=⟨False⟩
end Go.Proofs.YtgioiejbphljoaaGreatDoor
namespace Go.Proofs.YtgioiejbphljoaaGreatDoor
open Go Go.Proofs Go.Sx Go.Rx Go.RowKit
theorem ATl{kt:TypeId}{κ:Type}{K:Ky prog kt κ}{k:IntKind}{ag:Bool}{M:List Nat}{w:World}:∀{es:List MapEntry} {xs:List (κ×Int)},EntK K (B1 k) ag M w es xs->@EntK T8 _ _ _ _ K (@B1 T8 k) ag M w es xs
 |[],[],h=>h
 |_::_,_::_,⟨J,I,H⟩=>⟨J,I,ATl H⟩
 |[],_::_,h=>h.elim
 |_::_,[],h=>h.elim
theorem glT{M:List Nat}{w:World}(h:GlOk (P:=prog) M w):@GlOk T8 _ _ prog _ M w:=fun g s H ρ R=>by
 match g,H with
 |0,H=>cases H;exact h 0 _ rfl ρ R
 |1,H=>cases H;exact h 1 _ rfl ρ R
 |2,H=>
  cases H
  obtain⟨b,o0,u,vs,C,W,⟨V,cs,⟨v',K',rfl,hK,b',rfl,U,es,c,xs,g1,g2,g3,g4⟩,J⟩,I⟩:=h 2 _ rfl ρ R
  exact⟨b,o0,u,vs,C,W,⟨V,[.map (some b')],⟨.map (some b'),K',rfl,hK,b',rfl,U,es,c,xs,g1,g2,ATl g3,g4⟩,J⟩,I⟩
 |_+3,H=>cases H
def H3(by_:List Nat)(l:List Dispute):Option (Unit×List Dispute):=(ACC l fun a b=>J7 a b by_).bind fun r=>some ((),r)
def ctrm58:CtrM:={ ps:=[.d (.sl (.fno 130))],i:=0,c:=.sl 53 (.st 2),rs:=[],F:=fun a x=>H3 a.1 x,self:=true }
theorem okm58:CtrM.ok prog 58 ctrm58:=by
 refine⟨rfl,fun M w a x v vals us r x' B O hd Y hi Q _ hx V=>?_⟩;obtain⟨vb,_,rfl,J,rfl⟩:=Y;have F:us=[v,vb]:=by
  cases us with
  |nil=>cases hi
  |cons u l=>
   have U:u=v:=AXz hi
   have H:l=[vb]:=Q
   rw[U,H]
 subst F;have f_by:RdS AD7 (ob v++M) w vb a.1:=by
  obtain⟨cs,⟨u,rfl,U⟩,⟨H,_⟩|⟨_,H⟩⟩:=J
  . cases H
  . rw[<-List.singleton_inj.1 H];exact U
 have hx:Sx.Own DisputeE 53 0 (ob v++M) w v x:=hx;have p_l:Sx.Own DisputeE 53 0 M w v x:=hx.mon fun b J=>.inr (AX3 _ J);have G:=ABS (fun b J=>B b (AX3 _ J)) hd p_l;have V:H3 a.1 x=some (r,x'):=V;refine G6 func58 rfl ntmps58 rfl ?_;refine A6 (A8 ?_);refine AAD G rfl (RdS.cells1 f_by) rfl ?_;intro b1 w2 W x4;have K:=W.freezeRow 0 rfl;have I:=W.erase 0;refine G7 rfl rfl (Reg.nil (A6 (A8 ?_)));refine J3 rfl rfl ?_;refine ADz rfl rfl ?_;unfold H3 at V;obtain⟨l7,D,h⟩:=R0 V;refine X6 rfl call93 rfl ?_;have la:=AD1 (σ:=[ownR (ob v) DisputeE 53 v x]) (M:=M) (w:=w2) 0 rfl;have q1:=I.lendM 0 rfl;have q2:@RdS T8 Nat (@AD7 T8) _ w2 vb a.1:=(f_by.adv I.adv).adv la;have q3:=K.adv la;have q4:=glT ((O.adv I.adv).adv la);have T:Calls prog 93 (toArray [v,.func (.func 94) #[] (toArray [.pointer (some ⟨b1,0,none⟩)])]) w2 _:=AFo (E:=DisputeE) (enc:=fun x=>[Value.int .i64 x.id,Value.int .i64 x.report,Value.int .i64 x.day]) (In:=fun x=>InK .i64 x.id/\InK .i64 x.report/\InK .i64 x.day) AHw DisputeE_R (fun _=>rfl) (fun x v hv=>by
  simp only[mem_cons,List.not_mem_nil,or_false]at hv;rcases hv with rfl|rfl|rfl<;>rfl) isAgg53 sizeOf53 (I.lendOwn 0 rfl) (fun a0 a1 r w9 e9 f0 f1 V=>by
  letI:=T8
  refine CallsV.go call94 rfl (ok94.2 _ w9 (a0,a1,a.1,()) [_,_,_] r (q1.ext e9) (q4.adv (Adv.lent e9)) ⟨_,_,rfl,⟨_,DisputeE_R.2 ⟨rfl,f0⟩,.inl ⟨rfl,rfl⟩⟩,_,_,rfl,⟨_,DisputeE_R.2 ⟨rfl,f1⟩,.inl ⟨rfl,rfl⟩⟩,_,_,rfl,⟨b1,0,[vb],rfl,q3.adv (Adv.lent e9),vb,rfl,q2.adv (Adv.lent e9)⟩,rfl⟩ V) ?_;rintro e w3 ⟨us,rfl,⟨u,rfl,cs,U,⟨H,_⟩|⟨_,H⟩⟩,hx⟩
  . cases H
  . have U:cs=[.int .i64 r]/\_:=U;rw[U.1]at H;have H:=List.singleton_inj.1 H;subst H;exact⟨rfl,hx⟩) D
 refine T.mono ?_;rintro _ w9 ⟨rfl,A,hk⟩;refine⟨_,rfl,?_⟩;have C:=I.took 0 rfl ⟨A,fun b J=>.inl J,hk⟩;refine Reg.nil (A6 (A8 ?_));refine J3 rfl rfl (G7 rfl rfl (Reg.nil (K6 ?_)));have h:=AXz h;cases h
 refine fin1 results58 rfl ?_;obtain⟨k1,_,k3⟩:=C.ownBack 0 rfl;exact⟨[],rfl,rfl,k3,k1.mon fun b J=>mem_append.1 J⟩
def I1(by_:List Nat)(l:List Report):Option (Unit×List Report):=(ACC l fun a b=>K1 a b by_).bind fun r=>some ((),r)
def ctrm77:CtrM:={ ps:=[.d (.sl (.fno 160))],i:=0,c:=.sl 45 (.st 1),rs:=[],F:=fun a x=>I1 a.1 x,self:=true }
theorem okm77:CtrM.ok prog 77 ctrm77:=by
 refine⟨rfl,fun M w a x v vals us r x' B O hd Y hi Q _ hx V=>?_⟩;obtain⟨vb,_,rfl,J,rfl⟩:=Y;have F:us=[v,vb]:=by
  cases us with
  |nil=>cases hi
  |cons u l=>
   have U:u=v:=AXz hi
   have H:l=[vb]:=Q
   rw[U,H]
 subst F;have f_by:RdS AD7 (ob v++M) w vb a.1:=by
  obtain⟨cs,⟨u,rfl,U⟩,⟨H,_⟩|⟨_,H⟩⟩:=J
  . cases H
  . rw[<-List.singleton_inj.1 H];exact U
 have hx:Sx.Own ReportE 45 0 (ob v++M) w v x:=hx;have p_l:Sx.Own ReportE 45 0 M w v x:=hx.mon fun b J=>.inr (AX3 _ J);have G:=ABS (fun b J=>B b (AX3 _ J)) hd p_l;have V:I1 a.1 x=some (r,x'):=V;refine G6 func77 rfl ntmps77 rfl ?_;refine A6 (A8 ?_);refine AAD G rfl (RdS.cells1 f_by) rfl ?_;intro b1 w2 W x4;have K:=W.freezeRow 0 rfl;have I:=W.erase 0;refine G7 rfl rfl (Reg.nil (A6 (A8 ?_)));refine J3 rfl rfl ?_;refine ADz rfl rfl ?_;unfold I1 at V;obtain⟨l7,D,h⟩:=R0 V;refine X6 rfl call118 rfl ?_;have la:=AD1 (σ:=[ownR (ob v) ReportE 45 v x]) (M:=M) (w:=w2) 0 rfl;have q1:=I.lendM 0 rfl;have q2:@RdS T8 Nat (@AD7 T8) _ w2 vb a.1:=(f_by.adv I.adv).adv la;have q3:=K.adv la;have q4:=glT ((O.adv I.adv).adv la);have T:Calls prog 118 (toArray [v,.func (.func 119) #[] (toArray [.pointer (some ⟨b1,0,none⟩)])]) w2 _:=AFo (E:=ReportE) (enc:=fun x=>[Value.int .i64 x.id,Value.int .i64 x.source,Value.int .i64 x.account,Value.int .i64 x.made,Value.int .i64 x.about,Value.int .u8 x.kind,Value.int .i64 x.cents,Value.int .i64 x.of_]) (In:=fun x=>InK .i64 x.id/\InK .i64 x.source/\InK .i64 x.account/\InK .i64 x.made/\InK .i64 x.about/\InK .u8 x.kind/\InK .i64 x.cents/\InK .i64 x.of_) ACy ReportE_R (fun _=>rfl) (fun x v hv=>by
  simp only[mem_cons,List.not_mem_nil,or_false]at hv;rcases hv with rfl|rfl|rfl|rfl|rfl|rfl|rfl|rfl<;>rfl) isAgg45 sizeOf45 (I.lendOwn 0 rfl) (fun a0 a1 r w9 e9 f0 f1 V=>by
  letI:=T8
  refine CallsV.go call119 rfl (ok119.2 _ w9 (a0,a1,a.1,()) [_,_,_] r (q1.ext e9) (q4.adv (Adv.lent e9)) ⟨_,_,rfl,⟨_,ReportE_R.2 ⟨rfl,f0⟩,.inl ⟨rfl,rfl⟩⟩,_,_,rfl,⟨_,ReportE_R.2 ⟨rfl,f1⟩,.inl ⟨rfl,rfl⟩⟩,_,_,rfl,⟨b1,0,[vb],rfl,q3.adv (Adv.lent e9),vb,rfl,q2.adv (Adv.lent e9)⟩,rfl⟩ V) ?_;rintro e w3 ⟨us,rfl,⟨u,rfl,cs,U,⟨H,_⟩|⟨_,H⟩⟩,hx⟩
  . cases H
  . have U:cs=[.int .i64 r]/\_:=U;rw[U.1]at H;have H:=List.singleton_inj.1 H;subst H;exact⟨rfl,hx⟩) D
 refine T.mono ?_;rintro _ w9 ⟨rfl,A,hk⟩;refine⟨_,rfl,?_⟩;have C:=I.took 0 rfl ⟨A,fun b J=>.inl J,hk⟩;refine Reg.nil (A6 (A8 ?_));refine J3 rfl rfl (G7 rfl rfl (Reg.nil (K6 ?_)));have h:=AXz h;cases h
 refine fin1 results77 rfl ?_;obtain⟨k1,_,k3⟩:=C.ownBack 0 rfl;exact⟨[],rfl,rfl,k3,k1.mon fun b J=>mem_append.1 J⟩
def I2(by_:List Nat)(l:List Letter):Option (Unit×List Letter):=(ACC l fun a b=>K2 a b by_).bind fun r=>some ((),r)
def ctrm48:CtrM:={ ps:=[.d (.sl (.fno 118))],i:=0,c:=.sl 70 (.st 6),rs:=[],F:=fun a x=>I2 a.1 x,self:=true }
theorem okm48:CtrM.ok prog 48 ctrm48:=by
 refine⟨rfl,fun M w a x v vals us r x' B O hd Y hi Q _ hx V=>?_⟩;obtain⟨vb,_,rfl,J,rfl⟩:=Y;have F:us=[v,vb]:=by
  cases us with
  |nil=>cases hi
  |cons u l=>
   have U:u=v:=AXz hi
   have H:l=[vb]:=Q
   rw[U,H]
 subst F;have f_by:RdS AD7 (ob v++M) w vb a.1:=by
  obtain⟨cs,⟨u,rfl,U⟩,⟨H,_⟩|⟨_,H⟩⟩:=J
  . cases H
  . rw[<-List.singleton_inj.1 H];exact U
 have hx:Sx.Own LetterE 70 0 (ob v++M) w v x:=hx;have p_l:Sx.Own LetterE 70 0 M w v x:=hx.mon fun b J=>.inr (AX3 _ J);have G:=ABS (fun b J=>B b (AX3 _ J)) hd p_l;have V:I2 a.1 x=some (r,x'):=V;refine G6 func48 rfl ntmps48 rfl ?_;refine A6 (A8 ?_);refine AAD G rfl (RdS.cells1 f_by) rfl ?_;intro b1 w2 W x4;have K:=W.freezeRow 0 rfl;have I:=W.erase 0;refine G7 rfl rfl (Reg.nil (A6 (A8 ?_)));refine J3 rfl rfl ?_;refine ADz rfl rfl ?_;unfold I2 at V;obtain⟨l7,D,h⟩:=R0 V;refine X6 rfl call86 rfl ?_;have la:=AD1 (σ:=[ownR (ob v) LetterE 70 v x]) (M:=M) (w:=w2) 0 rfl;have q1:=I.lendM 0 rfl;have q2:@RdS T8 Nat (@AD7 T8) _ w2 vb a.1:=(f_by.adv I.adv).adv la;have q3:=K.adv la;have q4:=glT ((O.adv I.adv).adv la);have T:Calls prog 86 (toArray [v,.func (.func 87) #[] (toArray [.pointer (some ⟨b1,0,none⟩)])]) w2 _:=AFo (E:=LetterE) (enc:=fun x=>[Value.int .i64 x.dispute,Value.int .i64 x.who,Value.int .i64 x.asked]) (In:=fun x=>InK .i64 x.dispute/\InK .i64 x.who/\InK .i64 x.asked) AHx LetterE_R (fun _=>rfl) (fun x v hv=>by
  simp only[mem_cons,List.not_mem_nil,or_false]at hv;rcases hv with rfl|rfl|rfl<;>rfl) isAgg70 sizeOf70 (I.lendOwn 0 rfl) (fun a0 a1 r w9 e9 f0 f1 V=>by
  letI:=T8
  refine CallsV.go call87 rfl (ok87.2 _ w9 (a0,a1,a.1,()) [_,_,_] r (q1.ext e9) (q4.adv (Adv.lent e9)) ⟨_,_,rfl,⟨_,LetterE_R.2 ⟨rfl,f0⟩,.inl ⟨rfl,rfl⟩⟩,_,_,rfl,⟨_,LetterE_R.2 ⟨rfl,f1⟩,.inl ⟨rfl,rfl⟩⟩,_,_,rfl,⟨b1,0,[vb],rfl,q3.adv (Adv.lent e9),vb,rfl,q2.adv (Adv.lent e9)⟩,rfl⟩ V) ?_;rintro e w3 ⟨us,rfl,⟨u,rfl,cs,U,⟨H,_⟩|⟨_,H⟩⟩,hx⟩
  . cases H
  . have U:cs=[.int .i64 r]/\_:=U;rw[U.1]at H;have H:=List.singleton_inj.1 H;subst H;exact⟨rfl,hx⟩) D
 refine T.mono ?_;rintro _ w9 ⟨rfl,A,hk⟩;refine⟨_,rfl,?_⟩;have C:=I.took 0 rfl ⟨A,fun b J=>.inl J,hk⟩;refine Reg.nil (A6 (A8 ?_));refine J3 rfl rfl (G7 rfl rfl (Reg.nil (K6 ?_)));have h:=AXz h;cases h
 refine fin1 results48 rfl ?_;obtain⟨k1,_,k3⟩:=C.ownBack 0 rfl;exact⟨[],rfl,rfl,k3,k1.mon fun b J=>mem_append.1 J⟩
def F2(by_:List Nat)(l:List Report):Option (Unit×List Report):=(ACC l fun a b=>K4 a b by_).bind fun r=>some ((),r)
def ctrm106:CtrM:={ ps:=[.d (.sl (.fno 160))],i:=0,c:=.sl 45 (.st 1),rs:=[],F:=fun a x=>F2 a.1 x,self:=true }
theorem okm106:CtrM.ok prog 106 ctrm106:=by
 refine⟨rfl,fun M w a x v vals us r x' B O hd Y hi Q _ hx V=>?_⟩;obtain⟨vb,_,rfl,J,rfl⟩:=Y;have F:us=[v,vb]:=by
  cases us with
  |nil=>cases hi
  |cons u l=>
   have U:u=v:=AXz hi
   have H:l=[vb]:=Q
   rw[U,H]
 subst F;have f_by:RdS AD7 (ob v++M) w vb a.1:=by
  obtain⟨cs,⟨u,rfl,U⟩,⟨H,_⟩|⟨_,H⟩⟩:=J
  . cases H
  . rw[<-List.singleton_inj.1 H];exact U
 have hx:Sx.Own ReportE 45 0 (ob v++M) w v x:=hx;have p_l:Sx.Own ReportE 45 0 M w v x:=hx.mon fun b J=>.inr (AX3 _ J);have G:=ABS (fun b J=>B b (AX3 _ J)) hd p_l;have V:F2 a.1 x=some (r,x'):=V;refine G6 func106 rfl ntmps106 rfl ?_;refine A6 (A8 ?_);refine AAD G rfl (RdS.cells1 f_by) rfl ?_;intro b1 w2 W x4;have K:=W.freezeRow 0 rfl;have I:=W.erase 0;refine G7 rfl rfl (Reg.nil (A6 (A8 ?_)));refine J3 rfl rfl ?_;refine ADz rfl rfl ?_;unfold F2 at V;obtain⟨l7,D,h⟩:=R0 V;refine X6 rfl call118 rfl ?_;have la:=AD1 (σ:=[ownR (ob v) ReportE 45 v x]) (M:=M) (w:=w2) 0 rfl;have q1:=I.lendM 0 rfl;have q2:@RdS T8 Nat (@AD7 T8) _ w2 vb a.1:=(f_by.adv I.adv).adv la;have q3:=K.adv la;have q4:=glT ((O.adv I.adv).adv la);have T:Calls prog 118 (toArray [v,.func (.func 131) #[] (toArray [.pointer (some ⟨b1,0,none⟩)])]) w2 _:=AFo (E:=ReportE) (enc:=fun x=>[Value.int .i64 x.id,Value.int .i64 x.source,Value.int .i64 x.account,Value.int .i64 x.made,Value.int .i64 x.about,Value.int .u8 x.kind,Value.int .i64 x.cents,Value.int .i64 x.of_]) (In:=fun x=>InK .i64 x.id/\InK .i64 x.source/\InK .i64 x.account/\InK .i64 x.made/\InK .i64 x.about/\InK .u8 x.kind/\InK .i64 x.cents/\InK .i64 x.of_) ACy ReportE_R (fun _=>rfl) (fun x v hv=>by
  simp only[mem_cons,List.not_mem_nil,or_false]at hv;rcases hv with rfl|rfl|rfl|rfl|rfl|rfl|rfl|rfl<;>rfl) isAgg45 sizeOf45 (I.lendOwn 0 rfl) (fun a0 a1 r w9 e9 f0 f1 V=>by
  letI:=T8
  refine CallsV.go call131 rfl (ok131.2 _ w9 (a0,a1,a.1,()) [_,_,_] r (q1.ext e9) (q4.adv (Adv.lent e9)) ⟨_,_,rfl,⟨_,ReportE_R.2 ⟨rfl,f0⟩,.inl ⟨rfl,rfl⟩⟩,_,_,rfl,⟨_,ReportE_R.2 ⟨rfl,f1⟩,.inl ⟨rfl,rfl⟩⟩,_,_,rfl,⟨b1,0,[vb],rfl,q3.adv (Adv.lent e9),vb,rfl,q2.adv (Adv.lent e9)⟩,rfl⟩ V) ?_;rintro e w3 ⟨us,rfl,⟨u,rfl,cs,U,⟨H,_⟩|⟨_,H⟩⟩,hx⟩
  . cases H
  . have U:cs=[.int .i64 r]/\_:=U;rw[U.1]at H;have H:=List.singleton_inj.1 H;subst H;exact⟨rfl,hx⟩) D
 refine T.mono ?_;rintro _ w9 ⟨rfl,A,hk⟩;refine⟨_,rfl,?_⟩;have C:=I.took 0 rfl ⟨A,fun b J=>.inl J,hk⟩;refine Reg.nil (A6 (A8 ?_));refine J3 rfl rfl (G7 rfl rfl (Reg.nil (K6 ?_)));have h:=AXz h;cases h
 refine fin1 results106 rfl ?_;obtain⟨k1,_,k3⟩:=C.ownBack 0 rfl;exact⟨[],rfl,rfl,k3,k1.mon fun b J=>mem_append.1 J⟩
end Go.Proofs.YtgioiejbphljoaaGreatDoor
namespace Go.Proofs.YtgioiejbphljoaaGreatDoor
open Go Go.Sx Go.Rx Go.RowKit
def AAU(s:List Int)(f:Int->Option Bool):Option Int:=(C0 (S:=Int) (R:=(Unit⊕Int)) (fun x5=>cond (decide (x5<(s.length:Int))) ((ixo s x5).bind fun y6=>(f y6).bind fun y7=>cond (y7) (some (Sum.inr (Sum.inr x5))) ((chk .i64 (x5+1)).bind fun n8=>some (Sum.inl n8))) (some (Sum.inr (Sum.inl ())))) (0:Int)).bind ((Sum.elim (fun _=>some ((-1):Int)) (fun r9=>some r9)))
def AVk:An:=.nd .x (.nd (.nd .x (.lp ⟨[(.slot 8,.d (.int .i64))],[]⟩ [.exit 0 ⟨[],[]⟩,.ret] .x)) .x)
def ctr121:Ctr:=⟨[.d (.sl (.int .i64)),.fn [(.int .i64)] .bool],[.d (.int .i64)],fun a=>AAU a.1 a.2.1⟩
theorem ok121:Ctr.ok prog 121 ctr121:=B3 (G:={ gxb with fs:=[] }) (an:=AVk) (B4 trivial) func121 rfl rfl rfl rfl (fun a=>by kernel_rfl)
def H6(s:List Int)(f:Int->Option Bool):Option Bool:=(AAU s f).bind fun r1=>some (decide (0<=r1))
def AWt:An:=.x
def ctr82:Ctr:=⟨[.d (.sl (.int .i64)),.fn [(.int .i64)] .bool],[.d .bool],fun a=>H6 a.1 a.2.1⟩
theorem ok82:Ctr.ok prog 82 ctr82:=B3 (G:={ gxb with fs:=[(121,ctr121)] }) (an:=AWt) (B4 ⟨⟨ok121,call121⟩,trivial⟩) func82 rfl rfl rfl rfl (fun a=>by kernel_rfl)
def Q3(n:Int)(a1_:Int)(a2_:Int):Option Bool:=Option.bind (α:=Bool) (cond (decide (n<a1_)) (some true) (some (decide (a2_<n)))) ((fun x1=>some x1))
def AWu:An:=.nd .x (.nd (.jn [.norm ⟨[(.slot 4,.d .bool)],[]⟩] .x) .x)
def ctr83:Ctr:=⟨[.d (.int .i64),.pt (.int .i64),.pt (.int .i64)],[.d .bool],fun a=>Q3 a.1 a.2.1 a.2.2.1⟩
theorem ok83:Ctr.ok prog 83 ctr83:=B3 (G:={ gxb with fs:=[] }) (an:=AWu) (B4 trivial) func83 rfl rfl rfl rfl (fun a=>by kernel_rfl)
def D9(lo:Int)(hi:Int)(all:List Int):Option Bool:=(H6 all (fun a1=>Q3 a1 lo hi)).bind fun r2=>some (!r2)
def AWv:An:=.x
def ctr44:Ctr:=⟨[.d (.int .i64),.d (.int .i64),.d (.sl (.int .i64))],[.d .bool],fun a=>D9 a.1 a.2.1 a.2.2.1⟩
theorem ok44:Ctr.ok prog 44 ctr44:=B3 (G:={ gxb with fs:=[(82,ctr82),(83,ctr83)] }) (an:=AWv) (B4 ⟨⟨ok82,call82⟩,⟨ok83,call83⟩,trivial⟩) func44 rfl rfl rfl rfl (fun a=>by kernel_rfl)
def Z8(vals:List Int):Option Int:=(C0 (S:=Int) (R:=(Unit⊕Int)) (fun x4=>cond (decide (x4<(vals.length:Int))) ((ixo vals x4).bind fun y5=>cond ((!decide (y5=0))) (some (Sum.inr (Sum.inr y5))) ((chk .i64 (x4+1)).bind fun n6=>some (Sum.inl n6))) (some (Sum.inr (Sum.inl ())))) (0:Int)).bind ((Sum.elim (fun _=>some (0:Int)) (fun r7=>some r7)))
def AVl:An:=.nd .x (.nd .x (.nd (.nd .x (.lp ⟨[(.slot 8,.d (.int .i64))],[]⟩ [.exit 0 ⟨[],[]⟩,.ret] .x)) .x))
def ctr104:Ctr:=⟨[.d (.sl (.int .i64))],[.d (.int .i64)],fun a=>Z8 a.1⟩
theorem ok104:Ctr.ok prog 104 ctr104:=B3 (G:={ gxb with fs:=[] }) (an:=AVl) (B4 trivial) func104 rfl rfl rfl rfl (fun a=>by kernel_rfl)
def M6(a:Answer)(b:Answer):Option Bool:=(D7 a.day b.day).bind fun r1=>(D7 a.id b.id).bind fun r2=>(Z8 ([r1,r2])).bind fun r3=>some (decide (r3<0))
def AVm:An:=.x
def ctr126:Ctr:=⟨[.d (.st 3),.d (.st 3)],[.d .bool],fun a=>M6 a.1 a.2.1⟩
theorem ok126:Ctr.ok prog 126 ctr126:=B3 (G:={ gxb with fs:=[(88,ctr88),(104,ctr104)] }) (an:=AVm) (B4 ⟨⟨ok88,call88⟩,⟨ok104,call104⟩,trivial⟩) func126 rfl rfl rfl rfl (fun a=>by kernel_rfl)
def O6(d:Desk_99)(x:Dispute):Option Verdict:=(chk .i64 (x.day+d.desk.terms.answer)).bind fun n1=>(chk .i64 (n1+1)).bind fun n2=>(C0 (S:=(Int×Int×Int×Int×Int×Int×Int×Int×Int)) (R:=(Int×Int×Int×Int×Int×Int×Int×Int)) (fun (x39,x40,x41,x42,x43,x44,x45,x46,x47)=>cond (decide (x39<(((d.answers x.id).getD ([]:List Answer)).length:Int))) ((ixo ((d.answers x.id).getD ([]:List Answer)) x39).bind fun y48=>Option.bind (α:=Bool) ((D9 x.day n1 ([y48.day])).bind fun r49=>cond (r49) (cond (decide (x41=5)) (some true) ((M6 y48 (Answer.mk x42 x43 x44 x45 x46 x47)).bind fun r50=>some r50)) (some false)) ((fun x51=>Option.bind (α:=(Int×Int×Int×Int×Int×Int×Int×Int)) (cond (x51) (some (y48.day,((AFn y48.says).getD 0),y48.id,y48.dispute,y48.day,y48.says,y48.about,y48.cents)) (some (x40,x41,x42,x43,x44,x45,x46,x47))) ((fun (x52,x53,x54,x55,x56,x57,x58,x59)=>(chk .i64 (x39+1)).bind fun n60=>some (Sum.inl (n60,x52,x53,x54,x55,x56,x57,x58,x59))))))) (some (Sum.inr (x40,x41,x42,x43,x44,x45,x46,x47)))) ((0:Int),n2,(5:Int),(0:Int),(0:Int),(0:Int),(0:Int),(0:Int),(0:Int))).bind ((fun (x61,x62,x63,x64,x65,x66,x67,x68)=>some (Verdict.mk x61 x62 (Answer.mk x63 x64 x65 x66 x67 x68))))
def AWw:An:=.nd .x (.nd .x (.nd .x (.nd .x (.nd (.nd .x (.lp ⟨[(.slot 26,.d (.int .i64)),(.cell 6 0,.d (.int .i64)),(.cell 6 1,.d (.int .u8)),(.cell 6 2,.d (.int .i64)),(.cell 6 3,.d (.int .i64)),(.cell 6 4,.d (.int .i64)),(.cell 6 5,.d (.int .u8)),(.cell 6 6,.d (.int .i64)),(.cell 6 7,.d (.int .i64))],[6,4,3]⟩ [.exit 0 ⟨[(.cell 6 0,.d (.int .i64)),(.cell 6 1,.d (.int .u8)),(.cell 6 2,.d (.int .i64)),(.cell 6 3,.d (.int .i64)),(.cell 6 4,.d (.int .i64)),(.cell 6 5,.d (.int .u8)),(.cell 6 6,.d (.int .i64)),(.cell 6 7,.d (.int .i64))],[6,4]⟩] (.nd .x (.nd .x (.nd (.nd .x (.nd (.jn [.norm ⟨[(.slot 48,.d .bool)],[9,6,4,3]⟩] .x) (.jn [.norm ⟨[(.cell 6 0,.d (.int .i64)),(.cell 6 1,.d (.int .u8)),(.cell 6 2,.d (.int .i64)),(.cell 6 3,.d (.int .i64)),(.cell 6 4,.d (.int .i64)),(.cell 6 5,.d (.int .u8)),(.cell 6 6,.d (.int .i64)),(.cell 6 7,.d (.int .i64))],[6,4,3]⟩] .x))) .x))))) .x))))
def ctr92:Ctr:=⟨[.d (.st 10),.d (.st 2)],[.d (.st 12)],fun a=>O6 a.1 a.2.1⟩
theorem ok92:Ctr.ok prog 92 ctr92:=B3 (G:={ gxb with fs:=[(44,ctr44),(126,ctr126)] }) (an:=AWw) (B4 ⟨⟨ok44,call44⟩,⟨ok126,call126⟩,trivial⟩) func92 rfl rfl rfl rfl (fun a=>by kernel_rfl)
def F8(d:Desk_99)(x:Dispute)(day:Int):Option (Int×Verdict):=(O6 d x).bind fun r1=>cond (decide (r1.day<=day)) (some (r1.is_,r1)) (cond (decide (x.day<=day)) (some ((1:Int),r1)) (some ((0:Int),r1)))
def AWx:An:=.x
def ctr57:Ctr:=⟨[.d (.st 10),.d (.st 2),.d (.int .i64)],[.d (.int .u8),.d (.st 12)],fun a=>F8 a.1 a.2.1 a.2.2.1⟩
theorem ok57:Ctr.ok prog 57 ctr57:=B3 (G:={ gxb with fs:=[(92,ctr92)] }) (an:=AWx) (B4 ⟨⟨ok92,call92⟩,trivial⟩) func57 rfl rfl rfl rfl (fun a=>by kernel_rfl)
def AIJ(n:Int)(lo:Int)(hi:Int):Option Bool:=Option.bind (α:=Bool) (cond (decide (lo<=n)) (some (decide (n<=hi))) (some false)) ((fun x1=>some x1))
def E6(n:Int)(lo:Int)(hi:Int):Option Bool:=Option.bind (α:=Bool) (cond (decide (lo<=n)) (some (decide (n<=hi))) (some false)) ((fun x1=>some x1))
def ABu(kind:Int)(n:Int):Option Bool:=Option.bind (α:=Bool) (cond (decide (kind=1)) (some (decide (kind=1))) (some (decide (kind=7)))) ((fun x1=>cond (x1) (some (decide (n=0))) (cond (decide (kind=5)) ((E6 n (0:Int) (10000:Int)).bind fun r2=>some r2) ((E6 n (0:Int) (1000000000000:Int)).bind fun r3=>some r3))))
def R6(r:Report):Option Bool:=Option.bind (α:=Bool) ((E6 r.id (0:Int) (999999:Int)).bind fun r8=>cond ((!r8)) (some true) ((E6 r.source (0:Int) (999999:Int)).bind fun r9=>cond ((!r9)) (some true) ((E6 r.account (0:Int) (999999:Int)).bind fun r10=>cond ((!r10)) (some true) ((E6 r.made (0:Int) (100000:Int)).bind fun r11=>cond ((!r11)) (some true) ((E6 r.about (0:Int) (100000:Int)).bind fun r12=>cond ((!r12)) (some true) ((chk .i64 r.kind).bind fun n13=>(E6 n13 (1:Int) (9:Int)).bind fun r14=>some (!r14))))))) ((fun x15=>cond (x15) (some false) (cond (decide (r.kind<=7)) (Option.bind (α:=Bool) ((ABu r.kind r.cents).bind fun r16=>cond (r16) (some (decide (r.of_=0))) (some false)) ((fun x17=>some x17))) (Option.bind (α:=Bool) ((E6 r.of_ (0:Int) (999999:Int)).bind fun r19=>cond ((!r19)) (some true) (some (decide (r.of_=r.id)))) ((fun x20=>cond (x20) (some false) (cond (decide (r.kind=8)) ((E6 r.cents (0:Int) (1000000000000:Int)).bind fun r21=>some r21) (Option.bind (α:=Bool) (cond (decide (r.cents=0)) (some (decide (r.about=0))) (some false)) ((fun x22=>some x22))))))))))
def AAY(l:List Report):Option Int:=cond (decide (60<(l.length:Int))) (some (4:Int)) ((C0 (S:=Int) (R:=(Unit⊕Int)) (fun x5=>cond (decide (x5<(l.length:Int))) ((ixo l x5).bind fun y6=>(R6 y6).bind fun r7=>cond ((!r7)) (some (Sum.inr (Sum.inr (30:Int)))) ((chk .i64 (x5+1)).bind fun n8=>some (Sum.inl n8))) (some (Sum.inr (Sum.inl ())))) (0:Int)).bind ((Sum.elim (fun _=>(C0 (S:=Int) (R:=(Unit⊕Int)) (fun x19=>cond (decide (x19<(l.length:Int))) ((C0 (S:=Int) (R:=(Unit⊕Int)) (fun x20=>cond (decide (x20<x19)) (Option.bind (α:=Bool) ((ixo l x19).bind fun y21=>(ixo l x20).bind fun y22=>cond (decide (y21.id=y22.id)) ((ixo l x19).bind fun y23=>(ixo l x20).bind fun y24=>some (!decide (y23=y24))) (some false)) ((fun x25=>cond (x25) (some (Sum.inr (Sum.inr (31:Int)))) ((chk .i64 (x20+1)).bind fun n26=>some (Sum.inl n26))))) (some (Sum.inr (Sum.inl ())))) (0:Int)).bind ((Sum.elim (fun _=>(chk .i64 (x19+1)).bind fun n27=>some (Sum.inl n27)) (fun r28=>some (Sum.inr (Sum.inr r28)))))) (some (Sum.inr (Sum.inl ())))) (0:Int)).bind ((Sum.elim (fun _=>some (0:Int)) (fun r29=>some r29)))) (fun r30=>some r30))))
def ANA(l:List Report)(id:Int):Option Int:=(C0 (S:=Int) (R:=(Unit⊕Int)) (fun x4=>cond (decide (x4<(l.length:Int))) ((ixo l x4).bind fun y5=>cond (decide (y5.id=id)) (some (Sum.inr (Sum.inr x4))) ((chk .i64 (x4+1)).bind fun n6=>some (Sum.inl n6))) (some (Sum.inr (Sum.inl ())))) (0:Int)).bind ((Sum.elim (fun _=>some ((-1):Int)) (fun r7=>some r7)))
def AKw(l:List Report)(id:Int):Option Int:=(ANA l id).bind fun r1=>Option.bind (α:=Bool) (cond (decide (0<=r1)) ((ixo l r1).bind fun y3=>some (decide (7<y3.kind))) (some false)) ((fun x4=>cond (x4) (some ((-1):Int)) (some r1)))
def ADt(d:Desk)(x:Dispute):Option Int:=(C0 (S:=(Int×Int)) (R:=Int) (fun (x28,x29)=>cond (decide (x29<(d.answers.length:Int))) (Option.bind (α:=Int) ((ixo d.answers x29).bind fun y30=>Option.bind (α:=Bool) (cond ((!decide (y30.dispute=x.id))) (some true) ((chk .i64 (x.day+d.terms.answer)).bind fun n31=>(AIJ y30.day x.day n31).bind fun r32=>some (!r32))) ((fun x33=>cond (x33) (some x28) (Option.bind (α:=Bool) (cond (decide (x28<0)) (some true) ((ixo d.answers x28).bind fun y34=>cond (decide (y30.day<y34.day)) (some true) ((ixo d.answers x28).bind fun y35=>cond (decide (y30.day=y35.day)) ((ixo d.answers x28).bind fun y36=>some (decide (y30.id<y36.id))) (some false)))) ((fun x37=>Option.bind (α:=Int) (cond (x37) (some x29) (some x28)) ((fun x38=>some x38)))))))) ((fun x39=>(chk .i64 (x29+1)).bind fun n40=>some (Sum.inl (x39,n40))))) (some (Sum.inr x28))) (((-1):Int),(0:Int))).bind ((fun x41=>some x41))
def AHc(d:Desk)(x:Dispute):Option (Int×Int):=(ADt d x).bind fun r1=>cond (decide (r1<0)) ((chk .i64 (x.day+d.terms.answer)).bind fun n2=>(chk .i64 (n2+1)).bind fun n3=>some (n3,(5:Int))) ((ixo d.answers r1).bind fun y4=>(ixo d.answers r1).bind fun y5=>(chk .u8 (y5.says+1)).bind fun n6=>some (y4.day,n6))
def AHd(d:Desk)(x:Dispute):Option (Report×Bool):=(AHc d x).bind fun (r1,r2)=>cond (decide (r2=2)) (some ((Report.mk 0 0 0 0 0 0 0 0),false)) ((AKw d.reports x.report).bind fun r3=>(ixo d.reports r3).bind fun y4=>Option.bind (α:=(Int×Int×Int)) (cond (decide (r2=3)) ((ADt d x).bind fun r7=>(ixo d.answers r7).bind fun y8=>some (y8.about,(8:Int),y8.cents)) (some ((0:Int),(9:Int),(0:Int)))) ((fun (x9,x10,x11)=>some ((Report.mk x.id y4.source y4.account r1 x9 x10 x11 y4.id),true))))
def AR3(d:Desk)(day:Int):Option (List Report):=(appo 64 ([]:List Report) d.reports).bind fun l1=>(C0 (S:=((List Report)×Int)) (R:=((List Report))) (fun (x121,x122)=>cond (decide (x122<(d.disputes.length:Int))) (Option.bind (α:=((List Report))) ((ixo d.disputes x122).bind fun y123=>(AHd d y123).bind fun (r124,r125)=>Option.bind (α:=Bool) (cond ((!r125)) (some true) (some (decide (day<r124.made)))) ((fun x126=>cond (x126) (some x121) ((appo 64 x121 ([r124])).bind fun l127=>(chk .i64 ((l127.length:Int)-1)).bind fun n128=>(C0 (S:=(Int×(List Report))) (R:=((List Report))) (fun (x129,x130)=>Option.bind (α:=Bool) (cond (decide ((l1.length:Int)<x129)) ((ixo x130 x129).bind fun y131=>(chk .i64 (x129-1)).bind fun n132=>(ixo x130 n132).bind fun y133=>cond (decide (y131.made<y133.made)) (some true) ((ixo x130 x129).bind fun y134=>(chk .i64 (x129-1)).bind fun n135=>(ixo x130 n135).bind fun y136=>cond (decide (y134.made=y136.made)) ((ixo x130 x129).bind fun y137=>(chk .i64 (x129-1)).bind fun n138=>(ixo x130 n138).bind fun y139=>some (decide (y137.id<y139.id))) (some false))) (some false)) ((fun x140=>cond (x140) ((chk .i64 (x129-1)).bind fun n141=>(chk .i64 (x129-1)).bind fun n142=>(ixo x130 n142).bind fun y143=>(ixo x130 x129).bind fun y144=>(ixo x130 x129).bind fun y145=>(ABE x130 x129 y143).bind fun l146=>(ixo l146 n141).bind fun y147=>(ABE l146 n141 y144).bind fun l148=>(chk .i64 (x129-1)).bind fun n149=>some (Sum.inl (n149,l148))) (some (Sum.inr x130))))) (n128,l127)).bind ((fun x150=>some x150)))))) ((fun x151=>(chk .i64 (x122+1)).bind fun n152=>some (Sum.inl (x151,n152))))) (some (Sum.inr x121))) (l1,(0:Int))).bind ((fun x153=>some x153))
def AAV(s:List Report)(f:Report->Option Bool):Option Int:=(C0 (S:=Int) (R:=(Unit⊕Int)) (fun x5=>cond (decide (x5<(s.length:Int))) ((ixo s x5).bind fun y6=>(f y6).bind fun y7=>cond (y7) (some (Sum.inr (Sum.inr x5))) ((chk .i64 (x5+1)).bind fun n8=>some (Sum.inl n8))) (some (Sum.inr (Sum.inl ())))) (0:Int)).bind ((Sum.elim (fun _=>some ((-1):Int)) (fun r9=>some r9)))
def AVn:An:=.nd .x (.nd (.nd .x (.lp ⟨[(.slot 8,.d (.int .i64))],[]⟩ [.exit 0 ⟨[],[]⟩,.ret] .x)) .x)
def ctr130:Ctr:=⟨[.d (.sl (.st 1)),.fn [(.st 1)] .bool],[.d (.int .i64)],fun a=>AAV a.1 a.2.1⟩
theorem ok130:Ctr.ok prog 130 ctr130:=B3 (G:={ gxb with fs:=[] }) (an:=AVn) (B4 trivial) func130 rfl rfl rfl rfl (fun a=>by kernel_rfl)
def M9(s:List Report)(f:Report->Option Bool):Option Bool:=(AAV s f).bind fun r1=>some (decide (0<=r1))
def AWy:An:=.x
def ctr98:Ctr:=⟨[.d (.sl (.st 1)),.fn [(.st 1)] .bool],[.d .bool],fun a=>M9 a.1 a.2.1⟩
theorem ok98:Ctr.ok prog 98 ctr98:=B3 (G:={ gxb with fs:=[(130,ctr130)] }) (an:=AWy) (B4 ⟨⟨ok130,call130⟩,trivial⟩) func98 rfl rfl rfl rfl (fun a=>by kernel_rfl)
def Q4(n:Int)(a1_:Int)(a2_:Int):Option Bool:=Option.bind (α:=Bool) (cond (decide (n<a1_)) (some true) (some (decide (a2_<n)))) ((fun x1=>some x1))
def AVo:An:=.nd .x (.nd (.jn [.norm ⟨[(.slot 4,.d .bool)],[]⟩] .x) .x)
def ctr101:Ctr:=⟨[.d (.int .i64),.pt (.int .i64),.pt (.int .i64)],[.d .bool],fun a=>Q4 a.1 a.2.1 a.2.2.1⟩
theorem ok101:Ctr.ok prog 101 ctr101:=B3 (G:={ gxb with fs:=[] }) (an:=AVo) (B4 trivial) func101 rfl rfl rfl rfl (fun a=>by kernel_rfl)
def N0(lo:Int)(hi:Int)(all:List Int):Option Bool:=(H6 all (fun a1=>Q4 a1 lo hi)).bind fun r2=>some (!r2)
def AWz:An:=.x
def ctr66:Ctr:=⟨[.d (.int .i64),.d (.int .i64),.d (.sl (.int .i64))],[.d .bool],fun a=>N0 a.1 a.2.1 a.2.2.1⟩
theorem ok66:Ctr.ok prog 66 ctr66:=B3 (G:={ gxb with fs:=[(82,ctr82),(101,ctr101)] }) (an:=AWz) (B4 ⟨⟨ok82,call82⟩,⟨ok101,call101⟩,trivial⟩) func66 rfl rfl rfl rfl (fun a=>by kernel_rfl)
def I3(r:Report):Option Bool:=some (decide (r.kind<=7))
def AW0:An:=.x
def ctr72:Ctr:=⟨[.d (.st 1)],[.d .bool],fun a=>I3 a.1⟩
theorem ok72:Ctr.ok prog 72 ctr72:=B3 (G:={ gxb with fs:=[] }) (an:=AW0) (B4 trivial) func72 rfl rfl rfl rfl (fun a=>by kernel_rfl)
def H0(r:Report):Option Bool:=Option.bind (α:=Bool) ((chk .i64 r.kind).bind fun n8=>(N0 (1:Int) (9:Int) ([n8])).bind fun r9=>cond ((!r9)) (some true) ((N0 (0:Int) (999999:Int) ([r.id,r.source,r.account,r.of_])).bind fun r10=>cond ((!r10)) (some true) ((N0 (0:Int) (100000:Int) ([r.made,r.about])).bind fun r11=>cond ((!r11)) (some true) ((ixA 10 r.kind).bind fun i12=>(ixo glob0 (i12*1)).bind fun y13=>(N0 (0:Int) y13 ([r.cents])).bind fun r14=>some (!r14))))) ((fun x15=>cond (x15) (some false) ((I3 r).bind fun r16=>cond (r16) (some (decide (r.of_=0))) (Option.bind (α:=Bool) (cond (decide (r.kind=9)) (some (!decide (r.about=0))) (some false)) ((fun x17=>cond (x17) (some false) (some (!decide (r.of_=r.id)))))))))
def AVp:An:=.nd .x (.nd (.nd (.jn [.norm ⟨[(.slot 41,.d .bool)],[1]⟩] .x) .x) (.nd (.nd .x (.nd .x (.nd (.jn [.norm ⟨[(.slot 48,.d .bool)],[1]⟩] .x) .x))) .x))
def ctr100:Ctr:=⟨[.d (.st 1)],[.d .bool],fun a=>H0 a.1⟩
theorem ok100:Ctr.ok prog 100 ctr100:=B3 (G:={ gxb with fs:=[(66,ctr66),(72,ctr72)] }) (an:=AVp) (B4 ⟨⟨ok66,call66⟩,⟨ok72,call72⟩,trivial⟩) func100 rfl rfl rfl rfl (fun a=>by kernel_rfl)
def Q5(r:Report):Option Bool:=(H0 r).bind fun r1=>some (!r1)
def AW1:An:=.x
def ctr99:Ctr:=⟨[.d (.st 1)],[.d .bool],fun a=>Q5 a.1⟩
theorem ok99:Ctr.ok prog 99 ctr99:=B3 (G:={ gxb with fs:=[(100,ctr100)] }) (an:=AW1) (B4 ⟨⟨ok100,call100⟩,trivial⟩) func99 rfl rfl rfl rfl (fun a=>by kernel_rfl)
def I9(l:List Report):Option Int:=cond (decide (60<(l.length:Int))) (some (4:Int)) ((M9 l (fun a1=>Q5 a1)).bind fun r2=>cond (r2) (some (30:Int)) ((C0 (S:=(Int×(A4 Int Report))) (R:=(Unit⊕Int)) (fun (x12,x13)=>cond (decide (x12<(l.length:Int))) ((ixo l x12).bind fun y14=>Option.bind (α:=Bool) (cond ((x13 y14.id).isSome) (some (!decide (((x13 y14.id).getD (Report.mk 0 0 0 0 0 0 0 0))=y14))) (some false)) ((fun x15=>cond (x15) (some (Sum.inr (Sum.inr (31:Int)))) ((chk .i64 (x12+1)).bind fun n16=>some (Sum.inl (n16,(B5 x13 y14.id y14))))))) (some (Sum.inr (Sum.inl ())))) ((0:Int),(fnone:(A4 Int Report)))).bind ((Sum.elim (fun _=>some (0:Int)) (fun r17=>some r17)))))
def AW2:An:=.nd .x (.nd .x (.nd .x (.nd .x (.nd (.nd .x (.lp ⟨[(.slot 16,.d (.int .i64)),(.cont 13,.own (.mp 3 (.int .i64) (.st 1)))],[13]⟩ [.exit 0 ⟨[],[]⟩,.ret] (.nd .x (.nd .x (.nd (.nd .x (.nd (.nd .x (.nd (.jn [.norm ⟨[(.slot 32,.d .bool)],[5,13]⟩] .x) .x)) .x)) .x))))) .x))))
def ctr65:Ctr:=⟨[.d (.sl (.st 1))],[.d (.int .i64)],fun a=>I9 a.1⟩
theorem ok65:Ctr.ok prog 65 ctr65:=B3 (G:={ gxb with fs:=[(98,ctr98),(99,ctr99)] }) (an:=AW2) (B4 ⟨⟨ok98,call98⟩,⟨ok99,call99⟩,trivial⟩) func65 rfl rfl rfl rfl (fun a=>by kernel_rfl)
def F0(s:Store)(r:Report):Option (Report×Bool):=Option.bind (α:=(Bool×Int×Int×Int×Int×Int×Int×Int×Int)) (cond ((s.reports r.of_).isSome) (cond (decide ((((s.reports r.of_).getD (Report.mk 0 0 0 0 0 0 0 0)).source)=r.source)) (some (decide ((((s.reports r.of_).getD (Report.mk 0 0 0 0 0 0 0 0)).account)=r.account),((s.reports r.of_).getD (Report.mk 0 0 0 0 0 0 0 0)).id,((s.reports r.of_).getD (Report.mk 0 0 0 0 0 0 0 0)).source,((s.reports r.of_).getD (Report.mk 0 0 0 0 0 0 0 0)).account,((s.reports r.of_).getD (Report.mk 0 0 0 0 0 0 0 0)).made,((s.reports r.of_).getD (Report.mk 0 0 0 0 0 0 0 0)).about,((s.reports r.of_).getD (Report.mk 0 0 0 0 0 0 0 0)).kind,((s.reports r.of_).getD (Report.mk 0 0 0 0 0 0 0 0)).cents,((s.reports r.of_).getD (Report.mk 0 0 0 0 0 0 0 0)).of_)) (some (false,((s.reports r.of_).getD (Report.mk 0 0 0 0 0 0 0 0)).id,((s.reports r.of_).getD (Report.mk 0 0 0 0 0 0 0 0)).source,((s.reports r.of_).getD (Report.mk 0 0 0 0 0 0 0 0)).account,((s.reports r.of_).getD (Report.mk 0 0 0 0 0 0 0 0)).made,((s.reports r.of_).getD (Report.mk 0 0 0 0 0 0 0 0)).about,((s.reports r.of_).getD (Report.mk 0 0 0 0 0 0 0 0)).kind,((s.reports r.of_).getD (Report.mk 0 0 0 0 0 0 0 0)).cents,((s.reports r.of_).getD (Report.mk 0 0 0 0 0 0 0 0)).of_))) (some (false,((s.reports r.of_).getD (Report.mk 0 0 0 0 0 0 0 0)).id,((s.reports r.of_).getD (Report.mk 0 0 0 0 0 0 0 0)).source,((s.reports r.of_).getD (Report.mk 0 0 0 0 0 0 0 0)).account,((s.reports r.of_).getD (Report.mk 0 0 0 0 0 0 0 0)).made,((s.reports r.of_).getD (Report.mk 0 0 0 0 0 0 0 0)).about,((s.reports r.of_).getD (Report.mk 0 0 0 0 0 0 0 0)).kind,((s.reports r.of_).getD (Report.mk 0 0 0 0 0 0 0 0)).cents,((s.reports r.of_).getD (Report.mk 0 0 0 0 0 0 0 0)).of_))) ((fun (x1,x2,x3,x4,x5,x6,x7,x8,x9)=>some ((Report.mk x2 x3 x4 x5 x6 x7 x8 x9),x1)))
def AW3:An:=.nd .x (.nd .x (.nd (.jn [.norm ⟨[(.slot 5,.d .bool),(.cell 4 0,.d (.int .i64)),(.cell 4 1,.d (.int .i64)),(.cell 4 2,.d (.int .i64)),(.cell 4 3,.d (.int .i64)),(.cell 4 4,.d (.int .i64)),(.cell 4 5,.d (.int .u8)),(.cell 4 6,.d (.int .i64)),(.cell 4 7,.d (.int .i64))],[4]⟩] .x) .x))
def ctr71:Ctr:=⟨[.d (.st 13),.d (.st 1)],[.d (.st 1),.d .bool],fun a=>F0 a.1 a.2.1⟩
theorem ok71:Ctr.ok prog 71 ctr71:=B3 (G:={ gxb with fs:=[] }) (an:=AW3) (B4 trivial) func71 rfl rfl rfl rfl (fun a=>by kernel_rfl)
def Q6(d:Desk_139)(id:Int):Option Bool:=some ((d.gone id).isSome)
def AVq:An:=.x
def ctr103:Ctr:=⟨[.d (.st 14),.d (.int .i64)],[.d .bool],fun a=>Q6 a.1 a.2.1⟩
theorem ok103:Ctr.ok prog 103 ctr103:=B3 (G:={ gxb with fs:=[] }) (an:=AVq) (B4 trivial) func103 rfl rfl rfl rfl (fun a=>by kernel_rfl)
def V1(l:List Report)(known:Int):Option Desk_139:=(C0 (S:=(Int×(A4 Int Report))) (R:=((A4 Int Report))) (fun (x10,x11)=>cond (decide (x10<(l.length:Int))) ((ixo l x10).bind fun y12=>Option.bind (α:=((A4 Int Report))) (cond (decide (y12.made<=known)) (some (B5 x11 y12.id y12)) (some x11)) ((fun x13=>(chk .i64 (x10+1)).bind fun n14=>some (Sum.inl (n14,x13))))) (some (Sum.inr x11))) ((0:Int),(fnone:(A4 Int Report)))).bind ((fun x15=>AAP x15 fun l46=>(List.foldlM (m:=Option) (s:=((A4 Int Int))) (α:=Int×Report) (fun x37 (k38,v39)=>(F0 (Store.mk x15) v39).bind fun (r40,r41)=>Option.bind (α:=Bool) (cond (decide (v39.kind=9)) (cond (r41) (some (!decide (r40.kind=9))) (some false)) (some false)) ((fun x42=>Option.bind (α:=((A4 Int Int))) (cond (x42) (Option.bind (α:=Bool) (cond ((!((x37 r40.id).isSome))) (some true) (some (decide (v39.id<((x37 r40.id).getD 0))))) ((fun x43=>Option.bind (α:=((A4 Int Int))) (cond (x43) (some (B5 x37 r40.id v39.id)) (some x37)) ((fun x44=>some x44))))) (some x37)) ((fun x45=>some x45))))) (fnone:(A4 Int Int)) l46).bind fun x47=>AAP x15 fun l116=>(List.foldlM (m:=Option) (s:=((A4 Int Int))) (α:=Int×Report) (fun x99 (k100,v101)=>(F0 (Store.mk x15) v101).bind fun (r102,r103)=>Option.bind (α:=Bool) (cond ((!decide (v101.kind=8))) (some true) (cond ((!r103)) (some true) ((I3 r102).bind fun r104=>cond ((!r104)) (some true) ((ixA 10 r102.kind).bind fun i105=>(ixo glob0 (i105*1)).bind fun y106=>(N0 (0:Int) y106 ([v101.cents])).bind fun r107=>cond ((!r107)) (some true) ((Q6 (Desk_139.mk (Store.mk x15) x47 x99) v101.id).bind fun r108=>cond (r108) (some true) ((Q6 (Desk_139.mk (Store.mk x15) x47 x99) r102.id).bind fun r109=>some r109)))))) ((fun x110=>cond (x110) (some x99) (Option.bind (α:=Bool) (cond ((!((x99 r102.id).isSome))) (some true) ((D7 (((x15 ((x99 r102.id).getD 0)).getD (Report.mk 0 0 0 0 0 0 0 0)).made) v101.made).bind fun r111=>(D7 ((x99 r102.id).getD 0) v101.id).bind fun r112=>(Z8 ([r111,r112])).bind fun r113=>some (decide (r113<0)))) ((fun x114=>Option.bind (α:=((A4 Int Int))) (cond (x114) (some (B5 x99 r102.id v101.id)) (some x99)) ((fun x115=>some x115)))))))) (fnone:(A4 Int Int)) l116).bind fun x117=>some (Desk_139.mk (Store.mk x15) x47 x117)))
def AW4:An:=.nd .x (.nd .x (.nd (.nd .x (.lp ⟨[(.slot 28,.d (.int .i64)),(.cont 21,.own (.mp 3 (.int .i64) (.st 1)))],[5,24,23,21,4]⟩ [.exit 0 ⟨[(.cont 21,.own (.mp 3 (.int .i64) (.st 1)))],[5,24,23,21,4]⟩] (.nd .x (.nd .x (.nd (.nd .x (.nd .x (.jn [.norm ⟨[(.cont 21,.own (.mp 3 (.int .i64) (.st 1)))],[5,24,23,21,4]⟩] .x))) .x))))) (.nd (.lp ⟨[(.cont 23,.own (.mp 3 (.int .i64) (.int .i64)))],[5,24,23,4]⟩ [] (.nd .x (.nd (.jn [.norm ⟨[(.slot 68,.d .bool)],[10,9,5,24,23,4]⟩] .x) (.jn [.norm ⟨[(.cont 23,.own (.mp 3 (.int .i64) (.int .i64)))],[5,24,23,4]⟩] (.nd (.nd .x (.nd (.jn [.norm ⟨[(.slot 84,.d .bool)],[10,9,5,24,23,4]⟩] .x) (.jn [.norm ⟨[(.cont 23,.own (.mp 3 (.int .i64) (.int .i64)))],[5,24,23,4]⟩] .x))) .x))))) (.nd (.lp ⟨[(.cont 24,.own (.mp 3 (.int .i64) (.int .i64)))],[5,24,23,4]⟩ [] (.nd .x (.nd (.nd (.jn [.norm ⟨[(.slot 140,.d .bool)],[16,15,5,24,23,4]⟩] .x) .x) (.nd .x (.nd .x (.nd (.jn [.norm ⟨[(.slot 169,.d .bool)],[16,15,5,24,23,4]⟩] .x) (.jn [.norm ⟨[(.cont 24,.own (.mp 3 (.int .i64) (.int .i64)))],[5,24,23,4]⟩] .x))))))) .x))))
def AVr:Ctr:=⟨[.d (.sl (.st 1)),.d (.int .i64)],[.d (.st 14)],fun a=>V1 a.1 a.2.1⟩
theorem ok68:Ctr.ok prog 68 AVr:=AR1 (G:={ gxb with fs:=[(66,ctr66),(71,ctr71),(72,ctr72),(88,ctr88),(103,ctr103),(104,ctr104)] }) (an:=AW4) (B4 ⟨⟨ok66,call66⟩,⟨ok71,call71⟩,⟨ok72,call72⟩,⟨ok88,call88⟩,⟨ok103,call103⟩,⟨ok104,call104⟩,trivial⟩) func68 rfl rfl rfl rfl (fun a=>by kernel_rfl)
def Q7(a:List Report)(b:List Report):Option Bool:=cond ((!decide ((a.length:Int)=(b.length:Int)))) (some false) ((C0 (S:=Int) (R:=(Unit⊕Bool)) (fun x5=>cond (decide (x5<(a.length:Int))) ((ixo a x5).bind fun y6=>(ixo b x5).bind fun y7=>cond ((!decide (y6=y7))) (some (Sum.inr (Sum.inr false))) ((chk .i64 (x5+1)).bind fun n8=>some (Sum.inl n8))) (some (Sum.inr (Sum.inl ())))) (0:Int)).bind ((Sum.elim (fun _=>some true) (fun r9=>some r9))))
def AW5:An:=.nd .x (.nd .x (.nd (.nd .x (.lp ⟨[(.slot 5,.d (.int .i64))],[]⟩ [.exit 0 ⟨[],[]⟩,.ret] .x)) .x))
def ctr18:Ctr:=⟨[.d (.sl (.st 1)),.d (.sl (.st 1))],[.d .bool],fun a=>Q7 a.1 a.2.1⟩
theorem ok18:Ctr.ok prog 18 ctr18:=B3 (G:={ gxb with fs:=[] }) (an:=AW5) (B4 trivial) func18 rfl rfl rfl rfl (fun a=>by kernel_rfl)
def Q8(a:List Letter)(b:List Letter):Option Bool:=cond ((!decide ((a.length:Int)=(b.length:Int)))) (some false) ((C0 (S:=Int) (R:=(Unit⊕Bool)) (fun x5=>cond (decide (x5<(a.length:Int))) ((ixo a x5).bind fun y6=>(ixo b x5).bind fun y7=>cond ((!decide (y6=y7))) (some (Sum.inr (Sum.inr false))) ((chk .i64 (x5+1)).bind fun n8=>some (Sum.inl n8))) (some (Sum.inr (Sum.inl ())))) (0:Int)).bind ((Sum.elim (fun _=>some true) (fun r9=>some r9))))
def AW6:An:=.nd .x (.nd .x (.nd (.nd .x (.lp ⟨[(.slot 5,.d (.int .i64))],[]⟩ [.exit 0 ⟨[],[]⟩,.ret] .x)) .x))
def ctr19:Ctr:=⟨[.d (.sl (.st 6)),.d (.sl (.st 6))],[.d .bool],fun a=>Q8 a.1 a.2.1⟩
theorem ok19:Ctr.ok prog 19 ctr19:=B3 (G:={ gxb with fs:=[] }) (an:=AW6) (B4 trivial) func19 rfl rfl rfl rfl (fun a=>by kernel_rfl)
def O9(s:List Dispute):Option (List Dispute):=
 AJg s fun b1=>cond b1 (some []) ((appo 24 ([]:List Dispute) s).bind fun l7=>some l7)
def ctr59:Ctr:=⟨[.d (.sl (.st 2))],[.own (.sl 53 (.st 2))],fun a=>O9 a.1⟩
theorem ATm:SlT prog 25 53 (DisputeE).n 24:=rsl25
theorem AFw{M:List Nat}{w:World}(D:MLt M w){s:List Dispute}{v_s_0:Value}(f_s_0:RdS DisputeE M w v_s_0 s){r0:List Dispute}(h:O9 s=some r0):
  Calls prog 59 (toArray [v_s_0]) w fun e w'=>∃v0_0:Value,e=.returned (v0_0)/\(Sx.Own DisputeE 53 0 M w' v0_0 r0/\∀b∈ob v0_0,w.heap.size<=b)/\Ext w w':=by
 have W:=Hp.start (Mu:=[]) D
 refine G6 func59 rfl ntmps59 rfl ?_
 refine A6 ?_
 refine A8 ?_
 refine G7 rfl rfl ?_
 refine Reg.nil ?_
 refine A6 ?_
 refine A6 ?_
 refine A8 ?_
 refine J3 rfl rfl ?_
 refine AUo f_s_0 rfl rfl underlying25 rfl ?_
 intro b1 kb1
 replace h:=APA h kb1
 refine Reg.nil ?_
 refine AAB rfl (fun I=>?_) (fun I=>?_)
 . replace h:=cdT I h
   refine A6 ?_
   refine A8 ?_
   refine G7 rfl rfl ?_
   refine Reg.nil ?_
   refine K6 ?_
   obtain rfl:=AXz h
   refine fin1 results59 rfl ?_
   exact⟨_,rfl,⟨Own.nil _ _ _ _ _,fun _ C=>by cases C⟩,W.kp⟩
 . replace h:=cdF I h
   refine P5 ?_
   refine A6 ?_
   refine A8 ?_
   refine AJe (E:=DisputeE) (xs:=[]) ATm W rfl rfl Cls.nil Chs.nil rfl rfl ?_
   intro v3 w4 U x6
   refine J3 rfl rfl ?_
   obtain⟨l7,V,h⟩:=R0 h
   obtain⟨J,el7⟩:=ACP V
   refine AFQ 0 ATm U rfl rfl rfl (f_s_0.adv U.adv) J rfl ?_
   rw[<-el7]
   intro v8 w9 H x11
   refine G7 rfl rfl ?_
   refine Reg.nil ?_
   refine K6 ?_
   obtain rfl:=AXz h
   refine fin1 results59 rfl ?_
   exact⟨_,rfl,(H.ownOut 0 rfl),H.kp⟩
theorem ok59:Ctr.ok prog 59 ctr59:=by
 refine⟨by decide,fun M w a vals r J _ H I=>?_⟩;obtain⟨v0,r0,rfl,W,H⟩:=H;have H:_=[]:=H;subst H;refine(AFw J (OkD.rds W) I).mono ?_;rintro e w' ⟨v,rfl,V,U⟩;exact⟨[v],rfl,⟨v,rfl,AN6 V⟩,U⟩
def V2(s:List Dispute)(f:Dispute->Option Bool):Option Int:=(C0 (S:=Int) (R:=(Unit⊕Int)) (fun x5=>cond (decide (x5<(s.length:Int))) ((ixo s x5).bind fun y6=>(f y6).bind fun y7=>cond (y7) (some (Sum.inr (Sum.inr x5))) ((chk .i64 (x5+1)).bind fun n8=>some (Sum.inl n8))) (some (Sum.inr (Sum.inl ())))) (0:Int)).bind ((Sum.elim (fun _=>some ((-1):Int)) (fun r9=>some r9)))
def AW7:An:=.nd .x (.nd (.nd .x (.lp ⟨[(.slot 8,.d (.int .i64))],[]⟩ [.exit 0 ⟨[],[]⟩,.ret] .x)) .x)
def ctr55:Ctr:=⟨[.d (.sl (.st 2)),.fn [(.st 2)] .bool],[.d (.int .i64)],fun a=>V2 a.1 a.2.1⟩
theorem ok55:Ctr.ok prog 55 ctr55:=B3 (G:={ gxb with fs:=[] }) (an:=AW7) (B4 trivial) func55 rfl rfl rfl rfl (fun a=>by kernel_rfl)
def Q9(x:Dispute)(a1_:Int):Option Bool:=some (decide (x.id=a1_))
def AW8:An:=.x
def ctr56:Ctr:=⟨[.d (.st 2),.pt (.int .i64)],[.d .bool],fun a=>Q9 a.1 a.2.1⟩
theorem ok56:Ctr.ok prog 56 ctr56:=B3 (G:={ gxb with fs:=[] }) (an:=AW8) (B4 trivial) func56 rfl rfl rfl rfl (fun a=>by kernel_rfl)
def Z9  : Option Desk:=some (Desk.mk (Terms.mk 30 100 60) ([(Report.mk 1 70 5 12 10 3 500 0),(Report.mk 2 70 5 22 20 5 40 0),(Report.mk 3 70 5 26 25 6 500 0)]) ([(Dispute.mk 51 1 40),(Dispute.mk 52 2 41),(Dispute.mk 53 3 42)]) ([(Answer.mk 1 51 50 2 10 450),(Answer.mk 2 52 72 3 0 0),(Answer.mk 3 53 60 1 0 0),(Answer.mk 4 53 61 3 0 0)]))
def AW9:An:=.x
def ctr33:Ctr:=⟨[],[.d (.st 4)],fun a=>Z9 ⟩
theorem ok33:Ctr.ok prog 33 ctr33:=B3 (G:={ gxb with fs:=[] }) (an:=AW9) (B4 trivial) func33 rfl rfl rfl rfl (fun a=>by kernel_rfl)
def X3(a:List Int)(b:List Int):Option Bool:=cond ((!decide ((a.length:Int)=(b.length:Int)))) (some false) ((C0 (S:=Int) (R:=(Unit⊕Bool)) (fun x5=>cond (decide (x5<(a.length:Int))) ((ixo a x5).bind fun y6=>(ixo b x5).bind fun y7=>cond ((!decide (y6=y7))) (some (Sum.inr (Sum.inr false))) ((chk .i64 (x5+1)).bind fun n8=>some (Sum.inl n8))) (some (Sum.inr (Sum.inl ())))) (0:Int)).bind ((Sum.elim (fun _=>some true) (fun r9=>some r9))))
def AXA:An:=.nd .x (.nd .x (.nd (.nd .x (.lp ⟨[(.slot 5,.d (.int .i64))],[]⟩ [.exit 0 ⟨[],[]⟩,.ret] .x)) .x))
def ctr37:Ctr:=⟨[.d (.sl (.int .i64)),.d (.sl (.int .i64))],[.d .bool],fun a=>X3 a.1 a.2.1⟩
theorem ok37:Ctr.ok prog 37 ctr37:=B3 (G:={ gxb with fs:=[] }) (an:=AXA) (B4 trivial) func37 rfl rfl rfl rfl (fun a=>by kernel_rfl)
def AJA  : Option (List Asked):=some ([(Asked.mk 5 900 5 15),(Asked.mk 6 900 5 45),(Asked.mk 7 901 5 55),(Asked.mk 8 902 6 45)])
def AXB:An:=.x
def ctr54:Ctr:=⟨[],[.own (.sl 47 (.st 5))],fun a=>AJA ⟩
theorem ok54:Ctr.ok prog 54 ctr54:=B3 (G:={ gxb with fs:=[] }) (an:=AXB) (B4 trivial) func54 rfl rfl rfl rfl (fun a=>by kernel_rfl)
theorem ATn:SlT prog 24 45 (ReportE).n 64:=rsl24
def C5(d:Desk_99):Option Int:=Option.bind (α:=Bool) ((D9 (0:Int) (1000:Int) ([d.desk.terms.answer])).bind fun r3=>cond ((!r3)) (some true) ((D9 (0:Int) (100000:Int) ([d.desk.terms.mark,d.desk.terms.lately])).bind fun r4=>some (!r4))) ((fun x5=>cond (x5) (some (50:Int)) (some (0:Int))))
def AVs:An:=.nd .x (.nd (.nd (.jn [.norm ⟨[(.slot 22,.d .bool)],[]⟩] .x) .x) .x)
def ATo:Ctr:=⟨[.d (.st 10)],[.d (.int .i64)],fun a=>C5 a.1⟩
theorem ok202:Ctr.ok prog 202 ATo:=B3 (G:={ gxb with fs:=[(44,ctr44)] }) (an:=AVs) (B4 ⟨⟨ok44,call44⟩,trivial⟩) func202 rfl rfl rfl rfl (fun a=>by kernel_rfl)
def D5(d:Desk_99):Option Int:=(I9 d.desk.reports).bind fun r1=>some r1
def AVt:An:=.x
def ATp:Ctr:=⟨[.d (.st 10)],[.d (.int .i64)],fun a=>D5 a.1⟩
theorem ok203:Ctr.ok prog 203 ATp:=B3 (G:={ gxb with fs:=[(65,ctr65)] }) (an:=AVt) (B4 ⟨⟨ok65,call65⟩,trivial⟩) func203 rfl rfl rfl rfl (fun a=>by kernel_rfl)
def D8(x:Dispute)(a1_:Desk_99)(a2_:(A4 Int Bool)):Option Bool:=Option.bind (α:=Bool) (cond ((a1_.facts x.report).isSome) ((D9 (0:Int) (999999:Int) ([x.id])).bind fun r5=>cond (r5) (cond ((!((a2_ x.id).getD false))) ((chk .i64 (100000-a1_.desk.terms.answer)).bind fun n6=>(chk .i64 (n6-1)).bind fun n7=>(D9 (((a1_.facts x.report).getD (Report.mk 0 0 0 0 0 0 0 0)).made) n7 ([x.day])).bind fun r8=>some r8) (some false)) (some false)) (some false)) ((fun x9=>some x9))
def AVu:An:=.nd .x (.nd .x (.nd (.jn [.norm ⟨[(.slot 4,.d .bool)],[]⟩] .x) .x))
def ctr205:Ctr:=⟨[.d (.st 2),.pt (.st 10),.pt (.mp 3 (.int .i64) .bool)],[.d .bool],fun a=>D8 a.1 a.2.1 a.2.2.1⟩
theorem ok205:Ctr.ok prog 205 ctr205:=B3 (G:={ gxb with fs:=[(44,ctr44)] }) (an:=AVu) (B4 ⟨⟨ok44,call44⟩,trivial⟩) func205 rfl rfl rfl rfl (fun a=>by kernel_rfl)
def N1(l:List Dispute)(id:Dispute->Option Int)(right:Dispute->Option Bool):Option Bool:=(C0 (S:=(Int×(A4 Int Bool))) (R:=(Unit⊕Bool)) (fun (x16,x17)=>cond (decide (x16<(l.length:Int))) ((ixo l x16).bind fun y18=>Option.bind (α:=Bool) ((right y18).bind fun y19=>cond ((!y19)) (some true) ((id y18).bind fun y20=>some ((x17 y20).getD false))) ((fun x21=>cond (x21) (some (Sum.inr (Sum.inr false))) ((id y18).bind fun y22=>(chk .i64 (x16+1)).bind fun n23=>some (Sum.inl (n23,(B5 x17 y22 true))))))) (some (Sum.inr (Sum.inl ())))) ((0:Int),(fnone:(A4 Int Bool)))).bind ((Sum.elim (fun _=>some true) (fun r24=>some r24)))
def AVv:An:=.nd .x (.nd .x (.nd (.nd .x (.lp ⟨[(.slot 13,.d (.int .i64)),(.cont 10,.own (.mp 3 (.int .i64) .bool))],[10]⟩ [.exit 0 ⟨[],[]⟩,.ret] (.nd .x (.nd .x (.nd (.nd .x (.nd (.nd (.jn [.norm ⟨[(.slot 27,.d .bool)],[9,10]⟩] .x) .x) .x)) .x))))) .x))
def ctr206:Ctr:=⟨[.d (.sl (.st 2)),.fn [(.st 2)] (.int .i64),.fn [(.st 2)] .bool],[.d .bool],fun a=>N1 a.1 a.2.1 a.2.2.1⟩
theorem ok206:Ctr.ok prog 206 ctr206:=B3 (G:={ gxb with fs:=[] }) (an:=AVv) (B4 trivial) func206 rfl rfl rfl rfl (fun a=>by kernel_rfl)
def I6(x:Dispute):Option Int:=some x.id
def AVw:An:=.x
def ctr207:Ctr:=⟨[.d (.st 2)],[.d (.int .i64)],fun a=>I6 a.1⟩
theorem ok207:Ctr.ok prog 207 ctr207:=B3 (G:={ gxb with fs:=[] }) (an:=AVw) (B4 trivial) func207 rfl rfl rfl rfl (fun a=>by kernel_rfl)
def D6(d:Desk_99):Option Int:=(C0 (S:=(Int×(A4 Int Bool))) (R:=((A4 Int Bool))) (fun (x8,x9)=>cond (decide (x8<(d.desk.reports.length:Int))) ((ixo d.desk.reports x8).bind fun y10=>(chk .i64 (x8+1)).bind fun n11=>some (Sum.inl (n11,(B5 x9 y10.id true)))) (some (Sum.inr x9))) ((0:Int),(fnone:(A4 Int Bool)))).bind ((fun x12=>Option.bind (α:=Bool) (cond (decide (20<(d.desk.disputes.length:Int))) (some true) ((N1 d.desk.disputes (fun a16=>I6 a16) (fun a17=>D8 a17 d x12)).bind fun r18=>some (!r18))) ((fun x19=>cond (x19) (some (51:Int)) (some (0:Int))))))
def AVx:An:=.nd .x (.nd .x (.nd (.nd .x (.lp ⟨[(.slot 12,.d (.int .i64)),(.cont 7,.own (.mp 3 (.int .i64) .bool))],[3,7,1]⟩ [.exit 0 ⟨[(.cont 7,.own (.mp 3 (.int .i64) .bool))],[3,7,1]⟩] .x)) (.nd .x (.nd (.nd (.jn [.norm ⟨[(.slot 33,.d .bool)],[]⟩] .x) .x) .x))))
def ATq:Ctr:=⟨[.d (.st 10)],[.d (.int .i64)],fun a=>D6 a.1⟩
theorem ok204:Ctr.ok prog 204 ATq:=B3 (G:={ gxb with fs:=[(205,ctr205),(206,ctr206),(207,ctr207)] }) (an:=AVx) (B4 ⟨⟨ok205,call205⟩,⟨ok206,call206⟩,⟨ok207,call207⟩,trivial⟩) func204 rfl rfl rfl rfl (fun a=>by kernel_rfl)
def J0(x:Dispute)(a1_:Answer):Option Bool:=some (decide (x.id=a1_.dispute))
def AVy:An:=.x
def ctr210:Ctr:=⟨[.d (.st 2),.pt (.st 3)],[.d .bool],fun a=>J0 a.1 a.2.1⟩
theorem ok210:Ctr.ok prog 210 ctr210:=B3 (G:={ gxb with fs:=[] }) (an:=AVy) (B4 trivial) func210 rfl rfl rfl rfl (fun a=>by kernel_rfl)
def F6(a:Answer)(a1_:Desk_99):Option Bool:=(V2 a1_.desk.disputes (fun a1=>J0 a1 a)).bind fun r2=>Option.bind (α:=Bool) (cond (decide (r2<0)) (some true) ((D9 (0:Int) (999999:Int) ([a.id])).bind fun r5=>cond ((!r5)) (some true) ((D9 (0:Int) (100000:Int) ([a.day,a.about])).bind fun r6=>some (!r6)))) ((fun x7=>cond (x7) (some false) ((ixo a1_.desk.disputes r2).bind fun y8=>Option.bind (α:=Bool) (cond (decide (a.says=1)) (some (decide (a.says=1))) (some (decide (a.says=3)))) ((fun x9=>cond (x9) (Option.bind (α:=Bool) (cond (decide (a.about=0)) (some (decide (a.cents=0))) (some false)) ((fun x10=>some x10))) (cond (decide (a.says=2)) ((I9 ([(Report.mk (((a1_.facts y8.report).getD (Report.mk 0 0 0 0 0 0 0 0)).id) (((a1_.facts y8.report).getD (Report.mk 0 0 0 0 0 0 0 0)).source) (((a1_.facts y8.report).getD (Report.mk 0 0 0 0 0 0 0 0)).account) (((a1_.facts y8.report).getD (Report.mk 0 0 0 0 0 0 0 0)).made) a.about (((a1_.facts y8.report).getD (Report.mk 0 0 0 0 0 0 0 0)).kind) a.cents (((a1_.facts y8.report).getD (Report.mk 0 0 0 0 0 0 0 0)).of_))])).bind fun r11=>some (decide (r11=0))) (some false)))))))
def AVz:An:=.nd .x (.nd .x (.nd (.nd (.jn [.norm ⟨[(.slot 28,.d .bool)],[2]⟩] .x) .x) (.nd .x (.nd .x (.nd (.nd .x (.nd (.nd .x (.jn [.norm ⟨[(.slot 47,.d .bool)],[5,2]⟩] .x)) (.nd (.nd (.jn [.norm ⟨[(.slot 3,.d .bool)],[]⟩] .x) .x) .x))) .x)))))
def ctr209:Ctr:=⟨[.d (.st 3),.pt (.st 10)],[.d .bool],fun a=>F6 a.1 a.2.1⟩
theorem ok209:Ctr.ok prog 209 ctr209:=B3 (G:={ gxb with fs:=[(44,ctr44),(55,ctr55),(65,ctr65),(210,ctr210)] }) (an:=AVz) (B4 ⟨⟨ok44,call44⟩,⟨ok55,call55⟩,⟨ok65,call65⟩,⟨ok210,call210⟩,trivial⟩) func209 rfl rfl rfl rfl (fun a=>by kernel_rfl)
def P3(l:List Answer)(id:Answer->Option Int)(right:Answer->Option Bool):Option Bool:=(C0 (S:=(Int×(A4 Int Bool))) (R:=(Unit⊕Bool)) (fun (x16,x17)=>cond (decide (x16<(l.length:Int))) ((ixo l x16).bind fun y18=>Option.bind (α:=Bool) ((right y18).bind fun y19=>cond ((!y19)) (some true) ((id y18).bind fun y20=>some ((x17 y20).getD false))) ((fun x21=>cond (x21) (some (Sum.inr (Sum.inr false))) ((id y18).bind fun y22=>(chk .i64 (x16+1)).bind fun n23=>some (Sum.inl (n23,(B5 x17 y22 true))))))) (some (Sum.inr (Sum.inl ())))) ((0:Int),(fnone:(A4 Int Bool)))).bind ((Sum.elim (fun _=>some true) (fun r24=>some r24)))
def AV0:An:=.nd .x (.nd .x (.nd (.nd .x (.lp ⟨[(.slot 13,.d (.int .i64)),(.cont 10,.own (.mp 3 (.int .i64) .bool))],[10]⟩ [.exit 0 ⟨[],[]⟩,.ret] (.nd .x (.nd .x (.nd (.nd .x (.nd (.nd (.jn [.norm ⟨[(.slot 27,.d .bool)],[9,10]⟩] .x) .x) .x)) .x))))) .x))
def ctr211:Ctr:=⟨[.d (.sl (.st 3)),.fn [(.st 3)] (.int .i64),.fn [(.st 3)] .bool],[.d .bool],fun a=>P3 a.1 a.2.1 a.2.2.1⟩
theorem ok211:Ctr.ok prog 211 ctr211:=B3 (G:={ gxb with fs:=[] }) (an:=AV0) (B4 trivial) func211 rfl rfl rfl rfl (fun a=>by kernel_rfl)
def N6(a:Answer):Option Int:=some a.id
def AV1:An:=.x
def ctr212:Ctr:=⟨[.d (.st 3)],[.d (.int .i64)],fun a=>N6 a.1⟩
theorem ok212:Ctr.ok prog 212 ctr212:=B3 (G:={ gxb with fs:=[] }) (an:=AV1) (B4 trivial) func212 rfl rfl rfl rfl (fun a=>by kernel_rfl)
def F1(d:Desk_99):Option Int:=Option.bind (α:=Bool) (cond (decide (40<(d.desk.answers.length:Int))) (some true) ((P3 d.desk.answers (fun a4=>N6 a4) (fun a5=>F6 a5 d)).bind fun r6=>some (!r6))) ((fun x7=>cond (x7) (some (52:Int)) (some (0:Int))))
def AV2:An:=.nd .x (.nd .x (.nd (.nd (.jn [.norm ⟨[(.slot 17,.d .bool)],[]⟩] .x) .x) .x))
def ATr:Ctr:=⟨[.d (.st 10)],[.d (.int .i64)],fun a=>F1 a.1⟩
theorem ok208:Ctr.ok prog 208 ATr:=B3 (G:={ gxb with fs:=[(209,ctr209),(211,ctr211),(212,ctr212)] }) (an:=AV2) (B4 ⟨⟨ok209,call209⟩,⟨ok211,call211⟩,⟨ok212,call212⟩,trivial⟩) func208 rfl rfl rfl rfl (fun a=>by kernel_rfl)
end Go.Proofs.YtgioiejbphljoaaGreatDoor
end
