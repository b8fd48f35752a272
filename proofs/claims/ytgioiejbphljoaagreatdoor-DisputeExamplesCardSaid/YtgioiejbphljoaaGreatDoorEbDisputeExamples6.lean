/-
  Part DisputeExamples 6 of the texts that the statement's proof stands on: what memory holds, how code is walked, what the functions reckon. In the order in which they build.
-/
import Derived.OrdersIn
import Derived.Scope
import Derived.Test.YtgioiejbphljoaaGreatDoorEbDisputeExamples5
open List (mem_append mem_cons mem_map mem_singleton toArray)
open Nat (beq blt)
set_option linter.unusedVariables false
set_option linter.unusedSectionVars false
noncomputable section
namespace Go.Rx
open Go Go.Sx Go.RowKit
variable[Trk][Sg][Sf]
def Dr.run(r:Dr)(σ:AS):AS:=apps r.d r.as_ σ
def runE(T:List Dr):List Nat->AS->AS
 |[],σ=>σ
 |k::e,σ=>runE T e (match T[k]? with
  |some r=>r.run σ
  |none=>σ)
theorem Eqv.runE{T:List Dr}:∀(e:List Nat) {σ σ':AS},Eqv σ σ'->Eqv (runE T e σ) (runE T e σ')
 |[],_,_,h=>h
 |k::e,σ,σ',h=>by
  simp only[Rx.runE];refine Eqv.runE e ?_;cases T[k]? with
  |none=>exact h
  |some r=>exact h.apps r.d r.as_
theorem runE_app{T:List Dr}:∀(e1 e2:List Nat) (σ:AS),runE T (e1++e2) σ=runE T e2 (runE T e1 σ)
 |[],_,_=>rfl
 |k::e,e2,σ=>runE_app e e2 _
def IndR(a b:Dr):Prop:=∀x∈a.as_,∀y∈b.as_,Ind a.d x b.d y
theorem IndR.symm{a b:Dr}(h:IndR a b):IndR b a:=fun x hx y hy=>(h y hy x hx).symm
def IndT(T:List Dr)(j k:Nat):Prop:=∀a b,T[j]?=some a->T[k]?=some b->IndR a b
theorem IndT.symm{T:List Dr}{j k:Nat}(h:IndT T j k):IndT T k j:=fun a b I H=>(h b a H I).symm
theorem IndT.swap{T:List Dr}{j k:Nat}(h:IndT T j k)(σ:AS):Eqv (runE T [j,k] σ) (runE T [k,j] σ):=by
 simp only[runE];cases I:T[j]? with
 |none=>exact Eqv.refl _
 |some a=>
  cases H:T[k]? with
  |none=>exact Eqv.refl _
  |some b=>exact ATS σ a.as_ b.as_ (h a b I H)
theorem AHO{T:List Dr}{k:Nat}:∀(e:List Nat) (σ:AS),(∀j∈e,IndT T j k)->Eqv (runE T (e++[k]) σ) (runE T (k::e) σ)
 |[],σ,_=>Eqv.refl _
 |j::e,σ,h=>by
  have I:=AHO (T:=T) (k:=k) e (runE T [j] σ) fun i hi=>h i (AX0 _ hi);have H:=Eqv.runE (T:=T) e ((h j (AX4 ..)).swap σ);exact I.trans H
theorem ADC{T:List Dr}{O:Nat->Nat->Prop}(E:∀j k,j≠k->IndT T j k\/O j k\/O k j):∀(e' e:List Nat) (σ:AS),e.Perm e'->e'.Nodup->e.Pairwise (fun j k=>¬O k j)->e'.Pairwise (fun j k=>¬O k j)->Eqv (runE T e σ) (runE T e' σ)
 |[],e,σ,U,_,_,_=>by
  have:e=[]:=U.eq_nil;subst this;exact Eqv.refl _
 |k::r,e,σ,U,K,N,R=>by
  have hk:k∈e:=U.mem_iff.2 (AX4 ..);obtain⟨e1,e2,rfl⟩:=List.append_of_mem hk;obtain⟨C,W⟩:=List.nodup_cons.1 K;obtain⟨Z,X⟩:=List.pairwise_cons.1 R;obtain⟨G,B,F⟩:=List.pairwise_append.1 N;have H:(e1++e2).Perm r:=by
   have:(k::(e1++e2)).Perm (k::r):=(List.perm_middle.symm).trans U;exact List.Perm.cons_inv this
  have J:∀j∈e1,IndT T j k:=fun j D=>by
   have I:j∈r:=H.mem_iff.1 (AX2 _ D);have V:j≠k:=fun e=>C (e▸I);rcases E j k V with h|h|h
   . exact h
   . exact absurd h (Z j I)
   . exact absurd h (F j D k (AX4 ..))
  have s1:Eqv (runE T (e1++k::e2) σ) (runE T (k::(e1++e2)) σ):=by
   have A:runE T (k::(e1++e2)) σ=runE T e2 (runE T (k::e1) σ):=runE_app (k::e1) e2 σ;rw[show e1++k::e2=(e1++[k])++e2 by simp,runE_app (e1++[k]) e2,A];exact(AHO e1 σ J).runE e2
  refine s1.trans ?_;show Eqv (runE T (e1++e2) (runE T [k] σ)) (runE T r (runE T [k] σ));exact ADC E r (e1++e2) _ H W (List.pairwise_append.2 ⟨G,(List.pairwise_cons.1 B).2,fun a Y b Q=>F a Y b (AX0 _ Q)⟩) X
structure GInv(g:Gh)(σ:AS):Prop where
 o:∀t s,A1 σ.env t=some s->∀c∈S8 s,c∈g.o t
 r:∀j a,A1 σ.res j=some a->∀i∈ABI a,i∈g.r j
def GAct(g:Gh)(d:Option Nat):Ac->Prop
 |.put s=>∀t,d=some t->∀c∈S8 s,c∈g.o t
 |.new i r=>∀k∈ABI r,k∈g.r i
 |.sto i _ ns=>∀k∈O7 ns,k∈g.r i
 |.cnt _ _ _=>True
 |.hnd i r=>∀k∈ABI r,k∈g.r i
 |.del _ p=>AAv p=[]
theorem GAct.none{g:Gh}{d:Option Nat}{a:Ac}(h:GAct g d a){i:Nat}{p:Option Rp}(H:Z6 a=some (i,p)):Y5 p=[]:=by
 cases a<;>cases H<;>first|rfl|exact h
mutual
theorem AHP{i:Nat}{p:Option Rp}(I:Y5 p=[]){c:Nat}:∀{s:SV},c∈S8 (E4 i p s)->c∈S8 s
 |.own j,h=>by
  cases p with
  |none=>exact h
  |some p=>
   have h:c∈S8 (subS i p (.own j)):=h
   rcases ADn (i:=i) (p:=p) (j:=j) with⟨H,_⟩|⟨H,_⟩
   . obtain⟨k,hk,_⟩:=ACi h
     rw[H]at hk;cases hk
   . rw[H]at h;exact h
 |.ptr j o,h=>by
  cases p with
  |none=>exact h
  |some p=>
   have h:c∈S8 (subS i p (.ptr j o)):=h
   rcases AKW (i:=i) (p:=p) (j:=j) (o:=o) with⟨l,H,hl,_⟩|⟨H,_⟩|⟨H,_⟩
   . rw[H]at h
     obtain⟨k,hk,_⟩:=ACi h
     have hk:k∈Y5 (some p):=by rw[hl];exact hk
     rw[I]at hk;cases hk
   . rw[H]at h;cases h
   . rw[H]at h;exact h
 |.ep j t x z o,h=>by
  by_cases e:i=j
  . subst e;cases p with
    |none=>simp only[E4,oldS,beq_self,S8]at h ⊢;exact h
    |some p=>simp[E4,subS,S8]at h
  . rw[T3 _ (by simp[A9];exact e)]at h;exact h
 |.agg l,h=>ADo I (l:=l) h
 |.tup l,h=>ADo I (l:=l) h
 |.rp s o,h=>AHP I (s:=s) h
 |.ap s _ _ _,h=>AHP I (s:=s) h
 |.fn g l,h=>ADo I (l:=l) h
 |.int _ _,h|.bool _,h|.dat _ _,h|.str _ _,h|.ary _ _ _,h|.fv _ _ _,h|.nilS,h|.np _ _,h|.it _ _,h|.raw _,h|.undef,h|.dead,h=>h
theorem ADo{i:Nat}{p:Option Rp}(H:Y5 p=[]){c:Nat}:∀{l:List SV},c∈O7 (trL i p l)->c∈O7 l
 |[],h=>h
 |s::l,h=>by
  rcases mem_append.1 (show c∈S8 (E4 i p s)++O7 (trL i p l) from h) with h|h
  . exact AX2 _ (AHP H h)
  . exact AX3 _ (ADo H h)
end
theorem ARm{i:Nat}{p:Option Rp}(H:Y5 p=[]){a:AR}{c:Nat}(h:c∈ABI (trR i p a)):c∈ABI a:=by
 cases a with
 |own _ _ _=>cases h
 |row e l=>exact ADo H (l:=l) h
theorem GInv.app{g:Gh}{σ:AS}{d:Option Nat}{a:Ac}(h:GInv g σ)(V:GAct g d a):GInv g (a.app d σ):=by
 refine⟨fun t s U i hi=>?_,fun j r H i hi=>?_⟩
 . rw[env_app]at U;have key:(A1 σ.env t).map (fA a)=some s->i∈g.o t:=fun W=>by
    cases D:A1 σ.env t with
    |none=>rw[D]at W;cases W
    |some s0=>
     rw[D]at W
     have W:fA a s0=s:=AXz W
     subst W
     unfold fA at hi
     cases J:Z6 a with
     |none=>rw[J]at hi;exact h.o t s0 D i hi
     |some q=>
      obtain⟨j,p⟩:=q
      rw[J]at hi
      exact h.o t s0 D i (AHP (V.none J) hi)
   cases C:ABt a d with
   |none=>rw[C]at U;exact key U
   |some q=>
    obtain⟨e,s'⟩:=q
    rw[C]at U
    simp only at U
    split at U
    . rename_i F
      cases U
      cases a with
      |put s''=>
       cases d with
       |none=>cases C
       |some d=>cases C;exact V t (by rw[F]) i hi
      |_=>cases C
    . exact key U
 . rw[res_app]at H;cases J:Z6 a with
   |none=>rw[J]at H;exact h.r j r H i hi
   |some q=>
    obtain⟨k,p⟩:=q
    rw[J]at H
    simp only at H
    split at H
    . rename_i F
      subst F
      cases a with
      |put _=>cases J
      |new i' r'=>cases J;cases H;exact V i hi
      |del _ _=>cases H
      |hnd i' r'=>
       cases J
       cases I:A1 σ.res j with
       |none=>rw[I]at H;cases H
       |some b=>rw[I]at H;cases H;exact V i hi
      |cnt i' t xs=>
       cases J
       cases I:A1 σ.res j with
       |none=>rw[I]at H;cases H
       |some b=>
        rw[I]at H
        have H:Y2 t xs b=r:=AXz H
        subst H
        cases b with
        |row e l=>exact h.r j _ I i hi
        |own p t' ys=>
         simp only[Y2]at hi
         cases O:castO t t' xs with
         |none=>rw[O]at hi;cases hi
         |some zs=>rw[O]at hi;cases hi
      |sto i' o ns=>
       cases J
       cases I:A1 σ.res j with
       |none=>rw[I]at H;cases H
       |some b=>
        rw[I]at H
        have H:AAO o ns b=r:=AXz H
        subst H
        cases b with
        |own _ _ _=>cases hi
        |row e l=>
         cases E:setW l o ns with
         |none=>simp only[AAO,E]at hi;exact h.r j _ I i hi
         |some l'=>
          simp only[AAO,E]at hi
          rcases AKH l o E i hi with K|K
          . exact h.r j _ I i K
          . exact V i K
    . cases I:A1 σ.res j with
      |none=>rw[I]at H;cases H
      |some b=>
       rw[I]at H
       have H:trR k p b=r:=AXz H
       subst H
       exact h.r j b I i (ARm (V.none J) hi)
theorem GInv.run{g:Gh}{d:Option Nat}:∀(as_:List Ac) (σ:AS),GInv g σ->(∀a∈as_,GAct g d a)->GInv g (apps d as_ σ)
 |[],_,h,_=>h
 |a::as_,σ,h,H=>GInv.run as_ (a.app d σ) (h.app (H a (AX4 ..))) fun b I=>H b (AX0 _ I)
def View(lk F:List Nat)(σ σ':AS):Prop:=(∀t∈lk,A1 σ.env t=A1 σ'.env t)/\∀i∈F,A1 σ.res i=A1 σ'.res i
theorem View.trans{lk F:List Nat}{σ σ1 σ2:AS}(h:View lk F σ σ1)(k:View lk F σ1 σ2):View lk F σ σ2:=⟨fun t H=>(h.1 t H).trans (k.1 t H),fun i hi=>(h.2 i hi).trans (k.2 i hi)⟩
theorem View.symm{lk F:List Nat}{σ σ1:AS}(h:View lk F σ σ1):View lk F σ1 σ:=⟨fun t H=>(h.1 t H).symm,fun i hi=>(h.2 i hi).symm⟩
theorem Eqv.view{lk F:List Nat}{σ σ':AS}(h:Eqv σ σ'):View lk F σ σ':=⟨fun t _=>h.1 t,fun i _=>h.2 i⟩
structure Unseen(lk F:List Nat)(d:Option Nat)(a:Ac):Prop where
 w:∀c∈wcA a,c∉F
 d:∀t s,ABt a d=some (t,s)->t∉lk
variable{g:Gh}{σ:AS}{d:Option Nat}
theorem View.app{lk ft F:List Nat}{a:Ac}(W:GInv g σ)(hl:∀t∈lk,∀c∈g.o t,c∈F)(K:∀j∈ft,∀i∈g.r j,i∈F)(D:∀j∈ft,c1 j∈F)(h:Unseen lk F d a):View lk ft (a.app d σ) σ:=by
 refine⟨fun t U=>?_,fun j V=>?_⟩
 . rw[env_app];have key:(A1 σ.env t).map (fA a)=A1 σ.env t:=by
    cases J:A1 σ.env t with
    |none=>rfl
    |some s=>rw[AYV,AJK fun c I hm=>h.w c I (hl t U c (W.o t s J c hm))]
   cases E:ABt a d with
   |none=>exact key
   |some q=>
    obtain⟨e,s⟩:=q
    simp only
    rw[if_neg (show ¬e=t from fun H=>h.d e s E (H▸U))]
    exact key
 . rw[res_app];cases C:Z6 a with
   |none=>rfl
   |some q=>
    obtain⟨k,p⟩:=q
    have hk:=h.w _ (wc1 C)
    simp only
    rw[if_neg (show ¬j=k from fun H=>hk (H▸D j V))]
    cases J:A1 σ.res j with
    |none=>rfl
    |some b=>rw[AYV,AVR C fun c I hm=>h.w c I (K j V c (W.r j b J c hm))]
theorem View.apps{lk ft F:List Nat}(hl:∀t∈lk,∀c∈g.o t,c∈F)(W:∀j∈ft,∀i∈g.r j,i∈F)(J:∀j∈ft,c1 j∈F):∀(as_:List Ac) (σ:AS),GInv g σ->(∀a∈as_,GAct g d a)->(∀a∈as_,Unseen lk F d a)->View lk ft (Rx.apps d as_ σ) σ
 |[],σ,_,_,_=>(Eqv.refl σ).view
 |a::as_,σ,U,V,I=>(View.apps hl W J as_ (a.app d σ) (U.app (V a (AX4 ..))) (fun b H=>V b (AX0 _ H)) fun b H=>I b (AX0 _ H)).trans (View.app U hl W J (I a (AX4 ..)))
theorem GInv.runE{g:Gh}{T:List Dr}(H:∀r∈T,∀a∈r.as_,GAct g r.d a):∀(e:List Nat) {σ:AS},GInv g σ->GInv g (runE T e σ)
 |[],_,h=>h
 |k::e,σ,h=>by
  simp only[Rx.runE];refine GInv.runE H e ?_;cases hk:T[k]? with
  |none=>exact h
  |some r=>exact GInv.run r.as_ _ h (H r (AX1 hk))
theorem View.runE{T:List Dr}(V:∀r∈T,∀a∈r.as_,GAct g r.d a){lk ft F:List Nat}(hl:∀t∈lk,∀c∈g.o t,c∈F)(W:∀j∈ft,∀i∈g.r j,i∈F)(I:∀j∈ft,c1 j∈F):∀(e:List Nat) {σ:AS},GInv g σ->(∀k∈e,∀r,T[k]?=some r->∀a∈r.as_,Unseen lk F r.d a)->View lk ft (Rx.runE T e σ) σ
 |[],σ,_,_=>(Eqv.refl σ).view
 |k::e,σ,U,H=>by
  simp only[Rx.runE];have D:=H k (AX4 ..);cases hk:T[k]? with
  |none=>exact View.runE V hl W I e U fun j J=>H j (AX0 _ J)
  |some r=>
   have C:=V r (AX1 hk)
   exact(View.runE V hl W I e (GInv.run r.as_ _ U C) fun j J=>H j (AX0 _ J)).trans (View.apps hl W I r.as_ _ U C (D r hk))
theorem APi{T:List Dr}(B:∀r∈T,∀a∈r.as_,GAct g r.d a){O:Nat->Nat->Prop}(M:∀j k,j≠k->IndT T j k\/O j k\/O k j)(H:∀j k,O j k->j<k){k:Nat}{lk ft F:List Nat}(hl:∀t∈lk,∀c∈g.o t,c∈F)(f:∀j∈ft,∀i∈g.r j,i∈F)(P:∀j∈ft,c1 j∈F)(l:∀j,j≠k->O j k\/O k j\/∀r,T[j]?=some r->∀a∈r.as_,Unseen lk F r.d a){D:List Nat}(hD:D.Nodup)(Y:∀d∈D,∀j,O j d->j∈D)(V:D.Pairwise (fun j k=>¬O k j))(hk:k∉D)(X:∀j,O j k->j∈D)(L:GInv g σ):View lk ft (runE T D σ) (runE T (List.range k) σ):=by
 let D1:=D.filter fun j=>decide (j<k);let D2:=D.filter fun j=>!decide (j<k);let U:=(List.range k).filter fun j=>!D.contains j;have E:∀j,j≠k->¬O j k->¬O k j->∀r,T[j]?=some r->∀a∈r.as_,Unseen lk F r.d a:=fun j C W m=>by
  rcases l j C with h|h|h
  . exact absurd h W
  . exact absurd h m
  . exact h
 have a1:Eqv (runE T D σ) (runE T (D1++D2) σ):=by
  have A:D.Perm (D1++D2):=(List.filter_append_perm _ _).symm;refine ADC M (D1++D2) D σ A (A.nodup_iff.1 hD) V ?_;refine List.pairwise_append.2 ⟨V.sublist AYm,V.sublist AYm,fun a Q b K I=>?_⟩;have C:a<k:=by simpa using (List.mem_filter.1 Q).2
  have W:¬b<k:=by simpa using (List.mem_filter.1 K).2
  have:=H b a I;omega
 have a2:View lk ft (runE T (D1++D2) σ) (runE T D1 σ):=by
  rw[runE_app];refine View.runE B hl f P D2 (GInv.runE B D1 L) fun j Z=>?_;obtain⟨C,W⟩:=List.mem_filter.1 Z;have W:¬j<k:=by simpa using W
  have G:j≠k:=fun e=>hk (e▸C);exact E j G (fun I=>W (H j k I)) fun I=>hk (Y j C k I)
 have J:∀j,j∈D1↔j∈D/\j<k:=fun j=>by simp[D1]
 have hmemU:∀j,j∈U↔j<k/\j∉D:=fun j=>by simp[U]
 have a3:Eqv (runE T (List.range k) σ) (runE T (D1++U) σ):=by
  have S:(D1++U).Nodup:=List.nodup_append.2 ⟨hD.sublist AYm,(AZH).sublist AYm,fun a Q b K e=>by
   subst e;exact((hmemU a).1 K).2 ((J a).1 Q).1⟩
  have A:(List.range k).Perm (D1++U):=by
   refine(AYo AZH S).2 fun j=>?_;rw[AYY,J,hmemU,List.mem_range];by_cases h:j∈D<;>simp[h]
  refine ADC M (D1++U) (List.range k) σ A S ?_ ?_
  . refine AZx (R:=fun a b=>a<b) (fun {a b} N I=>?_) AZd;have:=H b a I;omega
  . refine List.pairwise_append.2 ⟨V.sublist AYm,?_,fun a Q b K I=>?_⟩
    . refine List.Pairwise.sublist AYm ?_;refine AZx (R:=fun a b=>a<b) (fun {a b} N I=>?_) AZd;have:=H b a I;omega
    . exact((hmemU b).1 K).2 (Y a ((J a).1 Q).1 b I)
 have a4:View lk ft (runE T (D1++U) σ) (runE T D1 σ):=by
  rw[runE_app];refine View.runE B hl f P U (GInv.runE B D1 L) fun j Z=>?_;obtain⟨C,W⟩:=(hmemU j).1 Z;exact E j (by omega) (fun I=>W (X j I)) fun I=>by have:=H k j I;omega
 exact(a1.view.trans a2).trans (a3.view.trans a4).symm
end Go.Rx
namespace Go.Rx
open Go Go.Sx Go.RowKit
variable[Trk][Sg][Sf]{P:Program}[Se P][Anch]
def Took[Fx](P:Program)[Se P](N:Nat)(ops:List Oper)(o:Oper)(q:Dr)(σ:AS):Prop:=
 q.d=o.dst/\(∀d,o.dst=some d->blt d N=true) /\
  (((o.guard=none\/∃g b t,o.guard=some (g,b)/\AB5 ops g=some t/\t∈q.lk/\A1 σ.env t=some (.bool b))/\Does P N o.dst o.op (ASt q.lk (A1 σ.env)) (ASu q.ft (A1 σ.res)) q.as_) \/
  (q.as_=[.put .undef]/\∃g b t,o.guard=some (g,b)/\AB5 ops g=some t/\t∈q.lk/\((∃c,c≠b/\A1 σ.env t=some (.bool c))\/A1 σ.env t=some .undef)))
theorem Took.eqv[Fx]{N:Nat}{ops:List Oper}{o:Oper}{q:Dr}{σ σ':AS}(h:Eqv σ σ')(k:Took P N ops o q σ):Took P N ops o q σ':=by
 have e1:A1 σ.env=A1 σ'.env:=funext h.1;have e2:A1 σ.res=A1 σ'.res:=funext h.2;unfold Took at k ⊢;rw[<-e1,<-e2];exact k
theorem AGd{T0 T1:List Dr}:∀(e:List Nat) (σ:AS),(∀k∈e,k<T0.length)->runE (T0++T1) e σ=runE T0 e σ
 |[],_,_=>rfl
 |k::e,σ,h=>by
  simp only[runE];rw[AYP (h k (AX4 ..))];exact AGd e _ fun j H=>h j (AX0 _ H)
variable{G:Gx}{N:Nat}{ops:List Oper}{Y:Type}{K:List Dr->AS->Option Y}{z:Y}{σ0:AS}{W:List Nat}
theorem AKY[Fx][Sl (P:=P)](R:GxOk P G):∀(l pre:List Oper) (T0:List Dr) (σc:AS),ops=pre++l->T0.length=pre.length->Eqv σc (runE T0 (List.range pre.length) σ0)->(∀t∈C1 l,t∈W)->ABG G N ops K l T0 σc=some z ->
  ∃T1 σe,K (T0++T1) σe=some z/\T1.length=l.length/\Eqv σe (runE (T0++T1) (List.range ops.length) σ0)/\Rel P W σc σe/\∀k o,pre.length<=k->ops[k]?=some o->∃q,(T0++T1)[k]?=some q/\Took P N ops o q (runE (T0++T1) (List.range k) σ0)
 |[],pre,T0,σc,C,hl,Y,_,h=>by
  have C:ops=pre:=by rw[C];simp
  subst C;refine⟨[],σc,by rw[AYO];exact h,rfl,by rw[AYO];exact Y,Rel.refl _,fun k o hk H=>?_⟩;rw[AYC hk]at H;cases H
 |o::r,pre,T0,σc,C,hl,Y,S,h=>by
  simp only[ABG]at h;have Z:∀t∈C1 r,t∈W:=fun t V=>S t (by
   simp only[C1];cases o.dst with
   |none=>exact V
   |some d=>exact AX0 _ V)
  have X:∀t,o.dst=some t->t∈W:=fun t V=>S t (by simp only[C1,V];exact AX4 ..);have next:∀(q:Dr) (σ1:AS),Eqv σ1 σc->Rel P W σc σ1->q.d=o.dst->Took P N ops o q σ1->ABG G N ops K r (T0++[q]) (apps o.dst q.as_ σ1)=some z ->
    ∃T1 σe,K (T0++T1) σe=some z/\T1.length=(o::r).length/\Eqv σe (runE (T0++T1) (List.range ops.length) σ0)/\Rel P W σc σe/\∀k o,pre.length<=k->ops[k]?=some o->∃q,(T0++T1)[k]?=some q/\Took P N ops o q (runE (T0++T1) (List.range k) σ0):=fun q σ1 E T j i f=>by
   have a:Eqv (apps o.dst q.as_ σ1) (runE (T0++[q]) (List.range (pre++[o]).length) σ0):=by
    rw[show(pre++[o]).length=pre.length+1 by simp,List.range_succ,runE_app,AGd (List.range pre.length) _ (fun k hk=>by rw[hl];exact List.mem_range.1 hk)];have M:(T0++[q])[pre.length]?=some q:=by rw[<-hl];simp
    simp only[runE,M,Dr.run,j];exact(E.trans Y).apps o.dst q.as_
   obtain⟨T1,σe,g1,g2,g3,g4,g5⟩:=AKY R r (pre++[o]) (T0++[q]) _ (by rw[C];simp) (by simp[hl]) a Z f
   rw[AYU,AZf]at g1 g3 g5
   refine⟨q::T1,σe,g1,by simp[g2],g3,T.trans ((Z5 o.dst X q.as_ σ1).trans g4),fun k o' hk H=>?_⟩
   rcases AYF pre.length k with I|e
   . exact g5 k o' (by simp;omega) H
   . have:k=pre.length:=by omega
     subst this
     have A:o'=o:=by
      rw[C]at H;simpa using H.symm
     subst A
     refine⟨q,by rw[<-hl];simp,?_⟩
     rw[AGd (List.range pre.length) _ (fun k hk=>by rw[hl];exact List.mem_range.1 hk)]
     exact i.eqv (E.trans Y)
  cases O:ACU N o.op o.dst with
  |false=>rw[O]at h;exact(A2 h).elim
  |true=>
   rw[O]at h
   simp only at h
   have I:=ALs O
   cases D:o.guard with
   |none=>
    rw[D]at h
    obtain⟨as_,E,T⟩:=AH8 (P:=P) R O h
    exact next ⟨o.dst,lkL o.op.operands.toList,as_,_⟩ σc (Eqv.refl _) (Rel.refl _) rfl ⟨rfl,I,.inl ⟨.inl D,T⟩⟩ E
   |some gb=>
    obtain⟨g,b⟩:=gb
    rw[D]at h
    simp only at h
    cases J:AB5 ops g with
    |none=>rw[J]at h;exact(A2 h).elim
    |some t=>
     rw[J]at h
     simp only at h
     cases F:A1 σc.env t with
     |none=>rw[F]at h;exact(A2 h).elim
     |some s=>
      rw[F]at h
      cases s with
      |bool c=>
       simp only at h
       have same:∀u,A1 ((t,.bool c)::σc.env) u=A1 σc.env u:=AKQ F
       have L:Eqv { σc with env:=(t,.bool c)::σc.env } σc:=⟨same,fun _=>rfl⟩
       have Q:Rel P W σc { σc with env:=(t,.bool c)::σc.env }:=Rel.same same
       have V:A1 ((t,.bool c)::σc.env) t=some (.bool c):=by rw[same];exact F
       by_cases U:c=b
       . have B:AJD G (AAx o.dst) (t::lkL o.op.operands.toList) { σc with env:=(t,.bool c)::σc.env } (fun as_=>ABG G N ops K r (T0++[⟨o.dst,t::lkL o.op.operands.toList,as_,ftO o.op (A1 ((t,.bool c)::σc.env)) (A1 σc.res) (t::lkL o.op.operands.toList)⟩]) (apps o.dst as_ { σc with env:=(t,.bool c)::σc.env })) o.op=some z:=by
          subst U;cases c<;>exact h
         obtain⟨as_,E,T⟩:=AH8 (P:=P) R O B
         exact next ⟨o.dst,t::lkL o.op.operands.toList,as_,_⟩ _ L Q rfl ⟨rfl,I,.inl ⟨.inr ⟨g,b,t,D,J,AX4 ..,by rw[<-U];exact V⟩,T⟩⟩ E
       . have B:ABG G N ops K r (T0++[⟨o.dst,[t],[.put .undef],[]⟩]) (apps o.dst [.put .undef] { σc with env:=(t,.bool c)::σc.env })=some z:=by
          cases c<;>cases b<;>first|exact absurd rfl U|exact h
         exact next ⟨o.dst,[t],[.put .undef],[]⟩ _ L Q rfl ⟨rfl,I,.inr ⟨rfl,g,b,t,D,J,AX4 ..,.inl ⟨c,U,V⟩⟩⟩ B
      |undef=>exact next ⟨o.dst,[t],[.put .undef],[]⟩ σc (Eqv.refl _) (Rel.refl _) rfl ⟨rfl,I,.inr ⟨rfl,g,b,t,D,J,AX4 ..,.inr F⟩⟩ h
      |int _ _|ary _ _ _|str _ _|agg _|fv _ _ _|fn _ _|dead|tup _|rp _ _|ptr _ _|ep _ _ _ _ _|dat _ _|own _|nilS|raw _|it _ _|np _ _|ap _ _ _ _=>exact(A2 h).elim
theorem AAf{l F:List Nat}(h:ABJ l F=true):∀i∈l,i∈F:=fun i hi=>has_iff.1 (List.all_eq_true.1 h i hi)
theorem AGe{l F:List Nat}(h:AMo l F=true):∀i∈l,i∉F:=fun i hi hm=>by
 have:=List.all_eq_true.1 h i hi;rw[has_iff.2 hm]at this;cases this
theorem ABM{a:Ac}{c:Nat}(h:c∈wcA a):∀{as_:List Ac},a∈as_->c∈wsC as_
 |b::l,hm=>by
  simp only[wsC];rcases mem_cons.1 hm with rfl|hm
  . exact AX2 _ h
  . exact AX3 _ (ABM h hm)
theorem AFi{g:Gh}:∀{T:List Dr} {tb:List (List Nat)} {l:List Oper} {k:Nat} {d:De},(mkE g T tb l)[k]?=some d->T[k]?=some d.r/\∃o,l[k]?=some o/\d.es=U1 o.after.toList
 |r::T,t::tb,o::l,0,d,h=>by
  have h:De.mk r (H5 g.o r.lk++(dbl r.ft++H5 g.r r.ft)) t (U1 o.after.toList)=d:=AXz h;subst h;exact⟨rfl,o,rfl,rfl⟩
 |r::T,t::tb,o::l,k+1,d,h=>by
  obtain⟨J,o',I,H⟩:=AFi (T:=T) (tb:=tb) (l:=l) (k:=k) h;exact⟨J,o',I,H⟩
 |[],_,_,_,_,h=>by cases h
 |_::_,[],_,_,_,h=>by cases h
 |_::_,_::_,[],_,_,h=>by cases h
theorem AKZ{f:Nat->De->Bool}:∀{l:List De} {k0 k:Nat} {d:De},AGI f k0 l=true->l[k]?=some d->f (k0+k) d=true
 |q::l,k0,0,d,h,hd=>by
  simp only[AGI,Bool.and_eq_true]at h;cases hd;exact h.1
 |q::l,k0,k+1,d,h,hd=>by
  simp only[AGI,Bool.and_eq_true]at h;have:=AKZ (k:=k) h.2 (by simpa using hd);rwa [show k0+1+k=k0+(k+1) by omega]at this
theorem AIn{d:De}:∀{l:List De} {j0 j:Nat} {q:De},AEB d j0 l=true->l[j]?=some q->j0+j∈d.tb\/ADM q d=true
 |p::l,j0,0,q,h,H=>by
  simp only[AEB,Bool.and_eq_true,Bool.or_eq_true]at h;cases H;exact h.1.imp has_iff.1 id
 |p::l,j0,j+1,q,h,H=>by
  simp only[AEB,Bool.and_eq_true]at h;have:=AIn (j:=j) h.2 (by simpa using H);rwa [show j0+1+j=j0+(j+1) by omega]at this
theorem AHQ:∀{l pre:List De} {j k:Nat} {a b:De},ADb pre l=true->(pre++l)[j]?=some a->(pre++l)[k]?=some b->j<k->pre.length<=k->j∈b.tb\/ADM a b=true
 |[],pre,j,k,a,b,_,_,H,_,hk=>by
  rw[AYO,AYC hk]at H;cases H
 |d::l,pre,j,k,a,b,h,J,H,I,hk=>by
  simp only[ADb,Bool.and_eq_true]at h;rcases AYF pre.length k with U|V
  . exact AHQ (l:=l) (pre:=pre++[d]) h.2 (by simpa using J) (by simpa using H) I (by simp;omega)
  . have:k=pre.length:=by omega
    subst this;have H:d=b:=by simpa using H
    subst H;rw[AYP I]at J;have:=AIn h.1 J;rwa [AYQ]at this
theorem AGf{a b:De}(h:ADM a b=true)(F:∀x∈a.r.as_,∀c∈coC x,c∈a.F\/c∈wsC a.r.as_)(E:∀x∈b.r.as_,∀c∈coC x,c∈b.F\/c∈wsC b.r.as_):
  IndR a.r b.r/\(∀x∈a.r.as_,Unseen b.r.lk b.F a.r.d x)/\∀y∈b.r.as_,Unseen a.r.lk a.F b.r.d y:=by
 simp only[ADM,Bool.and_eq_true]at h
 obtain⟨⟨⟨⟨U,W⟩,T⟩,Q⟩,O⟩:=h
 have d1:∀x s t,ABt s a.r.d=some (t,x)->t∉b.r.lk/\b.r.d≠some t:=fun x s t H=>by
  have hd:a.r.d=some t:=by
   cases s with
   |put s=>
    cases hd:a.r.d with
    |none=>rw[hd]at H;cases H
    |some d=>rw[hd]at H;cases H;rfl
   |_=>cases H
  rw[hd]at U;simp only[Bool.and_eq_true,Bool.not_eq_true']at U;refine⟨fun hm=>?_,fun D=>?_⟩
  . rw[has_iff.2 hm]at U;cases U.1
  . rw[D]at U;simp at U
 have d2:∀x s t,ABt s b.r.d=some (t,x)->t∉a.r.lk:=fun x s t H hm=>by
  have hd:b.r.d=some t:=by
   cases s with
   |put s=>
    cases hd:b.r.d with
    |none=>rw[hd]at H;cases H
    |some d=>rw[hd]at H;cases H;rfl
   |_=>cases H
  rw[hd]at W;simp only[Bool.not_eq_true']at W;rw[has_iff.2 hm]at W;cases W
 have w3:=AGe T
 have w4:=AGe Q
 have w5:=AGe O
 refine⟨fun x hx y hy=>⟨fun i p j q hi C e=>?_,fun c J hm=>?_,fun c J hm=>?_,fun t s t' s' H V e=>?_⟩,fun x hx=>⟨fun c J=>w3 c (ABM J hx),fun t s H=>(d1 s x t H).1⟩,fun y hy=>⟨fun c J=>w4 c (ABM J hy),fun t s H=>d2 s y t H⟩⟩
 . exact w5 (c1 i) (ABM (wc1 hi) hx) (e▸ABM (wc1 C) hy)
 . have I:=ABM J hy
   rcases F x hx c hm with h|h
   . exact w4 c I h
   . exact w5 c h I
 . have I:=ABM J hx
   rcases E y hy c hm with h|h
   . exact w3 c I h
   . exact w5 c I h
 . have K:=(d1 s x t H).2
   have hd:b.r.d=some t':=by
    cases y with
    |put s=>
     cases hd:b.r.d with
     |none=>rw[hd]at V;cases V
     |some d=>rw[hd]at V;cases V;rfl
    |_=>cases V
   exact K (e▸hd)
theorem APj{g:Gh}{d:Option Nat}{a:Ac}(h:AMn g d a=true):GAct g d a:=by
 cases a with
 |put s=>
  intro t H i hi
  subst H
  exact AAf h i hi
 |new i r=>exact AAf h
 |sto i o ns=>exact AAf h
 |cnt i t xs=>trivial
 |hnd i r=>exact AAf h
 |del i p=>
  have h:(match AAv p with
   |[]=>true
   |_=>false)=true:=h
  show AAv p=[]
  cases I:AAv p with
  |nil=>rfl
  |cons _ _=>rw[I]at h;cases h
theorem unionL_mem{f:Nat->List Nat}{c:Nat}:∀{l:List Nat},c∈H5 f l↔∃t∈l,c∈f t
 |[]=>by simp[H5]
 |x::l=>by simp[H5,unionL_mem (l:=l)]
structure Fine(ops:List Oper)(σ:AS)(T:List Dr)(g:Gh)(O:Nat->Nat->Prop)(F:Nat->List Nat):Prop where
 g0:GInv g σ
 act:∀r∈T,∀a∈r.as_,GAct g r.d a
 low:∀j k,O j k->j<k
 edge:∀(k:Nat) (o:Oper),ops[k]?=some o->∀e∈U1 o.after.toList,e<k
 clos:∀D:List Nat,(∀d∈D,∀o:Oper,ops[d]?=some o->∀e∈U1 o.after.toList,e∈D)->∀k:Nat,(∀o:Oper,ops[k]?=some o->∀e∈U1 o.after.toList,e∈D)->∀j,O j k->j∈D
 ind:∀j k,j≠k->IndT T j k\/O j k\/O k j
 lk:∀(k:Nat) (q:Dr),T[k]?=some q->∀t∈q.lk,∀c∈g.o t,c∈F k
 sub:∀(k:Nat) (q:Dr),T[k]?=some q->∀j∈q.ft,c1 j∈F k
 cl:∀(k:Nat) (q:Dr),T[k]?=some q->∀j∈q.ft,∀i∈g.r j,i∈F k
 un:∀(k:Nat) (q:Dr),T[k]?=some q->∀j,j≠k->O j k\/O k j\/∀r,T[j]?=some r->∀a∈r.as_,Unseen q.lk (F k) r.d a
theorem ALy{f:Nat->De->Bool}:∀{l:List De} {k0:Nat},(∀(k:Nat) (d:De),l[k]?=some d->f (k0+k) d=true)->AGI f k0 l=true
 |[],_,_=>rfl
 |d::l,k0,h=>by
  simp only[AGI,Bool.and_eq_true];exact⟨h 0 d rfl,ALy fun k d hd=>by
   have:=h (k+1) d hd;rwa [show k0+(k+1)=k0+1+k by omega]at this⟩
theorem AKa{d:De}:∀{l:List De} {j0:Nat},(∀(j:Nat) (q:De),l[j]?=some q->j0+j∈d.tb\/ADM q d=true)->AEB d j0 l=true
 |[],_,_=>rfl
 |q::l,j0,h=>by
  simp only[AEB,Bool.and_eq_true,Bool.or_eq_true];exact⟨(h 0 q rfl).imp has_iff.2 id,AKa fun j q H=>by
   have:=h (j+1) q H;rwa [show j0+(j+1)=j0+1+j by omega]at this⟩
theorem AIo:∀{l pre:List De},(∀(j k:Nat) (a b:De),(pre++l)[j]?=some a->(pre++l)[k]?=some b->j<k->pre.length<=k->j∈b.tb\/ADM a b=true)->ADb pre l=true
 |[],_,_=>rfl
 |d::l,pre,h=>by
  simp only[ADb,Bool.and_eq_true];refine⟨AKa fun j q H=>?_,AIo fun j k a b V U I hk=>?_⟩
  . have J:j<pre.length:=by
     rcases AYF j pre.length with h|h
     . exact h
     . rw[AYC h]at H;cases H
    rw[AYQ];exact h j pre.length q d (by rw[AYP J];exact H) (by simp) J (AYE _)
  . exact h j k a b (by simpa using V) (by simpa using U) I (by simp at hk;omega)
theorem AFF{t:List Nat}:∀{k j:Nat},j<k->j∈t\/j∈AEC t k
 |k+1,j,h=>by
  simp only[AEC];cases H:has t k with
  |true=>
   rw[cond_true]
   by_cases e:j=k
   . subst e;exact .inl (has_iff.1 H)
   . exact AFF (by omega)
  |false=>
   rw[cond_false]
   by_cases e:j=k
   . subst e;exact .inr (AX4 ..)
   . exact(AFF (k:=k) (by omega)).imp id (AX0 _)
theorem AIp:∀{tb:List (List Nat)} {k0 k:Nat} {f:List Nat},(AG6 k0 tb)[k]?=some f->∃t,tb[k]?=some t/\f=AEC t (k0+k)
 |t::r,k0,0,f,h=>by
  have h:AEC t k0=f:=AXz h;exact⟨t,rfl,h.symm⟩
 |t::r,k0,k+1,f,h=>by
  obtain⟨t',I,H⟩:=AIp (tb:=r) (k0:=k0+1) (k:=k) h;exact⟨t',I,by rw[H,show k0+1+k=k0+(k+1) by omega]⟩
 |[],_,_,_,h=>by cases h
theorem AIq{E:List De}:∀{l:List De} {fr:List (List Nat)} {k:Nat} {d:De},AJE E l fr=true->l[k]?=some d->∃f,fr[k]?=some f/\∀j∈f,∃q:De,E[j]?=some q/\ADM q d=true
 |d::l,fr,k,d',h,hd=>by
  cases fr with
  |nil=>cases h
  |cons f r=>
   have h:(f.all (APM E d)&&AJE E l r)=true:=h
   simp only[Bool.and_eq_true,List.all_eq_true]at h
   cases k with
   |zero=>
    have hd:d=d':=AXz hd
    subst hd
    refine⟨f,rfl,fun j I=>?_⟩
    have:=h.1 j I
    unfold APM at this
    cases H:nth E j with
    |none=>rw[H]at this;cases this
    |some q=>rw[H]at this;rw[AAt]at H;exact⟨q,H,this⟩
   |succ k=>exact AIq (l:=l) (fr:=r) (k:=k) h.2 hd
 |[],_,_,_,_,hd=>by cases hd
theorem AIr{tb0:List (List Nat)}:∀{tb:List (List Nat)} {l:List Oper} {k0 k:Nat} {t:List Nat} {o:Oper},AFV tb0 k0 tb l=true->tb[k]?=some t->l[k]?=some o->(∀j∈t,j<k0+k/\(j∈U1 o.after.toList\/∃e∈U1 o.after.toList,∃q,tb0[e]?=some q/\j∈q))/\∀e∈U1 o.after.toList,e<k0+k
 |t::r,o::l,k0,k,t',o',h,H,I=>by
  simp only[AFV,Bool.and_eq_true,List.all_eq_true,Nat.blt_eq,Bool.or_eq_true,List.any_eq_true]at h;obtain⟨⟨V,D⟩,C⟩:=h;cases k with
  |zero=>
   have H:t=t':=AXz H
   have I:o=o':=AXz I
   subst H;subst I
   refine⟨fun j U=>⟨(V j U).1,?_⟩,D⟩
   rcases (V j U).2 with h|⟨e,W,h⟩
   . exact .inl (has_iff.1 h)
   . unfold ASw at h
     cases J:nth tb0 e with
     |none=>rw[J]at h;cases h
     |some q=>rw[J]at h;rw[AAt]at J;exact .inr ⟨e,W,q,J,has_iff.1 h⟩
  |succ k=>
   have:=AIr (tb:=r) (l:=l) (k0:=k0+1) (k:=k) C H I
   rwa [show k0+1+k=k0+(k+1) by omega]at this
 |[],_,_,_,_,_,_,H,_=>by cases H
 |_::_,[],_,_,_,_,_,_,I=>by cases I
theorem AON{g:Gh}:∀{T:List Dr} {tb:List (List Nat)} {l:List Oper} {k:Nat} {d:De},(mkE g T tb l)[k]?=some d->tb[k]?=some d.tb
 |r::T,t::tb,o::l,0,d,h=>by
  have h:De.mk r (H5 g.o r.lk++(dbl r.ft++H5 g.r r.ft)) t (U1 o.after.toList)=d:=AXz h;subst h;rfl
 |r::T,t::tb,o::l,k+1,d,h=>AON (T:=T) (tb:=tb) (l:=l) (k:=k) h
 |[],_,_,_,_,h=>by cases h
 |_::_,[],_,_,_,h=>by cases h
 |_::_,_::_,[],_,_,h=>by cases h
theorem forceL_eq{Z:Type}:∀(l:List Nat) (K:List Nat->Z),ABb l K=K l
 |[],_=>rfl
 |x::l,K=>forceL_eq l _
theorem forceLL_eq{Z:Type}:∀(l:List (List Nat)) (K:List (List Nat)->Z),ADa l K=K l
 |[],_=>rfl
 |x::l,K=>by simp only[ADa,forceL_eq,forceLL_eq l]
theorem mkF_eq{Z:Type}{g:Gh}:∀(T:List Dr) (tb:List (List Nat)) (l:List Oper) (K:List De->Z),mkF g T tb l K=K (mkE g T tb l)
 |r::T,t::tb,o::l,K=>by
  simp only[mkF,forceL_eq,mkF_eq T tb l,mkE]
 |[],_,_,_=>rfl
 |_::_,[],_,_=>rfl
 |_::_,_::_,[],_=>rfl
theorem AQm{g:Gh}:∀{T:List Dr} {tb:List (List Nat)} {l:List Oper} {k:Nat} {d:De},(mkE g T tb l)[k]?=some d->d.F=H5 g.o d.r.lk++(dbl d.r.ft++H5 g.r d.r.ft)
 |r::T,t::tb,o::l,0,d,h=>by
  have h:De.mk r (H5 g.o r.lk++(dbl r.ft++H5 g.r r.ft)) t (U1 o.after.toList)=d:=AXz h;subst h;rfl
 |r::T,t::tb,o::l,k+1,d,h=>AQm (T:=T) (tb:=tb) (l:=l) (k:=k) h
 |[],_,_,_,_,h=>by cases h
 |_::_,[],_,_,_,h=>by cases h
 |_::_,_::_,[],_,_,h=>by cases h
theorem ACJ{l F:List Nat}(h:∀c∈l,c∈F):ABJ l F=true:=List.all_eq_true.2 fun c H=>has_iff.2 (h c H)
theorem AHR{s:SV}{i:Nat}(hi:i∈S8 s):∀{l:List Ac},Ac.put s∈l->i∈pOwn.unputs l
 |a::l,h=>by
  rcases mem_cons.1 h with h|h
  . subst h;exact AX2 _ hi
  . have:=AHR hi h;cases a with
    |put _=>exact AX3 _ this
    |_=>exact this
theorem AKb{s:SV}{i t:Nat}(hi:i∈S8 s){r:Dr}(hd:r.d=some t)(H:Ac.put s∈r.as_):∀{T:List Dr},r∈T->i∈pOwn t T
 |q::T,h=>by
  simp only[pOwn];rcases mem_cons.1 h with h|h
  . subst h;refine AX2 _ ?_;rw[hd];simp only[Nat.beq_refl,cond_true];exact AHR hi H
  . exact AX3 _ (AKb hi hd H h)
theorem AHS{a:Ac}{i c:Nat}(hi:idA a=some i)(H:c∈coR a):∀{l:List Ac},a∈l->c∈rOwn.unrows i l
 |b::l,h=>by
  simp only[rOwn.unrows];rcases mem_cons.1 h with h|h
  . subst h;refine AX2 _ ?_;rw[hi];simp only[Nat.beq_refl,cond_true];exact H
  . exact AX3 _ (AHS hi H h)
theorem AEO{a:Ac}{i c:Nat}(hi:idA a=some i)(H:c∈coR a){r:Dr}(I:a∈r.as_):∀{T:List Dr},r∈T->c∈rOwn i T
 |q::T,h=>by
  simp only[rOwn];rcases mem_cons.1 h with h|h
  . subst h;exact AX2 _ (AHS hi H I)
  . exact AX3 _ (AEO hi H I h)
theorem ARn{σ:AS}{T:List Dr}{r:Dr}{a:Ac}(I:r∈T)(J:a∈r.as_)(hd:ASx a=true):AMn (AB6 σ T) r.d a=true:=by
 cases a with
 |put s=>
  cases U:r.d with
  |none=>rfl
  |some t=>exact ACJ fun c H=>AX3 _ (AKb H U J I)
 |new i x=>exact ACJ fun c H=>AX3 _ (AEO (a:=.new i x) rfl H J I)
 |sto i o ns=>exact ACJ fun c H=>AX3 _ (AEO (a:=.sto i o ns) rfl H J I)
 |cnt i t x=>rfl
 |hnd i x=>exact ACJ fun c H=>AX3 _ (AEO (a:=.hnd i x) rfl H J I)
 |del i p=>exact hd
theorem AKc{t u:Nat}{o:List Nat}{r:List (Nat×List Nat)}:lkT (AJw t o r) u=if t=u then o else lkT r u:=by
 have hk:∀{r:List (Nat×List Nat)},ADc t r=false->lkT r t=[]:=by
  intro r;induction r with
  |nil=>intro _;rfl
  |cons p r ih=>
   intro h
   obtain⟨k,o⟩:=p
   simp only[ADc,Bool.or_eq_false_iff]at h
   show(bif beq k t then o else lkT r t)=[]
   rw[h.1,cond_false];exact ih h.2
 have H:∀{o:List Nat},lkT ((t,o)::r) u=if t=u then o else lkT r u:=fun {o}=>by
  show(bif beq t u then o else lkT r u)=_
  cases I:beq t u with
  |true=>rw[AYB (AX5 I)];rfl
  |false=>rw[if_neg fun e=>by subst e;simp at I];rfl
 cases o with
 |cons x l=>exact H
 |nil=>
  show lkT (bif ADc t r then(t,[])::r else r) u=_
  cases J:ADc t r with
  |true=>exact H
  |false=>
   rw[cond_false]
   by_cases e:t=u
   . subst e;rw[AYB rfl];exact hk J
   . rw[if_neg e]
theorem AKd{t:Nat}:∀{l:List (Nat×SV)},lkT (AGJ l) t=AMm (A1 l) t
 |[]=>rfl
 |(k,s)::l=>by
  show lkT (AJw k (S8 s) (AGJ l)) t=_;rw[AKc,AKd (l:=l)];unfold AMm;rw[fnd_cons];by_cases e:k=t
  . rw[AYB e,AYB e]
  . rw[if_neg e,if_neg e]
theorem AKe{t:Nat}:∀{l:List (Nat×AR)},lkT (AGK l) t=AMl (A1 l) t
 |[]=>rfl
 |(k,s)::l=>by
  show lkT (AJw k (ABI s) (AGK l)) t=_;rw[AKc,AKe (l:=l)];unfold AMl;rw[fnd_cons];by_cases e:k=t
  . rw[AYB e,AYB e]
  . rw[if_neg e,if_neg e]
theorem AIs{t:Nat}:∀{T:List Dr},ACX t (AGL T)=pOwn t T
 |[]=>rfl
 |r::l=>by
  simp only[AGL,pOwn];rw[<-AIs (T:=l)];cases r.d with
  |none=>rfl
  |some d=>
   simp only
   cases H:pOwn.unputs r.as_ with
   |nil=>simp
   |cons x q=>
    simp only[ACX]
    cases beq d t<;>rfl
theorem AHT{i:Nat}{z:List (Nat×List Nat)}:∀{l:List Ac},ACX i (AED l z)=rOwn.unrows i l++ACX i z
 |[]=>rfl
 |a::l=>by
  simp only[AED,rOwn.unrows];rw[AYU,<-AHT (l:=l)];cases idA a with
  |none=>rfl
  |some j=>
   simp only
   cases H:coR a with
   |nil=>simp
   |cons x q=>
    simp only[ACX]
    cases beq j i<;>rfl
theorem AIt{i:Nat}:∀{T:List Dr},ACX i (AJy T)=rOwn i T
 |[]=>rfl
 |r::l=>by
  show ACX i (AED r.as_ (AJy l))=rOwn.unrows i r.as_++rOwn i l;rw[AHT,AIt (T:=l)]
theorem ATT{σ:AS}{T:List Dr}:ghT (AGJ σ.env) (AGK σ.res) (AGL T) (AJy T)=AB6 σ T:=by
 unfold ghT AB6;congr 1
 . funext t;rw[AKd,AIs]
 . funext t;rw[AKe,AIt]
theorem AIu{Z:Type}:∀(l:List Dr) (K:List Dr->Z),AG8 l K=K l
 |[],_=>rfl
 |r::l,K=>by simp only[AG8,AIu l]
theorem forceT_eq{Z:Type}:∀(l:List (Nat×List Nat)) (K:List (Nat×List Nat)->Z),ACW l K=K l
 |[],_=>rfl
 |(t,o)::r,K=>by simp only[ACW,forceL_eq,forceT_eq r]
mutual
theorem forceS_eq{Z:Type}:∀(s:SV) (K:SV->Z),G2 s K=K s
 |.agg l,K=>by rw[G2];exact forceSL_eq l _
 |.fn g l,K=>by rw[G2];exact forceSL_eq l _
 |.tup l,K=>by rw[G2];exact forceSL_eq l _
 |.rp s o,K=>by rw[G2];exact forceS_eq s _
 |.ap s n x k,K=>by rw[G2];exact forceS_eq s _
 |.int k x,K=>by rw[G2]
 |.bool b,K=>by rw[G2]
 |.dat t x,K=>by rw[G2]
 |.str n x,K=>by rw[G2]
 |.ary k n x,K=>by rw[G2]
 |.own i,K=>by rw[G2]
 |.ptr i o,K=>by rw[G2]
 |.ep i t x z o,K=>by rw[G2]
 |.fv a r f,K=>by rw[G2]
 |.nilS,K=>by rw[G2]
 |.raw v,K=>by rw[G2]
 |.it ts xs,K=>by rw[G2]
 |.np t x,K=>by rw[G2]
 |.undef,K=>by rw[G2]
 |.dead,K=>by rw[G2]
theorem forceSL_eq{Z:Type}:∀(l:List SV) (K:List SV->Z),AAi l K=K l
 |[],K=>by rw[AAi]
 |s::l,K=>by rw[AAi,forceS_eq s];exact forceSL_eq l _
end
theorem AIv{Z:Type}:∀(l:List (Nat×SV)) (K:List (Nat×SV)->Z),AG7 l K=K l
 |[],_=>rfl
 |(t,s)::r,K=>by simp only[AG7,forceS_eq,AIv r]
theorem AFG{Z:Type}:∀(l:List (Nat×AR)) (K:List (Nat×AR)->Z),ADd l K=K l
 |[],_=>rfl
 |(t,.row e l)::r,K=>by simp only[ADd,forceSL_eq,AFG r]
 |(t,.own p c x)::r,K=>by simp only[ADd,AFG r]
theorem AOO{Z:Type}(σ:AS)(K:AS->Z):AJx σ K=K σ:=by unfold AJx;rw[AIv,AFG]
theorem APk{ops:List Oper}{σ:AS}{T:List Dr}(N:AFV (ABH ops) 0 (ABH ops) ops=true)(h:AJF ops (ABH ops) (AG6 0 (ABH ops)) (AGJ σ.env) (AGK σ.res) T=true):AMp ops σ T=true:=by
 unfold AJF at h;rw[AIu,forceT_eq,forceT_eq,mkF_eq,ATT]at h;unfold AMp;have B:AB6 σ T=AB6 σ T:=rfl;generalize A:AB6 σ T=g at h B ⊢;generalize K:mkE g T (ABH ops) ops=E at h;simp only[AQd,Bool.and_eq_true,List.all_eq_true]at h;obtain⟨⟨r,p⟩,n⟩:=h;have tb:∀(k:Nat) (d:De),E[k]?=some d->(ABH ops)[k]?=some d.tb:=fun k d hd=>by rw[<-K]at hd;exact AON hd
 have get:∀(k:Nat) (d:De),E[k]?=some d->∃o:Oper,ops[k]?=some o/\d.es=U1 o.after.toList:=fun k d hd=>by rw[<-K]at hd;exact(AFi hd).2
 have Q:∀{k:Nat} {d:De},E[k]?=some d->k<E.length:=fun {k d} hx=>by
  rcases AYF k E.length with h|h
  . exact h
  . rw[AYC h]at hx;cases hx
 have one:∀(k:Nat) (d:De),E[k]?=some d->(∀j∈d.tb,j<k/\(j∈d.es\/∃e∈d.es,∃q:De,E[e]?=some q/\j∈q.tb))/\∀e∈d.es,e<k:=fun k d hd=>by
  obtain⟨o,P,U⟩:=get k d hd;have:=AIr N (tb k d hd) P;rw[AYQ,<-U]at this;refine⟨fun j C=>⟨(this.1 j C).1,(this.1 j C).2.imp id ?_⟩,this.2⟩;rintro⟨e,U,q,W,I⟩;have M:=this.2 e U;have S:=Q hd;obtain⟨d',H⟩:∃d',E[e]?=some d':=⟨E[e]'(by omega),by rw[AX7]⟩;have:=tb e d' H;rw[W]at this;cases this;exact⟨e,U,d',H,I⟩
 simp only[APL,Bool.and_eq_true];refine⟨⟨r,ALy fun k d hd=>?_⟩,AIo fun j k a b J Z Y _=>?_⟩
 . rw[AYQ];have m:=p d (AX1 hd);have R:d.F=H5 g.o d.r.lk++(dbl d.r.ft++H5 g.r d.r.ft):=by rw[<-K]at hd;exact AQm hd
   have l:d.r∈T:=by
    have H:=hd;rw[<-K]at H;exact AX1 (AFi H).1
   have q1:(d.r.ft.all fun i=>has d.F (c1 i)&&ABJ (g.r i) d.F)=true:=List.all_eq_true.2 fun i hi=>by
    rw[Bool.and_eq_true,R];exact⟨has_iff.2 (AX3 _ (AX2 _ (AFh hi).2)),ACJ fun c G=>AX3 _ (AX3 _ (unionL_mem.2 ⟨i,hi,G⟩))⟩
   have q2:(d.r.lk.all fun t=>ABJ (g.o t) d.F)=true:=List.all_eq_true.2 fun t O=>by
    rw[R];exact ACJ fun c G=>AX2 _ (unionL_mem.2 ⟨t,O,G⟩)
   have q3:(d.r.as_.all fun a=>AMn g d.r.d a&&ABJ (coC a) (d.F++wsC d.r.as_))=true:=List.all_eq_true.2 fun a J=>by
    have V:=List.all_eq_true.1 m a J;rw[Bool.and_eq_true]at V ⊢;exact⟨by rw[<-A];exact ARn l J V.1,V.2⟩
   obtain⟨p1,p2⟩:=one k d hd;simp only[APK,Bool.and_eq_true];refine⟨⟨⟨⟨?_,?_⟩,q1⟩,q2⟩,q3⟩
   . simp only[List.all_eq_true,Bool.and_eq_true,Nat.blt_eq,Bool.or_eq_true,List.any_eq_true];refine fun j C=>⟨(p1 j C).1,(p1 j C).2.imp has_iff.2 ?_⟩;rintro⟨e,U,q,W,I⟩;refine⟨e,U,?_⟩;rw[AAt,W];exact has_iff.2 I
   . simp only[List.all_eq_true,Nat.blt_eq];exact p2
 . obtain⟨f,L,F⟩:=AIq n (show E[k]?=some b by simpa using Z);obtain⟨t,O,D⟩:=AIp L;rw[AYQ]at D;have V:=tb k b (by simpa using Z);rw[O]at V;cases V;rcases AFF (t:=b.tb) Y with X|X
   . exact .inl X
   . obtain⟨q,W,hi⟩:=F j (by rw[D];exact X);have J:E[j]?=some a:=by simpa using J
     rw[W]at J;cases J;exact .inr hi
theorem APl{ops:List Oper}{σ:AS}{T:List Dr}(hl:T.length=ops.length)(h:AMp ops σ T=true):∃g O F,Fine ops σ T g O F:=by
 unfold AMp at h;generalize v:AB6 σ T=g at h;generalize z:mkE g T (ABH ops) ops=E at h;simp only[APL,Bool.and_eq_true]at h;obtain⟨⟨h1,h2⟩,h3⟩:=h;have m:=AX5 h1;have get:∀(k:Nat) (d:De),E[k]?=some d->T[k]?=some d.r/\∃o:Oper,ops[k]?=some o/\d.es=U1 o.after.toList:=fun k d hd=>by rw[<-z]at hd;exact AFi hd
 have I:∀k:Nat,k<ops.length->∃d:De,E[k]?=some d:=fun k hk=>⟨E[k]'(by omega),by rw[AX7]⟩;have C:∀{α:Type} {l:List α} {k:Nat} {x:α},l[k]?=some x->k<l.length:=fun {α l k x} hx=>by
  rcases AYF k l.length with h|h
  . exact h
  . rw[AYC h]at hx;cases hx
 have one:∀(k:Nat) (d:De),E[k]?=some d->(∀j∈d.tb,j<k/\(j∈d.es\/∃e∈d.es,∃q:De,E[e]?=some q/\j∈q.tb))/\(∀e∈d.es,e<k)/\(∀i∈d.r.ft,c1 i∈d.F/\∀c∈g.r i,c∈d.F)/\(∀t∈d.r.lk,∀c∈g.o t,c∈d.F)/\∀a∈d.r.as_,GAct g d.r.d a/\∀c∈coC a,c∈d.F\/c∈wsC d.r.as_:=fun k d hd=>by
  have:=AKZ h2 hd;rw[AYQ]at this;simp only[APK,Bool.and_eq_true,List.all_eq_true,Nat.blt_eq,Bool.or_eq_true,List.any_eq_true]at this;obtain⟨⟨⟨⟨p1,p2⟩,p3⟩,p4⟩,p5⟩:=this;refine⟨fun j U=>⟨(p1 j U).1,?_⟩,p2,fun i hi=>⟨has_iff.1 (p3 i hi).1,fun c f=>AAf (p3 i hi).2 _ f⟩,fun t R=>AAf (p4 t R),fun a H=>⟨APj (p5 a H).1,fun c f=>mem_append.1 (AAf (p5 a H).2 c f)⟩⟩;rcases (p1 j U).2 with h|⟨e,A,h⟩
  . exact .inl (has_iff.1 h)
  . refine .inr ⟨e,A,?_⟩;rw[AAt]at h;cases J:E[e]? with
    |none=>rw[J]at h;cases h
    |some q=>rw[J]at h;exact⟨q,rfl,has_iff.1 h⟩
 have pair:∀(j k:Nat) (a b:De),E[j]?=some a->E[k]?=some b->j<k->j∈b.tb\/ADM a b=true:=fun j k a b H B Q=>AHQ (pre:=[]) h3 H B Q (AYh _);have co:∀(k:Nat) (d:De),E[k]?=some d->∀x∈d.r.as_,∀c∈coC x,c∈d.F\/c∈wsC d.r.as_:=fun k d hd x hx=>((one k d hd).2.2.2.2 x hx).2;let O:Nat->Nat->Prop:=fun j k=>∃d:De,E[k]?=some d/\j∈d.tb;let F:Nat->List Nat:=fun k=>match E[k]? with
  |some d=>d.F
  |none=>[]
 have Z:∀(k:Nat) (d:De),E[k]?=some d->F k=d.F:=fun k d hd=>by simp only[F,hd]
 have eT:∀(k:Nat) (q:Dr),T[k]?=some q->∃d,E[k]?=some d/\d.r=q:=fun k q J=>by
  obtain⟨d,hd⟩:=I k (by have:=C J;omega);have:=(get k d hd).1;rw[J]at this;exact⟨d,hd,(AXz this).symm⟩
 have low:∀j k,O j k->j<k:=fun j k ⟨d,hd,U⟩=>((one k d hd).1 j U).1;refine⟨g,O,F,?_,fun r V a H=>?_,low,fun k o G e A=>?_,fun D hD k hk j U=>?_,fun j k N=>?_,fun k q J t R i hi=>?_,fun k q J j U=>?_,fun k q J j U i hi=>?_,fun k q J j N=>?_⟩
 . rw[<-v];refine⟨fun t s p i hi=>AX2 _ (by simp only[AMm,p];exact hi),fun j a H i hi=>AX2 _ (by simp only[AMl,H];exact hi)⟩
 . obtain⟨k,hk⟩:=List.mem_iff_getElem?.1 V;obtain⟨d,hd,rfl⟩:=eT k r hk;exact((one k d hd).2.2.2.2 a H).1
 . obtain⟨d,hd⟩:=I k (C G);obtain⟨_,o',W,K⟩:=get k d hd;rw[G]at W;cases W;exact(one k d hd).2.1 e (by rw[K];exact A)
 . have key:∀n k:Nat,k<n->(∀o:Oper,ops[k]?=some o->∀e∈U1 o.after.toList,e∈D)->∀j,O j k->j∈D:=by
    intro n;induction n with
    |zero=>intro k hk;omega
    |succ n ih=>
     intro k u X j ⟨d,hd,U⟩
     obtain⟨_,o,G,K⟩:=get k d hd
     rcases ((one k d hd).1 j U).2 with h|⟨e,A,q,J,S⟩
     . exact X o G j (by rw[<-K];exact h)
     . have M:=X o G e (by rw[<-K];exact A)
       have:=(one k d hd).2.1 e A
       exact ih e (by omega) (fun o' W=>hD e M o' W) j ⟨q,J,S⟩
   exact key (k+1) k (by omega) hk j U
 . have main:∀j k,j<k->IndT T j k\/O j k:=fun j k Q=>by
    by_cases P:k<ops.length
    . obtain⟨b,B⟩:=I k P;obtain⟨a,H⟩:=I j (by omega);rcases pair j k a b H B Q with h|h
      . exact .inr ⟨b,B,h⟩
      . refine .inl fun x y hx hy=>?_;rw[(get j a H).1]at hx;rw[(get k b B).1]at hy;cases hx;cases hy
        exact(AGf h (co j a H) (co k b B)).1
    . exact .inl fun x y _ hy=>absurd (C hy) (by omega)
   rcases AYF j k with h|h
   . exact(main j k h).imp id .inl
   . exact(main k j (by omega)).imp IndT.symm .inr
 . obtain⟨d,hd,rfl⟩:=eT k q J;rw[Z k d hd];exact(one k d hd).2.2.2.1 t R i hi
 . obtain⟨d,hd,rfl⟩:=eT k q J;rw[Z k d hd];exact((one k d hd).2.2.1 j U).1
 . obtain⟨d,hd,rfl⟩:=eT k q J;rw[Z k d hd];exact((one k d hd).2.2.1 j U).2 i hi
 . obtain⟨d,hd,rfl⟩:=eT k q J;rw[Z k d hd];by_cases L:j<ops.length
   . obtain⟨a,H⟩:=I j L;rcases AYF j k with h|h
     . rcases pair j k a d H hd h with Y|Y
       . exact .inl ⟨d,hd,Y⟩
       . refine .inr (.inr fun r V x hx=>?_);rw[(get j a H).1]at V;cases V;exact(AGf Y (co j a H) (co k d hd)).2.1 x hx
     . rcases pair k j d a hd H (by omega) with Y|Y
       . exact .inr (.inl ⟨a,H,Y⟩)
       . refine .inr (.inr fun r V x hx=>?_);rw[(get j a H).1]at V;cases V;exact(AGf Y (co k d hd) (co j a H)).2.2 x hx
   . exact .inr (.inr fun r V=>absurd (C V) (by omega))
theorem Holds.eqv[Fx]{w0 w:World}{Mu M:List Nat}{σ σ':AS}{L:A7}(h:Holds w0 Mu M σ L w)(I:Eqv σ σ'):Holds w0 Mu M σ' L w:=by
 obtain⟨S,ρ,γ,μ,ι,h⟩:=h;have e2:A1 σ.res=A1 σ'.res:=funext I.2;exact⟨S,ρ,γ,μ,ι,h.hp,(by rw[<-e2];exact h.res),(by rw[<-e2];exact h.inj),(by rw[<-e2];exact h.row),fun t s H=>by
  rw[<-I.1]at H;rw[<-e2];exact h.env t s H,h.anch⟩
theorem ALz{e:Edge}:∀{l:List Edge},e∈l->Region.binds .any e=true->e.on∈U1 l
 |x::l,h,H=>by
  simp only[U1];rcases mem_cons.1 h with h|h
  . subst h;rw[H];exact AX4 ..
  . have:=ALz h H;cases Region.binds .any x with
    |true=>exact AX0 _ this
    |false=>exact this
theorem AIF{j:Nat}:∀{l:List Edge},j∈U1 l->∃e∈l,Region.binds .any e=true/\e.on=j
 |x::l,h=>by
  simp only[U1]at h;cases H:Region.binds .any x with
  |true=>
   rw[H,cond_true]at h
   rcases mem_cons.1 h with h|h
   . exact⟨x,AX4 ..,H,h.symm⟩
   . obtain⟨e,J,I⟩:=AIF h
     exact⟨e,AX0 _ J,I⟩
  |false=>
   rw[H,cond_false]at h
   obtain⟨e,J,I⟩:=AIF h
   exact⟨e,AX0 _ J,I⟩
variable{w0 w:World}{Mu M:List Nat}{σ:AS}{L:A7}{KN:AS->Option Y}{ds:List Deferred}{A B:A3}{X:Nat->A3}{Z:List PanicEntry->A3}
theorem AOP:∀{ops:List Oper} {i:Nat} {o:Oper} {t:Nat},ops[i]?=some o->t∈o.dst.toList->t∈C1 ops
 |[],_,_,_,h,_=>by cases h
 |o::r,0,o',t,h,H=>by
  have h:o=o':=AXz h;subst h;cases hd:o.dst with
  |none=>rw[hd]at H;cases H
  |some d=>
   rw[hd]at H
   have H:t∈[d]:=H
   simp only[C1,hd,mem_singleton.1 H]
   exact AX4 ..
 |o::r,i+1,o',t,h,H=>by
  have:=AOP (ops:=r) (i:=i) h H;simp only[C1];cases o.dst with
  |none=>exact this
  |some d=>exact AX0 _ this
theorem ALU[Fx]{T:List Dr}{σe:AS}{g:Gh}{O:Nat->Nat->Prop}{F:Nat->List Nat}(C:Fine ops σ T g O F)(htook:∀k o,ops[k]?=some o->∃q,T[k]?=some q/\Took P N ops o q (runE T (List.range k) σ))(hend:Eqv σe (runE T (List.range ops.length) σ)){L0:A7}{W:List Nat}(hWo:∀t∈C1 ops,t∈W)(hA:∀L' w',EnvS W L0 L'->Holds w0 Mu M σe L' w'->A ds L' w'):∀(n:Nat) (rem D:List Nat) (listed:Array Bool) (a:Act) (w:World) (L:A7),rem.length=n->rem.Nodup->(∀k,k∈rem↔k<ops.length/\listed.getD k false=false)->(∀k,k∈D↔k<ops.length/\listed.getD k false=true)->listed.size=ops.length->D.Nodup ->
   (∀d∈D,∀o,ops[d]?=some o->∀e∈U1 o.after.toList,e∈D)->D.Pairwise (fun j k=>¬O k j)->Knows N ds L a->EnvS W L0 L->Holds w0 Mu M (runE T D σ) L w->wpAny P .any (toArray ops) (R1 N A B X Z) n listed a w:=by
 have p:∀k:Nat,(toArray ops)[k]?=ops[k]?:=fun k=>by rw[AZT]
 have hsize:(toArray ops).size=ops.length:=by simp
 intro n
 induction n with
 |zero=>
  intro rem D listed a w L hl _ J V G hD _ hDo hk hE hH
  have he:rem=[]:=AYw hl
  have done:∀k,k<ops.length->listed.getD k false=true:=fun k hk=>by
   cases I:listed.getD k false with
   |true=>rfl
   |false=>have:=(J k).2 ⟨hk,I⟩;rw[he]at this;cases this
  refine⟨?_,ds,L,hk,hA L w hE (hH.eqv ?_)⟩
  . refine List.eq_nil_iff_forall_not_mem.2 fun k hk=>?_
    obtain⟨h0,o,ho,_⟩:=mem_ready.1 hk
    have K:k<ops.length:=by rw[<-hsize];exact(Array.getElem?_eq_some_iff.1 ho).1
    have:=done k K
    rw[ADU (by rw[G];exact K) true false,this]at h0;cases h0
  . have hp:D.Perm (List.range ops.length):=(AYo hD AZH).2 fun k=>by
     rw[V,List.mem_range];exact⟨fun h=>h.1,fun h=>⟨h,done k h⟩⟩
    refine Eqv.trans ?_ hend.symm
    refine ADC C.ind _ D σ hp AZH hDo ?_
    refine AZx (R:=fun a b=>a<b) (fun {a b} hab ho=>?_) AZd
    have:=C.low b a ho;omega
 |succ n ih=>
  intro rem D listed a w L hl hrn J V G hD hDc hDo hk hE hH
  have hgd:∀i,i<ops.length->listed.getD i true=listed.getD i false:=fun i hi=>ADU (by rw[G];exact hi) _ _
  have hne:rem≠[]:=fun h=>by rw[h]at hl;cases hl
  obtain⟨k0,hk0⟩:=List.exists_mem_of_ne_nil rem hne
  refine⟨fun h0=>?_,fun i hi=>?_⟩
  . exfalso
    have key:∀m k,k<ops.length->k<m->listed.getD k false=true:=by
     intro m;induction m with
     |zero=>intro k _ hm;omega
     |succ m ihm=>
      intro k hk hm
      cases I:listed.getD k false with
      |true=>rfl
      |false=>
       obtain⟨o,ho⟩:∃o,ops[k]?=some o:=⟨ops[k],by simp[hk]⟩
       have:k∈Region.ready .any (toArray ops) listed:=mem_ready.2 ⟨by rw[hgd k hk];exact I,o,by rw[p];exact ho,fun e he hbd=>by
        have:=C.edge k o ho e.on (ALz (Array.mem_toList_iff.2 he) hbd);exact ihm e.on (by omega) (by omega)⟩
       rw[h0]at this;cases this
    have:=key (k0+1) k0 ((J k0).1 hk0).1 (by omega)
    rw[((J k0).1 hk0).2]at this;cases this
  . obtain⟨hi0,o,U,hiall⟩:=mem_ready.1 hi
    rw[p]at U
    have his:i<ops.length:=by
     rcases AYF i ops.length with h|h
     . exact h
     . rw[AYC h]at U;cases U
    rw[hgd i his]at hi0
    have hlsz:i<listed.size:=by rw[G];exact his
    have l:∀j,j≠i->(listed.setIfInBounds i true).getD j false=listed.getD j false:=fun j Q=>getD_set_ne false (AZs Q)
    have hself:(listed.setIfInBounds i true).getD i false=true:=by simp[hlsz]
    have hiD:i∉D:=fun h=>by rw[((V i).1 h).2]at hi0;cases hi0
    have hie:∀o',ops[i]?=some o'->∀e∈U1 o'.after.toList,e∈D:=fun o' u e he=>by
     rw[U]at u;cases u;obtain⟨ed,h1,h2,h3⟩:=AIF he;have h4:=hiall ed (Array.mem_toList_iff.1 h1) h2;have h5:=C.edge i o U e he;exact(V e).2 ⟨by omega,by rw[<-h3];exact h4⟩
    have hDO:∀d∈D,∀j,O j d->j∈D:=fun d hd j Q=>C.clos D hDc d (hDc d hd) j Q
    have hiO:∀j,O j i->j∈D:=fun j Q=>C.clos D hDc i hie j Q
    obtain⟨q,hq,hqd,hlt,htk⟩:=htook i o U
    have hv:=APi C.act C.ind C.low (k:=i) (lk:=q.lk) (ft:=q.ft) (F:=F i) (C.lk i q hq) (C.cl i q hq) (C.sub i q hq) (C.un i q hq) hD hDO hDo hiD hiO C.g0
    have hrun:runE T (D++[i]) σ=apps o.dst q.as_ (runE T D σ):=by
     rw[runE_app];simp only[runE,hq,Dr.run,hqd]
    have rest:∀(a':Act) (w':World) (L':A7),Knows N ds L' a'->EnvS o.dst.toList L L'->Holds w0 Mu M (apps o.dst q.as_ (runE T D σ)) L' w'->wpAny P .any (toArray ops) (R1 N A B X Z) n (listed.setIfInBounds i true) a' w':=fun a' w' L' K hE' hH'=>by
     refine ih (rem.erase i) (D++[i]) _ a' w' L' ?_ (hrn.erase i) (fun k=>?_) (fun k=>?_) (by simp[G]) ?_ (fun d hd o' u e he=>?_) ?_ K (hE.trans (hE'.mono fun t ht=>hWo t (AOP U ht))) (by rw[hrun];exact hH')
     . rw[List.length_erase_of_mem ((J _).2 ⟨his,hi0⟩),hl];rfl
     . rw[hrn.mem_erase_iff,J];constructor
       . rintro⟨h5,z,h7⟩;exact⟨z,by rw[l k h5];exact h7⟩
       . rintro⟨h5,z⟩;by_cases E:k=i
         . subst E;rw[hself]at z;cases z
         . exact⟨E,h5,by rw[l k E]at z;exact z⟩
     . rw[AYY,AZp,V];constructor
       . rintro (⟨h5,z⟩|h5)
         . exact⟨h5,getD_set_true z⟩
         . subst h5;exact⟨his,hself⟩
       . rintro⟨h5,z⟩;by_cases E:k=i
         . exact .inr E
         . exact .inl ⟨h5,by rw[l k E]at z;exact z⟩
     . exact List.nodup_append.2 ⟨hD,by simp,fun a ha b I e=>by
        have I:b=i:=by simpa using I
        exact hiD (by rw[<-I,<-e];exact ha)⟩
     . rcases mem_append.1 hd with hd|hd
       . exact AX2 _ (hDc d hd o' u e he)
       . have hd:d=i:=by simpa using hd
         subst hd;exact AX2 _ (hie o' u e he)
     . refine List.pairwise_append.2 ⟨hDo,by simp,fun a ha b I ho=>?_⟩;have I:b=i:=by simpa using I
       subst I;exact hiD (hDO a ha b ho)
    obtain⟨S,ρ,γ,μ,ι,hS⟩:=hH
    have hguard:∀gd t,AB5 ops gd=some t->t∈q.lk->∀s,A1 (runE T (List.range i) σ).env t=some s->A1 (runE T D σ).env t=some s:=fun gd t _ ht s hs=>by rw[hv.1 t ht];exact hs
    unfold wpOp
    rw[p,U]
    simp only
    rcases htk with⟨y,hdo⟩|⟨has,gd,b,t,y,Q,ht,hc⟩
    . have hw:Region.wanted o (yielded (toArray ops) a.tmps)=true:=by
       rcases y with y|⟨gd,b,t,y,Q,ht,I⟩
       . simp[Region.wanted,y]
       . have h1:=hguard gd t Q ht _ I;obtain⟨v,Y,H⟩:=hS.env t _ h1;have H:v=Value.bool b:=H;subst H;simp only[Region.wanted,y,V8 hk (AC9 Q) Y,BEq.rfl]
      rw[AYB hw]
      left
      have h1:=hdo (ops:=toArray ops) (ds:=ds) (B:=B) (X:=X) (Z:=Z) (ty:=o.type) (pos:=o.pos) (af:=o.after) (σ:=runE T D σ) (fun x s hx=>?_) (fun j r hr=>?_) hS
      . have h2:=h1 a hk
        simp only[wpList]at h2
        rw[AYB (by simp[Region.wanted])]at h2
        refine ACh (h2.resolve_right fun hh=>ABV hh.2) ?_ (fun c a w hz=>hz) ABV
        rintro a' w' ⟨ds',L',K,rfl,hE',hH'⟩
        exact rest a' w' L' K hE' hH'
      . cases x with
        |tmp t=>
         have hx:(bif has q.lk t then A1 (runE T (List.range i) σ).env t else none)=some s:=hx
         cases I:has q.lk t with
         |false=>rw[I,cond_false]at hx;cases hx
         |true=>rw[I,cond_true]at hx;show A1 _ t=_;rw[hv.1 t (has_iff.1 I)];exact hx
        |const v=>exact hx
        |func f=>exact hx
        |global f=>
         have hx:(match Sf.gv f with
          |some s=>match A9 s with
           |[]=>some s
           |_=>none
          |none=>none)=some s:=hx
         show Sf.gv f=some s
         cases y:Sf.gv f with
         |none=>rw[y]at hx;exact(A2 hx).elim
         |some s0=>
          rw[y]at hx
          simp only at hx
          split at hx
          . exact hx
          . exact(A2 hx).elim
      . have hr:(bif has q.ft j then A1 (runE T (List.range i) σ).res j else none)=some r:=hr
        cases I:has q.ft j with
        |false=>rw[I,cond_false]at hr;cases hr
        |true=>
         rw[I,cond_true]at hr
         rw[hv.2 j (has_iff.1 I)]
         exact hr
    . have hw:Region.wanted o (yielded (toArray ops) a.tmps)=false:=by
       rcases hc with⟨c,hcb,hc⟩|hc
       . have h1:=hguard gd t Q ht _ hc;obtain⟨v,Y,H⟩:=hS.env t _ h1;have H:v=Value.bool c:=H;subst H;simp only[Region.wanted,y,V8 hk (AC9 Q) Y];simpa using hcb
       . have h1:=hguard gd t Q ht _ hc;obtain⟨v,Y,H⟩:=hS.env t _ h1;have H:v=Go.undef:=H;subst H;have hy:yielded (toArray ops) a.tmps gd=none:=by simp only[yielded,AC9 Q,Option.bind_some,hk.val t _ Y];rfl
         simp only[Region.wanted,y,hy];rfl
      rw[hw]
      simp only[Bool.false_eq_true,if_false]
      cases hd:o.dst with
      |none=>
       refine rest _ w L ?_ (EnvS.refl _ _) ?_
       . exact hk
       . rw[has,hd];exact⟨S,ρ,γ,μ,ι,hS⟩
      |some d=>
       refine rest _ w ((d,undef)::L) (hk.put (hlt d hd) _) (by rw[hd];exact EnvS.put _ _ _) ?_
       rw[has,hd]
       exact⟨S,ρ,γ,μ,ι,hS.put (s:=.undef) rfl⟩
theorem APm[Fx][Sl (P:=P)](f:GxOk P G)(h:AMq G N ops KN σ=some z)(D:∀t∈C1 ops,t∈W)(e:Holds w0 Mu M σ L w)(hA:∀σ' L' w',KN σ'=some z->Rel P W σ σ'->EnvS W L L'->Holds w0 Mu M σ' L' w'->A ds L' w'):∀a,Knows N ds L a->wpAny P .any (toArray ops) (R1 N A B X Z) (toArray ops).size (Array.replicate (toArray ops).size false) a { w with drawn:=w.drawn+1 }:=by
 unfold AMq at h;rw[AOO,forceT_eq,forceT_eq,forceLL_eq,forceLL_eq]at h;cases I:AFV (ABH ops) 0 (ABH ops) ops with
 |false=>rw[I]at h;exact(A2 h).elim
 |true=>
 rw[I]at h;obtain⟨T,σe,H,j,K,i,E⟩:=AKY (P:=P) (σ0:=σ) (W:=W) f ops [] [] σ (by simp) rfl (Eqv.refl _) D (show ABG G N ops _ ops [] σ=some z from h);simp only[List.nil_append]at H K E;cases J:AJF ops (ABH ops) (AG6 0 (ABH ops)) (AGJ σ.env) (AGK σ.res) T with
 |false=>rw[J]at H;exact(A2 H).elim
 |true=>
  rw[J]at H
  obtain⟨g,O,F,Y⟩:=APl j (APk I J)
  intro a b
  have U:Holds w0 Mu M σ L { w with drawn:=w.drawn+1 }:=by
   obtain⟨S,ρ,γ,μ,ι,c⟩:=e;exact⟨S,ρ,γ,μ,ι,c.ext (Kp.drew _ _)⟩
  refine ALU Y (fun k o Q=>E k o (AYh _) Q) K (L0:=L) D (fun L' w' C V=>hA σe L' w' H i C V) _ (List.range ops.length) [] _ a _ L (by simp) AZH (fun k=>?_) (fun k=>?_) (by simp) AZD (fun d hd=>by cases hd) List.Pairwise.nil b (EnvS.refl _ _) U
  . rw[List.mem_range]
    constructor
    . intro hk;exact⟨hk,by simp[hk]⟩
    . intro hk;exact hk.1
  . constructor
    . intro hk;cases hk
    . rintro⟨hk,R⟩;simp[hk]at R
end Go.Rx
namespace Go.Sx
open Go Go.RowKit
variable[Trk]
def Fw(r:Option Nat):Fence:={ Fence.wide with round:=r }
variable{n:Nat}{P:Program}{w:World}{o:Oper}{a:Act}{Q:Exit->Act->World->Prop}
theorem AM6{r:Option Nat}{f:FuncId}{args:Array Value}{R:Ending->World->Prop}(h:Calls P f args w R):CallsIn (Fw r) n P f args w R:=
 show CallsIn Fence.wide n P f args w R from callsIn_wide.2 h
theorem APn{r0:Option Nat}{next next':Act->World->Prop}(H:∀a w,next a w->next' a w){r:Result Next}(h:o.upon P a next Q r):o.uponIn (Fw r0) n P a next' Q r:=by
 unfold Oper.upon at h;split at h
 . exact H _ _ h
 . exact H _ _ h
 . exact H _ _ h
 . refine⟨fun e=>(by cases e),AM6 (h.mono fun e w2 I=>?_)⟩;cases e with
   |returned v=>exact H _ _ I
   |panicked c=>exact I
   |outgrown=>exact I
 . refine⟨fun e=>(by cases e),fun c cs _=>?_⟩;obtain⟨v,w2,I,J⟩:=h c cs;exact⟨v,w2,H _ _ I,(show StepsIn (Machine.fenced P Fence.wide) P _ _ from stepsIn_wide.2 J)⟩
 . exact h
 . exact h.elim
theorem AKf{r:Option Nat}(U:¬LetsOut Q){K K':Act->World->Prop}(hd:K8 o.op=true)(I:∀a w,K a w->K' a w)(h:o.wp P a w K Q\/(o.asks P a w/\LetsOut Q)):o.wpIn (Fw r) n P a w K' Q:=by
 rcases h with h|h
 . refine⟨fun _ _=>trivial,?_⟩;have H:Oper.semAt (Fw r).round a.eval o=execOp a.eval o:=Oper.semAt_eq _ _ _ fun c J=>by rw[J]at hd;simp[K8]at hd
   rw[H];exact APn I h
 . exact absurd h.2 U
theorem AGg{r:Option Nat}{n:Nat}{P:Program}{ops:Array Oper}{Q:Exit->Act->World->Prop}(I:¬LetsOut Q):∀{os:List Oper} {a:Act} {w:World},os.all (fun o=>K8 o.op)=true->wpList P ops Q os a w->wpListIn (Fw r) n P ops Q os a w
 |[],_,_,_,h=>h
 |o::os,a,w,hd,h=>by
  simp only[List.all_cons,Bool.and_eq_true]at hd;unfold wpList at h;unfold wpListIn;split at h
  . rename_i H;rw[AYB H];exact AKf I hd.1 (fun a w=>AGg I hd.2) h
  . rename_i H;rw[if_neg H];exact⟨fun _ _=>trivial,AGg I hd.2 h⟩
theorem AFj{r:Option Nat}{n:Nat}{P:Program}{ops:Array Oper}{md:Region.Mode}{Q:Exit->Act->World->Prop}(I:¬LetsOut Q)(hd:∀(i:Nat) (o:Oper),ops[i]?=some o->K8 o.op=true):∀(k:Nat) (ls:Array Bool) (a:Act) (w:World),wpAny P md ops Q k ls a w->wpAnyIn (Fw r) n P md ops Q k ls a w
 |0,_,_,_,h=>h
 |k+1,ls,a,w,⟨W,V⟩=>⟨W,fun i hi=>by
  have H:=V i hi;unfold wpOp at H;unfold wpOpIn;cases U:ops[i]? with
  |none=>rw[U]at H;exact AFj I hd k _ _ _ H
  |some o=>
   rw[U]at H
   simp only at H ⊢
   split at H
   . rename_i J
     rw[AYB J]
     exact AKf I (hd i o U) (fun a w=>AFj I hd k _ a w) H
   . rename_i J
     rw[if_neg J]
     exact⟨fun _ _=>trivial,AFj I hd k _ _ _ H⟩⟩
def CF(r:Option Nat)(n:Nat)(P:Program)(N:Nat)(c:Code)(ds:List Deferred)(L:A7)(w:World)(A B:A3)(X:Nat->A3)(Z:List PanicEntry->A3):Prop:=∀a,Knows N ds L a->c.wpIn (Fw r) n P (R1 N A B X Z) a w
variable{r:Option Nat}{N:Nat}{ds:List Deferred}{L:A7}{A B:A3}{X:Nat->A3}{Z:List PanicEntry->A3}{c:Code}{id:Nat}{os:List Oper}{x:Code}{y:Code}{b:Frame}{k:List Item}{cs:List Frame}
theorem Y1(h:CF none n P N c ds L w A B X Z):CW P N c ds L w A B X Z:=fun a H=>wpIn_wide.1 (h a H)
theorem AVT(h:CW P N c ds L w A B X Z):CF none n P N c ds L w A B X Z:=fun a H=>wpIn_wide.2 (h a H)
theorem AGh{l:Nat}(h:CF (some l) n P N c ds L w A B X Z):CI l n P N c ds L w A B X Z:=h
theorem AKg(hd:os.all (fun o=>K8 o.op)=true)(h:Reg P N os.toArray .seq os ds L w A B X Z):CF r n P N (.region id os.toArray false) ds L w A B X Z:=
 fun a H=>wpIn_region_lit (AGg AMc hd (h a H))
theorem AOQ(hm:P.follows .mixedOrders=true)(hd:os.all (fun o=>K8 o.op)=true)(h:∀a,Knows N ds L a->wpAny P .any os.toArray (R1 N A B X Z) os.toArray.size (Array.replicate os.toArray.size false) a { w with drawn:=w.drawn+1 }):CF r n P N (.region id os.toArray true) ds L w A B X Z:=
 fun a I=>wpIn_region_any hm (AFj AMc (fun i o H=>List.all_eq_true.1 hd o (AX1 (by simpa using H))) _ _ _ _ (h a I))
theorem AKh(h:CF r n P N x ds L w (fun ds' L' w'=>CF r n P N y ds' L' w' A B X Z) B X Z):CF r n P N (.seq x y) ds L w A B X Z:=fun a J=>
 wpIn_seq (wpIn_mono (h a J) fun e a' w' I=>by
  cases e with
  |normal=>obtain⟨ds',L',H,hk⟩:=I;exact hk a' H
  |_=>exact I)
theorem ACk(h:CF r n P N c ds L w A B NoX Z):CF r n P N c ds L w A B X Z:=fun a I=>
 wpIn_mono (h a I) fun e a' w' H=>by
  cases e with
  |exit i=>obtain⟨_,_,_,hx⟩:=H;exact hx.elim
  |_=>exact H
theorem ARo(h:A ds L w):CF r n P N .skip ds L w A B X Z:=fun a H=>wpIn_skip ⟨ds,L,H,h⟩
theorem ATU(h:B ds L w):CF r n P N .ret ds L w A B X Z:=fun a H=>wpIn_ret ⟨ds,L,H,h⟩
theorem APo{l:Nat}(h:A ds L w):CF r n P N (.label l) ds L w A B X Z:=fun a H=>wpIn_label ⟨ds,L,H,h⟩
theorem AAT{w:World}:step P (lone (b.atR a (.code (.scope c)::k)) cs w)=.next (lone (b.atR a (.code c::.inScope c::k)) cs w):=
 step_lone_go (by simp[stepG,stepG.exec,Frame.atR])
theorem AI9{w:World}:step P (lone (b.atR a (.inScope c::k)) cs w)=.next (lone (b.atR a k) cs w):=
 step_lone_go (by simp[stepG,stepG.exec,Frame.atR])
theorem APp(h:CF r n P N c ds L w A B X Z):CF r n P N (.scope c) ds L w A B X Z:=fun a D=>by
 intro b k cs U C W;have J:(lone (b.atR a (.code (.scope c)::k)) cs w).fenced P (Fw r):=fenced_calm C W rfl;obtain⟨e,a₁,w₁,I,H⟩:=h a D b (.inScope c::k) cs U C W;cases e with
 |normal=>exact⟨.normal,a₁,w₁,I,.head J AAT (StepsIn.trans H (.one (fenced_calm C W rfl) AI9))⟩
 |exit id=>
  have hx:exitTo id (.inScope c::k)=exitTo id k:=by simp[exitTo]
  exact⟨.exit id,a₁,w₁,I,fun k' hk=>.head J AAT (H.1 k' (by rw[hx];exact hk)),fun V hk=>let ⟨k₁,F,E⟩:=H.2 V (by rw[hx];exact hk);⟨k₁,F,.head J AAT E⟩⟩
 |goto l=>exact I.elim
 |ret=>exact⟨_,a₁,w₁,I,.of_steps (.one J AAT) H⟩
 |panic ch=>exact⟨_,a₁,w₁,I,.of_steps (.one J AAT) H⟩
 |outgrown=>exact I.elim
theorem ARp(h:X id ds L w):CF r n P N (.exit id) ds L w A B X Z:=fun a H=>wpIn_exit ⟨ds,L,H,h⟩
theorem ARq{c:Operand}{b:Bool}(I:ev L c=some (.bool b))(J:b=true->CF r n P N x ds L w A B X Z)(U:b=false->CF r n P N y ds L w A B X Z):CF r n P N (.cond c x y) ds L w A B X Z:=fun a H=>by
 cases b with
 |true=>exact wpIn_cond_true (H.eval I) (J rfl a H)
 |false=>exact wpIn_cond_false (H.eval I) (U rfl a H)
theorem APq(h:CF r n P N c ds L w A B (exB id A X) Z):CF r n P N (.block id c) ds L w A B X Z:=fun a U=>
 wpIn_block (wpIn_mono (h a U) fun e a' w' J=>by
  cases e with
  |exit i=>
   obtain⟨ds',L',H,hx⟩:=J
   simp only[Exit.inBlock]
   by_cases hi:i=id
   . subst hi
     rw[AYB rfl]
     exact⟨ds',L',H,by simpa[exB] using hx⟩
   . rw[if_neg hi]
     refine⟨ds',L',H,?_⟩
     have I:beq i id=false:=by
      cases I:beq i id with
      |false=>rfl
      |true=>exact absurd (AX5 I) hi
     simpa[exB,I] using hx
  |_=>exact J)
theorem ARr{ι:Type}(E:ι->A7)(I:ι->World->Prop)(μ:ι->Nat)(i0:ι)(Y:I i0 w)(K:Sub (E i0) L)(round:∀i w,I i w->CF r n P N c ds (E i) w (fun ds' L' w'=>ds'=ds/\∃i',I i' w'/\Sub (E i') L'/\μ i'<μ i) B X Z):CF r n P N (.loop c) ds L w A B X Z:=by
 intro a Q b k cs V D W;have key:∀j a w i,μ i=j->I i w->Knows N ds (E i) a ->
   ∃e a' w',(R1 N A B X Z) e a' w'/\ArrivesIn (Machine.fenced P (Fw r)) P (lone (b.atR a (.code c::.inLoop c::k)) cs w) b k cs e a' w':=by
  intro j
  induction j using Nat.strongRecOn with
  |_ j ih=>
   intro a w i O T hk
   obtain⟨e,a₁,w₁,J,H⟩:=round i w T a hk b (.inLoop c::k) cs V D W
   cases e with
   |normal=>
    obtain⟨ds₁,L₁,hk₁,rfl,i',F,U,C⟩:=J
    obtain⟨e₂,a₂,w₂,hq₂,harr₂⟩:=ih (μ i') (O▸C) a₁ w₁ i' rfl F (hk₁.sub U)
    exact⟨e₂,a₂,w₂,hq₂,.of_steps (StepsIn.trans H (.one (fenced_calm D W rfl) stepR_inLoop)) harr₂⟩
   |exit id=>exact⟨.exit id,a₁,w₁,J,.pass (x:=.inLoop c) rfl (fun _ _=>.inl (by simp)) H⟩
   |goto l=>exact J.elim
   |ret=>exact⟨.ret,a₁,w₁,J,.pass (x:=.inLoop c) rfl (fun _ _=>.inl (by simp)) H⟩
   |panic ch=>exact⟨.panic ch,a₁,w₁,J,.pass (x:=.inLoop c) rfl (fun _ _=>.inl (by simp)) H⟩
   |outgrown=>exact J.elim
 obtain⟨e,a',w',J,H⟩:=key _ a w i0 rfl Y (Q.sub K);exact⟨e,a',w',J,.of_steps (.one (fenced_calm D W rfl) stepR_loop) H⟩
end Go.Sx
namespace Go.Rx
open Go Go.Sx Go.RowKit
variable[Trk][Sg][Sf]{P:Program}[Se P]{t:Ty}{e:Nat}{M:List Nat}{M':List Nat}{w:World}{w':World}{v:Value}
theorem ARs{x y:List (den t)}(h:Sx.Own (enc (P:=P) t) e 0 M w v x)(U:Sx.Own (enc (P:=P) t) e 0 M' w' v y):y.length=x.length:=by
 rcases h with⟨a,rfl,rfl⟩|⟨g,cap,cur,rfl,_⟩
 . rcases U with⟨a',_,rfl⟩|⟨g',cap',cur',H,_⟩
   . rfl
   . injection H with H I J;omega
 . rcases U with⟨a',H,rfl⟩|⟨g',cap',cur',H,_⟩
   . injection H with H I J;omega
   . injection H with H I J;exact I.symm
theorem ATV{c:Oc}{x y:den c.ty}(h:(E9 (P:=P) [] v c x).holds M w)(C:(E9 (P:=P) [] v c y).holds M' w'){p:Bool}{xs:List (den t)}(H:AR.own false c x=.own p (.sl e t) xs):∃ys:List (den t),AR.own false c y=.own p (.sl e t) ys/\ys.length=xs.length:=by
 cases c with
 |mp m k u=>injection H with _ H;cases H
 |sl e1 t1=>
  injection H with W V I
  injection V with U J
  subst W;subst U;subst J
  have I:=eq_of_heq I
  subst I
  exact⟨y,rfl,ARs (P:=P) h C⟩
variable{ρ:Nat->Value}{R:Nat->Option AR}
theorem OkV.at:∀{ss:List SV} {vs:List Value} {i:Nat} {s:SV},OkV (P:=P) ρ R M w ss vs->ss[i]?=some s->∃v,vs[i]?=some v/\Ok (P:=P) ρ R M w s v
 |[],_,_,_,_,h=>by cases h
 |_::_,_,0,_,⟨u,r,H,J,_⟩,h=>by cases h;subst H;exact⟨u,rfl,J⟩
 |_::_,_,i+1,_,⟨u,r,H,_,I⟩,h=>by subst H;exact OkV.at I (i:=i) h
theorem OkV.erase:∀{ss:List SV} {vs:List Value} {i:Nat},OkV (P:=P) ρ R M w ss vs->OkV (P:=P) ρ R M w (ss.eraseIdx i) (vs.eraseIdx i)
 |[],_,_,h=>by have h:_=[]:=h;subst h;exact rfl
 |_::_,_,0,⟨u,r,I,_,H⟩=>by subst I;exact H
 |_::_,_,i+1,⟨u,r,I,J,H⟩=>by subst I;exact⟨u,_,rfl,J,OkV.erase (i:=i) H⟩
section
variable[Anch]{w0 w w':World}{Mu M:List Nat}{σ:AS}{L:A7}{S:List Res}{ρ:Nat->Value}{γ:Nat->List Value}{μ:Nat->List Nat}{ι:Nat->Nat}{G:Gx}{d:Option Nat}{g:Nat}{id:Nat}{ss:List SV}{ss':List SV}{c:CtrM}{j:Nat}{c':Oc}{x:den c'.ty}{x0:den c.c.ty}{a:E0 c.ps}{fz:List Ac}
theorem APr[Fx][Sl (P:=P)](h:HS w0 Mu M σ L w S ρ γ μ ι)(o:GxOk P G){xs:List Operand}{r:E2 c.rs×den c.c.ty}(F:∀ρ R M w vs,OkV (P:=P) ρ R M w ss vs->OkV (P:=P) ρ R M w ss' vs)(Z:evL (B2 σ.env) xs=some ss)(hc:A1 G.fm g=some c)(X:c.ag=none)(z:ss'[c.i]?=some (.own j))(hR:A1 σ.res j=some (.own false c' x))(hx:castO c' c.c x=some x0)(l:frz (A1 σ.res) (ownsLL (ss'.eraseIdx c.i))=some fz)(D:has (ownsLL (ss'.eraseIdx c.i)) j=false)(hd:I7 G (A1 σ.res) c.ps (ss'.eraseIdx c.i)=some a)(hF:c.F a x0=some r):
  ∃vs,evs L xs=some vs/\CallsV P (.func (.func g) #[] #[]) vs w fun e w'=>∃v,e=.returned v/\∃S' γ' ι',HS w0 Mu M (apps d (fz++[.cnt j c.c r.2]) σ) L w' S' ρ γ' μ ι'/\Ok ρ (A1 (apps d (fz++[.cnt j c.c r.2]) σ).res) (mm S' M) w' (bif c.self then .own j else AEx (H1 id c.rs r.1).1) v:=by
 obtain⟨A,hx⟩:=AAF hx
 subst A
 have hx:x=x0:=hx
 subst hx
 obtain⟨vs,h3,h4⟩:=h.evL Z
 have u:=F _ _ _ _ _ h4
 obtain⟨U,Y⟩:=FmOk.at o.fm hc
 unfold CtrM.ok at U
 rw[X]at U
 obtain⟨h0,K⟩:=U
 obtain⟨v,h6,h7,_⟩:=u.at z
 subst h7
 obtain⟨S1,ι1,k1,k2,k3⟩:=h.frzO (d:=d) l
 have k4:A1 (apps d fz σ).res j=some (.own false c.c x):=AGV fz σ (fun a Z=>by
  obtain⟨i,hi,q,rfl⟩:=ACI _ l a Z;exact⟨i,q,rfl,fun e=>by subst e;rw[has_iff.2 hi]at D;cases D⟩) hR
 have C:S1[ι1 j]?=some (E9 (P:=P) [] (ρ j) c.c x):=k1.res j _ k4
 have J:Hnd (ρ j) c.c:=k1.row j _ k4
 have I:∀b∈O8 c.c (ρ j)++mm (S1.eraseIdx (ι1 j)) M,b∈mm S1 M:=fun b H=>(mem_append.1 H).elim (fun H=>mem_mm.2 (.inl ⟨_,AX1 C,ADg H⟩)) fun H=>Z1 (AYK S1 (ι1 j)) H
 have B:∀b∈O8 c.c (ρ j),b∉mm (S1.eraseIdx (ι1 j)) M:=fun b H=>k1.hp.apart (ι1 j) C b (ADg H)
 have hargs:=ABK o h.anch.2 (M':=O8 c.c (ρ j)++mm (S1.eraseIdx (ι1 j)) M) (fun b H=>k3 b (I b H)) c.ps (w:=w) (ρ:=ρ) (γ:=γ) _ (k2.drop I) hd (u.erase (i:=c.i))
 have n:(E9 (P:=P) [] (ρ j) c.c x).holds (O8 c.c (ρ j)++mm (S1.eraseIdx (ι1 j)) M) w:=(E9 (P:=P) [] (ρ j) c.c x).adv (Adv.drop I) (fun _ _=>rfl) (k1.hp.get (ι1 j) C)
 refine⟨vs,h3,CallsV.go Y (AYO vs) (K (mm (S1.eraseIdx (ι1 j)) M) w a x (ρ j) (vs.eraseIdx c.i) vs r.1 r.2 (fun b H=>k1.hp.mlt b (I b H)) (k1.anch.2.adv (Adv.drop I)) B hargs h6 rfl J n hF) ?_⟩
 rintro e w' ⟨us,rfl,O,Q,W⟩
 have E:(E9 (P:=P) [] (ρ j) c.c x).fp=O8 c.c (ρ j):=ocR_fp
 have V:(E9 (P:=P) [] (ρ j) c.c r.2).fp=O8 c.c (ρ j):=ocR_fp
 have hk:Kp (E9 (P:=P) [] (ρ j) c.c x).fp w w':=by rw[E];exact Q
 have m:∀b∈(E9 (P:=P) [] (ρ j) c.c r.2).fp,b∈(E9 (P:=P) [] (ρ j) c.c x).fp\/w.heap.size<=b:=fun b H=>.inl (by rw[E];rw[V]at H;exact H)
 have y:=k1.hp.upd2 (r':=E9 (P:=P) [] (ρ j) c.c r.2) (ι1 j) C hk m (by rw[ocR_mu,ocR_mu]) fun M' N=>(E9 (P:=P) [] (ρ j) c.c r.2).adv (Adv.drop fun b H=>by
  rcases N b H with H|H
  . rw[V]at H;exact AX2 _ H
  . exact AX3 _ H) (fun _ _=>rfl) W
 have hA:=k1.hp.updA (r':=E9 (P:=P) [] (ρ j) c.c r.2) (ι1 j) C hk m
 have T:Y2 c.c r.2 (.own false c.c x)=.own false c.c r.2:=by simp only[Y2,castO,dif_pos]
 have s:=k1.upd (i:=j) (r:=.own false c.c r.2) (cs:=γ j) (g:=Y2 c.c r.2) (c:=[0]) k4 T y hA (fun p e t xs A=>ATV n W A) J
 obtain⟨_,_,k⟩:=AHC c.rs id h0 O
 cases hself:c.self with
 |true=>
  have f:=AJ3 J W
  refine⟨_,by rw[cond_true],_,_,_,by rw[E7];exact s,?_⟩
  rw[cond_true]
  exact⟨rfl,f⟩
 |false=>
 rw[cond_false,cond_false]
 refine⟨_,rfl,_,_,_,by rw[E7];exact s,AKF (k _ _ _ fun b H=>?_)⟩
 rcases ALY C H with H|H
 . have H:b∈(E9 (P:=P) [] (ρ j) c.c r.2).fp:=H
   rw[V]at H;exact AX2 _ H
 . exact AX3 _ H
theorem AVU[Fx][Sl (P:=P)]{N:Nat}{ops:Array Oper}{ds:List Deferred}{B:A3}{X:Nat->A3}{Z:List PanicEntry->A3}{ty:TypeId}{pos:String}{af:Array Edge}(h:HS w0 Mu M σ L w S ρ γ μ ι)(T:GxOk P G)(hN:(match d with|some d=>blt d N|none=>true)=true){xs:Array Operand}{ts:Array TypeId}{r:E2 c.rs×den c.c.ty}(I:∀ρ R M w vs,OkV (P:=P) ρ R M w ss vs->OkV (P:=P) ρ R M w ss' vs)(O:evL (B2 σ.env) xs.toList=some ss)(K:A1 G.fm g=some c)(U:c.ag=none)(F:ss'[c.i]?=some (.own j))(Q:A1 σ.res j=some (.own false c' x))(hx:castO c' c.c x=some x0)(E:frz (A1 σ.res) (ownsLL (ss'.eraseIdx c.i))=some fz)(J:has (ownsLL (ss'.eraseIdx c.i)) j=false)(hd:I7 G (A1 σ.res) c.ps (ss'.eraseIdx c.i)=some a)(Y:c.F a x0=some r):
  B7 P N ops ds L w ⟨d,.call ⟨.value (.func g),xs,ts⟩,ty,pos,af,none⟩ w0 Mu M (apps d (fz++[.cnt j c.c r.2,.put (bif c.self then .own j else AEx (H1 id c.rs r.1).1)]) σ) B X Z:=by
 obtain⟨vs,D,C⟩:=APr (d:=d) (id:=id) h T I O K U F Q hx E J hd Y
 obtain⟨xs⟩:=xs
 cases d with
 |some d=>
  refine ADV rfl D hN (C.mono ?_)
  rintro e w2 ⟨v,rfl,S',γ',ι',H,W⟩
  refine⟨v,rfl,?_⟩
  have V:=H.fin (N:=N) (ops:=ops) (ds:=ds) (B:=B) (X:=X) (Z:=Z) (d:=d) W
  rw[<-E7,AYU]at V
  exact V
 |none=>
  refine AD0 rfl D (C.mono ?_)
  rintro e w2 ⟨v,rfl,S',γ',ι',H,W⟩
  refine⟨v,rfl,Reg.nil ⟨rfl,EnvS.refl _ _,S',ρ,γ',μ,ι',?_⟩⟩
  rw[E7]at H ⊢
  exact H
theorem APs{o:Oper}{args:List Operand}(h:AGN G o=some (c,args)):o.guard=none/\∃g xs ts,o.op=.call ⟨.value (.func g),xs,ts⟩/\A1 G.fm g=some c/\args=xs.toList:=by
 unfold AGN at h;split at h
 . rename_i J I;split at h
   . rename_i H;cases h
     exact⟨J,_,_,_,I,H,rfl⟩
   . cases h
 . cases h
theorem APt{Z:Type}{z:Z}{R:Nat->Option AR}{K:List Ac->Option Z}(h:AMv G id R c K ss=some z):∃(j:Nat) (c':Oc) (x:den c'.ty) (x0:den c.c.ty) (a:E0 c.ps) (r:E2 c.rs×den c.c.ty) (fz:List Ac),ss[c.i]?=some (.own j)/\R j=some (.own false c' x)/\castO c' c.c x=some x0/\(frz R (ownsLL (ss.eraseIdx c.i))=some fz/\has (ownsLL (ss.eraseIdx c.i)) j=false)/\I7 G R c.ps (ss.eraseIdx c.i)=some a/\c.F a x0=some r/\K (fz++[.cnt j c.c r.2,.put (bif c.self then .own j else AEx (H1 id c.rs r.1).1)])=some z:=by
 unfold AMv at h;rw[AAt]at h;split at h
 . rename_i j D;split at h
   . rename_i c' x C;split at h
     . rename_i x0 W;split at h
       . rename_i fz a V H U;obtain⟨r,J,I⟩:=R0 h;exact⟨j,c',x,x0,a,r,fz,D,C,W,⟨V,H⟩,U,J,I⟩
       . cases h
     . cases h
   . cases h
 . cases h
end
end Go.Rx
namespace Go.Sx
open Go
variable[Trk]{w0 w w':World}{Mu M:List Nat}{σ:List Res}
theorem Hp.addLA[Fx](_:Hp w0 Mu M σ w)(e:Ext w w'){rs:List Res}(J:∀r∈rs,∀b∈r.fp,w.heap.size<=b/\b<w'.heap.size):Adv (mm σ M) (mm (rs++σ) M) w w':=
 ⟨e.kp,fun b H=>by
  rw[<-AJf]at H;rcases mem_mm.1 H with⟨r,I,H⟩|H
  . exact .inr (J r I b H).1
  . exact .inl H⟩
theorem Hp.addL[Fx](h:Hp w0 Mu M σ w)(e:Ext w w'){rs:List Res}(U:∀r∈rs,∀b∈r.fp,w.heap.size<=b/\b<w'.heap.size)(hm:∀r∈rs,r.mu=[])(hd:rs.Pairwise fun r r'=>∀b∈r.fp,b∉r'.fp)(O:∀r∈rs,r.holds (mm (rs++σ) M) w'):Hp w0 Mu M (rs++σ) w':=by
 have hA:=h.addLA e U;have F:=h.ext e;refine⟨F.kp,fun b H=>?_,h.adv.trans hA,h.base,fun s I b H V=>?_,fun s I=>?_,fun i j s s' hi W C b H J=>?_,fun s I=>?_,F.fx⟩
 . rw[<-AJf]at H;rcases mem_mm.1 H with⟨r,K,H⟩|H
   . exact(U r K b H).2
   . exact F.mlt b H
 . rcases mem_append.1 I with I|I
   . have:=(U s I b H).1;have:=h.ltM V;omega
   . exact h.sepM s I b H V
 . rcases mem_append.1 I with I|I
   . exact⟨(by rw[hm s I];intro b H;cases H),fun b H=>.inr (AYG h.kp.size (U s I b H).1)⟩
   . exact h.own s I
 . have old:∀{k:Nat} {q:Res},(rs++σ)[k]?=some q->rs.length<=k->σ[k-rs.length]?=some q:=fun hk E=>by rwa [AYX E]at hk
   have new:∀{k:Nat} {q:Res},(rs++σ)[k]?=some q->k<rs.length->rs[k]?=some q:=fun hk D=>by rwa [AYP D]at hk
   have lt:∀{k:Nat} {q:Res},σ[k]?=some q->∀x∈q.fp,x<w.heap.size:=fun hk x hx=>Res.lt _ (h.all _ (AX1 hk)) x hx;rcases AYF i rs.length with c1|c1<;>rcases AYF j rs.length with c2|c2
   . have T:=new hi c1;have Q:=new W c2;obtain⟨_,e1⟩:=List.getElem?_eq_some_iff.1 T;obtain⟨_,e2⟩:=List.getElem?_eq_some_iff.1 Q;rcases Nat.lt_or_gt_of_ne C with c|c
     . have:=List.pairwise_iff_getElem.1 hd i j c1 c2 c;rw[e1,e2]at this;exact this b H J
     . have:=List.pairwise_iff_getElem.1 hd j i c2 c1 c;rw[e1,e2]at this;exact this b J H
   . have:=lt (old W c2) b J;have:=(U s (AX1 (new hi c1)) b H).1;omega
   . have:=lt (old hi c1) b H;have:=(U s' (AX1 (new W c2)) b J).1;omega
   . exact h.dis _ _ s s' (old hi c1) (old W c2) (by omega) b H J
 . rcases mem_append.1 I with I|I
   . exact O s I
   . exact s.adv hA (fun b H=>e.block b (s.lt (h.all s I) b H) (by simp)) (h.all s I)
end Go.Sx
namespace Go.Rx
open Go Go.Sx Go.RowKit
variable[Trk][Sg][Sf]{P:Program}[Se P]
section
variable[Anch]{w0 w w':World}{Mu M:List Nat}{σ:AS}{L:A7}{S:List Res}{ρ:Nat->Value}{γ:Nat->List Value}{μ:Nat->List Nat}{ι:Nat->Nat}{G:Gx}{d:Option Nat}
theorem HS.extra[Fx](h:HS (P:=P) w0 Mu M σ L w S ρ γ μ ι){rs:List Res}(I:Hp w0 Mu M (rs++S) w')(hA:Adv (mm S M) (mm (rs++S) M) w w'):HS (P:=P) w0 Mu M σ L w' (rs++S) ρ γ μ (fun j=>ι j+rs.length):=
 ⟨I,fun i a hi=>by
  rw[AYX (by omega),Nat.add_sub_cancel];exact h.res i a hi,fun i j a b hi J W=>h.inj i j a b hi J (by omega),fun i a hi=>(h.row i a hi).adv hA,fun t s H=>by
  obtain⟨v,V,U⟩:=h.env t s H;exact⟨v,V,Ok.adv hA s U⟩,h.anch.adv hA⟩
theorem HS.name[Fx](h:HS (P:=P) w0 Mu M σ L w S ρ γ μ ι){i k:Nat}{r:AR}{v:Value}{cs:List Value}{mu:List Nat}(hk:S[k]?=some (G9 (P:=P) v cs mu r))(hfree:∀j a,A1 σ.res j=some a->ι j≠k)(D:RowOk (P:=P) (Q0 ρ i v) (A1 ((Ac.new i r).app none σ).res) (mm S M) w v cs r):
  HS (P:=P) w0 Mu M ((Ac.new i r).app none σ) L w S (Q0 ρ i v) (Q0 γ i cs) (Q0 μ i mu) (fun j=>if j=i then k else ι j):=by
 have hA:Adv (mm S M) (mm S M) w w:=⟨Kp.refl _ _,fun _ E=>.inl E⟩
 have W:∀j,A1 ((Ac.new i r).app none σ).res j=if j=i then some r else(A1 σ.res j).map (AR.sub i .dead):=fun j=>by
  show A1 ((i,r)::U6 i (R3 i .dead σ.res)) j=_;rw[fnd_cons,fnd_rdel,fnd_subR];by_cases e:j=i
  . subst e;simp
  . rw[if_neg (fun e'=>e e'.symm),if_neg e,if_neg e]
 have hρ:∀j,j≠i->Q0 ρ i v j=ρ j:=fun j H=>N7 H
 have C:∀j,j≠i->∀p e t xs,A1 σ.res j=some (.own p (.sl e t) xs)->A1 ((Ac.new i r).app none σ).res j=some (.own p (.sl e t) xs):=fun j H p e t xs I=>by
  rw[W,if_neg H,I];rfl
 have was:∀j (a:AR),j≠i->A1 ((Ac.new i r).app none σ).res j=some a->∃a0,A1 σ.res j=some a0/\AR.sub i .dead a0=a:=fun j a e H=>by
  rw[W,if_neg e]at H;cases I:A1 σ.res j with
  |none=>rw[I]at H;cases H
  |some a0=>rw[I]at H;exact⟨a0,rfl,AXz H⟩
 refine⟨h.hp,fun j a H=>?_,fun j l a b H hl V=>?_,fun j a H=>?_,fun t s J=>?_,h.anch⟩
 . by_cases e:j=i
   . subst e
     rw[W,AYB rfl]at H;cases H
     simpa[Q0] using hk
   . obtain⟨a0,I,rfl⟩:=was j a e H
     simp only[if_neg e,N7 e]
     rw[AC6]
     exact h.res j a0 I
 . by_cases e:j=i
   . by_cases e2:l=i
     . rw[e,e2]
     . rw[AYB e,if_neg e2]at V
       obtain⟨b0,I,_⟩:=was l b e2 hl
       exact absurd V.symm (hfree l b0 I)
   . by_cases e2:l=i
     . rw[if_neg e,AYB e2]at V
       obtain⟨a0,I,_⟩:=was j a e H
       exact absurd V (hfree j a0 I)
     . rw[if_neg e,if_neg e2]at V
       obtain⟨a0,I,_⟩:=was j a e H
       obtain⟨b0,U,_⟩:=was l b e2 hl
       exact h.inj j l a0 b0 I U V
 . by_cases e:j=i
   . subst e
     rw[W,AYB rfl]at H;cases H
     rw[upf_self,upf_self];exact D
   . obtain⟨a0,I,rfl⟩:=was j a e H
     rw[N7 e,N7 e]
     have U:=h.row j a0 I
     cases a0 with
     |own _ _ _=>exact U
     |row e l=>exact⟨U.1,OkL.sub (p:=.dead) hA hρ C trivial l U.2⟩
 . have J:A1 (AAu i .dead σ.env) t=some s:=J
   rw[W6]at J
   cases I:A1 σ.env t with
   |none=>rw[I]at J;cases J
   |some s0=>
    rw[I]at J
    have J:subS i .dead s0=s:=AXz J
    subst J
    obtain⟨u,U,F⟩:=h.env t s0 I
    exact⟨u,U,Ok.sub (p:=.dead) hA hρ C trivial s0 F⟩
def rs1:(c:Ck)->c.den->Value->List Res
 |.own c,x,v=>[E9 (P:=P) [] v c x]
 |_,_,_=>[]
def rsL:(rs:List Ck)->E2 rs->List Value->List Res
 |[],_,_=>[]
 |[c],x,v::_=>rs1 (P:=P) c x v
 |[_],_,[]=>[]
 |c::d::l,x,v::r=>rs1 (P:=P) c x.1 v++rsL (d::l) x.2 r
 |_::_::_,_,[]=>[]
theorem ATW{c:Ck}{x:c.den}{v:Value}{q:Res}(h:q∈rs1 (P:=P) c x v):q.fp=obC c v/\q.mu=[]:=by
 cases c with
 |own c=>
  obtain rfl:=mem_singleton.1 (show q∈[E9 (P:=P) [] v c x] from h)
  exact⟨ocR_fp,ocR_mu⟩
 |d t=>cases h
 |undef=>cases h
 |it t=>cases h
 |np t=>cases h
theorem ADq{c:Ck}{l:List Ck}{v:Value}{r:List Value}:X7 (c::l) (v::r)=obC c v++X7 l r:=by
 cases c<;>rfl
variable{O M':List Nat}{g:Nat}{id:Nat}{ss:List SV}{ss':List SV}{c:CtrM}{q:CtrA}{a:E0 q.ps}{fz:List Ac}{N:Nat}{ds:List Deferred}{B:A3}{X:Nat->A3}{Z:List PanicEntry->A3}{af:Array Edge}{xs:Array Operand}{ts:Array TypeId}
theorem AOR{w:World}:∀(rs:List Ck) {r:E2 rs} {vs:List Value},KsD (P:=P) O M' w w' rs r vs->(∀q∈rsL (P:=P) rs r vs,(∀b∈q.fp,b∈X7 rs vs/\w.heap.size<=b)/\q.mu=[]/\q.holds (O++M') w')/\(rsL (P:=P) rs r vs).Pairwise (fun q q'=>∀b∈q.fp,b∉q'.fp):=by
 have one:∀(c:Ck) {x:c.den} {v:Value},AJ4 (P:=P) O M' w w' c x v->∀q∈rs1 (P:=P) c x v,(∀b∈q.fp,b∈obC c v/\w.heap.size<=b)/\q.mu=[]/\q.holds (O++M') w':=fun c x v h q H=>by
  have D:=ATW H;cases c with
  |own c=>
   obtain rfl:=mem_singleton.1 (show q∈[E9 (P:=P) [] v c x] from H)
   refine⟨fun b I=>?_,D.2,h.2.1⟩
   rw[D.1]at I
   exact⟨I,h.2.2 b I⟩
  |d t=>cases H
  |undef=>cases H
  |it t=>cases H
  |np t=>cases H
 have pw:∀(c:Ck) {x:c.den} {v:Value},(rs1 (P:=P) c x v).Pairwise (fun q q'=>∀b∈q.fp,b∉q'.fp):=fun c x v=>by
  cases c with
  |own c=>exact AZN _ _
  |d t=>exact .nil
  |undef=>exact .nil
  |it t=>exact .nil
  |np t=>exact .nil
 intro rs;induction rs with
 |nil=>intro r vs _;exact⟨(fun q H=>by cases H),.nil⟩
 |cons c l ih=>
  intro r vs hk
  cases l with
  |nil=>
   obtain⟨v,rfl,_,hk⟩:=hk
   refine⟨fun q H=>?_,pw c⟩
   obtain⟨J,U⟩:=one c hk q H
   exact⟨fun b I=>⟨by rw[ADq];exact AX2 _ (J b I).1,(J b I).2⟩,U⟩
  |cons c2 l=>
   obtain⟨v,u,rfl,_,hk,hd,W⟩:=hk
   obtain⟨i1,i2⟩:=ih W
   refine⟨fun q H=>?_,?_⟩
   . rcases mem_append.1 (show q∈rs1 (P:=P) c r.1 v++rsL (P:=P) (c2::l) r.2 u from H) with H|H
     . obtain⟨J,U⟩:=one c hk q H
       exact⟨fun b I=>⟨by rw[ADq];exact AX2 _ (J b I).1,(J b I).2⟩,U⟩
     . obtain⟨J,U⟩:=i1 q H
       exact⟨fun b I=>⟨by rw[ADq];exact AX3 _ (J b I).1,(J b I).2⟩,U⟩
   . show(rs1 (P:=P) c r.1 v++rsL (P:=P) (c2::l) r.2 u).Pairwise _
     refine List.pairwise_append.2 ⟨pw c,i2,fun q H q' V b I C=>?_⟩
     exact hd b ((one c hk q H).1 b I).1 ((i1 q' V).1 b C).1
theorem ARt[Fx]{w:World}:∀(rs:List Ck) {r:E2 rs} {vs:List Value} (id k:Nat) {σ:AS} {ρ:Nat->Value} {γ:Nat->List Value} {μ:Nat->List Nat} {ι:Nat->Nat},KsD (P:=P) O M' w w' rs r vs->HS (P:=P) w0 Mu M σ L w' S ρ γ μ ι->(∀b∈mm S M,b∈O++M')->(∀j q,(rsL (P:=P) rs r vs)[j]?=some q->S[k+j]?=some q)->(∀j a,A1 σ.res j=some a->ι j<k\/k+(rsL (P:=P) rs r vs).length<=ι j) ->
  ∃ρ' γ' μ' ι',HS (P:=P) w0 Mu M (apps d (H1 id rs r).2 σ) L w' S ρ' γ' μ' ι'/\(∀j<id,ρ' j=ρ j)/\∀R,OkL (P:=P) ρ' R (mm S M) w' (H1 id rs r).1 vs:=by
 have own1:∀{c:Oc} {x:den c.ty} {v:Value} (id k:Nat) {σ:AS} {ρ:Nat->Value} {γ:Nat->List Value} {μ:Nat->List Nat} {ι:Nat->Nat},AJ4 (P:=P) O M' w w' (.own c) x v->HS (P:=P) w0 Mu M σ L w' S ρ γ μ ι->S[k]?=some (E9 (P:=P) [] v c x)->(∀j a,A1 σ.res j=some a->ι j≠k)->HS (P:=P) w0 Mu M (apps d [.new id (.own false c x)] σ) L w' S (Q0 ρ id v) (Q0 γ id []) (Q0 μ id []) (fun j=>if j=id then k else ι j)/\v.cells=#[v]/\v.oneCell'=true:=fun {c x v} id k {σ ρ γ μ ι} hk h Q J=>by
  have W:=h.name (i:=id) (r:=.own false c x) (v:=v) (cs:=[]) (mu:=[]) Q J hk.1;exact⟨W,AJ3 hk.1 (h.hp.all _ (AX1 Q))⟩
 intro rs
 induction rs with
 |nil=>intro r vs id k σ ρ γ μ ι hk h _ _ _;exact⟨ρ,γ,μ,ι,h,fun _ _=>rfl,fun _=>hk⟩
 |cons c l ih=>
  intro r vs id k σ ρ γ μ ι hk h D C J
  cases l with
  |nil=>
   obtain⟨v,rfl,V,hk⟩:=hk
   cases c with
   |d t=>exact⟨ρ,γ,μ,ι,h,fun _ _=>rfl,fun R=>⟨v,[v],[],rfl,E1 t (OkD.mon D hk),V,rfl⟩⟩
   |own et=>
    obtain⟨W,K⟩:=own1 id k hk h (C 0 _ rfl) fun j a H e=>by
     have E:ι j<k\/k+1<=ι j:=J j a H;omega
    exact⟨_,_,_,_,W,fun j H=>N7 (by omega),fun R=>⟨v,[v],[],rfl,⟨upf_self.symm,K⟩,V,rfl⟩⟩
   |undef=>exact hk.elim
   |it ts=>exact hk.elim
   |np t=>exact hk.elim
  |cons c2 l=>
   obtain⟨v,u,rfl,V,hk,hd,U⟩:=hk
   rw[ACf]
   cases c with
   |d t=>
    obtain⟨ρ',γ',μ',ι',g1,g2,g3⟩:=ih (id+100000) k U h D C J
    exact⟨ρ',γ',μ',ι',g1,fun j H=>g2 j (by omega),fun R=>⟨v,[v],u,rfl,E1 t (OkD.mon D hk),V,g3 R⟩⟩
   |own et=>
    have I:(rsL (P:=P) (.own et::c2::l) r (v::u)).length=(rsL (P:=P) (c2::l) r.2 u).length+1:=rfl
    obtain⟨W,K⟩:=own1 id k hk h (C 0 _ rfl) fun j a H e=>by
     have E:=J j a H;rw[I]at E;omega
    have F:∀j q,(rsL (P:=P) (c2::l) r.2 u)[j]?=some q->S[k+1+j]?=some q:=fun j q Y=>by
     rw[AYs,Nat.add_comm 1 j];exact C (j+1) q Y
    obtain⟨ρ',γ',μ',ι',g1,g2,g3⟩:=ih (id+100000) (k+1) U W D F fun j a H=>by
     by_cases e:j=id
     . rw[AYB e];left;omega
     . rw[if_neg e];have H:A1 ((id,AR.own false et r.1)::U6 id (R3 id .dead σ.res)) j=some a:=H;rw[fnd_cons,if_neg (fun e'=>e e'.symm),fnd_rdel,if_neg e,fnd_subR]at H;cases T:A1 σ.res j with
       |none=>rw[T]at H;cases H
       |some a0=>
        have E:=J j a0 T
        rw[I]at E
        omega
    refine⟨ρ',γ',μ',ι',?_,fun j H=>by rw[g2 j (by omega),N7 (by omega)],fun R=>⟨v,[v],u,rfl,⟨by rw[g2 id (by omega),upf_self],K⟩,V,g3 R⟩⟩
    have A:(AHu id (.own et) r.1).2=[.new id (.own false et r.1)]:=rfl
    simp only[A]
    rw[E7]
    exact g1
   |undef=>exact hk.elim
   |it ts=>exact hk.elim
   |np t=>exact hk.elim
theorem ATX{w:World}:∀(rs:List Ck) {r:E2 rs} {vs:List Value},KsD (P:=P) O M' w w' rs r vs->∀b∈mm (rsL (P:=P) rs r vs) M,b∈X7 rs vs++M:=fun rs r vs hk b H=>by
 rcases mem_mm.1 H with⟨q,I,H⟩|H
 . exact AX2 _ (((AOR rs hk).1 q I).1 b H).1
 . exact AX3 _ H
theorem ARu[Fx](h:HS (P:=P) w0 Mu M σ L w S ρ γ μ ι)(e:Ext w w'){rs:List Ck}{r:E2 rs}{vs:List Value}(hk:KsD (P:=P) (X7 rs vs) (mm S M) w w' rs r vs)(id:Nat):
  ∃S' ρ' γ' μ' ι',HS (P:=P) w0 Mu M (apps d (H1 id rs r).2 σ) L w' S' ρ' γ' μ' ι'/\OkL (P:=P) ρ' (A1 (apps d (H1 id rs r).2 σ).res) (mm S' M) w' (H1 id rs r).1 vs:=by
 obtain⟨k1,k2⟩:=AOR rs hk
 have U:∀q∈rsL (P:=P) rs r vs,∀b∈q.fp,w.heap.size<=b/\b<w'.heap.size:=fun q H b J=>⟨((k1 q H).1 b J).2,Res.lt _ (k1 q H).2.2 b J⟩
 have I:∀b∈mm (rsL (P:=P) rs r vs++S) M,b∈X7 rs vs++mm S M:=fun b J=>by
  rw[<-AJf]at J;exact ATX rs hk b J
 have V:=h.hp.addL e U (fun q H=>(k1 q H).2.1) k2 fun q H=>q.adv (Adv.drop I) (fun _ _=>rfl) (k1 q H).2.2
 have W:=h.extra V (h.hp.addLA e U)
 obtain⟨ρ',γ',μ',ι',g1,_,g3⟩:=ARt (d:=d) rs id 0 hk W I (fun j q H=>by
  have:=(List.getElem?_eq_some_iff.1 H).1;rw[AYQ,AYP this];exact H) fun j a _=>.inr (by omega)
 exact⟨_,ρ',γ',μ',ι',g1,g3 _⟩
theorem ARv[Fx][Sl (P:=P)](h:HS w0 Mu M σ L w S ρ γ μ ι)(W:GxOk P G){xs:List Operand}{r:E2 q.rs}(I:∀ρ R M w vs,OkV (P:=P) ρ R M w ss vs->OkV (P:=P) ρ R M w ss' vs)(E:evL (B2 σ.env) xs=some ss)(D:A1 G.fm g=some c)(U:c.ag=some q)(C:frz (A1 σ.res) (ownsLL ss')=some fz)(hd:I7 G (A1 σ.res) q.ps ss'=some a)(F:q.F a=some r):
  ∃vs,evs L xs=some vs/\CallsV P (.func (.func g) #[] #[]) vs w fun e w'=>∃v,e=.returned v/\∃S' ρ' γ' μ' ι',HS w0 Mu M (apps d (fz++(H1 id q.rs r).2) σ) L w' S' ρ' γ' μ' ι'/\Ok ρ' (A1 (apps d (fz++(H1 id q.rs r).2) σ).res) (mm S' M) w' (.agg (H1 id q.rs r).1) v:=by
 obtain⟨vs,A,Y⟩:=h.evL E
 obtain⟨H,J⟩:=FmOk.at W.fm D
 unfold CtrM.ok at H
 rw[U]at H
 obtain⟨S1,ι1,V,T,Q⟩:=h.frzO (d:=d) C
 have hargs:=ABK W h.anch.2 (M':=mm S1 M) Q q.ps _ T hd (I _ _ _ _ _ Y)
 refine⟨vs,A,CallsV.go J (AYO vs) (H (mm S1 M) w a vs r V.hp.mlt V.anch.2 hargs F) ?_⟩
 rintro e w2 ⟨us,rfl,hx,hk⟩
 obtain⟨S',ρ',γ',μ',ι',O,K⟩:=ARu (d:=d) V hx hk id
 rw[E7]
 exact⟨_,rfl,S',ρ',γ',μ',ι',O,us,rfl,K⟩
theorem AWj[Fx][Sl (P:=P)]{ops:Array Oper}{ty:TypeId}{pos:String}(h:HS w0 Mu M σ L w S ρ γ μ ι)(F:GxOk P G)(hN:(match d with|some d=>blt d N|none=>true)=true){r:E2 q.rs}(H:∀ρ R M w vs,OkV (P:=P) ρ R M w ss vs->OkV (P:=P) ρ R M w ss' vs)(E:evL (B2 σ.env) xs.toList=some ss)(D:A1 G.fm g=some c)(I:c.ag=some q)(C:frz (A1 σ.res) (ownsLL ss')=some fz)(hd:I7 G (A1 σ.res) q.ps ss'=some a)(K:q.F a=some r):
  B7 P N ops ds L w ⟨d,.call ⟨.value (.func g),xs,ts⟩,ty,pos,af,none⟩ w0 Mu M (apps d (fz++(H1 id q.rs r).2++[.put (.agg (H1 id q.rs r).1)]) σ) B X Z:=by
 obtain⟨vs,W,V⟩:=ARv (d:=d) (id:=id) h F H E D I C hd K
 obtain⟨xs⟩:=xs
 cases d with
 |some d=>
  refine ADV rfl W hN (V.mono ?_)
  rintro e w2 ⟨v,rfl,S',ρ',γ',μ',ι',J,U⟩
  refine⟨v,rfl,?_⟩
  rw[E7]
  exact J.fin U
 |none=>
  refine AD0 rfl W (V.mono ?_)
  rintro e w2 ⟨v,rfl,S',ρ',γ',μ',ι',J,U⟩
  refine⟨v,rfl,?_⟩
  rw[E7]
  exact Reg.nil ⟨rfl,EnvS.refl _ _,S',ρ',γ',μ',ι',J⟩
theorem ARw{Z:Type}{z:Z}{R:Nat->Option AR}{c:CtrA}{K:List Ac->Option Z}(h:agC G id R c K ss=some z):∃(fz:List Ac) (a:E0 c.ps) (r:E2 c.rs),frz R (ownsLL ss)=some fz/\I7 G R c.ps ss=some a/\c.F a=some r/\K (fz++(H1 id c.rs r).2++[.put (.agg (H1 id c.rs r).1)])=some z:=by
 unfold agC at h;split at h
 . rename_i fz a U J;obtain⟨r,I,H⟩:=R0 h;exact⟨fz,a,r,U,J,I,H⟩
 . cases h
theorem APu[Fx][Sl (P:=P)]{Zt:Type}{z:Zt}{ops:Array Oper}{ty:TypeId}{pos:String}(h:HS w0 Mu M σ L w S ρ γ μ ι)(V:GxOk P G)(hN:(match d with|some d=>blt d N|none=>true)=true){K:List Ac->Option Zt}(I:∀ρ R M w vs,OkV (P:=P) ρ R M w ss vs->OkV (P:=P) ρ R M w ss' vs)(U:evL (B2 σ.env) xs.toList=some ss)(J:A1 G.fm g=some c)(hm:AJ1 G id (A1 σ.res) c K ss'=some z):
  ∃ac,K ac=some z/\B7 P N ops ds L w ⟨d,.call ⟨.value (.func g),xs,ts⟩,ty,pos,af,none⟩ w0 Mu M (apps d ac σ) B X Z:=by
 unfold AJ1 at hm
 cases H:c.ag with
 |none=>
  rw[H]at hm
  obtain⟨j,c',x,x0,a,q,fz,m1,m2,m3,m4,m5,m6,m7⟩:=APt hm
  exact⟨_,m7,AVU h V hN I U J H m1 m2 m3 m4.1 m4.2 m5 m6⟩
 |some q=>
  rw[H]at hm
  obtain⟨fz,a,r,E,D,C,W⟩:=ARw (show agC G id (A1 σ.res) q K ss'=some z from hm)
  exact⟨_,W,AWj h V hN I U J H E D C⟩
end
end Go.Rx
namespace Go.Rx
open Go Go.Sx Go.RowKit
variable[Trk][Sg][Sf]{P:Program}[Se P][Anch]
theorem AF3[Fx]{w0 w:World}{Mu M:List Nat}{σ:AS}{L:A7}(h:Holds w0 Mu M σ L w):Holds w0 Mu M σ.start L w:=by
 obtain⟨S,ρ,γ,μ,ι,h⟩:=h;exact⟨S,ρ,γ,μ,ι,h.hp,h.res,h.inj,h.row,h.env,h.anch⟩
theorem AEi[Fx]{w0 w:World}{Mu M:List Nat}{W:List Nat}{sh:Sh}{σ:AS}{x:O2 sh.cs}{L:A7}(h:Holds w0 Mu M (B6 W sh σ.start x) L w):Holds w0 Mu M (B6 W sh σ x) L w:=by
 obtain⟨S,ρ,γ,μ,ι,h⟩:=h;exact⟨S,ρ,γ,μ,ι,h.hp,h.res,h.inj,h.row,h.env,h.anch⟩
variable{Γ:Type}
theorem AEP{f:(k:Key)->Option (AE7 Γ k)}{W:List Nat}{Y:Type}{KN:AS->Option Y}{KX:Nat->AS->Option Y}{KR:Γ->Option Y}{σ:AS}:∀{ks:List Key} {q:AEF Γ ks},AAz f ks=some q->∃k∈ks,∃x,f k=some x/\AC3 W KN KX KR σ ks q=AMu W KN KX KR σ k x
 |[],q,h=>by cases h
 |[k],q,h=>⟨k,AX4 ..,q,h,rfl⟩
 |k::j::l,q,h=>by
  simp only[AAz]at h;cases I:f k with
  |some x=>
   rw[I]at h
   have h:Sum.inl x=q:=AXz h
   subst h
   exact⟨k,AX4 ..,x,I,rfl⟩
  |none=>
   rw[I]at h
   cases H:AAz f (j::l) with
   |none=>rw[H]at h;exact(A2 h).elim
   |some y=>
    rw[H]at h
    have h:Sum.inr y=q:=AXz h
    subst h
    obtain⟨k',V,x,U,J⟩:=AEP (W:=W) (KN:=KN) (KX:=KX) (KR:=KR) (σ:=σ) H
    exact⟨k',AX0 _ V,x,U,J⟩
theorem AF4{sh:Sh}:∀{ks:List Key},Key.norm sh∈ks->∀t∈J5 sh.cs,t∈O3 ks
 |k::l,h,t,H=>by
  rcases mem_cons.1 h with h|h
  . subst h;exact AX2 _ H
  . have:=AF4 h t H;cases k with
    |norm _=>exact AX3 _ this
    |exit _ _=>exact AX3 _ this
    |ret=>exact this
theorem AF5{sh:Sh}{i:Nat}:∀{ks:List Key},Key.exit i sh∈ks->∀t∈J5 sh.cs,t∈O3 ks
 |k::l,h,t,H=>by
  rcases mem_cons.1 h with h|h
  . subst h;exact AX2 _ H
  . have:=AF5 h t H;cases k with
    |norm _=>exact AX3 _ this
    |exit _ _=>exact AX3 _ this
    |ret=>exact this
structure PZ(X X1:Nat->A3)(Z:List PanicEntry->A3)(ds:List Deferred):Prop where
 z:∀(T t:Nat) (L1 L2:A7) (w:World) (v:Value),blt t pnc=true->(∀u,u≠t->Sx.A5 L2 u=Sx.A5 L1 u)->X (ACZ T t) ds ((t,v)::L1) w->Z [{ v:=.iface T v,recovered:=false }] ds L2 w
 x:∀(i:Nat) (L:A7) (w:World),blt i pnc=true->X i ds L w->X1 i ds L w
variable{A:A3}{X:Nat->A3}{X1:Nat->A3}{Z:List PanicEntry->A3}{ds:List Deferred}{m:Oper}{p:Oper}{x:Operand}{t:Nat}{N:Nat}{B:A3}{v:Value}{w:World}{M:List Nat}{M':List Nat}{w':World}{G:Gx}
theorem PZ.block{i:Nat}(hi:blt i pnc=true)(h:PZ X X1 Z ds):PZ (exB i A X) (exB i A X1) Z ds:=⟨fun T t L1 L2 w v I hl hx=>by
 have hi:i<pnc:=by simpa[Nat.blt_eq] using hi
 have H:beq (ACZ T t) i=false:=by
  cases H:beq (ACZ T t) i with
  |false=>rfl
  |true=>
   have V:=AX5 H
   have U:pnc<=ACZ T t:=AYG (AZZ _ (Nat.succ_pos T)) (Nat.le_add_right _ _)
   omega
 exact h.z T t L1 L2 w v I hl (by simpa[exB,H] using hx),fun j L w J hx=>by
 cases H:beq j i with
 |true=>simpa[exB,H] using hx
 |false=>simpa[exB,H] using h.x j L w J (by simpa[exB,H] using hx)⟩
theorem PZ.no:PZ NoX NoX Z ds:=⟨fun _ _ _ _ _ _ _ _ h=>h.elim,fun _ _ _ _ h=>h⟩
theorem AKj{T:TypeId}(h:AH2 m p=some (T,x,t)):m.guard=none/\m.dst=some t/\m.op=.makeInterface T x/\p.guard=none/\p.op=.panic (.tmp t):=by
 unfold AH2 at h;split at h
 . rename_i C W V U J;cases H:beq _ _ with
   |false=>rw[H]at h;exact(A2 h).elim
   |true=>
    rw[H]at h
    have I:=AX5 H
    subst I
    cases h
    exact⟨C,W,V,U,J⟩
 . exact(A2 h).elim
theorem AKk:∀{ops l:List Oper} {T:TypeId} {x:Operand} {t:Nat},AE8 ops=some (l,T,x,t)->∃m p,ops=l++[m,p]/\AH2 m p=some (T,x,t)
 |[],l,T,x,t,h=>(A2 h).elim
 |[o],l,T,x,t,h=>(A2 h).elim
 |[o,p],l,T,x,t,h=>by
  simp only[AE8]at h;cases H:AH2 o p with
  |none=>rw[H]at h;exact(A2 h).elim
  |some q=>
   rw[H]at h
   cases h
   exact⟨o,p,rfl,H⟩
 |o::a::b::r,l,T,x,t,h=>by
  have h:(match AE8 (a::b::r) with
   |some (l,q)=>some (o::l,q)
   |none=>none)=some (l,T,x,t):=h
  cases H:AE8 (a::b::r) with
  |none=>rw[H]at h;exact(A2 h).elim
  |some q=>
   obtain⟨l',T',x',t'⟩:=q
   rw[H]at h
   cases h
   obtain⟨m,p,J,I⟩:=AKk H
   exact⟨m,p,by rw[J];rfl,I⟩
theorem ADD{m p:Oper}{t u:Nat}(hm:m.dst=some t):∀{l:List Oper},u∈C1 l\/u=t->u∈C1 (l++[m,p])
 |[],h=>by
  show u∈C1 [m,p];simp only[C1,hm];rcases h with h|h
  . cases h
  . rw[h];exact AX4 ..
 |o::l,h=>by
  rw[AYx];simp only[C1]at h ⊢;cases H:o.dst with
  |none=>rw[H]at h;exact ADD hm h
  |some d=>
   rw[H]at h
   rcases h with h|h
   . rcases mem_cons.1 h with h|h
     . rw[h];exact AX4 ..
     . exact AX0 _ (ADD hm (.inl h))
   . exact AX0 _ (ADD hm (.inr h))
theorem X0{N:Nat}{ops:Array Oper}{A A' B:A3}{X:Nat->A3}{Z:List PanicEntry->A3}{rest:List Oper}(I:∀a w,R1 N A' B X Z .normal a w->wpList P ops (R1 N A B X Z) rest a w):∀(l:List Oper) (a:Act) (w:World),wpList P ops (R1 N A' B X Z) l a w->wpList P ops (R1 N A B X Z) (l++rest) a w
 |[],a,w,h=>I a w h
 |o::l,a,w,h=>by
  rw[AYx];simp only[wpList]at h ⊢;split
  . rename_i H;rw[AYB H]at h;exact .inl (ACh (h.resolve_right fun U=>ABV U.2) (fun a w h=>X0 I l a w h) (fun c a w J=>J) ABV)
  . rename_i H;rw[if_neg H]at h;exact X0 I l _ w h
theorem ATY{ops:Array Oper}{T:TypeId}{fields:Array Field}{L:A7}(W:AH2 m p=some (T,x,t))(C:P.underlying T=some (.struct fields))(V:blt t N=true)(hv:ev L x=some v)(U:Z [{ v:=.iface T v,recovered:=false }] ds ((t,.iface T v)::L) w):Reg P N ops .seq [m,p] ds L w A B X Z:=fun a J=>by
 obtain⟨F,E,I,D,H⟩:=AKj W;simp only[wpList];have w1:Region.wanted m (yielded ops a.tmps)=true:=by simp[Region.wanted,F]
 rw[AYB w1];left;have e1:(execOp a.eval m).run P w=.ok (.value (.iface T v)) w:=by
  obtain⟨md,mop,mt,mpos,maf,mg⟩:=m;have I:mop=.makeInterface T x:=I;subst I;simp[execOp,Instr.makeInterface,J.eval hv,run_underlying C]
 unfold Oper.wp;rw[e1,Oper.upon_value,E];have hk:=J.put V (.iface T v);have w2:Region.wanted p (yielded ops (a.put (some t) (.iface T v)).tmps)=true:=by simp[Region.wanted,D]
 rw[AYB w2];left;show p.wp P (a.put (some t) (.iface T v)) w _ _;have e2:(execOp (a.put (some t) (.iface T v)).eval p).run P w=.halt (.panic (.iface T v)) w:=by
  obtain⟨pd,pop,pt,ppos,paf,pg⟩:=p;have H:pop=.panic (.tmp t):=H;subst H;have hx:(a.put (some t) (.iface T v)).eval (.tmp t)=.iface T v:=hk.eval (by show Sx.A5 _ t=_;rw[look_cons,AYB rfl]);simp[execOp,hx,Instr.panic,goPanic]
 unfold Oper.wp;rw[e2,Oper.upon_panic];exact⟨ds,_,hk,U⟩
theorem ADE{t:Ty}(h:ADe t=true){cs:List Value}{x:den t}(hx:(enc (P:=P) t).R M w cs x):(enc (P:=P) t).R M' w' cs x:=by
 cases t with
 |int k=>exact hx
 |bool=>exact hx
 |_=>cases h
theorem AIw:∀{l:List Ty},l.all ADe=true->∀{M M':List Nat} {w w':World} {cs:List Value} {x:P2 l},(AE2 (P:=P) l).R M w cs x->(AE2 (P:=P) l).R M' w' cs x
 |[],_,_,_,_,_,_,_,h=>h
 |[t],hl,_,_,_,_,_,_,h=>ADE (by simpa using hl) h
 |t::u::l,hl,_,_,_,_,_,_,h=>by
  have U:ADe t=true:=by simp only[List.all_cons,Bool.and_eq_true]at hl;exact hl.1
  have J:(u::l).all ADe=true:=by simp only[List.all_cons,Bool.and_eq_true]at hl ⊢;exact hl.2
  obtain⟨c1,c2,e,I,H⟩:=h;exact⟨c1,c2,e,ADE U I,AIw J H⟩
theorem AM7[Sl (P:=P)]{t:Ty}(h:ACG t=true){x:den t}(hx:OkD (P:=P) M w t x v):OkD (P:=P) M' w' t x v:=by
 obtain⟨cs,H,I⟩:=hx;refine⟨cs,?_,I⟩;cases t with
 |int k=>exact ADE (t:=.int k) h H
 |bool=>exact ADE (t:=.bool) h H
 |st n=>exact(Sl.is n M' w' cs x).2 (AIw h ((Sl.is n M w cs x).1 H))
 |_=>cases h
theorem AOS{o:Oper}{c:CtrP}{args:List Operand}(h:AC4 G o=some (c,args)):o.guard=none/\∃g xs ts,o.op=.call ⟨.value (.func g),xs,ts⟩/\A1 G.pf g=some c/\args=xs.toList:=by
 unfold AC4 at h;split at h
 . rename_i g xs ts J I;cases H:A1 G.pf g with
   |none=>rw[H]at h;exact(A2 h).elim
   |some c'=>rw[H]at h;cases h;exact⟨J,g,xs,ts,I,H,rfl⟩
 . exact(A2 h).elim
theorem AIG[Fx][Sl (P:=P)]{G:Gx}(m:GxOk P G){N:Nat}{all:List Oper}{t:Nat}(ht:blt t N=true)(Q:blt t pnc=true){Y:Type}{KN:AS->Option Y}{KX:Nat->AS->Option Y}{z:Y}{ds:List Deferred}{w0:World}{Mu M:List Nat}{A B:A3}{X X1:Nat->A3}{Z:List PanicEntry->A3}{W:List Nat}(E:t∈W)(hP:PZ X X1 Z ds):
  ∀(l:List Oper) (σ:AS) (L:A7) (w:World),AAQ G N all t KN KX l σ=some z->(∀t∈C1 l,t∈W)->Holds w0 Mu M σ L w ->
   (∀σ' L' w',KN σ'=some z->Rel P W σ σ'->EnvS W L L'->Holds w0 Mu M σ' L' w'->A ds L' w') ->
   (∀i σ' L' w',KX i σ'=some z->Rel P W σ σ'->EnvS W L L'->Holds w0 Mu M σ' L' w'->X i ds L' w')->Reg P N (toArray all) .seq l ds L w A B X1 Z
 |[],σ,L,w,h,_,hH,hA,_=>Reg.nil (hA σ L w h (Rel.refl σ) (EnvS.refl _ _) hH)
 |o::r,σ,L,w,h,hW,hH,hA,hX=>by
  have hW1:∀u∈C1 [o],u∈W:=fun u H=>hW u (by
   simp only[C1]at H ⊢;cases hd:o.dst with
   |none=>rw[hd]at H;cases H
   |some d=>rw[hd]at H;exact mem_cons.2 (.inl (mem_singleton.1 H)))
  have y:∀u∈C1 r,u∈W:=fun u H=>hW u (by
   simp only[C1];cases o.dst with
   |none=>exact H
   |some d=>exact AX0 _ H)
  have go:C6 G N all (AAQ G N all t KN KX r) [o] σ=some z->Reg P N (toArray all) .seq (o::r) ds L w A B X1 Z:=fun h=>by
   have key:=S9 (P:=P) (ops:=all) (ds:=ds) (B:=B) (X:=X1) (Z:=Z) (W:=W) m [o] σ L w h hW1 hH (A:=fun ds' L' w'=>Reg P N (toArray all) .seq r ds' L' w' A B X1 Z) fun σ' L' w' hK hR hE j=>by
    exact AIG m ht Q E hP r σ' L' w' hK y j (fun σ2 L2 w2 k U C V=>hA σ2 L2 w2 k (hR.trans U) (hE.trans C) V) (fun i σ2 L2 w2 k U C V=>hX i σ2 L2 w2 k (hR.trans U) (hE.trans C) V)
   exact fun a x=>X0 (fun a w h=>by
    obtain⟨ds',L',hk,hr⟩:=h;exact hr a hk) [o] a w (key a x)
  cases R:AGN G o with
  |some q=>
   obtain⟨c,args⟩:=q
   have h:(match AGN G o with
    |some (c,args)=>match ACU N o.op o.dst,evL (B2 σ.env) args with
     |true,some ss=>S7 ss fun ss'=>AJ1 G (AAx o.dst) (A1 σ.res) c (fun ac=>AAQ G N all t KN KX r (apps o.dst ac σ)) ss'
     |_,_=>none
    |none=>match AC4 G o with
     |some (c,args)=>match ACG c.t,evL (B2 σ.env) args with
      |true,some ss=>S7 ss fun ss'=>match I7 G (A1 σ.res) c.ps ss' with
       |some a=>AJ0 (c.F a) (fun e=>KX (ACZ c.T t) (apps (some t) [.put (G0 c.t e)] σ)) (C6 G N all (AAQ G N all t KN KX r) [o] σ)
       |none=>none
      |_,_=>none
     |none=>C6 G N all (AAQ G N all t KN KX r) [o] σ)=some z:=h
   rw[R]at h
   simp only at h
   cases D:ACU N o.op o.dst with
   |false=>rw[D]at h;exact(A2 h).elim
   |true=>
    cases f:evL (B2 σ.env) args with
    |none=>rw[D,f]at h;exact(A2 h).elim
    |some ss=>
     rw[D,f]at h
     obtain⟨ss',J,k⟩:=AAl (P:=P) (show S7 ss _=some z from h)
     obtain⟨n,g,xs,ts,I,T,rfl⟩:=APs R
     obtain⟨S,ρ,γ,μ,ι,O⟩:=hH
     have hN:(match o.dst with|some d=>blt d N|none=>true)=true:=by
      rw[I]at D;cases hd:o.dst with
      |none=>rfl
      |some d=>rw[hd]at D;exact D
     obtain⟨od,oop,oty,opos,oaf,og⟩:=o
     have I:oop=.call ⟨.value (.func g),xs,ts⟩:=I
     have n:og=none:=n
     subst I;subst n
     obtain⟨ac,m7,key⟩:=APu (d:=od) (N:=N) (ops:=toArray all) (ds:=ds) (B:=B) (X:=X1) (Z:=Z) (ty:=oty) (pos:=opos) (af:=oaf) (ts:=ts) (id:=AAx od) O m hN k f T J
     refine fun a0 F=>X0 (fun a1 w1 h3=>?_) [_] a0 w (key a0 F)
     obtain⟨ds',L',hk,rfl,hE,j⟩:=h3
     have K:∀t,od=some t->t∈W:=fun t ht=>hW t (by simp only[C1,ht];exact AX4 ..)
     refine(AIG m ht Q E hP r _ L' w1 m7 y j (fun σ2 L2 w2 g2 U C V=>hA σ2 L2 w2 g2 ((Z5 od K _ _).trans U) (EnvS.trans (hE.mono fun u H=>?_) C) V) (fun i σ2 L2 w2 g2 U C V=>hX i σ2 L2 w2 g2 ((Z5 od K _ _).trans U) (EnvS.trans (hE.mono fun u H=>?_) C) V)) a1 hk
     . cases od with
       |none=>cases H
       |some d=>exact K u (by rw[mem_singleton.1 H])
     . cases od with
       |none=>cases H
       |some d=>exact K u (by rw[mem_singleton.1 H])
  |none=>
  have h:(match AGN G o with
   |some (c,args)=>match ACU N o.op o.dst,evL (B2 σ.env) args with
    |true,some ss=>S7 ss fun ss'=>AJ1 G (AAx o.dst) (A1 σ.res) c (fun ac=>AAQ G N all t KN KX r (apps o.dst ac σ)) ss'
    |_,_=>none
   |none=>match AC4 G o with
    |some (c,args)=>match ACG c.t,evL (B2 σ.env) args with
     |true,some ss=>S7 ss fun ss'=>match I7 G (A1 σ.res) c.ps ss' with
      |some a=>AJ0 (c.F a) (fun e=>KX (ACZ c.T t) (apps (some t) [.put (G0 c.t e)] σ)) (C6 G N all (AAQ G N all t KN KX r) [o] σ)
      |none=>none
     |_,_=>none
    |none=>C6 G N all (AAQ G N all t KN KX r) [o] σ)=some z:=h
  rw[R]at h;have h:(match AC4 G o with
   |some (c,args)=>match ACG c.t,evL (B2 σ.env) args with
    |true,some ss=>S7 ss fun ss'=>match I7 G (A1 σ.res) c.ps ss' with
     |some a=>AJ0 (c.F a) (fun e=>KX (ACZ c.T t) (apps (some t) [.put (G0 c.t e)] σ)) (C6 G N all (AAQ G N all t KN KX r) [o] σ)
     |none=>none
    |_,_=>none
   |none=>C6 G N all (AAQ G N all t KN KX r) [o] σ)=some z:=h
  cases ho:AC4 G o with
  |none=>rw[ho]at h;exact go h
  |some q=>
   obtain⟨c,args⟩:=q
   rw[ho]at h
   simp only at h
   cases hp:ACG c.t with
   |false=>rw[hp]at h;exact(A2 h).elim
   |true=>
    cases f:evL (B2 σ.env) args with
    |none=>rw[hp,f]at h;exact(A2 h).elim
    |some ss=>
     rw[hp,f]at h
     obtain⟨ss',J,k⟩:=AAl (P:=P) (show S7 ss _=some z from h)
     cases x:I7 G (A1 σ.res) c.ps ss' with
     |none=>rw[x]at J;exact(A2 J).elim
     |some a=>
      rw[x]at J
      simp only at J
      unfold AJ0 at J
      cases hz:C6 G N all (AAQ G N all t KN KX r) [o] σ with
      |some z1=>rw[hz]at J;exact go (hz.trans J)
      |none=>
      rw[hz]at J
      simp only at J
      cases hF:c.F a with
      |none=>rw[hF]at J;exact(A2 J).elim
      |some e=>
       rw[hF]at J
       simp only at J
       obtain⟨n,g,xs,ts,I,T,rfl⟩:=AOS ho
       obtain⟨S,ρ,γ,μ,ι,O⟩:=hH
       obtain⟨vs,hv,hok⟩:=O.evL f
       obtain⟨hc,hen⟩:=PfOk.at m.pf T
       have hargs:=ABK m O.anch.2 (M':=M) (fun b p=>mem_mm.2 (.inr p)) c.ps _ (O.lend _) x (k _ _ _ _ _ hok)
       have hcall:=hc M w a _ e (fun b p=>O.hp.mlt b (mem_mm.2 (.inr p))) (O.anch.2.adv (Adv.drop fun b p=>mem_mm.2 (.inr p))) hargs hF
       intro a0 F
       simp only[wpList]
       rw[AYB (show Region.wanted o (yielded (toArray all) a0.tmps)=true by simp[Region.wanted,n])]
       left
       have e1:(execOp a0.eval o).run P w=.ok (.enter g (toArray vs)) w:=by
        obtain⟨od,oop,oty,opos,oaf,og⟩:=o;have I:oop=.call ⟨.value (.func g),xs,ts⟩:=I;subst I;obtain⟨xs⟩:=xs;have:=AAh F xs vs hv;simp[execOp,resolve,Act.eval,Deferred.ofValue,invoke,hen,this]
       unfold Oper.wp
       rw[e1,Oper.upon_enter]
       refine hcall.mono ?_
       rintro en w2 ⟨v,rfl,hd,hx⟩
       refine⟨ds,L,F,hP.z c.T t L L w2 v Q (fun _ _=>rfl) ?_⟩
       have hS2:=(O.ext hx).put (d:=t) (s:=G0 c.t e) (v:=v) (E1 c.t (AM7 (M':=mm S M) hp hd))
       exact hX _ _ _ _ J (Z5 (some t) (fun u H=>by cases H;exact E) _ _) ((EnvS.put t L v).mono fun u H=>by rw[mem_singleton.1 H];exact E) ⟨S,ρ,γ,μ,ι,hS2⟩
def APv[Fx](r:Option Nat)(n:Nat)(P:Program)[Se P](N:Nat)(pr:AS->Option Γ)(c:Code)(ds:List Deferred)(w0:World)(Mu M:List Nat)(W:List Nat)(run:{Y:Type}->(AS->Option Y)->(Nat->AS->Option Y)->(Γ->Option Y)->AS->Option Y):Prop:=
 ∀(Y:Type) (KN:AS->Option Y) (KX:Nat->AS->Option Y) (KR:Γ->Option Y) (σ:AS) (L:A7) (w:World) (z:Y) (A B:A3) (X:Nat->A3) (Z:List PanicEntry->A3) (X1:Nat->A3),run KN KX KR σ=some z->Holds w0 Mu M σ L w ->
  (∀σ' L' w',KN σ'=some z->Rel P W σ σ'->EnvS W L L'->Holds w0 Mu M σ' L' w'->A ds L' w') ->
  (∀i σ' L' w',KX i σ'=some z->Rel P W σ σ'->EnvS W L L'->Holds w0 Mu M σ' L' w'->X i ds L' w') ->
  (∀r σ' L' w',pr σ'=some r->KR r=some z->EnvS W L L'->Holds w0 Mu M σ' L' w'->B ds L' w')->PZ X X1 Z ds->CF r n P N c ds L w A B X1 Z
variable{r:Option Nat}{n:Nat}{N:Nat}{pr:AS->Option Γ}{ds:List Deferred}{w0:World}{Mu M:List Nat}{W:List Nat}{ks:List Key}{q:AEF Γ ks}{Y:Type}{KN:AS->Option Y}{KX:Nat->AS->Option Y}{KR:Γ->Option Y}{σ:AS}{σ':AS}{L:A7}{L':A7}{z:Y}{α:Type}{β:Type}{y:α⊕β}
theorem ATZ[Fx][Sl (P:=P)]{A:A3}(H:∀t∈O3 ks,t∈W)(V:AAz (ASz σ') ks=some q)(J:AC3 W KN KX KR σ ks q=some z)(C:Rel P W σ.start σ')(E:EnvS W L L')(D:Holds w0 Mu M σ' L' w')(hA:∀σ' L' w',KN σ'=some z->Rel P W σ σ'->EnvS W L L'->Holds w0 Mu M σ' L' w'->A ds L' w'):A ds L' w':=by
 obtain⟨k,hk,x,I,F⟩:=AEP (W:=W) (KN:=KN) (KX:=KX) (KR:=KR) (σ:=σ) V;rw[F]at J;cases k with
 |norm sh=>
  obtain⟨S,ρ,γ,μ,ι,h⟩:=D
  exact hA _ L' w' J (ACA (fun t U=>H t (AF4 hk t U)) fun _ h=>h) E (AEi (T2 h C I))
 |exit _ _=>cases I
 |ret=>cases I
theorem AOT[Fx][Sl (P:=P)]{X:Nat->A3}{i:Nat}(I:∀t∈O3 ks,t∈W)(C:AAz (AMs i σ') ks=some q)(U:AC3 W KN KX KR σ ks q=some z)(E:Rel P W σ.start σ')(K:EnvS W L L')(F:Holds w0 Mu M σ' L' w')(D:∀i σ' L' w',KX i σ'=some z->Rel P W σ σ'->EnvS W L L'->Holds w0 Mu M σ' L' w'->X i ds L' w'):X i ds L' w':=by
 obtain⟨k,hk,x,H,O⟩:=AEP (W:=W) (KN:=KN) (KX:=KX) (KR:=KR) (σ:=σ) C;rw[O]at U;cases k with
 |norm _=>cases H
 |ret=>cases H
 |exit j sh=>
  have H:(match beq i j with
   |true=>I8 sh σ'
   |false=>none)=some x:=H
  cases J:beq i j with
  |false=>rw[J]at H;cases H
  |true=>
   rw[J]at H
   have:=AX5 J
   subst this
   obtain⟨S,ρ,γ,μ,ι,h⟩:=F
   exact D i _ L' w' U (ACA (fun t V=>I t (AF5 hk t V)) fun _ h=>h) K (AEi (T2 h E H))
theorem AOU{r:Γ}(J:AAz (AMt r) ks=some q)(I:AC3 W KN KX KR σ ks q=some z):KR r=some z:=by
 obtain⟨k,hk,x,H,U⟩:=AEP (W:=W) (KN:=KN) (KX:=KX) (KR:=KR) (σ:=σ) J;rw[U]at I;cases k with
 |norm _=>cases H
 |exit _ _=>cases H
 |ret=>
  have H:r=x:=AXz H
  subst H;exact I
theorem ADr[Fx][Sl (P:=P)]{c:Code}{an:An}{run:An->{Y:Type}->(AS->Option Y)->(Nat->AS->Option Y)->(Γ->Option Y)->AS->Option Y}(E:∀l,APv r n P N pr c ds w0 Mu M (D4 c++C9 l) (run l)):APv r n P N pr c ds w0 Mu M (D4 c++C9 an) (wrap c an run):=by
 intro Y KN KX KR σ L w z A B X Z X1 h O hA F Q K;have key:∀l,an=l->run l KN KX KR σ=some z->CF r n P N c ds L w A B X1 Z:=fun l G h=>by
  subst G;exact E an _ _ _ _ _ _ _ _ _ _ _ _ _ h O hA F Q K
 cases an with
 |x=>exact key _ rfl h
 |nd a b=>exact key _ rfl h
 |lp hd ks l=>exact key _ rfl h
 |jn ks l=>
  obtain⟨q,R,D⟩:=bindS h
  have U:∀t∈D4 c++C9 l,t∈D4 c++(O3 ks++C9 l):=fun t W=>(mem_append.1 W).elim (AX2 _) fun h=>AX3 _ (AX3 _ h)
  have I:∀t∈O3 ks,t∈D4 c++(O3 ks++C9 l):=fun t W=>AX3 _ (AX2 _ W)
  refine E l _ _ _ _ _ _ _ _ _ _ _ _ _ R (AF3 O) (fun σ' L' w' J C V H=>?_) (fun i σ' L' w' J C V H=>?_) (fun r σ' L' w' T J V H=>?_) K
  . exact ATZ I J D (C.mono U) (V.mono U) H hA
  . exact AOT I J D (C.mono U) (V.mono U) H F
  . exact Q r σ' L' w' T (AOU J D) (V.mono U) H
theorem AKl(an:An):∀t∈C9 an.l,t∈C9 an:=fun t H=>by
 cases an with
 |nd a b=>exact AX2 _ H
 |_=>cases H
theorem AKm(an:An):∀t∈C9 an.r,t∈C9 an:=fun t H=>by
 cases an with
 |nd a b=>exact AX3 _ H
 |_=>cases H
theorem APw{o:Option α}(h:APO o=some y):∃x,o=some x/\y=.inl x:=by
 cases o with
 |none=>cases h
 |some x=>exact⟨x,rfl,(AXz h).symm⟩
theorem AKn{o:Option β}(h:AJz o=some y):∃x,o=some x/\y=.inr x:=by
 cases o with
 |none=>cases h
 |some x=>exact⟨x,rfl,(AXz h).symm⟩
theorem ABf:∀{l:List Oper},Z4 l=true->l.all (fun o=>K8 o.op)=true
 |[],_=>rfl
 |o::l,h=>by
  have h:(ANz o.op&&Z4 l)=true:=h;simp only[Bool.and_eq_true]at h;simp only[List.all_cons,Bool.and_eq_true];refine⟨?_,ABf h.2⟩;cases H:o.op<;>first|rfl|(rw[H]at h;cases h.1)
theorem I0[Fx][Sl (P:=P)]{G:Gx}(f:GxOk P G):∀(c:Code) (an:An),APv r n P N pr c ds w0 Mu M (D4 c++C9 an) (exec G N pr c an)
 |.skip,an=>fun _ _ _ _ _ _ _ _ _ _ _ _ _ h U hA _ _ _=>ARo (hA _ _ _ h (Rel.refl _) (EnvS.refl _ _) U)
 |.region i ops dr,an=>by
  cases dr with
  |true=>
   refine ADr (run:=fun _ _ KN _ _ σ=>match Z4 ops.toList with
    |true=>AMq G N ops.toList KN σ
    |false=>none) fun l=>?_
   intro Y KN KX KR σ L w z A B X Z X1 h U hA _ _ _
   obtain⟨ops⟩:=ops
   cases hd:Z4 ops with
   |false=>simp only[hd]at h;exact(A2 h).elim
   |true=>
    simp only[hd]at h
    exact AOQ f.mix (ABf hd) (APm f h (fun t J=>AX2 _ J) U hA)
  |false=>
   refine ADr (run:=fun _ _ KN KX _ σ=>match Z4 ops.toList with
    |true=>match AE8 ops.toList with
     |some (l,T,x,t)=>match lk G.bd T,blt t N&&blt t pnc with
      |some _,true=>C6 G N ops.toList (fun σ'=>match B2 σ'.env x with
       |some s=>KX (ACZ T t) (apps (some t) [.put s] σ')
       |none=>none) l σ
      |_,_=>none
     |none=>match AFY G ops.toList,AMw ops.toList with
      |true,some t=>match blt t N&&blt t pnc with
       |true=>AAQ G N ops.toList t KN KX ops.toList σ
       |false=>none
      |_,_=>C6 G N ops.toList KN ops.toList σ
    |false=>none) fun l=>?_
   intro Y KN KX KR σ L w z A B X Z X1 h U hA E _ F
   obtain⟨ops⟩:=ops
   cases hd:Z4 ops with
   |false=>simp only[hd]at h;exact(A2 h).elim
   |true=>
    simp only[hd]at h
    cases hp:AE8 ops with
    |none=>
     simp only[hp]at h
     have plain:C6 G N ops KN ops σ=some z->CF r n P N (.region i (toArray ops) false) ds L w A B X1 Z:=fun h=>AKg (ABf hd) (S9 f ops σ L w h (fun t J=>AX2 _ J) U hA)
     cases J:AFY G ops with
     |false=>simp only[J]at h;exact plain h
     |true=>
      cases hh:AMw ops with
      |none=>simp only[J,hh]at h;exact plain h
      |some t=>
       simp only[J,hh]at h
       cases V:blt t N&&blt t pnc with
       |false=>simp only[V]at h;exact(A2 h).elim
       |true=>
        simp only[V]at h
        obtain⟨hb1,hb2⟩:=Bool.and_eq_true_iff.1 V
        refine AKg (ABf hd) (AIG f hb1 hb2 (AX2 _ ?_) F ops σ L w h (fun t J=>AX2 _ J) U hA E)
        show t∈C1 ops
        cases ops with
        |nil=>cases hh
        |cons o q=>
         have hh:o.dst=some t:=hh
         simp only[C1,hh];exact AX4 ..
    |some q=>
     obtain⟨l0,T,x,t⟩:=q
     simp only[hp]at h
     cases hT:lk G.bd T with
     |none=>simp only[hT]at h;exact(A2 h).elim
     |some pl=>
      cases ht2:blt t N&&blt t pnc with
      |false=>simp only[hT,ht2]at h;exact(A2 h).elim
      |true=>
       simp only[hT,ht2]at h
       obtain⟨J,htp⟩:=Bool.and_eq_true_iff.1 ht2
       obtain⟨m,p,ho,hq⟩:=AKk hp
       obtain⟨C,O,h3,h4,h5⟩:=AKj hq
       obtain⟨fields,g,_⟩:=BdOk.at f.bd hT
       have hw0:∀u,u∈C1 l0\/u=t->u∈D4 (.region i (toArray ops) false)++C9 l:=fun u g=>AX2 _ (by
        show u∈C1 ops;rw[ho];exact ADD O g)
       refine AKg (ABf hd) ?_
       have key:=S9 (P:=P) (ops:=ops) (ds:=ds) (B:=B) (X:=X1) (Z:=Z) (W:=D4 (.region i (toArray ops) false)++C9 l) f l0 σ L w h (fun u g=>hw0 u (.inl g)) U (A:=fun ds' L' w'=>Reg P N (toArray ops) .seq [m,p] ds' L' w' A B X1 Z) fun σ' L' w' hK D I Q=>by
        cases hx:B2 σ'.env x with
        |none=>rw[hx]at hK;exact(A2 hK).elim
        |some s=>
         rw[hx]at hK
         obtain⟨S,ρ,γ,μ,ι,hS⟩:=Q
         obtain⟨v,hv,hok⟩:=hS.ev hx
         refine ATY hq g J hv (F.z T t L' _ w' v htp (fun u g=>by rw[look_cons,if_neg (fun e=>g e.symm)]) ?_)
         refine E _ _ _ _ hK (D.trans (Z5 (some t) (fun u g=>hw0 u (.inr (AXz g).symm)) _ _)) (I.trans ((EnvS.put t L' v).mono fun u g=>hw0 u (.inr (mem_singleton.1 g)))) ⟨S,ρ,γ,μ,ι,hS.put hok⟩
       have R:Reg P N (toArray ops) .seq (l0++[m,p]) ds L w A B X1 Z:=fun a K=>X0 (fun a w h=>by
        obtain⟨ds',L',hk,hr⟩:=h;exact hr a hk) l0 a w (key a K)
       have R:Reg P N (toArray ops) .seq ops ds L w A B X1 Z:=by rw[<-ho]at R;exact R
       exact R
 |.seq a b,an=>by
  refine ADr fun l=>?_;intro Y KN KX KR σ L w z A B X Z X1 h U hA E d F;have K:∀t∈D4 a++C9 l.l,t∈D4 (.seq a b)++C9 l:=fun t J=>(mem_append.1 J).elim (fun h=>AX2 _ (AX2 _ h)) fun h=>AX3 _ (AKl l t h);have V:∀t∈D4 b++C9 l.r,t∈D4 (.seq a b)++C9 l:=fun t J=>(mem_append.1 J).elim (fun h=>AX2 _ (AX3 _ h)) fun h=>AX3 _ (AKm l t h);refine AKh (I0 f a l.l _ _ _ _ _ _ _ _ _ _ _ _ _ h U (fun σ1 L1 w1 C D I H=>?_) (fun i σ1 L1 w1 C D I H=>E i σ1 L1 w1 C (D.mono K) (I.mono K) H) (fun r σ1 L1 w1 C O I H=>d r σ1 L1 w1 C O (I.mono K) H) F);exact I0 f b l.r _ _ _ _ _ _ _ _ _ _ _ _ _ C H (fun σ2 L2 w2 O hR2 hE2 hH2=>hA σ2 L2 w2 O ((D.mono K).trans (hR2.mono V)) ((I.mono K).trans (hE2.mono V)) hH2) (fun i σ2 L2 w2 O hR2 hE2 hH2=>E i σ2 L2 w2 O ((D.mono K).trans (hR2.mono V)) ((I.mono K).trans (hE2.mono V)) hH2) (fun r σ2 L2 w2 C O hE2 hH2=>d r σ2 L2 w2 C O ((I.mono K).trans (hE2.mono V)) hH2) F
 |.cond c a b,an=>by
  refine ADr fun l=>?_;intro Y KN KX KR σ L w z A B X Z X1 h U hA E d F;have K:∀t∈D4 a++C9 l.l,t∈D4 (.cond c a b)++C9 l:=fun t J=>(mem_append.1 J).elim (fun h=>AX2 _ (AX2 _ h)) fun h=>AX3 _ (AKl l t h);have V:∀t∈D4 b++C9 l.r,t∈D4 (.cond c a b)++C9 l:=fun t J=>(mem_append.1 J).elim (fun h=>AX2 _ (AX3 _ h)) fun h=>AX3 _ (AKm l t h);have hH0:=U;obtain⟨S,ρ,γ,μ,ι,hS⟩:=hH0;have h:(match B2 σ.env c with
   |some (.bool t)=>cond t (exec G N pr a l.l KN KX KR σ) (exec G N pr b l.r KN KX KR σ)
   |_=>none)=some z:=h
  cases hc:B2 σ.env c with
  |none=>rw[hc]at h;exact(A2 h).elim
  |some s=>
   rw[hc]at h
   cases s with
   |bool t=>
    refine ARq (hS.bool hc) (fun J=>?_) fun J=>?_
    . subst J
      exact I0 f a l.l _ _ _ _ _ _ _ _ _ _ _ _ _ h U (fun σ' L' w' C D I H=>hA σ' L' w' C (D.mono K) (I.mono K) H) (fun i σ' L' w' C D I H=>E i σ' L' w' C (D.mono K) (I.mono K) H) (fun r σ1 L1 w1 C O I H=>d r σ1 L1 w1 C O (I.mono K) H) F
    . subst J
      exact I0 f b l.r _ _ _ _ _ _ _ _ _ _ _ _ _ h U (fun σ' L' w' C D I H=>hA σ' L' w' C (D.mono V) (I.mono V) H) (fun i σ' L' w' C D I H=>E i σ' L' w' C (D.mono V) (I.mono V) H) (fun r σ1 L1 w1 C O I H=>d r σ1 L1 w1 C O (I.mono V) H) F
   |int _ _|ary _ _ _|str _ _|agg _|fv _ _ _|fn _ _|dead|tup _|rp _ _|ptr _ _|ep _ _ _ _ _|dat _ _|own _|nilS|raw _|it _ _|np _ _|ap _ _ _ _|undef=>exact(A2 h).elim
 |.block i a,an=>by
  refine ADr fun l=>?_;intro Y KN KX KR σ L w z A B X Z X1 h U hA E d F;cases hi:blt i pnc with
  |false=>simp only[hi]at h;exact(A2 h).elim
  |true=>
  simp only[hi]at h;refine APq (I0 f a l _ _ _ _ _ _ _ _ _ _ _ _ _ h U hA (fun j σ' L' w' C D I H=>?_) d (F.block hi));have hq:(bif beq j i then KN σ' else KX j σ')=some z:=C
  cases V:beq j i with
  |true=>
   rw[V,cond_true]at hq
   have:=AX5 V
   subst this
   exact T7 (hA σ' L' w' hq D I H)
  |false=>
   rw[V,cond_false]at hq
   exact ANi V (E j σ' L' w' hq D I H)
 |.loop c,an=>by
  intro Y KN KX KR σ L w z A B X Z X1 h U hA E d F;cases an with
  |x=>exact(A2 h).elim
  |nd _ _=>exact(A2 h).elim
  |jn _ _=>exact(A2 h).elim
  |lp hd ks l=>
   let W:=D4 c++(J5 hd.cs++O3 ks++C9 l)
   let body:O2 hd.cs->Option (O2 hd.cs⊕AEF Γ ks):=fun s=>exec G N pr c l (fun σ'=>APO (I8 hd σ')) (fun j σ'=>AJz (AAz (AMs j σ') ks)) (fun r=>AJz (AAz (AMt r) ks)) (B6 W hd σ.start s)
   have h:(match I8 hd σ.start with
    |some s0=>(C0 body s0).bind (AC3 W (fun _=>none) KX KR σ ks)
    |none=>none)=some z:=h
   have k:∀t∈D4 c++C9 l,t∈W:=fun t J=>(mem_append.1 J).elim (AX2 _) fun h=>AX3 _ (AX3 _ h)
   have hhd:∀t∈J5 hd.cs,t∈W:=fun t J=>AX3 _ (AX2 _ (AX2 _ J))
   have hks:∀t∈O3 ks,t∈W:=fun t J=>AX3 _ (AX2 _ (AX3 _ J))
   cases h0:I8 hd σ.start with
   |none=>rw[h0]at h;exact(A2 h).elim
   |some s0=>
    rw[h0]at h
    obtain⟨q,C,O⟩:=bindS h
    obtain⟨n,hn⟩:=loopM_some.1 C
    have hst:Holds w0 Mu M (B6 W hd σ.start s0) L w:=by
     obtain⟨S,ρ,γ,μ,ι,hS⟩:=AF3 U;exact T2 hS (Rel.refl _) h0
    refine ARr (ι:=A7×O2 hd.cs×Nat) (fun i=>i.1) (fun i w=>EnvS W L i.1/\Holds w0 Mu M (B6 W hd σ.start i.2.1) i.1 w/\P1 body i.2.2 i.2.1=some q) (fun i=>i.2.2) (L,s0,n) ⟨EnvS.refl _ _,hst,hn⟩ (Sub.refl L) ?_
    rintro⟨L1,s,m⟩ w1 ⟨hE1,H,hm⟩
    have hE1:EnvS W L L1:=hE1
    cases m with
    |zero=>cases hm
    |succ m=>
     have hm:P1 body (m+1) s=some q:=hm
     simp only[P1]at hm
     cases V:body s with
     |none=>rw[V]at hm;exact(A2 hm).elim
     |some y=>
      rw[V]at hm
      have hrel:Rel P W σ.start (B6 W hd σ.start s):=ACA hhd fun _ h=>h
      refine I0 f c l _ _ _ _ _ _ _ _ _ _ _ _ _ V H (fun σ' L' w' hk D I Q=>?_) (fun i σ' L' w' hk D I Q=>?_) (fun r σ' L' w' hp hk I Q=>?_) F
      . obtain⟨s',h3,rfl⟩:=APw hk
        refine⟨rfl,(L',s',m),⟨hE1.trans (I.mono k),?_,hm⟩,Sub.refl L',AZa m⟩
        obtain⟨S,ρ,γ,μ,ι,hS⟩:=Q
        exact T2 hS (hrel.trans (D.mono k)) h3
      . obtain⟨q',h3,rfl⟩:=AKn hk
        have hm:q'=q:=AXz hm
        subst hm
        exact AOT hks h3 O (hrel.trans (D.mono k)) (hE1.trans (I.mono k)) Q E
      . obtain⟨q',h3,rfl⟩:=AKn hk
        have hm:q'=q:=AXz hm
        subst hm
        exact d r σ' L' w' hp (AOU h3 O) (hE1.trans (I.mono k)) Q
 |.exit i,an=>by
  intro Y KN KX KR σ L w z A B X Z X1 h U hA E d F;have h:(match blt i pnc with
   |true=>KX i σ
   |false=>none)=some z:=h
  cases hi:blt i pnc with
  |false=>rw[hi]at h;exact(A2 h).elim
  |true=>
   rw[hi]at h
   exact ARp (F.x i _ _ hi (E i _ _ _ h (Rel.refl _) (EnvS.refl _ _) U))
 |.ret,an=>by
  intro Y KN KX KR σ L w z A B X Z X1 h U hA E d F;have h:(match pr σ with
   |some r=>KR r
   |none=>none)=some z:=h
  cases hp:pr σ with
  |none=>rw[hp]at h;exact(A2 h).elim
  |some r=>rw[hp]at h;exact ATU (d r σ L w hp h (EnvS.refl _ _) U)
 |.rangeFunc _ _ _ _,an=>by intro Y KN KX KR σ L w z A B X Z X1 h;cases h
 |.scope a,an=>by
  intro Y KN KX KR σ L w z A B X Z X1 h U hA E d F;exact APp (I0 f a an _ _ _ _ _ _ _ _ _ _ _ _ _ h U hA E d F)
 |.label _,an=>fun _ _ _ _ _ _ _ _ _ _ _ _ _ h U hA _ _ _=>APo (hA _ _ _ h (Rel.refl _) (EnvS.refl _ _) U)
 |.goto _,an=>by intro Y KN KX KR σ L w z A B X Z X1 h;cases h
 |.refuse _,an=>by intro Y KN KX KR σ L w z A B X Z X1 h;cases h
end Go.Rx
namespace Go.Rx
open Go Go.Sx Go.RowKit
variable[Trk][Sg][Sf]{P:Program}[Se P]
class Sn(P:outParam Program)[Se P]:Prop where
 tn:∀n,Sf.nm n=true->TnE (Se.E (P:=P) n)
instance (k:IntKind) (n:Nat):TnE (APE k n):=⟨fun _ h=>h⟩
theorem AHU[Sn P]:∀(t:Ty),AAc t=true->TnE (enc (P:=P) t)
 |.int k,_=>inferInstanceAs (TnE (B1 k))
 |.bool,_=>inferInstanceAs (TnE boolE)
 |.sl t,h=>by
  have:=AHU t h;exact inferInstanceAs (TnE (K5 (enc t)))
 |.st n,h=>Sn.tn n h
 |.arr k n,_=>⟨fun _ h=>h⟩
 |.fno _,_=>⟨fun _ h=>h⟩
 |.mp _ _ _,h=>by cases h
variable{ρ:Nat->Value}{R:Nat->Option AR}{M:List Nat}{w w':World}
theorem OkD.tn[Sn P]{t:Ty}{x:den t}{v:Value}(H:AAc t=true)(h:Tn w w')(hd:OkD M w t x v):OkD M w' t x v:=by
 have:=AHU (P:=P) t H;exact Vl.tn h hd
theorem ACl:∀(t:Ty) {x:den t},ok1 t x->(enc (P:=P) t).R M w (AMd t x) x
 |.int k,x,h=>⟨rfl,h⟩
 |.bool,x,_=>rfl
 |.arr k n,x,h=>⟨h.1,h.2.1,rfl,h.2.2⟩
 |.sl _,_,h=>h.elim
 |.st _,_,h=>h.elim
 |.mp _ _ _,_,h=>h.elim
 |.fno _,_,h=>h.elim
theorem AIx:∀(l:List Ty) {x:P2 l},okT l x->(AE2 (P:=P) l).R M w (AJs l x) x
 |[],_,h=>h.elim
 |[t],x,h=>ACl t h
 |t::u::l,x,h=>(prodE_R (E:=enc (P:=P) t) (F:=AE2 (P:=P) (u::l))).2 ⟨_,_,rfl,ACl t h.1,AIx (u::l) h.2⟩
theorem ADs[Sl (P:=P)]:∀(t:Ty) {x:den t},okI t x->OkD (P:=P) M w t x (M8 t x)
 |.int k,x,h=>⟨_,ACl (P:=P) (.int k) h,.inr ⟨rfl,rfl⟩⟩
 |.bool,x,h=>⟨_,ACl (P:=P) .bool h,.inr ⟨rfl,rfl⟩⟩
 |.arr k n,x,h=>⟨_,ACl (P:=P) (.arr k n) h,.inl ⟨rfl,rfl⟩⟩
 |.st n,x,h=>⟨_,(Sl.is n M w _ x).2 (AIx (Sf.ft n) h),.inl ⟨rfl,rfl⟩⟩
 |.sl _,_,h=>h.elim
 |.mp _ _ _,_,h=>h.elim
 |.fno _,_,h=>h.elim
abbrev AVV(M0:List Nat)(w0:World):Anch:=⟨fun M w=>Adv M0 M w0 w,fun h k=>h.trans k⟩
abbrev AHV(D:Nat):Anch:=⟨fun M w=>D∉M/\w.heap[D]?=some (.deferred (some [])),fun {M M' w w'} h k=>by
 have hlt:D<w.heap.size:=K7 h.2;exact⟨fun hm=>(k.new D hm).elim h.1 fun h1=>by omega,(k.kp.block D hlt h.1).trans h.2⟩⟩
theorem HS.envTo[Anch]{w0 w:World}{Mu M:List Nat}{σ:AS}{L L2:A7}{S:List Res}{ρ:Nat->Value}{γ:Nat->List Value}{μ:Nat->List Nat}{ι:Nat->Nat}(h:HS (P:=P) w0 Mu M σ L2 w S ρ γ μ ι)(I:∀t s,A1 σ.env t=some s->Sx.A5 L2 t=Sx.A5 L t):HS (P:=P) w0 Mu M σ L w S ρ γ μ ι:=
 ⟨h.hp,h.res,h.inj,h.row,fun t s H=>by
  obtain⟨v,U,J⟩:=h.env t s H;exact⟨v,(I t s H).symm.trans U,J⟩,h.anch⟩
end Go.Rx
namespace Go.Rx
open Go Go.Sx Go.RowKit
section
variable[Sg][Sf](G:Gx)
def Z7(σ:AS):ResultVar->Option SV
 |.tmp t=>A1 σ.env t
 |.cell t e=>match A1 σ.env t with
  |some v=>AFU G (A1 σ.res) e v
  |none=>none
def ACm(R:Nat->Option AR):(c:Ck)->SV->Option c.den
 |.d t,s=>B9 R t s
 |.own c,s=>AEE R c s
 |.undef,_=>none
 |.it _,_=>none
 |.np t,s=>match s with
  |.raw v=>match v with
   |.pointer a=>match a with
    |none=>some none
    |some _=>none
   |_=>none
  |.np t' x=>match x with
   |some y=>match G8 t' t y with
    |some y=>some (some y)
    |none=>none
   |none=>none
  |.rp v o=>match Z3 R t (.rp v o) with
   |some x=>some (some x)
   |none=>none
  |.ptr i o=>match Z3 R t (.ptr i o) with
   |some x=>some (some x)
   |none=>none
  |_=>none
def AEQ(σ:AS):(cs:List Ck)->List ResultVar->Option (E2 cs)
 |[],rs=>match rs with
  |[]=>some ()
  |_=>none
 |[c],rs=>match rs with
  |[r]=>match Z7 G σ r with
   |some s=>ACm (A1 σ.res) c s
   |none=>none
  |_=>none
 |c::d::l,rs=>match rs with
  |r::q=>match Z7 G σ r with
   |some s=>match ACm (A1 σ.res) c s with
    |some x=>match AEQ σ (d::l) q with
     |some y=>some (x,y)
     |none=>none
    |none=>none
   |none=>none
  |[]=>none
def Q2(σ:AS):List Ck->List ResultVar->List Nat
 |.own _::l,r::q=>match Z7 G σ r with
  |some (.own i)=>i::Q2 σ l q
  |_=>Q2 σ l q
 |_::l,_::q=>Q2 σ l q
 |_,_=>[]
def ABN(σ:AS):List Ck->List ResultVar->List Nat
 |.d _::l,r::q=>match Z7 G σ r with
  |some s=>A9 s++ABN σ l q
  |none=>ABN σ l q
 |_::l,_::q=>ABN σ l q
 |_,_=>[]
def npK(cs:List Ck):List Nat->Bool
 |[]=>true
 |_=>cs.all fun c=>match c with
  |.np _=>false
  |_=>true
def V0(cs:List Ck)(rs:List ResultVar)(σ:AS):Option (E2 cs):=match okK (Q2 G σ cs rs) (ABN G σ cs rs)&&npK cs (Q2 G σ cs rs) with
 |true=>AEQ G σ cs rs
 |false=>none
def AJL:(b:Bool)->(t:Ty)->AEv b t->SV
 |false,t,x=>.rp (G0 t x) 0
 |true,t,x=>.rp (.np t x) 0
def AHW:(cs:List (Bool×Ty))->AAW cs->List SV
 |[],_=>[]
 |(b,t)::cs,x=>AJL b t x.1::AHW cs x.2
def AA4:Nat->(ps:List Pt)->E0 ps->List (Nat×SV)
 |_,[],_=>[]
 |i,.d t::ps,x=>(i,G0 t x.1)::AA4 (i+1) ps x.2
 |i,.pt t::ps,x=>(i,.rp (G0 t x.1) 0)::AA4 (i+1) ps x.2
 |i,.fn a r::ps,x=>(i,.fv a r x.1)::AA4 (i+1) ps x.2
 |i,.pp t::ps,x=>(i,AJL true t x.1)::AA4 (i+1) ps x.2
 |i,.nl::ps,x=>(i,.nilS)::AA4 (i+1) ps x.2
 |i,.cl g cs::ps,x=>(i,.rp (.fn g (AHW cs x.1)) 0)::AA4 (i+1) ps x.2
def ATa(f:Func)(an:An)(ps:List Pt)(cs:List Ck)(a:E0 ps):Option (E2 cs):=match f.body with
 |some c=>exec G f.ntmps (V0 G cs f.results.toList) c an (V0 G cs f.results.toList) (fun _ _=>none) some ⟨AA4 0 ps a,[],[],[]⟩
 |none=>none
end
variable[Trk][Sg][Sf]{P:Program}[Se P]
section
variable[Anch]{w0 w:World}{Mu M:List Nat}{σ:AS}{L:A7}{S:List Res}{ρ:Nat->Value}{γ:Nat->List Value}{μ:Nat->List Nat}{ι:Nat->Nat}{G:Gx}{b:Nat}{o:Nat}{vs:List Value}{s:SV}{mv:List Nat}{c:Ck}{i:Nat}{q:List ResultVar}
theorem Cells.drop{w:World}(h:Cells w b o vs){o':Nat}{cs:List Value}(H:∀j y,cs[j]?=some y->vs[o'+j]?=some y):Cells w b (o+o') cs:=fun j y hy=>by
 have:=h (o'+j) y (H j y hy);rwa [<-AYs]at this
theorem APx[Sl (P:=P)](h:HS w0 Mu M σ L w S ρ γ μ ι)(J:GxOk P G){t e b o0 o:Nat}{v s:SV}{u:Value}(hx:Sx.A5 L t=some (.pointer (some ⟨b,o0+o,none⟩)))(V:Cells w b o0 vs)(W:u.cells=toArray vs)(hv:Ok ρ (A1 σ.res) (mm S M) w v u)(C:S6 G e o v=some s):∃y,RsOk P L w (.cell t e) y/\Ok ρ (A1 σ.res) (mm S M) w s y:=by
 have hl:u.cells.toList=vs:=by rw[W]
 rcases AEI C hv with⟨H,y,I,U⟩|⟨n,cs,H,I,U,D⟩
 . rw[hl]at I;exact⟨y,.one hx (V o y I) (ACR J.ag H),U⟩
 . refine⟨_,.agg hx (Cells.drop V fun j y hy=>?_) (AgOk.at1 J.ag H).1 I (AgOk.at1 J.ag H).2,D⟩;have:=U j y hy;rwa [hl]at this
theorem AIH[Sl (P:=P)](h:HS w0 Mu M σ L w S ρ γ μ ι)(D:GxOk P G){r:ResultVar}(H:Z7 G σ r=some s):∃v,RsOk P L w r v/\Ok ρ (A1 σ.res) (mm S M) w s v:=by
 cases r with
 |tmp t=>
  obtain⟨v,W,V⟩:=h.env t s H
  exact⟨v,.tmp W,V⟩
 |cell t e=>
  have H:(match A1 σ.env t with
   |some v=>AFU G (A1 σ.res) e v
   |none=>none)=some s:=H
  cases C:A1 σ.env t with
  |none=>rw[C]at H;exact(A2 H).elim
  |some v=>
   rw[C]at H
   simp only at H
   obtain⟨a,W,V⟩:=h.env t v C
   cases v with
   |rp v o=>
    obtain⟨b,o0,u',vs,rfl,U,J,I⟩:=V
    exact APx h D W U.cells I J H
   |ptr i o=>
    have H:(match A1 σ.res i with
     |some (.row _ l)=>S6 G e o (.agg l)
     |_=>none)=some s:=H
    cases hi:A1 σ.res i with
    |none=>rw[hi]at H;exact(A2 H).elim
    |some a=>
     rw[hi]at H
     cases a with
     |own _ _ _=>exact(A2 H).elim
     |row e' l=>
      obtain⟨b,U,rfl⟩:=V
      obtain⟨b',J,I,E,_⟩:=h.rowAt hi
      rw[U]at J;cases J
      exact APx (u:=.agg (toArray (γ i))) (v:=.agg l) (o0:=0) h D (by rw[W,AYQ]) I.rd.cells rfl ⟨_,rfl,E⟩ H
   |ep i u ix z o=>
    cases z with
    |none=>exact(A2 H).elim
    |some z=>
     obtain⟨g,n,c,p,e',xs,U,J,I,rfl,E⟩:=V
     have Q:=h.ownAt J
     have Y:=(AAC (E z rfl)).2.2
     obtain⟨g',cap,cur,T,B,_⟩:=Q.at_ (by have:=I.1;have:=I.2;omega)
     rw[U]at T;cases T
     obtain⟨cs,A,O⟩:=Q.cellsAt B Y
     obtain⟨y,K,F⟩:=J6 A
     exact APx h D W O F (E1 u K) H
   |int _ _|bool _|ary _ _ _|str _ _|agg _|fv _ _ _|fn _ _|undef|dead|tup _|dat _ _|own _|nilS|raw _|it _ _|np _ _|ap _ _ _ _=>exact(A2 H).elim
theorem Own.nilO(h:Hp w0 Mu M S w){c:Oc}{x:den c.ty}(hx:nilO c=some x):Hnd (.slice none 0 0) c/\(E9 (P:=P) [] (.slice none 0 0) c x).holds (O8 c (.slice none 0 0)++M) w/\∀b∈O8 c (.slice none 0 0),w0.heap.size<=b:=by
 refine⟨?_,AG9 (AKV h hx) 0 rfl⟩;cases c with
 |sl _ _=>trivial
 |mp _ _ _=>cases hx
theorem AL0[Sl (P:=P)](h:HS w0 Mu M σ L w S ρ γ μ ι)(W:∀i∈mv,∃a,A1 σ.res i=some a){x:c.den}{v:Value}(H:ACm (A1 σ.res) c s=some x)(hv:Ok ρ (A1 σ.res) (mm S M) w s v)(hd:∀t,c=.d t->∀i∈A9 s,i∉mv)(B:∀e i,c=.own e->s=.own i->i∈mv)(K:∀t,c=.np t->mv=[]):(∀Mo,(∀b∈Mo,b∈mm (sel S (mv.map ι)) M)->CkOk M Mo w0 w c x v)/\∀e,c=.own e->∀b∈O8 e v,b∈mm (sel S (mv.map ι)) M:=by
 cases c with
 |d t=>
  refine⟨fun Mo J=>?_,fun e H=>by cases H⟩
  refine I5 (fun b I=>ADW (J b I)) t s (fun i hi p c0 xs D=>?_) H hv
  have G:=hd t rfl i hi
  have O:(mv.map ι).contains (ι i)=false:=by
   cases I:(mv.map ι).contains (ι i) with
   |false=>rfl
   |true=>
    simp only[List.contains_eq_mem,decide_eq_true_eq]at I
    obtain⟨j,E,C⟩:=mem_map.1 I
    obtain⟨b,I⟩:=W j E
    have:=h.inj j i b _ I D C
    subst this
    exact absurd E G
  exact(AH3 h.hp _ (ι i) O (h.row i _ D) (h.res i _ D)).adv (Adv.drop J)
 |own e=>
  rcases AAd H with⟨i,rfl,hi⟩|⟨rfl,hx⟩
  . have T:=h.res i _ hi
    obtain⟨Q,A,Y⟩:=hv
    subst Q
    have hm:=B e i rfl rfl
    refine⟨fun Mo _=>⟨h.row i _ hi,AG9 h.hp (ι i) T⟩,fun _ C b I=>?_⟩
    cases C
    refine mem_mm.2 (.inl ⟨G9 (ρ i) (γ i) (μ i) (.own false e x),?_,ADg (P:=P) I⟩)
    have hk:(sel S (mv.map ι))[pos mv i]?=S[ι i]?:=AID (fun j E=>by
     obtain⟨a,D⟩:=W j E;exact⟨_,h.res j a D⟩) hm
    rw[T]at hk
    exact AX1 hk
  . have hv:v=.slice none 0 0:=hv
    subst hv
    refine⟨fun Mo _=>Own.nilO h.hp hx,fun _ C b I=>?_⟩
    cases C
    exact(ALv (P:=P) (show nilO e=some (show den e.ty from x) from hx) (ADg (P:=P) I)).elim
 |undef|it _=>exact(A2 H).elim
 |np t=>
  refine⟨fun Mo J=>?_,fun e H=>by cases H⟩
  have V:=K t rfl
  subst V
  have J:∀b∈Mo,b∈M:=fun b I=>J b I
  have X:∀b∈M,b∈mm S M:=fun b I=>mem_mm.2 (.inr I)
  have key:∀{s:SV} {x:Option (den t)},(match Z3 (A1 σ.res) t s with
    |some x=>some (some x)
    |none=>none)=some x->Ok ρ (A1 σ.res) (mm S M) w s v->NpOk Mo w t x v:=fun {s x} U hv=>by
   cases F:Z3 (A1 σ.res) t s with
   |none=>rw[F]at U;exact(A2 U).elim
   |some y=>
    rw[F]at U
    cases U
    obtain⟨b,o,vs,Q,A,Y⟩:=ADi (M':=M) X (h.lend (A9 s)) F hv
    exact(NpOk.mon J (.inr ⟨y,b,o,vs,rfl,Q,A,Y⟩))
  cases s with
  |raw u=>
   obtain⟨hv,_⟩:=hv
   subst hv
   cases v with
   |pointer a=>
    cases a with
    |none=>
     have H:some none=some x:=H
     cases H
     exact .inl ⟨rfl,rfl⟩
    |some _=>exact(A2 H).elim
   |_=>exact(A2 H).elim
  |np t' q=>
   cases q with
   |none=>exact(A2 H).elim
   |some y=>
    have U:(match G8 t' t y with
     |some y=>some (some y)
     |none=>none)=some x:=H
    exact key (s:=.np t' (some y)) U hv
  |rp u o=>exact key (s:=.rp u o) H hv
  |ptr i o=>exact key (s:=.ptr i o) H hv
  |int _ _|bool _|ary _ _ _|str _ _|agg _|fv _ _ _|fn _ _|undef|dead|tup _|dat _ _|own _|nilS|ep _ _ _ _ _|it _ _|ap _ _ _ _=>exact(A2 H).elim
theorem AKo{r:ResultVar}{e:Oc}(H:Z7 G σ r=some (.own i)){l:List Ck}:i∈Q2 G σ (.own e::l) (r::q):=by
 simp only[Q2,H];exact AX4 ..
theorem AOV{r:ResultVar}{l:List Ck}(h:i∈Q2 G σ l q):i∈Q2 G σ (c::l) (r::q):=by
 cases c with
 |d _=>exact h
 |undef|it _|np _=>exact h
 |own e=>
  simp only[Q2]
  split
  . exact AX0 _ h
  . exact h
theorem AOW{r:ResultVar}{l:List Ck}(h:i∈ABN G σ l q):i∈ABN G σ (c::l) (r::q):=by
 cases c with
 |undef|it _|np _=>exact h
 |own _=>exact h
 |d t=>
  simp only[ABN]
  split
  . exact AX3 _ h
  . exact h
theorem AGi:∀{cs:List Ck} {rs:List ResultVar} {x:E2 cs},AEQ G σ cs rs=some x->∀i∈Q2 G σ cs rs,∃a,A1 σ.res i=some a:=by
 have one:∀{i:Nat} {e:Oc} {x:den e.ty},AEE (A1 σ.res) e (.own i)=some x->∃a,A1 σ.res i=some a:=fun {i e x} h=>by
  rcases AAd h with⟨j,I,V⟩|⟨I,_⟩
  . cases I;exact⟨_,V⟩
  . cases I
 intro cs;induction cs with
 |nil=>intro rs x _ i hi;cases rs<;>cases hi
 |cons c l ih=>
  intro rs x h i hi
  cases rs with
  |nil=>cases c<;>cases hi
  |cons r q=>
   have hd:∃s y,Z7 G σ r=some s/\ACm (A1 σ.res) c s=some y:=by
    cases l with
    |nil=>
     cases q with
     |cons _ _=>exact(A2 h).elim
     |nil=>
      have h:(match Z7 G σ r with
       |some s=>ACm (A1 σ.res) c s
       |none=>none)=some x:=h
      cases H:Z7 G σ r with
      |none=>rw[H]at h;exact(A2 h).elim
      |some s=>rw[H]at h;exact⟨s,x,rfl,h⟩
    |cons d l=>
     have h:(match Z7 G σ r with
      |some s=>match ACm (A1 σ.res) c s with
       |some x=>match AEQ G σ (d::l) q with
        |some y=>some (x,y)
        |none=>none
       |none=>none
      |none=>none)=some x:=h
     cases H:Z7 G σ r with
     |none=>rw[H]at h;exact(A2 h).elim
     |some s=>
      rw[H]at h
      simp only at h
      cases hy:ACm (A1 σ.res) c s with
      |none=>rw[hy]at h;exact(A2 h).elim
      |some y=>exact⟨s,y,rfl,hy⟩
   obtain⟨s,y,H,hy⟩:=hd
   have J:i∈Q2 G σ l q->∃a,A1 σ.res i=some a:=fun hi=>by
    cases l with
    |nil=>cases q<;>cases hi
    |cons d l=>
     have h:(match Z7 G σ r with
      |some s=>match ACm (A1 σ.res) c s with
       |some x=>match AEQ G σ (d::l) q with
        |some y=>some (x,y)
        |none=>none
       |none=>none
      |none=>none)=some x:=h
     rw[H]at h
     simp only[hy]at h
     cases U:AEQ G σ (d::l) q with
     |none=>rw[U]at h;exact(A2 h).elim
     |some z=>exact ih U i hi
   cases c with
   |d _=>exact J hi
   |undef|it _|np _=>exact J hi
   |own e=>
    simp only[Q2,H]at hi
    split at hi
    . rename_i j I
      cases I
      rcases mem_cons.1 hi with rfl|hi
      . exact one (show AEE (A1 σ.res) e (.own i)=some y from hy)
      . exact J hi
    . exact J hi
theorem AOX{l:List Ck}(h:npK (c::l) mv=true):∀t,c=.np t->mv=[]:=fun t H=>by
 cases mv with
 |nil=>rfl
 |cons _ _=>
  subst H
  simp[npK]at h
theorem ATb{l:List Ck}(h:npK (c::l) mv=true):npK l mv=true:=by
 cases mv with
 |nil=>rfl
 |cons _ _=>
  simp only[npK,List.all_cons,Bool.and_eq_true]at h ⊢
  exact h.2
theorem AFk[Sl (P:=P)](h:HS w0 Mu M σ L w S ρ γ μ ι)(O:GxOk P G){mv:List Nat}(V:∀i∈mv,∃a,A1 σ.res i=some a):∀(cs:List Ck) (rs:List ResultVar) {x:E2 cs},(∀i∈Q2 G σ cs rs,i∈mv)->(∀i∈ABN G σ cs rs,i∉mv)->npK cs mv=true->AEQ G σ cs rs=some x ->
  ∃vs,AllRs P L w rs vs/\vs.length=cs.length/\(∀Mo,(∀b∈Mo,b∈mm (sel S (mv.map ι)) M)->KsOk M Mo w0 w cs x vs)/\∀b∈X7 cs vs,b∈mm (sel S (mv.map ι)) M
 |[],rs,x,_,_,_,hx=>by
  cases rs with
  |nil=>exact⟨[],.nil,rfl,fun _ _=>rfl,fun b H=>by cases H⟩
  |cons _ _=>exact(A2 hx).elim
 |[c],rs,x,E,D,J,hx=>by
  cases rs with
  |nil=>exact(A2 hx).elim
  |cons r q=>
   cases q with
   |cons _ _=>exact(A2 hx).elim
   |nil=>
    have hx:(match Z7 G σ r with
     |some s=>ACm (A1 σ.res) c s
     |none=>none)=some x:=hx
    cases I:Z7 G σ r with
    |none=>rw[I]at hx;exact(A2 hx).elim
    |some s=>
     rw[I]at hx
     obtain⟨v,A,Y⟩:=AIH h O I
     obtain⟨T,Q⟩:=AL0 h V hx Y (fun t W i hi=>D i (by subst W;simp only[ABN,I];exact AX2 _ hi)) (fun e i W K=>E i (by subst W;subst K;exact AKo I)) (AOX J)
     refine⟨[v],.cons A .nil,rfl,fun Mo U=>⟨v,rfl,T Mo U⟩,fun b H=>?_⟩
     cases c with
     |d _=>cases H
     |undef|it _|np _=>cases H
     |own e=>
      have H:b∈O8 e v++[]:=H
      rw[AYO]at H
      exact Q e rfl b H
 |c::d::l,rs,x,E,D,J,hx=>by
  cases rs with
  |nil=>exact(A2 hx).elim
  |cons r q=>
   have hx:(match Z7 G σ r with
    |some s=>match ACm (A1 σ.res) c s with
     |some x=>match AEQ G σ (d::l) q with
      |some y=>some (x,y)
      |none=>none
     |none=>none
    |none=>none)=some x:=hx
   cases I:Z7 G σ r with
   |none=>rw[I]at hx;exact(A2 hx).elim
   |some s=>
    rw[I]at hx
    simp only at hx
    cases hy:ACm (A1 σ.res) c s with
    |none=>rw[hy]at hx;exact(A2 hx).elim
    |some y=>
     rw[hy]at hx
     simp only at hx
     cases F:AEQ G σ (d::l) q with
     |none=>rw[F]at hx;exact(A2 hx).elim
     |some z=>
      rw[F]at hx
      have hx:(y,z)=x:=AXz hx
      subst hx
      obtain⟨v,A,Y⟩:=AIH h O I
      obtain⟨T,Q⟩:=AL0 h V hy Y (fun t W i hi=>D i (by subst W;simp only[ABN,I];exact AX2 _ hi)) (fun e i W K=>E i (by subst W;subst K;exact AKo I)) (AOX J)
      obtain⟨vs,Z,X,B,C⟩:=AFk h O V (d::l) q (fun i hi=>E i (AOV hi)) (fun i hi=>D i (AOW hi)) (ATb J) F
      refine⟨v::vs,.cons A Z,by simp[X],fun Mo U=>⟨v,vs,rfl,T Mo U,B Mo U⟩,fun b H=>?_⟩
      cases c with
      |d _=>exact C b H
      |undef|it _|np _=>exact C b H
      |own e=>
       rcases mem_append.1 (show b∈O8 e v++X7 (d::l) vs from H) with H|H
       . exact Q e rfl b H
       . exact C b H
end
theorem AKp{M:List Nat}{w:World}{ρ:Nat->Value}{R:Nat->Option AR}:∀(b:Bool) {t:Ty} {x:AEv b t} {v:Value},BOk (P:=P) M w b t x v->Ok ρ R M w (AJL b t x) v
 |false,u,x,v,⟨b,o,vs,J,I,H⟩=>by
  obtain⟨y,V,U⟩:=J6 H;exact⟨b,o,y,vs,J,I,E1 u V,U⟩
 |true,u,x,v,⟨b,o,y,J,I,H⟩=>⟨b,o,y,[y],J,I,H,by rw[(NpOk.one H).1]⟩
theorem AIy{M:List Nat}{w:World}{ρ:Nat->Value}{R:Nat->Option AR}:∀(cs:List (Bool×Ty)) {x:AAW cs} {vs:List Value},BsOk (P:=P) M w cs x vs->OkV ρ R M w (AHW cs x) vs
 |[],_,_,h=>h
 |(b,_)::cs,_,_,⟨v,r,J,I,H⟩=>⟨v,r,J,AKp b I,AIy cs H⟩
theorem AFl[Sl (P:=P)]{M:List Nat}{w:World}{ρ:Nat->Value}{R:Nat->Option AR}:∀(ps:List Pt) (i:Nat) {a:E0 ps} {vals:List Value},ArgsOk M w ps a vals->∀t s,A1 (AA4 i ps a) t=some s->∃v,Sx.A5 (P6 i vals) t=some v/\Ok ρ R M w s v
 |[],_,_,_,_,t,s,h=>by cases h
 |p::ps,i,a,vals,⟨v,r,C,H,W⟩,t,s,h=>by
  subst C;have key:∀s0,Ok ρ R M w s0 v->A1 ((i,s0)::AA4 (i+1) ps a.2) t=some s->∃v',Sx.A5 (P6 i (v::r)) t=some v'/\Ok ρ R M w s v':=fun s0 D h=>by
   rw[fnd_cons]at h;show ∃v',Sx.A5 ((i,v)::P6 (i+1) r) t=some v'/\_;rw[look_cons];split at h
   . rename_i e;rw[AYB e];cases h;exact⟨v,rfl,D⟩
   . rename_i e;rw[if_neg e];exact AFl ps (i+1) W t s h
  cases p with
  |d u=>exact key _ (E1 u H) h
  |pt u=>
   obtain⟨b,o,vs,rfl,J,I⟩:=H
   obtain⟨y,V,U⟩:=J6 I
   exact key (.rp (G0 u a.1) 0) ⟨b,o,y,vs,rfl,J,E1 u V,U⟩ h
  |fn q r=>exact key (.fv q r a.1) H h
  |pp u=>exact key (AJL true u a.1) (AKp true H) h
  |nl=>exact key .nilS H h
  |cl g cs=>
   obtain⟨b,o,caps,rfl,J,I⟩:=H
   exact key (.rp (.fn g (AHW cs a.1)) 0) ⟨b,o,_,_,rfl,J,⟨caps,rfl,AIy cs I⟩,rfl⟩ h
theorem AER:∀vs:List Value,ACw vs=ABs vs
 |[]=>rfl
 |[_]=>rfl
 |_::_::_=>rfl
theorem B3[Sl (P:=P)]{G:Gx}(E:GxOk P G){k:Nat}{f:Func}{c:Code}{an:An}{ps:List Pt}{cs:List Ck}{F:E0 ps->Option (E2 cs)}(Y:P.funcs[k]?=some f)(V:f.body=some c)(hl:Nat.ble ps.length f.ntmps=true)(Q:Nat.ble cs.length 4=true)(O:Nat.ble (own1 cs) 1=true)(B:∀a,F a=ATa G f an ps cs a):Ctr.ok P k ⟨ps,cs,F⟩:=by
 refine⟨AYT O,fun M w a vals r A T C I=>?_⟩;have I:F a=some r:=I;rw[B]at I;unfold ATa at I;rw[V]at I;have J:∀(ps:List Pt) {a:E0 ps} {vals:List Value},ArgsOk M w ps a vals->vals.length=ps.length:=by
  intro ps;induction ps with
  |nil=>intro a vals h;have h:vals=[]:=h;rw[h];rfl
  |cons p ps ih=>intro a vals h;obtain⟨v,r,rfl,_,W⟩:=h;simp[ih W]
 have N:Holds w [] M ⟨AA4 0 ps a,[],[],[]⟩ (P6 0 vals) w:=by
  refine⟨[],fun _=>undef,fun _=>[],fun _=>[],fun _=>0,Hp.start A,(fun i a h=>by cases h),(fun i j a b h=>by cases h),(fun i a h=>by cases h),fun t s h=>?_,trivial,T⟩;exact AFl ps 0 C t s h
 have fin:∀σ' L' w',V0 G cs f.results.toList σ'=some r->Holds w [] M σ' L' w'->ABC P f (fun e w'=>∃vs,e=.returned (ABs vs)/\KsOk M (X7 cs vs++M) w w' cs r vs/\Ext w w') [] L' w':=fun σ' L' w' H U=>by
  obtain⟨S,ρ,γ,μ,ι,D⟩:=U;unfold V0 at H;cases hk:okK (Q2 G σ' cs f.results.toList) (ABN G σ' cs f.results.toList)&&npK cs (Q2 G σ' cs f.results.toList) with
  |false=>rw[hk]at H;exact(A2 H).elim
  |true=>
   rw[hk]at H
   simp only[Bool.and_eq_true]at hk
   obtain⟨vs,R,W,Z,X⟩:=AFk D E (mv:=Q2 G σ' cs f.results.toList) (AGi H) cs f.results.toList (fun _ h=>h) (AAH hk.1) hk.2 H
   refine N8 (by simp) R (by rw[W];exact Q) ⟨vs,by rw[AER],Z _ (fun b V=>?_),?_⟩
   . exact(mem_append.1 V).elim (X b) fun h=>mem_mm.2 (.inr h)
   . exact D.hp.kp
 refine G6 Y V rfl (by rw[J ps C];exact hl) ?_;refine Y1 (n:=3) ?_;exact I0 E c an _ _ _ _ _ _ _ _ _ _ _ _ _ I N (fun σ' L' w' H _ _ U=>fin σ' L' w' H U) (fun i σ' L' w' H=>by cases H) (fun r' σ' L' w' K hk _ U=>by
  have hk:r'=r:=AXz hk;subst hk;exact fin σ' L' w' K U) PZ.no
end Go.Rx
namespace Go.Rx
open Go Go.Sx Go.RowKit
variable[Trk][Sg][Sf]{P:Program}[Se P]
theorem KI.trans{M:List Nat}{n:Nat}{a b c:World}(h:KI M n a b)(k:KI M n b c):KI M n a c:=
 ⟨k.1.trans h.1,k.2.1.trans h.2.1,k.2.2.1.trans h.2.2.1,AYG h.2.2.2.1 k.2.2.2.1,fun b I H=>(k.2.2.2.2 b I H).trans (h.2.2.2.2 b I H)⟩
theorem KI.putObj{M:List Nat}{n:Nat}{w:World}{l:Nat}{o:Obj}(h:n<=l):KI M n w (w.putObj l o):=
 ⟨rfl,rfl,rfl,by simp,fun b H _=>World.putObj_heap_other (by omega)⟩
end Go.Rx
namespace Go.Rx
open Go Go.Sx Go.RowKit
section
variable[Sg][Sf](G:Gx)
def tnK:List Ck->Bool
 |[]=>true
 |.d t::l=>AAc t&&tnK l
 |.own (.sl _ t)::l=>AAc t&&tnK l
 |.np t::l=>AAc t&&tnK l
 |_=>false
end
variable[Trk][Sg][Sf]{P:Program}[Se P]{L:A7}{w:World}{w':World}{v:Value}{M:List Nat}{Mo:List Nat}{w0:World}{c:Ck}
theorem RsOk.tn(J:Tn w w'){r:ResultVar}(h:RsOk P L w r v):RsOk P L w' r v:=by
 cases h with
 |tmp h=>exact .tmp h
 |agg h I H V U=>exact .agg h (J.cells I) H V U
 |one h I H=>exact .one h (J.cell I) H
theorem AllRs.tn(H:Tn w w'):∀{rs:List ResultVar} {vs:List Value},AllRs P L w rs vs->AllRs P L w' rs vs
 |_,_,.nil=>.nil
 |_,_,.cons h I=>.cons (RsOk.tn H h) (AllRs.tn H I)
theorem CkOk.tn[Sn P](I:Tn w w')(H:tnK [c]=true){x:c.den}(h:CkOk (P:=P) M Mo w0 w c x v):CkOk (P:=P) M Mo w0 w' c x v:=by
 cases c with
 |d t=>
  have H:(AAc t&&tnK [])=true:=H
  simp only[Bool.and_eq_true]at H
  exact OkD.tn H.1 I h
 |own o=>
  cases o with
  |mp _ _ _=>cases H
  |sl e t=>
   have H:(AAc t&&tnK [])=true:=H
   simp only[Bool.and_eq_true]at H
   have:=AHU (P:=P) t H.1
   exact⟨h.1,Own.tn (E:=enc t) I h.2.1,h.2.2⟩
 |undef=>cases H
 |it _=>cases H
 |np t=>
  have H:(AAc t&&tnK [])=true:=H
  simp only[Bool.and_eq_true]at H
  have:=AHU (P:=P) t H.1
  rcases h with h|⟨y,b,o,vs,W,V,J,U⟩
  . exact .inl h
  . exact .inr ⟨y,b,o,vs,W,V,⟨J.out,AYH J.lt I.1,I.cells J.cells⟩,TnE.tn I U⟩
theorem AKq{l:List Ck}(h:tnK (c::l)=true):tnK [c]=true/\tnK l=true:=by
 cases c with
 |d t=>
  have h:(AAc t&&tnK l)=true:=h
  simp only[Bool.and_eq_true]at h
  exact⟨by show(AAc t&&true)=true;rw[h.1];rfl,h.2⟩
 |own o=>
  cases o with
  |mp _ _ _=>cases h
  |sl e t=>
   have h:(AAc t&&tnK l)=true:=h
   simp only[Bool.and_eq_true]at h
   exact⟨by show(AAc t&&true)=true;rw[h.1];rfl,h.2⟩
 |undef=>cases h
 |it _=>cases h
 |np t=>
  have h:(AAc t&&tnK l)=true:=h
  simp only[Bool.and_eq_true]at h
  exact⟨by show(AAc t&&true)=true;rw[h.1];rfl,h.2⟩
theorem KsOk.tn[Sn P](I:Tn w w'):∀(cs:List Ck) {x:E2 cs} {vs:List Value},tnK cs=true->KsOk (P:=P) M Mo w0 w cs x vs->KsOk (P:=P) M Mo w0 w' cs x vs
 |[],_,_,_,h=>h
 |[c],_,_,H,⟨v,U,J⟩=>⟨v,U,CkOk.tn I H J⟩
 |c::d::l,_,_,H,⟨v,r,U,J,V⟩=>⟨v,r,U,CkOk.tn I (AKq H).1 J,KsOk.tn I (d::l) (AKq H).2 V⟩
theorem AL1[Sl (P:=P)][Anch]{G:Gx}(V:GxOk P G){w0 w:World}{M:List Nat}{σ:AS}{L:A7}{cs:List Ck}{rs:List ResultVar}{r:E2 cs}(U:Holds (P:=P) w0 [] M σ L w)(H:V0 G cs rs σ=some r):∃vs,AllRs P L w rs vs/\vs.length=cs.length/\KsOk (P:=P) M (X7 cs vs++M) w0 w cs r vs/\Ext w0 w:=by
 obtain⟨S,ρ,γ,μ,ι,I⟩:=U;unfold V0 at H;cases hk:okK (Q2 G σ cs rs) (ABN G σ cs rs)&&npK cs (Q2 G σ cs rs) with
 |false=>rw[hk]at H;exact(A2 H).elim
 |true=>
  rw[hk]at H
  simp only[Bool.and_eq_true]at hk
  obtain⟨vs,E,D,C,W⟩:=AFk I V (mv:=Q2 G σ cs rs) (AGi H) cs rs (fun _ h=>h) (AAH hk.1) hk.2 H
  exact⟨vs,E,D,C _ (fun b J=>(mem_append.1 J).elim (W b) fun h=>mem_mm.2 (.inr h)),I.hp.kp⟩
end Go.Rx
namespace Go.Rx
open Go Go.Sx Go.RowKit
section
variable[Sg][Sf](G:Gx)
structure MU where
 all:List Oper
 pre:List Oper
 t:Nat
 mt:TypeId
 x:Operand
 n:Nat
 c:Nat
 e:Nat
 j:Nat
 j2:Nat
 all2:List Oper
 ops2:List Oper
 rest:Code
def AHX:List Oper->Option (List Oper×Oper)
 |[]=>none
 |[o]=>some ([],o)
 |o::r=>match AHX r with
  |some (l,q)=>some (o::l,q)
  |none=>none
def rgO(l:List Oper):Option (List Oper×Nat×TypeId×Operand):=match AHX l with
 |some (pre,⟨some t,.range mt x,_,_,_,none⟩)=>some (pre,t,mt,x)
 |_=>none
def nxO:List Oper->Option (Nat×Nat×Nat)
 |[⟨some n,.next (.tmp t) false,_,_,_,none⟩,⟨some c,.extract (.tmp n') 0,_,_,_,none⟩]=>bif beq n' n then some (t,n,c) else none
 |_=>none
def enO:List Oper->Option (Nat×Nat×List Oper)
 |⟨some e,.entry (.tmp t),_,_,_,none⟩::r=>some (t,e,r)
 |_=>none
def AAg:Code->Code->Option MU
 |.region _ ops false,.block j (.loop (.seq (.region _ nops false) (.seq (.cond (.tmp c') .skip (.exit j')) (.block j2 (.seq (.region _ eops false) rest)))))=>
  match rgO ops.toList,nxO nops.toList,enO eops.toList with
  |some (pre,t,mt,x),some (t1,n,c),some (t2,e,ops2)=>bif beq t1 t&&beq t2 t&&beq c' c&&beq j' j&&Z4 eops.toList then some ⟨ops.toList,pre,t,mt,x,n,c,e,j,j2,eops.toList,ops2,rest⟩ else none
  |_,_,_=>none
 |_,_=>none
def ABX:Code->Bool
 |.seq a b=>match AAg a b with
  |some _=>true
  |none=>ABX a||ABX b
 |_=>false
def G1(u:MU)(hd:Sh)(l:An):List Nat:=u.n::u.c::u.e::(J5 hd.cs++(C1 u.ops2++(D4 u.rest++C9 l)))
def AII(N:Nat)(u:MU)(hd:Sh)(l:An):Bool:=blt u.t N&&blt u.n N&&blt u.c N&&blt u.e N&&blt u.j2 pnc&&!has (G1 u hd l) u.t&&!has (J5 hd.cs) u.n&&!has (J5 hd.cs) u.c
def ACo(N:Nat){ρ:Type}(pr:AS->Option ρ)(u:MU)(hd:Sh)(l:An)(W:List Nat)(σ:AS)(k v:Ty)(s:O2 hd.cs)(y:den k×den v):Option (O2 hd.cs):=
 C6 G N u.all2 (fun σ'=>exec G N pr u.rest l (fun σ''=>I8 hd σ'') (fun i σ''=>bif beq i u.j2 then I8 hd σ'' else none) (fun _=>none) σ') u.ops2 { B6 W hd σ s with env:=(u.e,.tup [G0 k y.1,G0 v y.2])::(B6 W hd σ s).env }
def mapM(N:Nat){ρ:Type}(pr:AS->Option ρ)(u:MU)(an:An){Z:Type}(KN:AS->Option Z)(σ:AS):Option Z:=match an with
 |.lp hd _ l=>C6 G N u.all (fun σ1=>match lk G.mp u.mt,B2 σ1.env u.x with
  |some (m,_,k,v),some sx=>match B9 (A1 σ1.res) (.mp m k v) sx,frz (A1 σ1.res) (A9 sx),AII N u hd l with
   |some f,some fz,true=>match I8 hd (apps none fz σ1).start with
    |some s0=>AAP (show A4 (den k) (den v) from f) fun xs=>(List.foldlM (ACo G N pr u hd l (u.t::G1 u hd l) (apps none fz σ1).start k v) s0 xs).bind fun s=>KN (B6 (u.t::G1 u hd l) hd (apps none fz σ1).start s)
    |none=>none
   |_,_,_=>none
  |_,_=>none) u.pre σ
 |_=>none
def wrE:Code->An->List Nat
 |.seq a b,an=>match AAg a b with
  |some u=>match an with
   |.lp hd _ l=>C1 u.pre++(u.t::G1 u hd l)
   |_=>[]
  |none=>match ABX a with
   |true=>wrE a an.l++wrE b an.r
   |false=>(D4 a++C9 an.l)++wrE b an.r
 |c,an=>D4 c++C9 an
def X2(N:Nat){ρ:Type}(pr:AS->Option ρ):Code->An->{Z:Type}->(AS->Option Z)->(ρ->Option Z)->AS->Option Z
 |.seq a b,an,_,KN,KR,σ=>match AAg a b with
  |some u=>mapM G N pr u an KN σ
  |none=>match ABX a with
   |true=>X2 N pr a an.l (fun σ'=>X2 N pr b an.r KN KR σ') KR σ
   |false=>exec G N pr a an.l (fun σ'=>X2 N pr b an.r KN KR σ') (fun _ _=>none) KR σ
 |c,an,_,KN,KR,σ=>exec G N pr c an KN (fun _ _=>none) KR σ
end
end Go.Rx
end
