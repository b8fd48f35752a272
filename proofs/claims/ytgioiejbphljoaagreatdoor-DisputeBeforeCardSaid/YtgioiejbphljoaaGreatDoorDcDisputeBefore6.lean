/-
  What DisputeBefore stands on, part 6: memory, code, plain reckoning.
-/
import Derived.OrdersIn
import Derived.Scope
import Derived.Test.YtgioiejbphljoaaGreatDoorDcDisputeBefore5
open List (mem_append mem_cons mem_map mem_singleton toArray)
open Nat (beq blt)
set_option linter.unusedVariables false
set_option linter.unusedSectionVars false
noncomputable section
namespace Go.Rx
open Go Go.Sx Go.RowKit
variable[Trk][Sg][Sf]
def Dr.run(r:Dr)(σ:AS):AS:=apps r.d r.as_ σ
def runE(T:List Dr):List Nat->AS->AS
 |[],σ=>σ
 |k::e,σ=>runE T e (match T[k]? with
  |some r=>r.run σ
  |none=>σ)
theorem Eqv.runE{T:List Dr}:∀(e:List Nat) {σ σ':AS},Eqv σ σ'->Eqv (runE T e σ) (runE T e σ')
 |[],_,_,h=>h
 |k::e,σ,σ',h=>by
  simp only[Rx.runE];refine Eqv.runE e ?_;cases T[k]? with
  |none=>exact h
  |some r=>exact h.apps r.d r.as_
theorem runE_app{T:List Dr}:∀(e1 e2:List Nat) (σ:AS),runE T (e1++e2) σ=runE T e2 (runE T e1 σ)
 |[],_,_=>rfl
 |k::e,e2,σ=>runE_app e e2 _
def IndR(a b:Dr):Prop:=∀x∈a.as_,∀y∈b.as_,Ind a.d x b.d y
theorem IndR.symm{a b:Dr}(h:IndR a b):IndR b a:=fun x hx y hy=>(h y hy x hx).symm
def IndT(T:List Dr)(j k:Nat):Prop:=∀a b,T[j]?=some a->T[k]?=some b->IndR a b
theorem IndT.symm{T:List Dr}{j k:Nat}(h:IndT T j k):IndT T k j:=fun a b ha hb=>(h b a hb ha).symm
theorem IndT.swap{T:List Dr}{j k:Nat}(h:IndT T j k)(σ:AS):Eqv (runE T [j,k] σ) (runE T [k,j] σ):=by
 simp only[runE];cases ha:T[j]? with
 |none=>exact Eqv.refl _
 |some a=>
  cases hb:T[k]? with
  |none=>exact Eqv.refl _
  |some b=>exact AU9 σ a.as_ b.as_ (h a b ha hb)
theorem AIX{T:List Dr}{k:Nat}:∀(e:List Nat) (σ:AS),(∀j∈e,IndT T j k)->Eqv (runE T (e++[k]) σ) (runE T (k::e) σ)
 |[],σ,_=>Eqv.refl _
 |j::e,σ,h=>by
  have h1:=AIX (T:=T) (k:=k) e (runE T [j] σ) fun i hi=>h i (AaQ _ hi);have h2:=Eqv.runE (T:=T) e ((h j (AaT ..)).swap σ);exact h1.trans h2
theorem AD3{T:List Dr}{O:Nat->Nat->Prop}(hO:∀j k,j≠k->IndT T j k\/O j k\/O k j):∀(e' e:List Nat) (σ:AS),e.Perm e'->e'.Nodup->e.Pairwise (fun j k=>¬O k j)->e'.Pairwise (fun j k=>¬O k j)->Eqv (runE T e σ) (runE T e' σ)
 |[],e,σ,hp,_,_,_=>by
  have:e=[]:=hp.eq_nil;subst this;exact Eqv.refl _
 |k::r,e,σ,hp,hn,h1,h2=>by
  have hk:k∈e:=hp.mem_iff.2 (AaT ..);obtain⟨e1,e2,rfl⟩:=List.append_of_mem hk;obtain⟨hn1,hn2⟩:=List.nodup_cons.1 hn;obtain⟨h3,h4⟩:=List.pairwise_cons.1 h2;obtain⟨h5,h6,h7⟩:=List.pairwise_append.1 h1;have hp':(e1++e2).Perm r:=by
   have:(k::(e1++e2)).Perm (k::r):=(List.perm_middle.symm).trans hp;exact List.Perm.cons_inv this
  have hind:∀j∈e1,IndT T j k:=fun j hj=>by
   have hjr:j∈r:=hp'.mem_iff.1 (AaR _ hj);have hne:j≠k:=fun e=>hn1 (e▸hjr);rcases hO j k hne with h|h|h
   . exact h
   . exact absurd h (h3 j hjr)
   . exact absurd h (h7 j hj k (AaT ..))
  have s1:Eqv (runE T (e1++k::e2) σ) (runE T (k::(e1++e2)) σ):=by
   have h8:runE T (k::(e1++e2)) σ=runE T e2 (runE T (k::e1) σ):=runE_app (k::e1) e2 σ;rw[show e1++k::e2=(e1++[k])++e2 by simp,runE_app (e1++[k]) e2,h8];exact(AIX e1 σ hind).runE e2
  refine s1.trans ?_;show Eqv (runE T (e1++e2) (runE T [k] σ)) (runE T r (runE T [k] σ));exact AD3 hO r (e1++e2) _ hp' hn2 (List.pairwise_append.2 ⟨h5,(List.pairwise_cons.1 h6).2,fun a ha b hb=>h7 a ha b (AaQ _ hb)⟩) h4
structure GInv(g:Gh)(σ:AS):Prop where
 o:∀t s,A1 σ.env t=some s->∀c∈U2 s,c∈g.o t
 r:∀j a,A1 σ.res j=some a->∀i∈ABy a,i∈g.r j
def GAct(g:Gh)(d:Option Nat):Ac->Prop
 |.put s=>∀t,d=some t->∀c∈U2 s,c∈g.o t
 |.new i r=>∀k∈ABy r,k∈g.r i
 |.sto i _ ns=>∀k∈P2 ns,k∈g.r i
 |.cnt _ _ _=>True
 |.hnd i r=>∀k∈ABy r,k∈g.r i
 |.del _ p=>ABc p=[]
theorem GAct.none{g:Gh}{d:Option Nat}{a:Ac}(h:GAct g d a){i:Nat}{p:Option Rp}(hp:trA a=some (i,p)):AAI p=[]:=by
 cases a<;>cases hp<;>first|rfl|exact h
mutual
theorem AIY{i:Nat}{p:Option Rp}(hp:AAI p=[]){c:Nat}:∀{s:SV},c∈U2 (E1 i p s)->c∈U2 s
 |.own j,h=>by
  cases p with
  |none=>exact h
  |some p=>
   have h:c∈U2 (subS i p (.own j)):=h
   rcases AEj (i:=i) (p:=p) (j:=j) with⟨h',_⟩|⟨h',_⟩
   . obtain⟨k,hk,_⟩:=ADW h
     rw[h']at hk;cases hk
   . rw[h']at h;exact h
 |.ptr j o,h=>by
  cases p with
  |none=>exact h
  |some p=>
   have h:c∈U2 (subS i p (.ptr j o)):=h
   rcases ALu (i:=i) (p:=p) (j:=j) (o:=o) with⟨l,h',hl,_⟩|⟨h',_⟩|⟨h',_⟩
   . rw[h']at h
     obtain⟨k,hk,_⟩:=ADW h
     have hk:k∈AAI (some p):=by rw[hl];exact hk
     rw[hp]at hk;cases hk
   . rw[h']at h;cases h
   . rw[h']at h;exact h
 |.ep j t x z o,h=>by
  by_cases e:i=j
  . subst e;cases p with
    |none=>simp only[E1,oldS,beq_self,U2]at h ⊢;exact h
    |some p=>simp[E1,subS,U2]at h
  . rw[U5 _ (by simp[B3];exact e)]at h;exact h
 |.agg l,h=>AEk hp (l:=l) h
 |.tup l,h=>AEk hp (l:=l) h
 |.rp s o,h=>AIY hp (s:=s) h
 |.ap s _ _ _,h=>AIY hp (s:=s) h
 |.fn g l,h=>AEk hp (l:=l) h
 |.int _ _,h|.bool _,h|.dat _ _,h|.str _ _,h|.ary _ _ _,h|.fv _ _ _,h|.nilS,h|.np _ _,h|.it _ _,h|.raw _,h|.undef,h|.dead,h=>h
theorem AEk{i:Nat}{p:Option Rp}(hp:AAI p=[]){c:Nat}:∀{l:List SV},c∈P2 (trL i p l)->c∈P2 l
 |[],h=>h
 |s::l,h=>by
  rcases mem_append.1 (show c∈U2 (E1 i p s)++P2 (trL i p l) from h) with h|h
  . exact AaR _ (AIY hp h)
  . exact AaS _ (AEk hp h)
end
theorem ATX{i:Nat}{p:Option Rp}(hp:AAI p=[]){a:AR}{c:Nat}(h:c∈ABy (trR i p a)):c∈ABy a:=by
 cases a with
 |own _ _ _=>cases h
 |row e l=>exact AEk hp (l:=l) h
theorem GInv.app{g:Gh}{σ:AS}{d:Option Nat}{a:Ac}(h:GInv g σ)(ha:GAct g d a):GInv g (a.app d σ):=by
 refine⟨fun t s hs i hi=>?_,fun j r hr i hi=>?_⟩
 . rw[env_app]at hs;have key:(A1 σ.env t).map (fA a)=some s->i∈g.o t:=fun h1=>by
    cases h2:A1 σ.env t with
    |none=>rw[h2]at h1;cases h1
    |some s0=>
     rw[h2]at h1
     have h1:fA a s0=s:=AaO h1
     subst h1
     unfold fA at hi
     cases h3:trA a with
     |none=>rw[h3]at hi;exact h.o t s0 h2 i hi
     |some q=>
      obtain⟨j,p⟩:=q
      rw[h3]at hi
      exact h.o t s0 h2 i (AIY (ha.none h3) hi)
   cases hp:ACX a d with
   |none=>rw[hp]at hs;exact key hs
   |some q=>
    obtain⟨e,s'⟩:=q
    rw[hp]at hs
    simp only at hs
    split at hs
    . rename_i he
      cases hs
      cases a with
      |put s''=>
       cases d with
       |none=>cases hp
       |some d=>cases hp;exact ha t (by rw[he]) i hi
      |_=>cases hp
    . exact key hs
 . rw[res_app]at hr;cases h3:trA a with
   |none=>rw[h3]at hr;exact h.r j r hr i hi
   |some q=>
    obtain⟨k,p⟩:=q
    rw[h3]at hr
    simp only at hr
    split at hr
    . rename_i he
      subst he
      cases a with
      |put _=>cases h3
      |new i' r'=>cases h3;cases hr;exact ha i hi
      |del _ _=>cases hr
      |hnd i' r'=>
       cases h3
       cases h4:A1 σ.res j with
       |none=>rw[h4]at hr;cases hr
       |some b=>rw[h4]at hr;cases hr;exact ha i hi
      |cnt i' t xs=>
       cases h3
       cases h4:A1 σ.res j with
       |none=>rw[h4]at hr;cases hr
       |some b=>
        rw[h4]at hr
        have hr:Z9 t xs b=r:=AaO hr
        subst hr
        cases b with
        |row e l=>exact h.r j _ h4 i hi
        |own p t' ys=>
         simp only[Z9]at hi
         cases hc:castO t t' xs with
         |none=>rw[hc]at hi;cases hi
         |some zs=>rw[hc]at hi;cases hi
      |sto i' o ns=>
       cases h3
       cases h4:A1 σ.res j with
       |none=>rw[h4]at hr;cases hr
       |some b=>
        rw[h4]at hr
        have hr:AAt o ns b=r:=AaO hr
        subst hr
        cases b with
        |own _ _ _=>cases hi
        |row e l=>
         cases hw:setW l o ns with
         |none=>simp only[AAt,hw]at hi;exact h.r j _ h4 i hi
         |some l'=>
          simp only[AAt,hw]at hi
          rcases ALe l o hw i hi with h5|h5
          . exact h.r j _ h4 i h5
          . exact ha i h5
    . cases h4:A1 σ.res j with
      |none=>rw[h4]at hr;cases hr
      |some b=>
       rw[h4]at hr
       have hr:trR k p b=r:=AaO hr
       subst hr
       exact h.r j b h4 i (ATX (ha.none h3) hi)
theorem GInv.run{g:Gh}{d:Option Nat}:∀(as_:List Ac) (σ:AS),GInv g σ->(∀a∈as_,GAct g d a)->GInv g (apps d as_ σ)
 |[],_,h,_=>h
 |a::as_,σ,h,ha=>GInv.run as_ (a.app d σ) (h.app (ha a (AaT ..))) fun b hb=>ha b (AaQ _ hb)
def View(lk F:List Nat)(σ σ':AS):Prop:=(∀t∈lk,A1 σ.env t=A1 σ'.env t)/\∀i∈F,A1 σ.res i=A1 σ'.res i
theorem View.trans{lk F:List Nat}{σ σ1 σ2:AS}(h:View lk F σ σ1)(k:View lk F σ1 σ2):View lk F σ σ2:=⟨fun t ht=>(h.1 t ht).trans (k.1 t ht),fun i hi=>(h.2 i hi).trans (k.2 i hi)⟩
theorem View.symm{lk F:List Nat}{σ σ1:AS}(h:View lk F σ σ1):View lk F σ1 σ:=⟨fun t ht=>(h.1 t ht).symm,fun i hi=>(h.2 i hi).symm⟩
theorem Eqv.view{lk F:List Nat}{σ σ':AS}(h:Eqv σ σ'):View lk F σ σ':=⟨fun t _=>h.1 t,fun i _=>h.2 i⟩
structure Unseen(lk F:List Nat)(d:Option Nat)(a:Ac):Prop where
 w:∀c∈wcA a,c∉F
 d:∀t s,ACX a d=some (t,s)->t∉lk
section
variable{g:Gh}{σ:AS}{d:Option Nat}
theorem View.app{lk ft F:List Nat}{a:Ac}(hg:GInv g σ)(hl:∀t∈lk,∀c∈g.o t,c∈F)(hF:∀j∈ft,∀i∈g.r j,i∈F)(hs:∀j∈ft,c1 j∈F)(h:Unseen lk F d a):View lk ft (a.app d σ) σ:=by
 refine⟨fun t ht=>?_,fun j hj=>?_⟩
 . rw[env_app];have key:(A1 σ.env t).map (fA a)=A1 σ.env t:=by
    cases h2:A1 σ.env t with
    |none=>rfl
    |some s=>rw[Aa0,AKc fun c hc hm=>h.w c hc (hl t ht c (hg.o t s h2 c hm))]
   cases hp:ACX a d with
   |none=>exact key
   |some q=>
    obtain⟨e,s⟩:=q
    simp only
    rw[if_neg (show ¬e=t from fun he=>h.d e s hp (he▸ht))]
    exact key
 . rw[res_app];cases h3:trA a with
   |none=>rfl
   |some q=>
    obtain⟨k,p⟩:=q
    have hk:=h.w _ (wc1 h3)
    simp only
    rw[if_neg (show ¬j=k from fun he=>hk (he▸hs j hj))]
    cases h2:A1 σ.res j with
    |none=>rfl
    |some b=>rw[Aa0,AXD h3 fun c hc hm=>h.w c hc (hF j hj c (hg.r j b h2 c hm))]
theorem View.apps{lk ft F:List Nat}(hl:∀t∈lk,∀c∈g.o t,c∈F)(hF:∀j∈ft,∀i∈g.r j,i∈F)(hs:∀j∈ft,c1 j∈F):∀(as_:List Ac) (σ:AS),GInv g σ->(∀a∈as_,GAct g d a)->(∀a∈as_,Unseen lk F d a)->View lk ft (Rx.apps d as_ σ) σ
 |[],σ,_,_,_=>(Eqv.refl σ).view
 |a::as_,σ,hg,ha,hu=>(View.apps hl hF hs as_ (a.app d σ) (hg.app (ha a (AaT ..))) (fun b hb=>ha b (AaQ _ hb)) fun b hb=>hu b (AaQ _ hb)).trans (View.app hg hl hF hs (hu a (AaT ..)))
theorem GInv.runE{g:Gh}{T:List Dr}(hT:∀r∈T,∀a∈r.as_,GAct g r.d a):∀(e:List Nat) {σ:AS},GInv g σ->GInv g (runE T e σ)
 |[],_,h=>h
 |k::e,σ,h=>by
  simp only[Rx.runE];refine GInv.runE hT e ?_;cases hk:T[k]? with
  |none=>exact h
  |some r=>exact GInv.run r.as_ _ h (hT r (AaP hk))
theorem View.runE{T:List Dr}(hT:∀r∈T,∀a∈r.as_,GAct g r.d a){lk ft F:List Nat}(hl:∀t∈lk,∀c∈g.o t,c∈F)(hF:∀j∈ft,∀i∈g.r j,i∈F)(hs:∀j∈ft,c1 j∈F):∀(e:List Nat) {σ:AS},GInv g σ->(∀k∈e,∀r,T[k]?=some r->∀a∈r.as_,Unseen lk F r.d a)->View lk ft (Rx.runE T e σ) σ
 |[],σ,_,_=>(Eqv.refl σ).view
 |k::e,σ,hg,hu=>by
  simp only[Rx.runE];have h1:=hu k (AaT ..);cases hk:T[k]? with
  |none=>exact View.runE hT hl hF hs e hg fun j hj=>hu j (AaQ _ hj)
  |some r=>
   have hr:=hT r (AaP hk)
   exact(View.runE hT hl hF hs e (GInv.run r.as_ _ hg hr) fun j hj=>hu j (AaQ _ hj)).trans (View.apps hl hF hs r.as_ _ hg hr (h1 r hk))
theorem ARM{T:List Dr}(hT:∀r∈T,∀a∈r.as_,GAct g r.d a){O:Nat->Nat->Prop}(hO:∀j k,j≠k->IndT T j k\/O j k\/O k j)(hlow:∀j k,O j k->j<k){k:Nat}{lk ft F:List Nat}(hl:∀t∈lk,∀c∈g.o t,c∈F)(hF:∀j∈ft,∀i∈g.r j,i∈F)(hs:∀j∈ft,c1 j∈F)(hu:∀j,j≠k->O j k\/O k j\/∀r,T[j]?=some r->∀a∈r.as_,Unseen lk F r.d a){D:List Nat}(hD:D.Nodup)(hDc:∀d∈D,∀j,O j d->j∈D)(hDo:D.Pairwise (fun j k=>¬O k j))(hk:k∉D)(hkr:∀j,O j k->j∈D)(hg:GInv g σ):View lk ft (runE T D σ) (runE T (List.range k) σ):=by
 let D1:=D.filter fun j=>decide (j<k);let D2:=D.filter fun j=>!decide (j<k);let U:=(List.range k).filter fun j=>!D.contains j;have hu':∀j,j≠k->¬O j k->¬O k j->∀r,T[j]?=some r->∀a∈r.as_,Unseen lk F r.d a:=fun j h1 h2 h3=>by
  rcases hu j h1 with h|h|h
  . exact absurd h h2
  . exact absurd h h3
  . exact h
 have a1:Eqv (runE T D σ) (runE T (D1++D2) σ):=by
  have hp:D.Perm (D1++D2):=(List.filter_append_perm _ _).symm;refine AD3 hO (D1++D2) D σ hp (hp.nodup_iff.1 hD) hDo ?_;refine List.pairwise_append.2 ⟨hDo.sublist AbE,hDo.sublist AbE,fun a ha b hb ho=>?_⟩;have h1:a<k:=by simpa using (List.mem_filter.1 ha).2
  have h2:¬b<k:=by simpa using (List.mem_filter.1 hb).2
  have:=hlow b a ho;omega
 have a2:View lk ft (runE T (D1++D2) σ) (runE T D1 σ):=by
  rw[runE_app];refine View.runE hT hl hF hs D2 (GInv.runE hT D1 hg) fun j hj=>?_;obtain⟨h1,h2⟩:=List.mem_filter.1 hj;have h2:¬j<k:=by simpa using h2
  have hne:j≠k:=fun e=>hk (e▸h1);exact hu' j hne (fun ho=>h2 (hlow j k ho)) fun ho=>hk (hDc j h1 k ho)
 have hmem:∀j,j∈D1↔j∈D/\j<k:=fun j=>by simp[D1]
 have hmemU:∀j,j∈U↔j<k/\j∉D:=fun j=>by simp[U]
 have a3:Eqv (runE T (List.range k) σ) (runE T (D1++U) σ):=by
  have hn:(D1++U).Nodup:=List.nodup_append.2 ⟨hD.sublist AbE,(Abn).sublist AbE,fun a ha b hb e=>by
   subst e;exact((hmemU a).1 hb).2 ((hmem a).1 ha).1⟩
  have hp:(List.range k).Perm (D1++U):=by
   refine(AbN Abn hn).2 fun j=>?_;rw[Aaq,hmem,hmemU,List.mem_range];by_cases h:j∈D<;>simp[h]
  refine AD3 hO (D1++U) (List.range k) σ hp hn ?_ ?_
  . refine AcV (R:=fun a b=>a<b) (fun {a b} hab ho=>?_) AcD;have:=hlow b a ho;omega
  . refine List.pairwise_append.2 ⟨hDo.sublist AbE,?_,fun a ha b hb ho=>?_⟩
    . refine List.Pairwise.sublist AbE ?_;refine AcV (R:=fun a b=>a<b) (fun {a b} hab ho=>?_) AcD;have:=hlow b a ho;omega
    . exact((hmemU b).1 hb).2 (hDc a ((hmem a).1 ha).1 b ho)
 have a4:View lk ft (runE T (D1++U) σ) (runE T D1 σ):=by
  rw[runE_app];refine View.runE hT hl hF hs U (GInv.runE hT D1 hg) fun j hj=>?_;obtain⟨h1,h2⟩:=(hmemU j).1 hj;exact hu' j (by omega) (fun ho=>h2 (hkr j ho)) fun ho=>by have:=hlow k j ho;omega
 exact(a1.view.trans a2).trans (a3.view.trans a4).symm
end
end Go.Rx
namespace Go.Rx
open Go Go.Sx Go.RowKit
variable[Trk][Sg][Sf]{P:Program}[Se P]
variable[Anch]
def Took[Fx](P:Program)[Se P](N:Nat)(ops:List Oper)(o:Oper)(q:Dr)(σ:AS):Prop:=
 q.d=o.dst/\(∀d,o.dst=some d->blt d N=true) /\
  (((o.guard=none\/∃g b t,o.guard=some (g,b)/\ACp ops g=some t/\t∈q.lk/\A1 σ.env t=some (.bool b))/\Does P N o.dst o.op (AUa q.lk (A1 σ.env)) (AUb q.ft (A1 σ.res)) q.as_) \/
  (q.as_=[.put .undef]/\∃g b t,o.guard=some (g,b)/\ACp ops g=some t/\t∈q.lk/\((∃c,c≠b/\A1 σ.env t=some (.bool c))\/A1 σ.env t=some .undef)))
theorem Took.eqv[Fx]{N:Nat}{ops:List Oper}{o:Oper}{q:Dr}{σ σ':AS}(h:Eqv σ σ')(k:Took P N ops o q σ):Took P N ops o q σ':=by
 have e1:A1 σ.env=A1 σ'.env:=funext h.1;have e2:A1 σ.res=A1 σ'.res:=funext h.2;unfold Took at k ⊢;rw[<-e1,<-e2];exact k
theorem AHl{T0 T1:List Dr}:∀(e:List Nat) (σ:AS),(∀k∈e,k<T0.length)->runE (T0++T1) e σ=runE T0 e σ
 |[],_,_=>rfl
 |k::e,σ,h=>by
  simp only[runE];rw[Aaw (h k (AaT ..))];exact AHl e _ fun j hj=>h j (AaQ _ hj)
section
variable{G:Gx}{N:Nat}{ops:List Oper}{Y:Type}{K:List Dr->AS->Option Y}{z:Y}{σ0:AS}{W:List Nat}
theorem ALw[Fx][Sl (P:=P)](hG:GxOk P G):∀(l pre:List Oper) (T0:List Dr) (σc:AS),ops=pre++l->T0.length=pre.length->Eqv σc (runE T0 (List.range pre.length) σ0)->(∀t∈C2 l,t∈W)->ABw G N ops K l T0 σc=some z ->
  ∃T1 σe,K (T0++T1) σe=some z/\T1.length=l.length/\Eqv σe (runE (T0++T1) (List.range ops.length) σ0)/\Rel P W σc σe/\∀k o,pre.length<=k->ops[k]?=some o->∃q,(T0++T1)[k]?=some q/\Took P N ops o q (runE (T0++T1) (List.range k) σ0)
 |[],pre,T0,σc,ho,hl,he,_,h=>by
  have ho:ops=pre:=by rw[ho];simp
  subst ho;refine⟨[],σc,by rw[Aan];exact h,rfl,by rw[Aan];exact he,Rel.refl _,fun k o hk hop=>?_⟩;rw[Aaa hk]at hop;cases hop
 |o::r,pre,T0,σc,ho,hl,he,hW,h=>by
  simp only[ABw]at h;have hW2:∀t∈C2 r,t∈W:=fun t ht=>hW t (by
   simp only[C2];cases o.dst with
   |none=>exact ht
   |some d=>exact AaQ _ ht)
  have hWd:∀t,o.dst=some t->t∈W:=fun t ht=>hW t (by simp only[C2,ht];exact AaT ..);have next:∀(q:Dr) (σ1:AS),Eqv σ1 σc->Rel P W σc σ1->q.d=o.dst->Took P N ops o q σ1->ABw G N ops K r (T0++[q]) (apps o.dst q.as_ σ1)=some z ->
    ∃T1 σe,K (T0++T1) σe=some z/\T1.length=(o::r).length/\Eqv σe (runE (T0++T1) (List.range ops.length) σ0)/\Rel P W σc σe/\∀k o,pre.length<=k->ops[k]?=some o->∃q,(T0++T1)[k]?=some q/\Took P N ops o q (runE (T0++T1) (List.range k) σ0):=fun q σ1 h1 h2 h3 h4 h5=>by
   have hn:Eqv (apps o.dst q.as_ σ1) (runE (T0++[q]) (List.range (pre++[o]).length) σ0):=by
    rw[show(pre++[o]).length=pre.length+1 by simp,List.range_succ,runE_app,AHl (List.range pre.length) _ (fun k hk=>by rw[hl];exact List.mem_range.1 hk)];have hq:(T0++[q])[pre.length]?=some q:=by rw[<-hl];simp
    simp only[runE,hq,Dr.run,h3];exact(h1.trans he).apps o.dst q.as_
   obtain⟨T1,σe,g1,g2,g3,g4,g5⟩:=ALw hG r (pre++[o]) (T0++[q]) _ (by rw[ho];simp) (by simp[hl]) hn hW2 h5
   rw[Aax,AcF]at g1 g3 g5
   refine⟨q::T1,σe,g1,by simp[g2],g3,h2.trans ((AAV o.dst hWd q.as_ σ1).trans g4),fun k o' hk hop=>?_⟩
   rcases Aag pre.length k with hlt|hge
   . exact g5 k o' (by simp;omega) hop
   . have:k=pre.length:=by omega
     subst this
     have ho':o'=o:=by
      rw[ho]at hop;simpa using hop.symm
     subst ho'
     refine⟨q,by rw[<-hl];simp,?_⟩
     rw[AHl (List.range pre.length) _ (fun k hk=>by rw[hl];exact List.mem_range.1 hk)]
     exact h4.eqv (h1.trans he)
  cases hb:ADH N o.op o.dst with
  |false=>rw[hb]at h;exact(A2 h).elim
  |true=>
   rw[hb]at h
   simp only at h
   have hlt:=ANH hb
   cases hg:o.guard with
   |none=>
    rw[hg]at h
    obtain⟨as_,h1,h2⟩:=AJM (P:=P) hG hb h
    exact next ⟨o.dst,lkL o.op.operands.toList,as_,_⟩ σc (Eqv.refl _) (Rel.refl _) rfl ⟨rfl,hlt,.inl ⟨.inl hg,h2⟩⟩ h1
   |some gb=>
    obtain⟨g,b⟩:=gb
    rw[hg]at h
    simp only at h
    cases hdo:ACp ops g with
    |none=>rw[hdo]at h;exact(A2 h).elim
    |some t=>
     rw[hdo]at h
     simp only at h
     cases hf:A1 σc.env t with
     |none=>rw[hf]at h;exact(A2 h).elim
     |some s=>
      rw[hf]at h
      cases s with
      |bool c=>
       simp only at h
       have same:∀u,A1 ((t,.bool c)::σc.env) u=A1 σc.env u:=ALn hf
       have hE:Eqv { σc with env:=(t,.bool c)::σc.env } σc:=⟨same,fun _=>rfl⟩
       have hR1:Rel P W σc { σc with env:=(t,.bool c)::σc.env }:=Rel.same same
       have ht:A1 ((t,.bool c)::σc.env) t=some (.bool c):=by rw[same];exact hf
       by_cases hcb:c=b
       . have hc:AKV G (ABe o.dst) (t::lkL o.op.operands.toList) { σc with env:=(t,.bool c)::σc.env } (fun as_=>ABw G N ops K r (T0++[⟨o.dst,t::lkL o.op.operands.toList,as_,ftO o.op (A1 ((t,.bool c)::σc.env)) (A1 σc.res) (t::lkL o.op.operands.toList)⟩]) (apps o.dst as_ { σc with env:=(t,.bool c)::σc.env })) o.op=some z:=by
          subst hcb;cases c<;>exact h
         obtain⟨as_,h1,h2⟩:=AJM (P:=P) hG hb hc
         exact next ⟨o.dst,t::lkL o.op.operands.toList,as_,_⟩ _ hE hR1 rfl ⟨rfl,hlt,.inl ⟨.inr ⟨g,b,t,hg,hdo,AaT ..,by rw[<-hcb];exact ht⟩,h2⟩⟩ h1
       . have hc:ABw G N ops K r (T0++[⟨o.dst,[t],[.put .undef],[]⟩]) (apps o.dst [.put .undef] { σc with env:=(t,.bool c)::σc.env })=some z:=by
          cases c<;>cases b<;>first|exact absurd rfl hcb|exact h
         exact next ⟨o.dst,[t],[.put .undef],[]⟩ _ hE hR1 rfl ⟨rfl,hlt,.inr ⟨rfl,g,b,t,hg,hdo,AaT ..,.inl ⟨c,hcb,ht⟩⟩⟩ hc
      |undef=>exact next ⟨o.dst,[t],[.put .undef],[]⟩ σc (Eqv.refl _) (Rel.refl _) rfl ⟨rfl,hlt,.inr ⟨rfl,g,b,t,hg,hdo,AaT ..,.inr hf⟩⟩ h
      |int _ _|ary _ _ _|str _ _|agg _|fv _ _ _|fn _ _|dead|tup _|rp _ _|ptr _ _|ep _ _ _ _ _|dat _ _|own _|nilS|raw _|it _ _|np _ _|ap _ _ _ _=>exact(A2 h).elim
end
theorem ABL{l F:List Nat}(h:ABz l F=true):∀i∈l,i∈F:=fun i hi=>has_iff.1 (List.all_eq_true.1 h i hi)
theorem AHm{l F:List Nat}(h:AOO l F=true):∀i∈l,i∉F:=fun i hi hm=>by
 have:=List.all_eq_true.1 h i hi;rw[has_iff.2 hm]at this;cases this
theorem AB1{a:Ac}{c:Nat}(h:c∈wcA a):∀{as_:List Ac},a∈as_->c∈wsC as_
 |b::l,hm=>by
  simp only[wsC];rcases mem_cons.1 hm with rfl|hm
  . exact AaR _ h
  . exact AaS _ (AB1 h hm)
theorem AGp{g:Gh}:∀{T:List Dr} {tb:List (List Nat)} {l:List Oper} {k:Nat} {d:De},(mkE g T tb l)[k]?=some d->T[k]?=some d.r/\∃o,l[k]?=some o/\d.es=V5 o.after.toList
 |r::T,t::tb,o::l,0,d,h=>by
  have h:De.mk r (G9 g.o r.lk++(dbl r.ft++G9 g.r r.ft)) t (V5 o.after.toList)=d:=AaO h;subst h;exact⟨rfl,o,rfl,rfl⟩
 |r::T,t::tb,o::l,k+1,d,h=>by
  obtain⟨h1,o',h2,h3⟩:=AGp (T:=T) (tb:=tb) (l:=l) (k:=k) h;exact⟨h1,o',h2,h3⟩
 |[],_,_,_,_,h=>by cases h
 |_::_,[],_,_,_,h=>by cases h
 |_::_,_::_,[],_,_,h=>by cases h
theorem ALx{f:Nat->De->Bool}:∀{l:List De} {k0 k:Nat} {d:De},AHQ f k0 l=true->l[k]?=some d->f (k0+k) d=true
 |q::l,k0,0,d,h,hd=>by
  simp only[AHQ,Bool.and_eq_true]at h;cases hd;exact h.1
 |q::l,k0,k+1,d,h,hd=>by
  simp only[AHQ,Bool.and_eq_true]at h;have:=ALx (k:=k) h.2 (by simpa using hd);rwa [show k0+1+k=k0+(k+1) by omega]at this
theorem AJ2{d:De}:∀{l:List De} {j0 j:Nat} {q:De},AE7 d j0 l=true->l[j]?=some q->j0+j∈d.tb\/AEI q d=true
 |p::l,j0,0,q,h,hq=>by
  simp only[AE7,Bool.and_eq_true,Bool.or_eq_true]at h;cases hq;exact h.1.imp has_iff.1 id
 |p::l,j0,j+1,q,h,hq=>by
  simp only[AE7,Bool.and_eq_true]at h;have:=AJ2 (j:=j) h.2 (by simpa using hq);rwa [show j0+1+j=j0+(j+1) by omega]at this
theorem AIZ:∀{l pre:List De} {j k:Nat} {a b:De},AEY pre l=true->(pre++l)[j]?=some a->(pre++l)[k]?=some b->j<k->pre.length<=k->j∈b.tb\/AEI a b=true
 |[],pre,j,k,a,b,_,_,hb,_,hk=>by
  rw[Aan,Aaa hk]at hb;cases hb
 |d::l,pre,j,k,a,b,h,ha,hb,hjk,hk=>by
  simp only[AEY,Bool.and_eq_true]at h;rcases Aag pre.length k with hlt|hge
  . exact AIZ (l:=l) (pre:=pre++[d]) h.2 (by simpa using ha) (by simpa using hb) hjk (by simp;omega)
  . have:k=pre.length:=by omega
    subst this;have hb:d=b:=by simpa using hb
    subst hb;rw[Aaw hjk]at ha;have:=AJ2 h.1 ha;rwa [Aao]at this
theorem AHn{a b:De}(h:AEI a b=true)(ha:∀x∈a.r.as_,∀c∈coC x,c∈a.F\/c∈wsC a.r.as_)(hb:∀x∈b.r.as_,∀c∈coC x,c∈b.F\/c∈wsC b.r.as_):
  IndR a.r b.r/\(∀x∈a.r.as_,Unseen b.r.lk b.F a.r.d x)/\∀y∈b.r.as_,Unseen a.r.lk a.F b.r.d y:=by
 simp only[AEI,Bool.and_eq_true]at h
 obtain⟨⟨⟨⟨h1,h2⟩,h3⟩,h4⟩,h5⟩:=h
 have d1:∀x s t,ACX s a.r.d=some (t,x)->t∉b.r.lk/\b.r.d≠some t:=fun x s t hp=>by
  have hd:a.r.d=some t:=by
   cases s with
   |put s=>
    cases hd:a.r.d with
    |none=>rw[hd]at hp;cases hp
    |some d=>rw[hd]at hp;cases hp;rfl
   |_=>cases hp
  rw[hd]at h1;simp only[Bool.and_eq_true,Bool.not_eq_true']at h1;refine⟨fun hm=>?_,fun he=>?_⟩
  . rw[has_iff.2 hm]at h1;cases h1.1
  . rw[he]at h1;simp at h1
 have d2:∀x s t,ACX s b.r.d=some (t,x)->t∉a.r.lk:=fun x s t hp hm=>by
  have hd:b.r.d=some t:=by
   cases s with
   |put s=>
    cases hd:b.r.d with
    |none=>rw[hd]at hp;cases hp
    |some d=>rw[hd]at hp;cases hp;rfl
   |_=>cases hp
  rw[hd]at h2;simp only[Bool.not_eq_true']at h2;rw[has_iff.2 hm]at h2;cases h2
 have w3:=AHm h3
 have w4:=AHm h4
 have w5:=AHm h5
 refine⟨fun x hx y hy=>⟨fun i p j q hi hj e=>?_,fun c hc hm=>?_,fun c hc hm=>?_,fun t s t' s' hp hq e=>?_⟩,fun x hx=>⟨fun c hc=>w3 c (AB1 hc hx),fun t s hp=>(d1 s x t hp).1⟩,fun y hy=>⟨fun c hc=>w4 c (AB1 hc hy),fun t s hp=>d2 s y t hp⟩⟩
 . exact w5 (c1 i) (AB1 (wc1 hi) hx) (e▸AB1 (wc1 hj) hy)
 . have hc':=AB1 hc hy
   rcases ha x hx c hm with h|h
   . exact w4 c hc' h
   . exact w5 c h hc'
 . have hc':=AB1 hc hx
   rcases hb y hy c hm with h|h
   . exact w3 c hc' h
   . exact w5 c hc' h
 . have h6:=(d1 s x t hp).2
   have hd:b.r.d=some t':=by
    cases y with
    |put s=>
     cases hd:b.r.d with
     |none=>rw[hd]at hq;cases hq
     |some d=>rw[hd]at hq;cases hq;rfl
    |_=>cases hq
   exact h6 (e▸hd)
theorem ARN{g:Gh}{d:Option Nat}{a:Ac}(h:AON g d a=true):GAct g d a:=by
 cases a with
 |put s=>
  intro t ht i hi
  subst ht
  exact ABL h i hi
 |new i r=>exact ABL h
 |sto i o ns=>exact ABL h
 |cnt i t xs=>trivial
 |hnd i r=>exact ABL h
 |del i p=>
  have h:(match ABc p with
   |[]=>true
   |_=>false)=true:=h
  show ABc p=[]
  cases hp:ABc p with
  |nil=>rfl
  |cons _ _=>rw[hp]at h;cases h
theorem unionL_mem{f:Nat->List Nat}{c:Nat}:∀{l:List Nat},c∈G9 f l↔∃t∈l,c∈f t
 |[]=>by simp[G9]
 |x::l=>by simp[G9,unionL_mem (l:=l)]
structure Fine(ops:List Oper)(σ:AS)(T:List Dr)(g:Gh)(O:Nat->Nat->Prop)(F:Nat->List Nat):Prop where
 g0:GInv g σ
 act:∀r∈T,∀a∈r.as_,GAct g r.d a
 low:∀j k,O j k->j<k
 edge:∀(k:Nat) (o:Oper),ops[k]?=some o->∀e∈V5 o.after.toList,e<k
 clos:∀D:List Nat,(∀d∈D,∀o:Oper,ops[d]?=some o->∀e∈V5 o.after.toList,e∈D)->∀k:Nat,(∀o:Oper,ops[k]?=some o->∀e∈V5 o.after.toList,e∈D)->∀j,O j k->j∈D
 ind:∀j k,j≠k->IndT T j k\/O j k\/O k j
 lk:∀(k:Nat) (q:Dr),T[k]?=some q->∀t∈q.lk,∀c∈g.o t,c∈F k
 sub:∀(k:Nat) (q:Dr),T[k]?=some q->∀j∈q.ft,c1 j∈F k
 cl:∀(k:Nat) (q:Dr),T[k]?=some q->∀j∈q.ft,∀i∈g.r j,i∈F k
 un:∀(k:Nat) (q:Dr),T[k]?=some q->∀j,j≠k->O j k\/O k j\/∀r,T[j]?=some r->∀a∈r.as_,Unseen q.lk (F k) r.d a
theorem ANN{f:Nat->De->Bool}:∀{l:List De} {k0:Nat},(∀(k:Nat) (d:De),l[k]?=some d->f (k0+k) d=true)->AHQ f k0 l=true
 |[],_,_=>rfl
 |d::l,k0,h=>by
  simp only[AHQ,Bool.and_eq_true];exact⟨h 0 d rfl,ANN fun k d hd=>by
   have:=h (k+1) d hd;rwa [show k0+(k+1)=k0+1+k by omega]at this⟩
theorem ALy{d:De}:∀{l:List De} {j0:Nat},(∀(j:Nat) (q:De),l[j]?=some q->j0+j∈d.tb\/AEI q d=true)->AE7 d j0 l=true
 |[],_,_=>rfl
 |q::l,j0,h=>by
  simp only[AE7,Bool.and_eq_true,Bool.or_eq_true];exact⟨(h 0 q rfl).imp has_iff.2 id,ALy fun j q hq=>by
   have:=h (j+1) q hq;rwa [show j0+(j+1)=j0+1+j by omega]at this⟩
theorem AJ3:∀{l pre:List De},(∀(j k:Nat) (a b:De),(pre++l)[j]?=some a->(pre++l)[k]?=some b->j<k->pre.length<=k->j∈b.tb\/AEI a b=true)->AEY pre l=true
 |[],_,_=>rfl
 |d::l,pre,h=>by
  simp only[AEY,Bool.and_eq_true];refine⟨ALy fun j q hq=>?_,AJ3 fun j k a b ha hb hjk hk=>?_⟩
  . have hj:j<pre.length:=by
     rcases Aag j pre.length with h|h
     . exact h
     . rw[Aaa h]at hq;cases hq
    rw[Aao];exact h j pre.length q d (by rw[Aaw hj];exact hq) (by simp) hj (Aae _)
  . exact h j k a b (by simpa using ha) (by simpa using hb) hjk (by simp at hk;omega)
theorem AGC{t:List Nat}:∀{k j:Nat},j<k->j∈t\/j∈AE8 t k
 |k+1,j,h=>by
  simp only[AE8];cases hb:has t k with
  |true=>
   rw[cond_true]
   by_cases e:j=k
   . subst e;exact .inl (has_iff.1 hb)
   . exact AGC (by omega)
  |false=>
   rw[cond_false]
   by_cases e:j=k
   . subst e;exact .inr (AaT ..)
   . exact(AGC (k:=k) (by omega)).imp id (AaQ _)
theorem AJ4:∀{tb:List (List Nat)} {k0 k:Nat} {f:List Nat},(AIF k0 tb)[k]?=some f->∃t,tb[k]?=some t/\f=AE8 t (k0+k)
 |t::r,k0,0,f,h=>by
  have h:AE8 t k0=f:=AaO h;exact⟨t,rfl,h.symm⟩
 |t::r,k0,k+1,f,h=>by
  obtain⟨t',h1,h2⟩:=AJ4 (tb:=r) (k0:=k0+1) (k:=k) h;exact⟨t',h1,by rw[h2,show k0+1+k=k0+(k+1) by omega]⟩
 |[],_,_,_,h=>by cases h
theorem AJ5{E:List De}:∀{l:List De} {fr:List (List Nat)} {k:Nat} {d:De},AKW E l fr=true->l[k]?=some d->∃f,fr[k]?=some f/\∀j∈f,∃q:De,E[j]?=some q/\AEI q d=true
 |d::l,fr,k,d',h,hd=>by
  cases fr with
  |nil=>cases h
  |cons f r=>
   have h:(f.all (AQ1 E d)&&AKW E l r)=true:=h
   simp only[Bool.and_eq_true,List.all_eq_true]at h
   cases k with
   |zero=>
    have hd:d=d':=AaO hd
    subst hd
    refine⟨f,rfl,fun j hj=>?_⟩
    have:=h.1 j hj
    unfold AQ1 at this
    cases hq:nth E j with
    |none=>rw[hq]at this;cases this
    |some q=>rw[hq]at this;rw[Y9]at hq;exact⟨q,hq,this⟩
   |succ k=>exact AJ5 (l:=l) (fr:=r) (k:=k) h.2 hd
 |[],_,_,_,_,hd=>by cases hd
theorem AJ6{tb0:List (List Nat)}:∀{tb:List (List Nat)} {l:List Oper} {k0 k:Nat} {t:List Nat} {o:Oper},AGb tb0 k0 tb l=true->tb[k]?=some t->l[k]?=some o->(∀j∈t,j<k0+k/\(j∈V5 o.after.toList\/∃e∈V5 o.after.toList,∃q,tb0[e]?=some q/\j∈q))/\∀e∈V5 o.after.toList,e<k0+k
 |t::r,o::l,k0,k,t',o',h,ht,ho=>by
  simp only[AGb,Bool.and_eq_true,List.all_eq_true,Nat.blt_eq,Bool.or_eq_true,List.any_eq_true]at h;obtain⟨⟨h1,h2⟩,h3⟩:=h;cases k with
  |zero=>
   have ht:t=t':=AaO ht
   have ho:o=o':=AaO ho
   subst ht;subst ho
   refine⟨fun j hj=>⟨(h1 j hj).1,?_⟩,h2⟩
   rcases (h1 j hj).2 with h|⟨e,he,h⟩
   . exact .inl (has_iff.1 h)
   . unfold AUd at h
     cases hq:nth tb0 e with
     |none=>rw[hq]at h;cases h
     |some q=>rw[hq]at h;rw[Y9]at hq;exact .inr ⟨e,he,q,hq,has_iff.1 h⟩
  |succ k=>
   have:=AJ6 (tb:=r) (l:=l) (k0:=k0+1) (k:=k) h3 ht ho
   rwa [show k0+1+k=k0+(k+1) by omega]at this
 |[],_,_,_,_,_,_,ht,_=>by cases ht
 |_::_,[],_,_,_,_,_,_,ho=>by cases ho
theorem AP2{g:Gh}:∀{T:List Dr} {tb:List (List Nat)} {l:List Oper} {k:Nat} {d:De},(mkE g T tb l)[k]?=some d->tb[k]?=some d.tb
 |r::T,t::tb,o::l,0,d,h=>by
  have h:De.mk r (G9 g.o r.lk++(dbl r.ft++G9 g.r r.ft)) t (V5 o.after.toList)=d:=AaO h;subst h;rfl
 |r::T,t::tb,o::l,k+1,d,h=>AP2 (T:=T) (tb:=tb) (l:=l) (k:=k) h
 |[],_,_,_,_,h=>by cases h
 |_::_,[],_,_,_,h=>by cases h
 |_::_,_::_,[],_,_,h=>by cases h
theorem forceL_eq{Z:Type}:∀(l:List Nat) (K:List Nat->Z),ACG l K=K l
 |[],_=>rfl
 |x::l,K=>forceL_eq l _
theorem forceLL_eq{Z:Type}:∀(l:List (List Nat)) (K:List (List Nat)->Z),AEX l K=K l
 |[],_=>rfl
 |x::l,K=>by simp only[AEX,forceL_eq,forceLL_eq l]
theorem mkF_eq{Z:Type}{g:Gh}:∀(T:List Dr) (tb:List (List Nat)) (l:List Oper) (K:List De->Z),mkF g T tb l K=K (mkE g T tb l)
 |r::T,t::tb,o::l,K=>by
  simp only[mkF,forceL_eq,mkF_eq T tb l,mkE]
 |[],_,_,_=>rfl
 |_::_,[],_,_=>rfl
 |_::_,_::_,[],_=>rfl
theorem ASa{g:Gh}:∀{T:List Dr} {tb:List (List Nat)} {l:List Oper} {k:Nat} {d:De},(mkE g T tb l)[k]?=some d->d.F=G9 g.o d.r.lk++(dbl d.r.ft++G9 g.r d.r.ft)
 |r::T,t::tb,o::l,0,d,h=>by
  have h:De.mk r (G9 g.o r.lk++(dbl r.ft++G9 g.r r.ft)) t (V5 o.after.toList)=d:=AaO h;subst h;rfl
 |r::T,t::tb,o::l,k+1,d,h=>ASa (T:=T) (tb:=tb) (l:=l) (k:=k) h
 |[],_,_,_,_,h=>by cases h
 |_::_,[],_,_,_,h=>by cases h
 |_::_,_::_,[],_,_,h=>by cases h
theorem AC4{l F:List Nat}(h:∀c∈l,c∈F):ABz l F=true:=List.all_eq_true.2 fun c hc=>has_iff.2 (h c hc)
theorem AIa{s:SV}{i:Nat}(hi:i∈U2 s):∀{l:List Ac},Ac.put s∈l->i∈pOwn.unputs l
 |a::l,h=>by
  rcases mem_cons.1 h with h|h
  . subst h;exact AaR _ hi
  . have:=AIa hi h;cases a with
    |put _=>exact AaS _ this
    |_=>exact this
theorem ALz{s:SV}{i t:Nat}(hi:i∈U2 s){r:Dr}(hd:r.d=some t)(ha:Ac.put s∈r.as_):∀{T:List Dr},r∈T->i∈pOwn t T
 |q::T,h=>by
  simp only[pOwn];rcases mem_cons.1 h with h|h
  . subst h;refine AaR _ ?_;rw[hd];simp only[Nat.beq_refl,cond_true];exact AIa hi ha
  . exact AaS _ (ALz hi hd ha h)
theorem AIb{a:Ac}{i c:Nat}(hi:idA a=some i)(hc:c∈coR a):∀{l:List Ac},a∈l->c∈rOwn.unrows i l
 |b::l,h=>by
  simp only[rOwn.unrows];rcases mem_cons.1 h with h|h
  . subst h;refine AaR _ ?_;rw[hi];simp only[Nat.beq_refl,cond_true];exact hc
  . exact AaS _ (AIb hi hc h)
theorem AFK{a:Ac}{i c:Nat}(hi:idA a=some i)(hc:c∈coR a){r:Dr}(ha:a∈r.as_):∀{T:List Dr},r∈T->c∈rOwn i T
 |q::T,h=>by
  simp only[rOwn];rcases mem_cons.1 h with h|h
  . subst h;exact AaR _ (AIb hi hc ha)
  . exact AaS _ (AFK hi hc ha h)
theorem ATY{σ:AS}{T:List Dr}{r:Dr}{a:Ac}(hr:r∈T)(ha:a∈r.as_)(hd:AUe a=true):AON (ACq σ T) r.d a=true:=by
 cases a with
 |put s=>
  cases ht:r.d with
  |none=>rfl
  |some t=>exact AC4 fun c hc=>AaS _ (ALz hc ht ha hr)
 |new i x=>exact AC4 fun c hc=>AaS _ (AFK (a:=.new i x) rfl hc ha hr)
 |sto i o ns=>exact AC4 fun c hc=>AaS _ (AFK (a:=.sto i o ns) rfl hc ha hr)
 |cnt i t x=>rfl
 |hnd i x=>exact AC4 fun c hc=>AaS _ (AFK (a:=.hnd i x) rfl hc ha hr)
 |del i p=>exact hd
theorem AL0{t u:Nat}{o:List Nat}{r:List (Nat×List Nat)}:lkT (ALJ t o r) u=if t=u then o else lkT r u:=by
 have hk:∀{r:List (Nat×List Nat)},AEZ t r=false->lkT r t=[]:=by
  intro r;induction r with
  |nil=>intro _;rfl
  |cons p r ih=>
   intro h
   obtain⟨k,o⟩:=p
   simp only[AEZ,Bool.or_eq_false_iff]at h
   show(bif beq k t then o else lkT r t)=[]
   rw[h.1,cond_false];exact ih h.2
 have hc:∀{o:List Nat},lkT ((t,o)::r) u=if t=u then o else lkT r u:=fun {o}=>by
  show(bif beq t u then o else lkT r u)=_
  cases hb:beq t u with
  |true=>rw[Aac (AaU hb)];rfl
  |false=>rw[if_neg fun e=>by subst e;simp at hb];rfl
 cases o with
 |cons x l=>exact hc
 |nil=>
  show lkT (bif AEZ t r then(t,[])::r else r) u=_
  cases hh:AEZ t r with
  |true=>exact hc
  |false=>
   rw[cond_false]
   by_cases e:t=u
   . subst e;rw[Aac rfl];exact hk hh
   . rw[if_neg e]
theorem AL1{t:Nat}:∀{l:List (Nat×SV)},lkT (AHR l) t=AOM (A1 l) t
 |[]=>rfl
 |(k,s)::l=>by
  show lkT (ALJ k (U2 s) (AHR l)) t=_;rw[AL0,AL1 (l:=l)];unfold AOM;rw[fnd_cons];by_cases e:k=t
  . rw[Aac e,Aac e]
  . rw[if_neg e,if_neg e]
theorem AL2{t:Nat}:∀{l:List (Nat×AR)},lkT (AHS l) t=AOL (A1 l) t
 |[]=>rfl
 |(k,s)::l=>by
  show lkT (ALJ k (ABy s) (AHS l)) t=_;rw[AL0,AL2 (l:=l)];unfold AOL;rw[fnd_cons];by_cases e:k=t
  . rw[Aac e,Aac e]
  . rw[if_neg e,if_neg e]
theorem AJ7{t:Nat}:∀{T:List Dr},ADK t (AHT T)=pOwn t T
 |[]=>rfl
 |r::l=>by
  simp only[AHT,pOwn];rw[<-AJ7 (T:=l)];cases r.d with
  |none=>rfl
  |some d=>
   simp only
   cases hu:pOwn.unputs r.as_ with
   |nil=>simp
   |cons x q=>
    simp only[ADK]
    cases beq d t<;>rfl
theorem AIc{i:Nat}{z:List (Nat×List Nat)}:∀{l:List Ac},ADK i (AE9 l z)=rOwn.unrows i l++ADK i z
 |[]=>rfl
 |a::l=>by
  simp only[AE9,rOwn.unrows];rw[Aax,<-AIc (l:=l)];cases idA a with
  |none=>rfl
  |some j=>
   simp only
   cases hc:coR a with
   |nil=>simp
   |cons x q=>
    simp only[ADK]
    cases beq j i<;>rfl
theorem AJ8{i:Nat}:∀{T:List Dr},ADK i (ALL T)=rOwn i T
 |[]=>rfl
 |r::l=>by
  show ADK i (AE9 r.as_ (ALL l))=rOwn.unrows i r.as_++rOwn i l;rw[AIc,AJ8 (T:=l)]
theorem AVA{σ:AS}{T:List Dr}:ghT (AHR σ.env) (AHS σ.res) (AHT T) (ALL T)=ACq σ T:=by
 unfold ghT ACq;congr 1
 . funext t;rw[AL1,AJ7]
 . funext t;rw[AL2,AJ8]
theorem AJ9{Z:Type}:∀(l:List Dr) (K:List Dr->Z),AIH l K=K l
 |[],_=>rfl
 |r::l,K=>by simp only[AIH,AJ9 l]
theorem forceT_eq{Z:Type}:∀(l:List (Nat×List Nat)) (K:List (Nat×List Nat)->Z),ADJ l K=K l
 |[],_=>rfl
 |(t,o)::r,K=>by simp only[ADJ,forceL_eq,forceT_eq r]
mutual
theorem forceS_eq{Z:Type}:∀(s:SV) (K:SV->Z),F8 s K=K s
 |.agg l,K=>by rw[F8];exact forceSL_eq l _
 |.fn g l,K=>by rw[F8];exact forceSL_eq l _
 |.tup l,K=>by rw[F8];exact forceSL_eq l _
 |.rp s o,K=>by rw[F8];exact forceS_eq s _
 |.ap s n x k,K=>by rw[F8];exact forceS_eq s _
 |.int k x,K=>by rw[F8]
 |.bool b,K=>by rw[F8]
 |.dat t x,K=>by rw[F8]
 |.str n x,K=>by rw[F8]
 |.ary k n x,K=>by rw[F8]
 |.own i,K=>by rw[F8]
 |.ptr i o,K=>by rw[F8]
 |.ep i t x z o,K=>by rw[F8]
 |.fv a r f,K=>by rw[F8]
 |.nilS,K=>by rw[F8]
 |.raw v,K=>by rw[F8]
 |.it ts xs,K=>by rw[F8]
 |.np t x,K=>by rw[F8]
 |.undef,K=>by rw[F8]
 |.dead,K=>by rw[F8]
theorem forceSL_eq{Z:Type}:∀(l:List SV) (K:List SV->Z),ABR l K=K l
 |[],K=>by rw[ABR]
 |s::l,K=>by rw[ABR,forceS_eq s];exact forceSL_eq l _
end
theorem AKA{Z:Type}:∀(l:List (Nat×SV)) (K:List (Nat×SV)->Z),AIG l K=K l
 |[],_=>rfl
 |(t,s)::r,K=>by simp only[AIG,forceS_eq,AKA r]
theorem AGD{Z:Type}:∀(l:List (Nat×AR)) (K:List (Nat×AR)->Z),AEa l K=K l
 |[],_=>rfl
 |(t,.row e l)::r,K=>by simp only[AEa,forceSL_eq,AGD r]
 |(t,.own p c x)::r,K=>by simp only[AEa,AGD r]
theorem AP3{Z:Type}(σ:AS)(K:AS->Z):ALK σ K=K σ:=by unfold ALK;rw[AKA,AGD]
theorem ARO{ops:List Oper}{σ:AS}{T:List Dr}(hs:AGb (ABx ops) 0 (ABx ops) ops=true)(h:AKX ops (ABx ops) (AIF 0 (ABx ops)) (AHR σ.env) (AHS σ.res) T=true):AOP ops σ T=true:=by
 unfold AKX at h;rw[AJ9,forceT_eq,forceT_eq,mkF_eq,AVA]at h;unfold AOP;have hgT:ACq σ T=ACq σ T:=rfl;generalize hgg:ACq σ T=g at h hgT ⊢;generalize hE:mkE g T (ABx ops) ops=E at h;simp only[ASS,Bool.and_eq_true,List.all_eq_true]at h;obtain⟨⟨h1,h2⟩,h3⟩:=h;have tb:∀(k:Nat) (d:De),E[k]?=some d->(ABx ops)[k]?=some d.tb:=fun k d hd=>by rw[<-hE]at hd;exact AP2 hd
 have get:∀(k:Nat) (d:De),E[k]?=some d->∃o:Oper,ops[k]?=some o/\d.es=V5 o.after.toList:=fun k d hd=>by rw[<-hE]at hd;exact(AGp hd).2
 have hlt:∀{k:Nat} {d:De},E[k]?=some d->k<E.length:=fun {k d} hx=>by
  rcases Aag k E.length with h|h
  . exact h
  . rw[Aaa h]at hx;cases hx
 have one:∀(k:Nat) (d:De),E[k]?=some d->(∀j∈d.tb,j<k/\(j∈d.es\/∃e∈d.es,∃q:De,E[e]?=some q/\j∈q.tb))/\∀e∈d.es,e<k:=fun k d hd=>by
  obtain⟨o,ho,he⟩:=get k d hd;have:=AJ6 hs (tb k d hd) ho;rw[Aao,<-he]at this;refine⟨fun j hj=>⟨(this.1 j hj).1,(this.1 j hj).2.imp id ?_⟩,this.2⟩;rintro⟨e,he,q,hq,hjq⟩;have hek:=this.2 e he;have hkl:=hlt hd;obtain⟨d',hd'⟩:∃d',E[e]?=some d':=⟨E[e]'(by omega),by rw[AaV]⟩;have:=tb e d' hd';rw[hq]at this;cases this;exact⟨e,he,d',hd',hjq⟩
 simp only[AQ0,Bool.and_eq_true];refine⟨⟨h1,ANN fun k d hd=>?_⟩,AJ3 fun j k a b ha hb hjk _=>?_⟩
 . rw[Aao];have h4:=h2 d (AaP hd);have hF:d.F=G9 g.o d.r.lk++(dbl d.r.ft++G9 g.r d.r.ft):=by rw[<-hE]at hd;exact ASa hd
   have hT:d.r∈T:=by
    have hd':=hd;rw[<-hE]at hd';exact AaP (AGp hd').1
   have q1:(d.r.ft.all fun i=>has d.F (c1 i)&&ABz (g.r i) d.F)=true:=List.all_eq_true.2 fun i hi=>by
    rw[Bool.and_eq_true,hF];exact⟨has_iff.2 (AaS _ (AaR _ (AGo hi).2)),AC4 fun c hc=>AaS _ (AaS _ (unionL_mem.2 ⟨i,hi,hc⟩))⟩
   have q2:(d.r.lk.all fun t=>ABz (g.o t) d.F)=true:=List.all_eq_true.2 fun t ht=>by
    rw[hF];exact AC4 fun c hc=>AaR _ (unionL_mem.2 ⟨t,ht,hc⟩)
   have q3:(d.r.as_.all fun a=>AON g d.r.d a&&ABz (coC a) (d.F++wsC d.r.as_))=true:=List.all_eq_true.2 fun a ha=>by
    have h5:=List.all_eq_true.1 h4 a ha;rw[Bool.and_eq_true]at h5 ⊢;exact⟨by rw[<-hgg];exact ATY hT ha h5.1,h5.2⟩
   obtain⟨p1,p2⟩:=one k d hd;simp only[AQz,Bool.and_eq_true];refine⟨⟨⟨⟨?_,?_⟩,q1⟩,q2⟩,q3⟩
   . simp only[List.all_eq_true,Bool.and_eq_true,Nat.blt_eq,Bool.or_eq_true,List.any_eq_true];refine fun j hj=>⟨(p1 j hj).1,(p1 j hj).2.imp has_iff.2 ?_⟩;rintro⟨e,he,q,hq,hjq⟩;refine⟨e,he,?_⟩;rw[Y9,hq];exact has_iff.2 hjq
   . simp only[List.all_eq_true,Nat.blt_eq];exact p2
 . obtain⟨f,hf,hall⟩:=AJ5 h3 (show E[k]?=some b by simpa using hb);obtain⟨t,ht,hft⟩:=AJ4 hf;rw[Aao]at hft;have h5:=tb k b (by simpa using hb);rw[ht]at h5;cases h5;rcases AGC (t:=b.tb) hjk with h6|h6
   . exact .inl h6
   . obtain⟨q,hq,hi⟩:=hall j (by rw[hft];exact h6);have ha:E[j]?=some a:=by simpa using ha
     rw[hq]at ha;cases ha;exact .inr hi
theorem ARP{ops:List Oper}{σ:AS}{T:List Dr}(hl:T.length=ops.length)(h:AOP ops σ T=true):∃g O F,Fine ops σ T g O F:=by
 unfold AOP at h;generalize hg:ACq σ T=g at h;generalize hE:mkE g T (ABx ops) ops=E at h;simp only[AQ0,Bool.and_eq_true]at h;obtain⟨⟨h1,h2⟩,h3⟩:=h;have hlen:=AaU h1;have get:∀(k:Nat) (d:De),E[k]?=some d->T[k]?=some d.r/\∃o:Oper,ops[k]?=some o/\d.es=V5 o.after.toList:=fun k d hd=>by rw[<-hE]at hd;exact AGp hd
 have has1:∀k:Nat,k<ops.length->∃d:De,E[k]?=some d:=fun k hk=>⟨E[k]'(by omega),by rw[AaV]⟩;have hlt:∀{α:Type} {l:List α} {k:Nat} {x:α},l[k]?=some x->k<l.length:=fun {α l k x} hx=>by
  rcases Aag k l.length with h|h
  . exact h
  . rw[Aaa h]at hx;cases hx
 have one:∀(k:Nat) (d:De),E[k]?=some d->(∀j∈d.tb,j<k/\(j∈d.es\/∃e∈d.es,∃q:De,E[e]?=some q/\j∈q.tb))/\(∀e∈d.es,e<k)/\(∀i∈d.r.ft,c1 i∈d.F/\∀c∈g.r i,c∈d.F)/\(∀t∈d.r.lk,∀c∈g.o t,c∈d.F)/\∀a∈d.r.as_,GAct g d.r.d a/\∀c∈coC a,c∈d.F\/c∈wsC d.r.as_:=fun k d hd=>by
  have:=ALx h2 hd;rw[Aao]at this;simp only[AQz,Bool.and_eq_true,List.all_eq_true,Nat.blt_eq,Bool.or_eq_true,List.any_eq_true]at this;obtain⟨⟨⟨⟨p1,p2⟩,p3⟩,p4⟩,p5⟩:=this;refine⟨fun j hj=>⟨(p1 j hj).1,?_⟩,p2,fun i hi=>⟨has_iff.1 (p3 i hi).1,fun c hc=>ABL (p3 i hi).2 _ hc⟩,fun t ht=>ABL (p4 t ht),fun a ha=>⟨ARN (p5 a ha).1,fun c hc=>mem_append.1 (ABL (p5 a ha).2 c hc)⟩⟩;rcases (p1 j hj).2 with h|⟨e,he,h⟩
  . exact .inl (has_iff.1 h)
  . refine .inr ⟨e,he,?_⟩;rw[Y9]at h;cases hq:E[e]? with
    |none=>rw[hq]at h;cases h
    |some q=>rw[hq]at h;exact⟨q,rfl,has_iff.1 h⟩
 have pair:∀(j k:Nat) (a b:De),E[j]?=some a->E[k]?=some b->j<k->j∈b.tb\/AEI a b=true:=fun j k a b ha hb hjk=>AIZ (pre:=[]) h3 ha hb hjk (Aas _);have co:∀(k:Nat) (d:De),E[k]?=some d->∀x∈d.r.as_,∀c∈coC x,c∈d.F\/c∈wsC d.r.as_:=fun k d hd x hx=>((one k d hd).2.2.2.2 x hx).2;let O:Nat->Nat->Prop:=fun j k=>∃d:De,E[k]?=some d/\j∈d.tb;let F:Nat->List Nat:=fun k=>match E[k]? with
  |some d=>d.F
  |none=>[]
 have hF:∀(k:Nat) (d:De),E[k]?=some d->F k=d.F:=fun k d hd=>by simp only[F,hd]
 have eT:∀(k:Nat) (q:Dr),T[k]?=some q->∃d,E[k]?=some d/\d.r=q:=fun k q hq=>by
  obtain⟨d,hd⟩:=has1 k (by have:=hlt hq;omega);have:=(get k d hd).1;rw[hq]at this;exact⟨d,hd,(AaO this).symm⟩
 have low:∀j k,O j k->j<k:=fun j k ⟨d,hd,hj⟩=>((one k d hd).1 j hj).1;refine⟨g,O,F,⟨?_,fun r hr a ha=>?_,low,fun k o ho e he=>?_,fun D hD k hk j hj=>?_,fun j k hne=>?_,fun k q hq t ht i hi=>?_,fun k q hq j hj=>?_,fun k q hq j hj i hi=>?_,fun k q hq j hne=>?_⟩⟩
 . rw[<-hg];refine⟨fun t s hs i hi=>AaR _ (by simp only[AOM,hs];exact hi),fun j a ha i hi=>AaR _ (by simp only[AOL,ha];exact hi)⟩
 . obtain⟨k,hk⟩:=List.mem_iff_getElem?.1 hr;obtain⟨d,hd,rfl⟩:=eT k r hk;exact((one k d hd).2.2.2.2 a ha).1
 . obtain⟨d,hd⟩:=has1 k (hlt ho);obtain⟨_,o',ho',hes⟩:=get k d hd;rw[ho]at ho';cases ho';exact(one k d hd).2.1 e (by rw[hes];exact he)
 . have key:∀n k:Nat,k<n->(∀o:Oper,ops[k]?=some o->∀e∈V5 o.after.toList,e∈D)->∀j,O j k->j∈D:=by
    intro n;induction n with
    |zero=>intro k hk;omega
    |succ n ih=>
     intro k hkn hke j ⟨d,hd,hj⟩
     obtain⟨_,o,ho,hes⟩:=get k d hd
     rcases ((one k d hd).1 j hj).2 with h|⟨e,he,q,hq,hjq⟩
     . exact hke o ho j (by rw[<-hes];exact h)
     . have heD:=hke o ho e (by rw[<-hes];exact he)
       have:=(one k d hd).2.1 e he
       exact ih e (by omega) (fun o' ho'=>hD e heD o' ho') j ⟨q,hq,hjq⟩
   exact key (k+1) k (by omega) hk j hj
 . have main:∀j k,j<k->IndT T j k\/O j k:=fun j k hjk=>by
    by_cases hkl:k<ops.length
    . obtain⟨b,hb⟩:=has1 k hkl;obtain⟨a,ha⟩:=has1 j (by omega);rcases pair j k a b ha hb hjk with h|h
      . exact .inr ⟨b,hb,h⟩
      . refine .inl fun x y hx hy=>?_;rw[(get j a ha).1]at hx;rw[(get k b hb).1]at hy;cases hx;cases hy
        exact(AHn h (co j a ha) (co k b hb)).1
    . exact .inl fun x y _ hy=>absurd (hlt hy) (by omega)
   rcases Aag j k with h|h
   . exact(main j k h).imp id .inl
   . exact(main k j (by omega)).imp IndT.symm .inr
 . obtain⟨d,hd,rfl⟩:=eT k q hq;rw[hF k d hd];exact(one k d hd).2.2.2.1 t ht i hi
 . obtain⟨d,hd,rfl⟩:=eT k q hq;rw[hF k d hd];exact((one k d hd).2.2.1 j hj).1
 . obtain⟨d,hd,rfl⟩:=eT k q hq;rw[hF k d hd];exact((one k d hd).2.2.1 j hj).2 i hi
 . obtain⟨d,hd,rfl⟩:=eT k q hq;rw[hF k d hd];by_cases hjl:j<ops.length
   . obtain⟨a,ha⟩:=has1 j hjl;rcases Aag j k with h|h
     . rcases pair j k a d ha hd h with h'|h'
       . exact .inl ⟨d,hd,h'⟩
       . refine .inr (.inr fun r hr x hx=>?_);rw[(get j a ha).1]at hr;cases hr;exact(AHn h' (co j a ha) (co k d hd)).2.1 x hx
     . rcases pair k j d a hd ha (by omega) with h'|h'
       . exact .inr (.inl ⟨a,ha,h'⟩)
       . refine .inr (.inr fun r hr x hx=>?_);rw[(get j a ha).1]at hr;cases hr;exact(AHn h' (co k d hd) (co j a ha)).2.2 x hx
   . exact .inr (.inr fun r hr=>absurd (hlt hr) (by omega))
theorem Holds.eqv[Fx]{w0 w:World}{Mu M:List Nat}{σ σ':AS}{L:A8}(h:Holds w0 Mu M σ L w)(he:Eqv σ σ'):Holds w0 Mu M σ' L w:=by
 obtain⟨S,ρ,γ,μ,ι,h⟩:=h;have e2:A1 σ.res=A1 σ'.res:=funext he.2;exact⟨S,ρ,γ,μ,ι,h.hp,(by rw[<-e2];exact h.res),(by rw[<-e2];exact h.inj),(by rw[<-e2];exact h.row),fun t s ht=>by
  rw[<-he.1]at ht;rw[<-e2];exact h.env t s ht,h.anch⟩
theorem ANO{e:Edge}:∀{l:List Edge},e∈l->Region.binds .any e=true->e.on∈V5 l
 |x::l,h,hb=>by
  simp only[V5];rcases mem_cons.1 h with h|h
  . subst h;rw[hb];exact AaT ..
  . have:=ANO h hb;cases Region.binds .any x with
    |true=>exact AaQ _ this
    |false=>exact this
theorem AJT{j:Nat}:∀{l:List Edge},j∈V5 l->∃e∈l,Region.binds .any e=true/\e.on=j
 |x::l,h=>by
  simp only[V5]at h;cases hb:Region.binds .any x with
  |true=>
   rw[hb,cond_true]at h
   rcases mem_cons.1 h with h|h
   . exact⟨x,AaT ..,hb,h.symm⟩
   . obtain⟨e,h1,h2⟩:=AJT h
     exact⟨e,AaQ _ h1,h2⟩
  |false=>
   rw[hb,cond_false]at h
   obtain⟨e,h1,h2⟩:=AJT h
   exact⟨e,AaQ _ h1,h2⟩
section
variable{w0 w:World}{Mu M:List Nat}{σ:AS}{L:A8}{G:Gx}{N:Nat}{ops:List Oper}{Y:Type}{KN:AS->Option Y}{z:Y}{ds:List Deferred}{A B:A5}{X:Nat->A5}{Z:List PanicEntry->A5}{W:List Nat}
theorem AP4:∀{ops:List Oper} {i:Nat} {o:Oper} {t:Nat},ops[i]?=some o->t∈o.dst.toList->t∈C2 ops
 |[],_,_,_,h,_=>by cases h
 |o::r,0,o',t,h,ht=>by
  have h:o=o':=AaO h;subst h;cases hd:o.dst with
  |none=>rw[hd]at ht;cases ht
  |some d=>
   rw[hd]at ht
   have ht:t∈[d]:=ht
   simp only[C2,hd,mem_singleton.1 ht]
   exact AaT ..
 |o::r,i+1,o',t,h,ht=>by
  have:=AP4 (ops:=r) (i:=i) h ht;simp only[C2];cases o.dst with
  |none=>exact this
  |some d=>exact AaQ _ this
theorem AMs[Fx]{T:List Dr}{σe:AS}{g:Gh}{O:Nat->Nat->Prop}{F:Nat->List Nat}(hf:Fine ops σ T g O F)(htook:∀k o,ops[k]?=some o->∃q,T[k]?=some q/\Took P N ops o q (runE T (List.range k) σ))(hend:Eqv σe (runE T (List.range ops.length) σ)){L0:A8}{W:List Nat}(hWo:∀t∈C2 ops,t∈W)(hA:∀L' w',EnvS W L0 L'->Holds w0 Mu M σe L' w'->A ds L' w'):∀(n:Nat) (rem D:List Nat) (listed:Array Bool) (a:Act) (w:World) (L:A8),rem.length=n->rem.Nodup->(∀k,k∈rem↔k<ops.length/\listed.getD k false=false)->(∀k,k∈D↔k<ops.length/\listed.getD k false=true)->listed.size=ops.length->D.Nodup ->
   (∀d∈D,∀o,ops[d]?=some o->∀e∈V5 o.after.toList,e∈D)->D.Pairwise (fun j k=>¬O k j)->Knows N ds L a->EnvS W L0 L->Holds w0 Mu M (runE T D σ) L w->wpAny P .any (toArray ops) (S7 N A B X Z) n listed a w:=by
 have hopa:∀k:Nat,(toArray ops)[k]?=ops[k]?:=fun k=>by rw[Abz]
 have hsize:(toArray ops).size=ops.length:=by simp
 intro n
 induction n with
 |zero=>
  intro rem D listed a w L hl _ hrem hmem hsz hD _ hDo hk hE hH
  have he:rem=[]:=AbR hl
  have done:∀k,k<ops.length->listed.getD k false=true:=fun k hk=>by
   cases hb:listed.getD k false with
   |true=>rfl
   |false=>have:=(hrem k).2 ⟨hk,hb⟩;rw[he]at this;cases this
  refine⟨?_,ds,L,hk,hA L w hE (hH.eqv ?_)⟩
  . refine List.eq_nil_iff_forall_not_mem.2 fun k hk=>?_
    obtain⟨h0,o,ho,_⟩:=mem_ready.1 hk
    have hk':k<ops.length:=by rw[<-hsize];exact(Array.getElem?_eq_some_iff.1 ho).1
    have:=done k hk'
    rw[AER (by rw[hsz];exact hk') true false,this]at h0;cases h0
  . have hp:D.Perm (List.range ops.length):=(AbN hD Abn).2 fun k=>by
     rw[hmem,List.mem_range];exact⟨fun h=>h.1,fun h=>⟨h,done k h⟩⟩
    refine Eqv.trans ?_ hend.symm
    refine AD3 hf.ind _ D σ hp Abn hDo ?_
    refine AcV (R:=fun a b=>a<b) (fun {a b} hab ho=>?_) AcD
    have:=hf.low b a ho;omega
 |succ n ih=>
  intro rem D listed a w L hl hrn hrem hmem hsz hD hDc hDo hk hE hH
  have hgd:∀i,i<ops.length->listed.getD i true=listed.getD i false:=fun i hi=>AER (by rw[hsz];exact hi) _ _
  have hne:rem≠[]:=fun h=>by rw[h]at hl;cases hl
  obtain⟨k0,hk0⟩:=List.exists_mem_of_ne_nil rem hne
  refine⟨fun h0=>?_,fun i hi=>?_⟩
  . exfalso
    have key:∀m k,k<ops.length->k<m->listed.getD k false=true:=by
     intro m;induction m with
     |zero=>intro k _ hm;omega
     |succ m ihm=>
      intro k hk hm
      cases hb:listed.getD k false with
      |true=>rfl
      |false=>
       obtain⟨o,ho⟩:∃o,ops[k]?=some o:=⟨ops[k],by simp[hk]⟩
       have:k∈Region.ready .any (toArray ops) listed:=mem_ready.2 ⟨by rw[hgd k hk];exact hb,o,by rw[hopa];exact ho,fun e he hbd=>by
        have:=hf.edge k o ho e.on (ANO (Array.mem_toList_iff.2 he) hbd);exact ihm e.on (by omega) (by omega)⟩
       rw[h0]at this;cases this
    have:=key (k0+1) k0 ((hrem k0).1 hk0).1 (by omega)
    rw[((hrem k0).1 hk0).2]at this;cases this
  . obtain⟨hi0,o,hoi,hiall⟩:=mem_ready.1 hi
    rw[hopa]at hoi
    have his:i<ops.length:=by
     rcases Aag i ops.length with h|h
     . exact h
     . rw[Aaa h]at hoi;cases hoi
    rw[hgd i his]at hi0
    have hlsz:i<listed.size:=by rw[hsz];exact his
    have hset:∀j,j≠i->(listed.setIfInBounds i true).getD j false=listed.getD j false:=fun j hj=>getD_set_ne false (AcE hj)
    have hself:(listed.setIfInBounds i true).getD i false=true:=by simp[hlsz]
    have hiD:i∉D:=fun h=>by rw[((hmem i).1 h).2]at hi0;cases hi0
    have hie:∀o',ops[i]?=some o'->∀e∈V5 o'.after.toList,e∈D:=fun o' ho' e he=>by
     rw[hoi]at ho';cases ho';obtain⟨ed,h1,h2,h3⟩:=AJT he;have h4:=hiall ed (Array.mem_toList_iff.1 h1) h2;have h5:=hf.edge i o hoi e he;exact(hmem e).2 ⟨by omega,by rw[<-h3];exact h4⟩
    have hDO:∀d∈D,∀j,O j d->j∈D:=fun d hd j hj=>hf.clos D hDc d (hDc d hd) j hj
    have hiO:∀j,O j i->j∈D:=fun j hj=>hf.clos D hDc i hie j hj
    obtain⟨q,hq,hqd,hlt,htk⟩:=htook i o hoi
    have hv:=ARM hf.act hf.ind hf.low (k:=i) (lk:=q.lk) (ft:=q.ft) (F:=F i) (hf.lk i q hq) (hf.cl i q hq) (hf.sub i q hq) (hf.un i q hq) hD hDO hDo hiD hiO hf.g0
    have hrun:runE T (D++[i]) σ=apps o.dst q.as_ (runE T D σ):=by
     rw[runE_app];simp only[runE,hq,Dr.run,hqd]
    have rest:∀(a':Act) (w':World) (L':A8),Knows N ds L' a'->EnvS o.dst.toList L L'->Holds w0 Mu M (apps o.dst q.as_ (runE T D σ)) L' w'->wpAny P .any (toArray ops) (S7 N A B X Z) n (listed.setIfInBounds i true) a' w':=fun a' w' L' hk' hE' hH'=>by
     refine ih (rem.erase i) (D++[i]) _ a' w' L' ?_ (hrn.erase i) (fun k=>?_) (fun k=>?_) (by simp[hsz]) ?_ (fun d hd o' ho' e he=>?_) ?_ hk' (hE.trans (hE'.mono fun t ht=>hWo t (AP4 hoi ht))) (by rw[hrun];exact hH')
     . rw[List.length_erase_of_mem ((hrem _).2 ⟨his,hi0⟩),hl];rfl
     . rw[hrn.mem_erase_iff,hrem];constructor
       . rintro⟨h5,h6,h7⟩;exact⟨h6,by rw[hset k h5];exact h7⟩
       . rintro⟨h5,h6⟩;by_cases hki:k=i
         . subst hki;rw[hself]at h6;cases h6
         . exact⟨hki,h5,by rw[hset k hki]at h6;exact h6⟩
     . rw[Aaq,AcP,hmem];constructor
       . rintro (⟨h5,h6⟩|h5)
         . exact⟨h5,getD_set_true h6⟩
         . subst h5;exact⟨his,hself⟩
       . rintro⟨h5,h6⟩;by_cases hki:k=i
         . exact .inr hki
         . exact .inl ⟨h5,by rw[hset k hki]at h6;exact h6⟩
     . exact List.nodup_append.2 ⟨hD,by simp,fun a ha b hb e=>by
        have hb:b=i:=by simpa using hb
        exact hiD (by rw[<-hb,<-e];exact ha)⟩
     . rcases mem_append.1 hd with hd|hd
       . exact AaR _ (hDc d hd o' ho' e he)
       . have hd:d=i:=by simpa using hd
         subst hd;exact AaR _ (hie o' ho' e he)
     . refine List.pairwise_append.2 ⟨hDo,by simp,fun a ha b hb ho=>?_⟩;have hb:b=i:=by simpa using hb
       subst hb;exact hiD (hDO a ha b ho)
    obtain⟨S,ρ,γ,μ,ι,hS⟩:=hH
    have hguard:∀gd t,ACp ops gd=some t->t∈q.lk->∀s,A1 (runE T (List.range i) σ).env t=some s->A1 (runE T D σ).env t=some s:=fun gd t _ ht s hs=>by rw[hv.1 t ht];exact hs
    unfold wpOp
    rw[hopa,hoi]
    simp only
    rcases htk with⟨hg,hdo⟩|⟨has,gd,b,t,hg,hj,ht,hc⟩
    . have hw:Region.wanted o (yielded (toArray ops) a.tmps)=true:=by
       rcases hg with hg|⟨gd,b,t,hg,hj,ht,hb⟩
       . simp[Region.wanted,hg]
       . have h1:=hguard gd t hj ht _ hb;obtain⟨v,hv1,hv2⟩:=hS.env t _ h1;have hv2:v=Value.bool b:=hv2;subst hv2;simp only[Region.wanted,hg,T6 hk (AD0 hj) hv1,BEq.rfl]
      rw[Aac hw]
      left
      have h1:=hdo (ops:=toArray ops) (ds:=ds) (B:=B) (X:=X) (Z:=Z) (ty:=o.type) (pos:=o.pos) (af:=o.after) (σ:=runE T D σ) (fun x s hx=>?_) (fun j r hr=>?_) hS
      . have h2:=h1 a hk
        simp only[wpList]at h2
        rw[Aac (by simp[Region.wanted])]at h2
        refine ADV (h2.resolve_right fun hh=>ACA hh.2) ?_ (fun c a w hz=>hz) ACA
        rintro a' w' ⟨ds',L',hk',rfl,hE',hH'⟩
        exact rest a' w' L' hk' hE' hH'
      . cases x with
        |tmp t=>
         have hx:(bif has q.lk t then A1 (runE T (List.range i) σ).env t else none)=some s:=hx
         cases hb:has q.lk t with
         |false=>rw[hb,cond_false]at hx;cases hx
         |true=>rw[hb,cond_true]at hx;show A1 _ t=_;rw[hv.1 t (has_iff.1 hb)];exact hx
        |const v=>exact hx
        |func f=>exact hx
        |global f=>
         have hx:(match Sf.gv f with
          |some s=>match B3 s with
           |[]=>some s
           |_=>none
          |none=>none)=some s:=hx
         show Sf.gv f=some s
         cases hg:Sf.gv f with
         |none=>rw[hg]at hx;exact(A2 hx).elim
         |some s0=>
          rw[hg]at hx
          simp only at hx
          split at hx
          . exact hx
          . exact(A2 hx).elim
      . have hr:(bif has q.ft j then A1 (runE T (List.range i) σ).res j else none)=some r:=hr
        cases hb:has q.ft j with
        |false=>rw[hb,cond_false]at hr;cases hr
        |true=>
         rw[hb,cond_true]at hr
         rw[hv.2 j (has_iff.1 hb)]
         exact hr
    . have hw:Region.wanted o (yielded (toArray ops) a.tmps)=false:=by
       rcases hc with⟨c,hcb,hc⟩|hc
       . have h1:=hguard gd t hj ht _ hc;obtain⟨v,hv1,hv2⟩:=hS.env t _ h1;have hv2:v=Value.bool c:=hv2;subst hv2;simp only[Region.wanted,hg,T6 hk (AD0 hj) hv1];simpa using hcb
       . have h1:=hguard gd t hj ht _ hc;obtain⟨v,hv1,hv2⟩:=hS.env t _ h1;have hv2:v=Go.undef:=hv2;subst hv2;have hy:yielded (toArray ops) a.tmps gd=none:=by simp only[yielded,AD0 hj,Option.bind_some,hk.val t _ hv1];rfl
         simp only[Region.wanted,hg,hy];rfl
      rw[hw]
      simp only[Bool.false_eq_true,if_false]
      cases hd:o.dst with
      |none=>
       refine rest _ w L ?_ (EnvS.refl _ _) ?_
       . exact hk
       . rw[has,hd];exact⟨S,ρ,γ,μ,ι,hS⟩
      |some d=>
       refine rest _ w ((d,undef)::L) (hk.put (hlt d hd) _) (by rw[hd];exact EnvS.put _ _ _) ?_
       rw[has,hd]
       exact⟨S,ρ,γ,μ,ι,hS.put (s:=.undef) rfl⟩
theorem ARQ[Fx][Sl (P:=P)](hG:GxOk P G)(h:AOQ G N ops KN σ=some z)(hW:∀t∈C2 ops,t∈W)(hH:Holds w0 Mu M σ L w)(hA:∀σ' L' w',KN σ'=some z->Rel P W σ σ'->EnvS W L L'->Holds w0 Mu M σ' L' w'->A ds L' w'):∀a,Knows N ds L a->wpAny P .any (toArray ops) (S7 N A B X Z) (toArray ops).size (Array.replicate (toArray ops).size false) a { w with drawn:=w.drawn+1 }:=by
 unfold AOQ at h;rw[AP3,forceT_eq,forceT_eq,forceLL_eq,forceLL_eq]at h;cases hs:AGb (ABx ops) 0 (ABx ops) ops with
 |false=>rw[hs]at h;exact(A2 h).elim
 |true=>
 rw[hs]at h;obtain⟨T,σe,h1,h2,h3,h4,h5⟩:=ALw (P:=P) (σ0:=σ) (W:=W) hG ops [] [] σ (by simp) rfl (Eqv.refl _) hW (show ABw G N ops _ ops [] σ=some z from h);simp only[List.nil_append]at h1 h3 h5;cases hc:AKX ops (ABx ops) (AIF 0 (ABx ops)) (AHR σ.env) (AHS σ.res) T with
 |false=>rw[hc]at h1;exact(A2 h1).elim
 |true=>
  rw[hc]at h1
  obtain⟨g,O,F,hf⟩:=ARP h2 (ARO hs hc)
  intro a ha
  have hH2:Holds w0 Mu M σ L { w with drawn:=w.drawn+1 }:=by
   obtain⟨S,ρ,γ,μ,ι,hS⟩:=hH;exact⟨S,ρ,γ,μ,ι,hS.ext (Kp.drew _ _)⟩
  refine AMs hf (fun k o ho=>h5 k o (Aas _) ho) h3 (L0:=L) hW (fun L' w' hE' hH'=>hA σe L' w' h1 h4 hE' hH') _ (List.range ops.length) [] _ a _ L (by simp) Abn (fun k=>?_) (fun k=>?_) (by simp) Abw (fun d hd=>by cases hd) List.Pairwise.nil ha (EnvS.refl _ _) hH2
  . rw[List.mem_range]
    constructor
    . intro hk;exact⟨hk,by simp[hk]⟩
    . intro hk;exact hk.1
  . constructor
    . intro hk;cases hk
    . rintro⟨hk,hb⟩;simp[hk]at hb
end
end Go.Rx
namespace Go.Sx
open Go Go.RowKit
variable[Trk]
def Fw(r:Option Nat):Fence:={ Fence.wide with round:=r }
section
variable{n:Nat}{P:Program}{w:World}{o:Oper}{a:Act}{Q:Exit->Act->World->Prop}
theorem AOg{r:Option Nat}{f:FuncId}{args:Array Value}{R:Ending->World->Prop}(h:Calls P f args w R):CallsIn (Fw r) n P f args w R:=
 show CallsIn Fence.wide n P f args w R from callsIn_wide.2 h
theorem ARR{r0:Option Nat}{next next':Act->World->Prop}(hn:∀a w,next a w->next' a w){r:Result Next}(h:o.upon P a next Q r):o.uponIn (Fw r0) n P a next' Q r:=by
 unfold Oper.upon at h;split at h
 . exact hn _ _ h
 . exact hn _ _ h
 . exact hn _ _ h
 . refine⟨fun e=>(by cases e),AOg (h.mono fun e w2 h2=>?_)⟩;cases e with
   |returned v=>exact hn _ _ h2
   |panicked c=>exact h2
   |outgrown=>exact h2
 . refine⟨fun e=>(by cases e),fun c cs _=>?_⟩;obtain⟨v,w2,h2,h3⟩:=h c cs;exact⟨v,w2,hn _ _ h2,(show StepsIn (Machine.fenced P Fence.wide) P _ _ from stepsIn_wide.2 h3)⟩
 . exact h
 . exact h.elim
theorem AL3{r:Option Nat}(hQ:¬LetsOut Q){K K':Act->World->Prop}(hd:K5 o.op=true)(hn:∀a w,K a w->K' a w)(h:o.wp P a w K Q\/(o.asks P a w/\LetsOut Q)):o.wpIn (Fw r) n P a w K' Q:=by
 rcases h with h|h
 . refine⟨fun _ _=>trivial,?_⟩;have hs:Oper.semAt (Fw r).round a.eval o=execOp a.eval o:=Oper.semAt_eq _ _ _ fun c hc=>by rw[hc]at hd;simp[K5]at hd
   rw[hs];exact ARR hn h
 . exact absurd h.2 hQ
theorem AHo{r:Option Nat}{n:Nat}{P:Program}{ops:Array Oper}{Q:Exit->Act->World->Prop}(hQ:¬LetsOut Q):∀{os:List Oper} {a:Act} {w:World},os.all (fun o=>K5 o.op)=true->wpList P ops Q os a w->wpListIn (Fw r) n P ops Q os a w
 |[],_,_,_,h=>h
 |o::os,a,w,hd,h=>by
  simp only[List.all_cons,Bool.and_eq_true]at hd;unfold wpList at h;unfold wpListIn;split at h
  . rename_i hw;rw[Aac hw];exact AL3 hQ hd.1 (fun a w=>AHo hQ hd.2) h
  . rename_i hw;rw[if_neg hw];exact⟨fun _ _=>trivial,AHo hQ hd.2 h⟩
theorem AGq{r:Option Nat}{n:Nat}{P:Program}{ops:Array Oper}{md:Region.Mode}{Q:Exit->Act->World->Prop}(hQ:¬LetsOut Q)(hd:∀(i:Nat) (o:Oper),ops[i]?=some o->K5 o.op=true):∀(k:Nat) (ls:Array Bool) (a:Act) (w:World),wpAny P md ops Q k ls a w->wpAnyIn (Fw r) n P md ops Q k ls a w
 |0,_,_,_,h=>h
 |k+1,ls,a,w,⟨h0,h1⟩=>⟨h0,fun i hi=>by
  have h2:=h1 i hi;unfold wpOp at h2;unfold wpOpIn;cases ho:ops[i]? with
  |none=>rw[ho]at h2;exact AGq hQ hd k _ _ _ h2
  |some o=>
   rw[ho]at h2
   simp only at h2 ⊢
   split at h2
   . rename_i hw
     rw[Aac hw]
     exact AL3 hQ (hd i o ho) (fun a w=>AGq hQ hd k _ a w) h2
   . rename_i hw
     rw[if_neg hw]
     exact⟨fun _ _=>trivial,AGq hQ hd k _ _ _ h2⟩⟩
def CF(r:Option Nat)(n:Nat)(P:Program)(N:Nat)(c:Code)(ds:List Deferred)(L:A8)(w:World)(A B:A5)(X:Nat->A5)(Z:List PanicEntry->A5):Prop:=∀a,Knows N ds L a->c.wpIn (Fw r) n P (S7 N A B X Z) a w
end
section
variable{r:Option Nat}{n:Nat}{P:Program}{N:Nat}{ds:List Deferred}{L:A8}{w:World}{A B:A5}{X:Nat->A5}{Z:List PanicEntry->A5}
section
variable{c:Code}{id:Nat}{os:List Oper}{x:Code}{y:Code}{b:Frame}{a:Act}{k:List Item}{cs:List Frame}
theorem AAh(h:CF none n P N c ds L w A B X Z):CW P N c ds L w A B X Z:=fun a ha=>wpIn_wide.1 (h a ha)
theorem AXF(h:CW P N c ds L w A B X Z):CF none n P N c ds L w A B X Z:=fun a ha=>wpIn_wide.2 (h a ha)
theorem AHp{l:Nat}(h:CF (some l) n P N c ds L w A B X Z):CI l n P N c ds L w A B X Z:=h
theorem AL4(hd:os.all (fun o=>K5 o.op)=true)(h:Reg P N os.toArray .seq os ds L w A B X Z):CF r n P N (.region id os.toArray false) ds L w A B X Z:=
 fun a ha=>wpIn_region_lit (AHo AOC hd (h a ha))
theorem AP5(hm:P.follows .mixedOrders=true)(hd:os.all (fun o=>K5 o.op)=true)(h:∀a,Knows N ds L a->wpAny P .any os.toArray (S7 N A B X Z) os.toArray.size (Array.replicate os.toArray.size false) a { w with drawn:=w.drawn+1 }):CF r n P N (.region id os.toArray true) ds L w A B X Z:=
 fun a ha=>wpIn_region_any hm (AGq AOC (fun i o ho=>List.all_eq_true.1 hd o (AaP (by simpa using ho))) _ _ _ _ (h a ha))
theorem AL5(h:CF r n P N x ds L w (fun ds' L' w'=>CF r n P N y ds' L' w' A B X Z) B X Z):CF r n P N (.seq x y) ds L w A B X Z:=fun a ha=>
 wpIn_seq (wpIn_mono (h a ha) fun e a' w' hq=>by
  cases e with
  |normal=>obtain⟨ds',L',ha',hk⟩:=hq;exact hk a' ha'
  |_=>exact hq)
theorem ADY(h:CF r n P N c ds L w A B NoX Z):CF r n P N c ds L w A B X Z:=fun a ha=>
 wpIn_mono (h a ha) fun e a' w' hq=>by
  cases e with
  |exit i=>obtain⟨_,_,_,hx⟩:=hq;exact hx.elim
  |_=>exact hq
theorem ATZ(h:A ds L w):CF r n P N .skip ds L w A B X Z:=fun a ha=>wpIn_skip ⟨ds,L,ha,h⟩
theorem AVB(h:B ds L w):CF r n P N .ret ds L w A B X Z:=fun a ha=>wpIn_ret ⟨ds,L,ha,h⟩
theorem ARS{l:Nat}(h:A ds L w):CF r n P N (.label l) ds L w A B X Z:=fun a ha=>wpIn_label ⟨ds,L,ha,h⟩
theorem AA0{w:World}:step P (lone (b.atR a (.code (.scope c)::k)) cs w)=.next (lone (b.atR a (.code c::.inScope c::k)) cs w):=
 step_lone_go (by simp[stepG,stepG.exec,Frame.atR])
theorem AKO{w:World}:step P (lone (b.atR a (.inScope c::k)) cs w)=.next (lone (b.atR a k) cs w):=
 step_lone_go (by simp[stepG,stepG.exec,Frame.atR])
theorem ART(h:CF r n P N c ds L w A B X Z):CF r n P N (.scope c) ds L w A B X Z:=fun a ha=>by
 intro b k cs hro hb hr;have h0:(lone (b.atR a (.code (.scope c)::k)) cs w).fenced P (Fw r):=fenced_calm hb hr rfl;obtain⟨e,a₁,w₁,hq,harr⟩:=h a ha b (.inScope c::k) cs hro hb hr;cases e with
 |normal=>exact⟨.normal,a₁,w₁,hq,.head h0 AA0 (StepsIn.trans harr (.one (fenced_calm hb hr rfl) AKO))⟩
 |exit id=>
  have hx:exitTo id (.inScope c::k)=exitTo id k:=by simp[exitTo]
  exact⟨.exit id,a₁,w₁,hq,fun k' hk=>.head h0 AA0 (harr.1 k' (by rw[hx];exact hk)),fun hr' hk=>let ⟨k₁,h1,h2⟩:=harr.2 hr' (by rw[hx];exact hk);⟨k₁,h1,.head h0 AA0 h2⟩⟩
 |goto l=>exact hq.elim
 |ret=>exact⟨_,a₁,w₁,hq,.of_steps (.one h0 AA0) harr⟩
 |panic ch=>exact⟨_,a₁,w₁,hq,.of_steps (.one h0 AA0) harr⟩
 |outgrown=>exact hq.elim
theorem ATa(h:X id ds L w):CF r n P N (.exit id) ds L w A B X Z:=fun a ha=>wpIn_exit ⟨ds,L,ha,h⟩
theorem ATb{c:Operand}{b:Bool}(hc:ev L c=some (.bool b))(ht:b=true->CF r n P N x ds L w A B X Z)(hf:b=false->CF r n P N y ds L w A B X Z):CF r n P N (.cond c x y) ds L w A B X Z:=fun a ha=>by
 cases b with
 |true=>exact wpIn_cond_true (ha.eval hc) (ht rfl a ha)
 |false=>exact wpIn_cond_false (ha.eval hc) (hf rfl a ha)
theorem ARU(h:CF r n P N c ds L w A B (exB id A X) Z):CF r n P N (.block id c) ds L w A B X Z:=fun a ha=>
 wpIn_block (wpIn_mono (h a ha) fun e a' w' hq=>by
  cases e with
  |exit i=>
   obtain⟨ds',L',ha',hx⟩:=hq
   simp only[Exit.inBlock]
   by_cases hi:i=id
   . subst hi
     rw[Aac rfl]
     exact⟨ds',L',ha',by simpa[exB] using hx⟩
   . rw[if_neg hi]
     refine⟨ds',L',ha',?_⟩
     have hb:beq i id=false:=by
      cases hb:beq i id with
      |false=>rfl
      |true=>exact absurd (AaU hb) hi
     simpa[exB,hb] using hx
  |_=>exact hq)
theorem ATc{ι:Type}(E:ι->A8)(I:ι->World->Prop)(μ:ι->Nat)(i0:ι)(h0:I i0 w)(hs:Sub (E i0) L)(round:∀i w,I i w->CF r n P N c ds (E i) w (fun ds' L' w'=>ds'=ds/\∃i',I i' w'/\Sub (E i') L'/\μ i'<μ i) B X Z):CF r n P N (.loop c) ds L w A B X Z:=by
 intro a ha b k cs hro hb hr;have key:∀j a w i,μ i=j->I i w->Knows N ds (E i) a ->
   ∃e a' w',(S7 N A B X Z) e a' w'/\ArrivesIn (Machine.fenced P (Fw r)) P (lone (b.atR a (.code c::.inLoop c::k)) cs w) b k cs e a' w':=by
  intro j
  induction j using Nat.strongRecOn with
  |_ j ih=>
   intro a w i hn hI hk
   obtain⟨e,a₁,w₁,hq,harr⟩:=round i w hI a hk b (.inLoop c::k) cs hro hb hr
   cases e with
   |normal=>
    obtain⟨ds₁,L₁,hk₁,rfl,i',hI',hs',hlt⟩:=hq
    obtain⟨e₂,a₂,w₂,hq₂,harr₂⟩:=ih (μ i') (hn▸hlt) a₁ w₁ i' rfl hI' (hk₁.sub hs')
    exact⟨e₂,a₂,w₂,hq₂,.of_steps (StepsIn.trans harr (.one (fenced_calm hb hr rfl) stepR_inLoop)) harr₂⟩
   |exit id=>exact⟨.exit id,a₁,w₁,hq,.pass (x:=.inLoop c) rfl (fun _ _=>.inl (by simp)) harr⟩
   |goto l=>exact hq.elim
   |ret=>exact⟨.ret,a₁,w₁,hq,.pass (x:=.inLoop c) rfl (fun _ _=>.inl (by simp)) harr⟩
   |panic ch=>exact⟨.panic ch,a₁,w₁,hq,.pass (x:=.inLoop c) rfl (fun _ _=>.inl (by simp)) harr⟩
   |outgrown=>exact hq.elim
 obtain⟨e,a',w',hq,harr⟩:=key _ a w i0 rfl h0 (ha.sub hs);exact⟨e,a',w',hq,.of_steps (.one (fenced_calm hb hr rfl) stepR_loop) harr⟩
end
end
end Go.Sx
namespace Go.Rx
open Go Go.Sx Go.RowKit
variable[Trk][Sg][Sf]{P:Program}[Se P]
section
variable{t:Ty}{e:Nat}{M:List Nat}{M':List Nat}{w:World}{w':World}{v:Value}
theorem ATd{x y:List (den t)}(h:Sx.Own (enc (P:=P) t) e 0 M w v x)(h':Sx.Own (enc (P:=P) t) e 0 M' w' v y):y.length=x.length:=by
 rcases h with⟨a,rfl,rfl⟩|⟨g,cap,cur,rfl,_⟩
 . rcases h' with⟨a',_,rfl⟩|⟨g',cap',cur',h1,_⟩
   . rfl
   . injection h1 with h1 h2 h3;omega
 . rcases h' with⟨a',h1,rfl⟩|⟨g',cap',cur',h1,_⟩
   . injection h1 with h1 h2 h3;omega
   . injection h1 with h1 h2 h3;exact h2.symm
theorem AVC{c:Oc}{x y:den c.ty}(h:(G1 (P:=P) [] v c x).holds M w)(h':(G1 (P:=P) [] v c y).holds M' w'){p:Bool}{xs:List (den t)}(he:AR.own false c x=.own p (.sl e t) xs):∃ys:List (den t),AR.own false c y=.own p (.sl e t) ys/\ys.length=xs.length:=by
 cases c with
 |mp m k u=>injection he with _ he;cases he
 |sl e1 t1=>
  injection he with h1 h2 h3
  injection h2 with h4 h5
  subst h1;subst h4;subst h5
  have h3:=eq_of_heq h3
  subst h3
  exact⟨y,rfl,ATd (P:=P) h h'⟩
end
section
variable{ρ:Nat->Value}{R:Nat->Option AR}{M:List Nat}{w:World}
theorem OkV.at:∀{ss:List SV} {vs:List Value} {i:Nat} {s:SV},OkV (P:=P) ρ R M w ss vs->ss[i]?=some s->∃v,vs[i]?=some v/\Ok (P:=P) ρ R M w s v
 |[],_,_,_,_,h=>by cases h
 |_::_,_,0,_,⟨u,r,h1,h2,_⟩,h=>by cases h;subst h1;exact⟨u,rfl,h2⟩
 |_::_,_,i+1,_,⟨u,r,h1,_,h3⟩,h=>by subst h1;exact OkV.at h3 (i:=i) h
theorem OkV.erase:∀{ss:List SV} {vs:List Value} {i:Nat},OkV (P:=P) ρ R M w ss vs->OkV (P:=P) ρ R M w (ss.eraseIdx i) (vs.eraseIdx i)
 |[],_,_,h=>by have h:_=[]:=h;subst h;exact rfl
 |_::_,_,0,⟨u,r,h1,_,h3⟩=>by subst h1;exact h3
 |_::_,_,i+1,⟨u,r,h1,h2,h3⟩=>by subst h1;exact⟨u,_,rfl,h2,OkV.erase (i:=i) h3⟩
end
section
variable[Anch]
variable{w0 w w':World}{Mu M:List Nat}{σ:AS}{L:A8}{S:List Res}{ρ:Nat->Value}{γ:Nat->List Value}{μ:Nat->List Nat}{ι:Nat->Nat}{G:Gx}{d:Option Nat}
section
variable{g:Nat}{id:Nat}{ss:List SV}{ss':List SV}{c:CtrM}{j:Nat}{c':Oc}{x:den c'.ty}{x0:den c.c.ty}{a:E9 c.ps}
theorem ARV[Fx][Sl (P:=P)](h:HS w0 Mu M σ L w S ρ γ μ ι)(hG:GxOk P G){xs:List Operand}{r:H9 c.rs×den c.c.ty}{fz:List Ac}(hop:∀ρ R M w vs,OkV (P:=P) ρ R M w ss vs->OkV (P:=P) ρ R M w ss' vs)(ha:evL (B5 σ.env) xs=some ss)(hc:A1 G.fm g=some c)(hag:c.ag=none)(hj:ss'[c.i]?=some (.own j))(hR:A1 σ.res j=some (.own false c' x))(hx:castO c' c.c x=some x0)(hz:frz (A1 σ.res) (ownsLL (ss'.eraseIdx c.i))=some fz)(hni:has (ownsLL (ss'.eraseIdx c.i)) j=false)(hd:M5 G (A1 σ.res) c.ps (ss'.eraseIdx c.i)=some a)(hF:c.F a x0=some r):
  ∃vs,evs L xs=some vs/\CallsV P (.func (.func g) #[] #[]) vs w fun e w'=>∃v,e=.returned v/\∃S' γ' ι',HS w0 Mu M (apps d (fz++[.cnt j c.c r.2]) σ) L w' S' ρ γ' μ ι'/\Ok ρ (A1 (apps d (fz++[.cnt j c.c r.2]) σ).res) (mm S' M) w' (bif c.self then .own j else AFs (P7 id c.rs r.1).1) v:=by
 obtain⟨he,hx⟩:=ABh hx
 subst he
 have hx:x=x0:=hx
 subst hx
 obtain⟨vs,h3,h4⟩:=h.evL ha
 have h5:=hop _ _ _ _ _ h4
 obtain⟨hok1,hen⟩:=FmOk.at hG.fm hc
 unfold CtrM.ok at hok1
 rw[hag]at hok1
 obtain⟨h0,hok⟩:=hok1
 obtain⟨v,h6,h7,_⟩:=h5.at hj
 subst h7
 obtain⟨S1,ι1,k1,k2,k3⟩:=h.frzO (d:=d) hz
 have k4:A1 (apps d fz σ).res j=some (.own false c.c x):=AHd fz σ (fun a ha=>by
  obtain⟨i,hi,q,rfl⟩:=AC3 _ hz a ha;exact⟨i,q,rfl,fun e=>by subst e;rw[has_iff.2 hi]at hni;cases hni⟩) hR
 have hS:S1[ι1 j]?=some (G1 (P:=P) [] (ρ j) c.c x):=k1.res j _ k4
 have hrow:Hnd (ρ j) c.c:=k1.row j _ k4
 have hsub:∀b∈Q9 c.c (ρ j)++mm (S1.eraseIdx (ι1 j)) M,b∈mm S1 M:=fun b hb=>(mem_append.1 hb).elim (fun hb=>mem_mm.2 (.inl ⟨_,AaP hS,AGh hb⟩)) fun hb=>AAQ (Aal S1 (ι1 j)) hb
 have hap:∀b∈Q9 c.c (ρ j),b∉mm (S1.eraseIdx (ι1 j)) M:=fun b hb=>k1.hp.apart (ι1 j) hS b (AGh hb)
 have hargs:=ADT hG h.anch.2 (M':=Q9 c.c (ρ j)++mm (S1.eraseIdx (ι1 j)) M) (fun b hb=>k3 b (hsub b hb)) c.ps (w:=w) (ρ:=ρ) (γ:=γ) _ (k2.drop hsub) hd (h5.erase (i:=c.i))
 have hh:(G1 (P:=P) [] (ρ j) c.c x).holds (Q9 c.c (ρ j)++mm (S1.eraseIdx (ι1 j)) M) w:=(G1 (P:=P) [] (ρ j) c.c x).adv (Adv.drop hsub) (fun _ _=>rfl) (k1.hp.get (ι1 j) hS)
 refine⟨vs,h3,CallsV.go hen (Aan vs) (hok (mm (S1.eraseIdx (ι1 j)) M) w a x (ρ j) (vs.eraseIdx c.i) vs r.1 r.2 (fun b hb=>k1.hp.mlt b (hsub b hb)) (k1.anch.2.adv (Adv.drop hsub)) hap hargs h6 rfl hrow hh hF) ?_⟩
 rintro e w' ⟨us,rfl,hks,hkp,hh'⟩
 have hfp:(G1 (P:=P) [] (ρ j) c.c x).fp=Q9 c.c (ρ j):=AAU
 have hfp':(G1 (P:=P) [] (ρ j) c.c r.2).fp=Q9 c.c (ρ j):=AAU
 have hk:Kp (G1 (P:=P) [] (ρ j) c.c x).fp w w':=by rw[hfp];exact hkp
 have hn:∀b∈(G1 (P:=P) [] (ρ j) c.c r.2).fp,b∈(G1 (P:=P) [] (ρ j) c.c x).fp\/w.heap.size<=b:=fun b hb=>.inl (by rw[hfp];rw[hfp']at hb;exact hb)
 have hp:=k1.hp.upd2 (r':=G1 (P:=P) [] (ρ j) c.c r.2) (ι1 j) hS hk hn (by rw[AII,AII]) fun M' hM'=>(G1 (P:=P) [] (ρ j) c.c r.2).adv (Adv.drop fun b hb=>by
  rcases hM' b hb with hb|hb
  . rw[hfp']at hb;exact AaR _ hb
  . exact AaS _ hb) (fun _ _=>rfl) hh'
 have hA:=k1.hp.updA (r':=G1 (P:=P) [] (ρ j) c.c r.2) (ι1 j) hS hk hn
 have hgg:Z9 c.c r.2 (.own false c.c x)=.own false c.c r.2:=by simp only[Z9,castO,dif_pos]
 have h9:=k1.upd (i:=j) (r:=.own false c.c r.2) (cs:=γ j) (g:=Z9 c.c r.2) (c:=[0]) k4 hgg hp hA (fun p e t xs he=>AVC hh hh' he) hrow
 obtain⟨_,_,h10⟩:=AIL c.rs id h0 hks
 cases hself:c.self with
 |true=>
  have h11:=APh hrow hh'
  refine⟨_,by rw[cond_true],_,_,_,by rw[H0];exact h9,?_⟩
  rw[cond_true]
  exact⟨rfl,h11⟩
 |false=>
 rw[cond_false,cond_false]
 refine⟨_,rfl,_,_,_,by rw[H0];exact h9,ALb (h10 _ _ _ fun b hb=>?_)⟩
 rcases AMw hS hb with hb|hb
 . have hb:b∈(G1 (P:=P) [] (ρ j) c.c r.2).fp:=hb
   rw[hfp']at hb;exact AaR _ hb
 . exact AaS _ hb
theorem AXG[Fx][Sl (P:=P)]{N:Nat}{ops:Array Oper}{ds:List Deferred}{B:A5}{X:Nat->A5}{Z:List PanicEntry->A5}{ty:TypeId}{pos:String}{af:Array Edge}(h:HS w0 Mu M σ L w S ρ γ μ ι)(hG:GxOk P G)(hN:(match d with|some d=>blt d N|none=>true)=true){xs:Array Operand}{ts:Array TypeId}{r:H9 c.rs×den c.c.ty}{fz:List Ac}(hop:∀ρ R M w vs,OkV (P:=P) ρ R M w ss vs->OkV (P:=P) ρ R M w ss' vs)(ha:evL (B5 σ.env) xs.toList=some ss)(hc:A1 G.fm g=some c)(hag:c.ag=none)(hj:ss'[c.i]?=some (.own j))(hR:A1 σ.res j=some (.own false c' x))(hx:castO c' c.c x=some x0)(hz:frz (A1 σ.res) (ownsLL (ss'.eraseIdx c.i))=some fz)(hni:has (ownsLL (ss'.eraseIdx c.i)) j=false)(hd:M5 G (A1 σ.res) c.ps (ss'.eraseIdx c.i)=some a)(hF:c.F a x0=some r):
  C3 P N ops ds L w ⟨d,.call ⟨.value (.func g),xs,ts⟩,ty,pos,af,none⟩ w0 Mu M (apps d (fz++[.cnt j c.c r.2,.put (bif c.self then .own j else AFs (P7 id c.rs r.1).1)]) σ) B X Z:=by
 obtain⟨vs,h1,h2⟩:=ARV (d:=d) (id:=id) h hG hop ha hc hag hj hR hx hz hni hd hF
 obtain⟨xs⟩:=xs
 cases d with
 |some d=>
  refine ABO rfl h1 hN (h2.mono ?_)
  rintro e w2 ⟨v,rfl,S',γ',ι',h4,h5⟩
  refine⟨v,rfl,?_⟩
  have h6:=h4.fin (N:=N) (ops:=ops) (ds:=ds) (B:=B) (X:=X) (Z:=Z) (d:=d) h5
  rw[<-H0,Aax]at h6
  exact h6
 |none=>
  refine AHE rfl h1 (h2.mono ?_)
  rintro e w2 ⟨v,rfl,S',γ',ι',h4,h5⟩
  refine⟨v,rfl,Reg.nil ⟨rfl,EnvS.refl _ _,S',ρ,γ',μ,ι',?_⟩⟩
  rw[H0]at h4 ⊢
  exact h4
theorem ARW{o:Oper}{args:List Operand}(h:AHV G o=some (c,args)):o.guard=none/\∃g xs ts,o.op=.call ⟨.value (.func g),xs,ts⟩/\A1 G.fm g=some c/\args=xs.toList:=by
 unfold AHV at h;split at h
 . rename_i h1 h2;split at h
   . rename_i h3;cases h
     exact⟨h1,_,_,_,h2,h3,rfl⟩
   . cases h
 . cases h
theorem ARX{Z:Type}{z:Z}{R:Nat->Option AR}{K:List Ac->Option Z}(h:AOV G id R c K ss=some z):∃(j:Nat) (c':Oc) (x:den c'.ty) (x0:den c.c.ty) (a:E9 c.ps) (r:H9 c.rs×den c.c.ty) (fz:List Ac),ss[c.i]?=some (.own j)/\R j=some (.own false c' x)/\castO c' c.c x=some x0/\(frz R (ownsLL (ss.eraseIdx c.i))=some fz/\has (ownsLL (ss.eraseIdx c.i)) j=false)/\M5 G R c.ps (ss.eraseIdx c.i)=some a/\c.F a x0=some r/\K (fz++[.cnt j c.c r.2,.put (bif c.self then .own j else AFs (P7 id c.rs r.1).1)])=some z:=by
 unfold AOV at h;rw[Y9]at h;split at h
 . rename_i j h1;split at h
   . rename_i c' x h2;split at h
     . rename_i x0 h3;split at h
       . rename_i fz a h4 h8 h5;obtain⟨r,h6,h7⟩:=C5 h;exact⟨j,c',x,x0,a,r,fz,h1,h2,h3,⟨h4,h8⟩,h5,h6,h7⟩
       . cases h
     . cases h
   . cases h
 . cases h
end
end
section
variable[Anch]
variable{w0 w w':World}{Mu M:List Nat}{σ:AS}{L:A8}{S:List Res}{ρ:Nat->Value}{γ:Nat->List Value}{μ:Nat->List Nat}{ι:Nat->Nat}{G:Gx}{d:Option Nat}
theorem ARY[Fx][Sl (P:=P)]{Zt:Type}{z:Zt}{N:Nat}{ops:Array Oper}{ds:List Deferred}{B:A5}{X:Nat->A5}{Z:List PanicEntry->A5}{ty:TypeId}{pos:String}{af:Array Edge}(h:HS w0 Mu M σ L w S ρ γ μ ι)(hG:GxOk P G)(hN:(match d with|some d=>blt d N|none=>true)=true){g id:Nat}{xs:Array Operand}{ts:Array TypeId}{ss ss':List SV}{c:CtrM}{K:List Ac->Option Zt}(hop:∀ρ R M w vs,OkV (P:=P) ρ R M w ss vs->OkV (P:=P) ρ R M w ss' vs)(ha:evL (B5 σ.env) xs.toList=some ss)(hc:A1 G.fm g=some c)(hm:ALO G id (A1 σ.res) c K ss'=some z):
  ∃ac,K ac=some z/\C3 P N ops ds L w ⟨d,.call ⟨.value (.func g),xs,ts⟩,ty,pos,af,none⟩ w0 Mu M (apps d ac σ) B X Z:=by
 unfold ALO at hm
 cases hag:c.ag with
 |none=>
  rw[hag]at hm
  obtain⟨j,c',x,x0,a,q,fz,m1,m2,m3,m4,m5,m6,m7⟩:=ARX hm
  exact⟨_,m7,AXG h hG hN hop ha hc hag m1 m2 m3 m4.1 m4.2 m5 m6⟩
 |some q=>
  have hok:=(FmOk.at hG.fm hc).1
  unfold CtrM.ok at hok
  rw[hag]at hok
  exact hok.elim
end
end Go.Rx
namespace Go.Rx
open Go Go.Sx Go.RowKit
variable[Trk][Sg][Sf]{P:Program}[Se P]
variable[Anch]
theorem AG8[Fx]{w0 w:World}{Mu M:List Nat}{σ:AS}{L:A8}(h:Holds w0 Mu M σ L w):Holds w0 Mu M σ.start L w:=by
 obtain⟨S,ρ,γ,μ,ι,h⟩:=h;exact⟨S,ρ,γ,μ,ι,h.hp,h.res,h.inj,h.row,h.env,h.anch⟩
theorem AFc[Fx]{w0 w:World}{Mu M:List Nat}{W:List Nat}{sh:Sh}{σ:AS}{x:O6 sh.cs}{L:A8}(h:Holds w0 Mu M (B8 W sh σ.start x) L w):Holds w0 Mu M (B8 W sh σ x) L w:=by
 obtain⟨S,ρ,γ,μ,ι,h⟩:=h;exact⟨S,ρ,γ,μ,ι,h.hp,h.res,h.inj,h.row,h.env,h.anch⟩
section
variable{Γ:Type}
theorem AFL{f:(k:Key)->Option (AF3 Γ k)}{W:List Nat}{Y:Type}{KN:AS->Option Y}{KX:Nat->AS->Option Y}{KR:Γ->Option Y}{σ:AS}:∀{ks:List Key} {q:AFB Γ ks},ABg f ks=some q->∃k∈ks,∃x,f k=some x/\ADv W KN KX KR σ ks q=AOU W KN KX KR σ k x
 |[],q,h=>by cases h
 |[k],q,h=>⟨k,AaT ..,q,h,rfl⟩
 |k::j::l,q,h=>by
  simp only[ABg]at h;cases h1:f k with
  |some x=>
   rw[h1]at h
   have h:Sum.inl x=q:=AaO h
   subst h
   exact⟨k,AaT ..,x,h1,rfl⟩
  |none=>
   rw[h1]at h
   cases h2:ABg f (j::l) with
   |none=>rw[h2]at h;exact(A2 h).elim
   |some y=>
    rw[h2]at h
    have h:Sum.inr y=q:=AaO h
    subst h
    obtain⟨k',h3,x,h4,h5⟩:=AFL (W:=W) (KN:=KN) (KX:=KX) (KR:=KR) (σ:=σ) h2
    exact⟨k',AaQ _ h3,x,h4,h5⟩
theorem AG9{sh:Sh}:∀{ks:List Key},Key.norm sh∈ks->∀t∈J4 sh.cs,t∈O7 ks
 |k::l,h,t,ht=>by
  rcases mem_cons.1 h with h|h
  . subst h;exact AaR _ ht
  . have:=AG9 h t ht;cases k with
    |norm _=>exact AaS _ this
    |exit _ _=>exact AaS _ this
    |ret=>exact this
theorem AHA{sh:Sh}{i:Nat}:∀{ks:List Key},Key.exit i sh∈ks->∀t∈J4 sh.cs,t∈O7 ks
 |k::l,h,t,ht=>by
  rcases mem_cons.1 h with h|h
  . subst h;exact AaR _ ht
  . have:=AHA h t ht;cases k with
    |norm _=>exact AaS _ this
    |exit _ _=>exact AaS _ this
    |ret=>exact this
structure PZ(X X1:Nat->A5)(Z:List PanicEntry->A5)(ds:List Deferred):Prop where
 z:∀(T t:Nat) (L1 L2:A8) (w:World) (v:Value),blt t pnc=true->(∀u,u≠t->Sx.A6 L2 u=Sx.A6 L1 u)->X (ADM T t) ds ((t,v)::L1) w->Z [{ v:=.iface T v,recovered:=false }] ds L2 w
 x:∀(i:Nat) (L:A8) (w:World),blt i pnc=true->X i ds L w->X1 i ds L w
section
variable{A:A5}{X:Nat->A5}{X1:Nat->A5}{Z:List PanicEntry->A5}{ds:List Deferred}{x:Operand}{t:Nat}{N:Nat}{B:A5}{v:Value}{w:World}{M:List Nat}{M':List Nat}{w':World}{G:Gx}
theorem PZ.block{i:Nat}(hi:blt i pnc=true)(h:PZ X X1 Z ds):PZ (exB i A X) (exB i A X1) Z ds:=⟨fun T t L1 L2 w v ht hl hx=>by
 have hi:i<pnc:=by simpa[Nat.blt_eq] using hi
 have hb:beq (ADM T t) i=false:=by
  cases hb:beq (ADM T t) i with
  |false=>rfl
  |true=>
   have h1:=AaU hb
   have h2:pnc<=ADM T t:=Aad (Ab9 _ (Nat.succ_pos T)) (Nat.le_add_right _ _)
   omega
 exact h.z T t L1 L2 w v ht hl (by simpa[exB,hb] using hx),fun j L w hj hx=>by
 cases hb:beq j i with
 |true=>simpa[exB,hb] using hx
 |false=>simpa[exB,hb] using h.x j L w hj (by simpa[exB,hb] using hx)⟩
theorem PZ.no:PZ NoX NoX Z ds:=⟨fun _ _ _ _ _ _ _ _ h=>h.elim,fun _ _ _ _ h=>h⟩
theorem AL6{m p:Oper}{T:TypeId}(h:AJG m p=some (T,x,t)):m.guard=none/\m.dst=some t/\m.op=.makeInterface T x/\p.guard=none/\p.op=.panic (.tmp t):=by
 unfold AJG at h;split at h
 . rename_i h1 h2 h3 h4 h5;cases hb:beq _ _ with
   |false=>rw[hb]at h;exact(A2 h).elim
   |true=>
    rw[hb]at h
    have h6:=AaU hb
    subst h6
    cases h
    exact⟨h1,h2,h3,h4,h5⟩
 . exact(A2 h).elim
theorem AL7:∀{ops l:List Oper} {T:TypeId} {x:Operand} {t:Nat},AF4 ops=some (l,T,x,t)->∃m p,ops=l++[m,p]/\AJG m p=some (T,x,t)
 |[],l,T,x,t,h=>(A2 h).elim
 |[o],l,T,x,t,h=>(A2 h).elim
 |[o,p],l,T,x,t,h=>by
  simp only[AF4]at h;cases hq:AJG o p with
  |none=>rw[hq]at h;exact(A2 h).elim
  |some q=>
   rw[hq]at h
   cases h
   exact⟨o,p,rfl,hq⟩
 |o::a::b::r,l,T,x,t,h=>by
  have h:(match AF4 (a::b::r) with
   |some (l,q)=>some (o::l,q)
   |none=>none)=some (l,T,x,t):=h
  cases hq:AF4 (a::b::r) with
  |none=>rw[hq]at h;exact(A2 h).elim
  |some q=>
   obtain⟨l',T',x',t'⟩:=q
   rw[hq]at h
   cases h
   obtain⟨m,p,h1,h2⟩:=AL7 hq
   exact⟨m,p,by rw[h1];rfl,h2⟩
theorem AD4{m p:Oper}{t u:Nat}(hm:m.dst=some t):∀{l:List Oper},u∈C2 l\/u=t->u∈C2 (l++[m,p])
 |[],h=>by
  show u∈C2 [m,p];simp only[C2,hm];rcases h with h|h
  . cases h
  . rw[h];exact AaT ..
 |o::l,h=>by
  rw[AbH];simp only[C2]at h ⊢;cases ho:o.dst with
  |none=>rw[ho]at h;exact AD4 hm h
  |some d=>
   rw[ho]at h
   rcases h with h|h
   . rcases mem_cons.1 h with h|h
     . rw[h];exact AaT ..
     . exact AaQ _ (AD4 hm (.inl h))
   . exact AaQ _ (AD4 hm (.inr h))
theorem Y3{N:Nat}{ops:Array Oper}{A A' B:A5}{X:Nat->A5}{Z:List PanicEntry->A5}{rest:List Oper}(hr:∀a w,S7 N A' B X Z .normal a w->wpList P ops (S7 N A B X Z) rest a w):∀(l:List Oper) (a:Act) (w:World),wpList P ops (S7 N A' B X Z) l a w->wpList P ops (S7 N A B X Z) (l++rest) a w
 |[],a,w,h=>hr a w h
 |o::l,a,w,h=>by
  rw[AbH];simp only[wpList]at h ⊢;split
  . rename_i hw;rw[Aac hw]at h;exact .inl (ADV (h.resolve_right fun hh=>ACA hh.2) (fun a w h=>Y3 hr l a w h) (fun c a w hz=>hz) ACA)
  . rename_i hw;rw[if_neg hw]at h;exact Y3 hr l _ w h
theorem AVD{ops:Array Oper}{m p:Oper}{T:TypeId}{fields:Array Field}{L:A8}(hq:AJG m p=some (T,x,t))(hT:P.underlying T=some (.struct fields))(ht:blt t N=true)(hv:ev L x=some v)(hz:Z [{ v:=.iface T v,recovered:=false }] ds ((t,.iface T v)::L) w):Reg P N ops .seq [m,p] ds L w A B X Z:=fun a ha=>by
 obtain⟨h1,h2,h3,h4,h5⟩:=AL6 hq;simp only[wpList];have w1:Region.wanted m (yielded ops a.tmps)=true:=by simp[Region.wanted,h1]
 rw[Aac w1];left;have e1:(execOp a.eval m).run P w=.ok (.value (.iface T v)) w:=by
  obtain⟨md,mop,mt,mpos,maf,mg⟩:=m;have h3:mop=.makeInterface T x:=h3;subst h3;simp[execOp,Instr.makeInterface,ha.eval hv,run_underlying hT]
 unfold Oper.wp;rw[e1,Oper.upon_value,h2];have hk:=ha.put ht (.iface T v);have w2:Region.wanted p (yielded ops (a.put (some t) (.iface T v)).tmps)=true:=by simp[Region.wanted,h4]
 rw[Aac w2];left;show p.wp P (a.put (some t) (.iface T v)) w _ _;have e2:(execOp (a.put (some t) (.iface T v)).eval p).run P w=.halt (.panic (.iface T v)) w:=by
  obtain⟨pd,pop,pt,ppos,paf,pg⟩:=p;have h5:pop=.panic (.tmp t):=h5;subst h5;have hx:(a.put (some t) (.iface T v)).eval (.tmp t)=.iface T v:=hk.eval (by show Sx.A6 _ t=_;rw[look_cons,Aac rfl]);simp[execOp,hx,Instr.panic,goPanic]
 unfold Oper.wp;rw[e2,Oper.upon_panic];exact⟨ds,_,hk,hz⟩
theorem AD5{t:Ty}(h:AEb t=true){cs:List Value}{x:den t}(hx:(enc (P:=P) t).R M w cs x):(enc (P:=P) t).R M' w' cs x:=by
 cases t with
 |int k=>exact hx
 |bool=>exact hx
 |_=>cases h
theorem AKB:∀{l:List Ty},l.all AEb=true->∀{M M':List Nat} {w w':World} {cs:List Value} {x:P6 l},(AFy (P:=P) l).R M w cs x->(AFy (P:=P) l).R M' w' cs x
 |[],_,_,_,_,_,_,_,h=>h
 |[t],hl,_,_,_,_,_,_,h=>AD5 (by simpa using hl) h
 |t::u::l,hl,_,_,_,_,_,_,h=>by
  have h1:AEb t=true:=by simp only[List.all_cons,Bool.and_eq_true]at hl;exact hl.1
  have h2:(u::l).all AEb=true:=by simp only[List.all_cons,Bool.and_eq_true]at hl ⊢;exact hl.2
  obtain⟨c1,c2,e,h3,h4⟩:=h;exact⟨c1,c2,e,AD5 h1 h3,AKB h2 h4⟩
theorem AOh[Sl (P:=P)]{t:Ty}(h:AC1 t=true){x:den t}(hx:OkD (P:=P) M w t x v):OkD (P:=P) M' w' t x v:=by
 obtain⟨cs,h1,h2⟩:=hx;refine⟨cs,?_,h2⟩;cases t with
 |int k=>exact AD5 (t:=.int k) h h1
 |bool=>exact AD5 (t:=.bool) h h1
 |st n=>exact(Sl.is n M' w' cs x).2 (AKB h ((Sl.is n M w cs x).1 h1))
 |_=>cases h
theorem AP6{o:Oper}{c:CtrP}{args:List Operand}(h:ADw G o=some (c,args)):o.guard=none/\∃g xs ts,o.op=.call ⟨.value (.func g),xs,ts⟩/\A1 G.pf g=some c/\args=xs.toList:=by
 unfold ADw at h;split at h
 . rename_i g xs ts h1 h2;cases hf:A1 G.pf g with
   |none=>rw[hf]at h;exact(A2 h).elim
   |some c'=>rw[hf]at h;cases h;exact⟨h1,g,xs,ts,h2,hf,rfl⟩
 . exact(A2 h).elim
theorem AJU[Fx][Sl (P:=P)]{G:Gx}(hG:GxOk P G){N:Nat}{all:List Oper}{t:Nat}(ht:blt t N=true)(htp:blt t pnc=true){Y:Type}{KN:AS->Option Y}{KX:Nat->AS->Option Y}{z:Y}{ds:List Deferred}{w0:World}{Mu M:List Nat}{A B:A5}{X X1:Nat->A5}{Z:List PanicEntry->A5}{W:List Nat}(htW:t∈W)(hP:PZ X X1 Z ds):
  ∀(l:List Oper) (σ:AS) (L:A8) (w:World),AAu G N all t KN KX l σ=some z->(∀t∈C2 l,t∈W)->Holds w0 Mu M σ L w ->
   (∀σ' L' w',KN σ'=some z->Rel P W σ σ'->EnvS W L L'->Holds w0 Mu M σ' L' w'->A ds L' w') ->
   (∀i σ' L' w',KX i σ'=some z->Rel P W σ σ'->EnvS W L L'->Holds w0 Mu M σ' L' w'->X i ds L' w')->Reg P N (toArray all) .seq l ds L w A B X1 Z
 |[],σ,L,w,h,_,hH,hA,_=>Reg.nil (hA σ L w h (Rel.refl σ) (EnvS.refl _ _) hH)
 |o::r,σ,L,w,h,hW,hH,hA,hX=>by
  have hW1:∀u∈C2 [o],u∈W:=fun u hu=>hW u (by
   simp only[C2]at hu ⊢;cases hd:o.dst with
   |none=>rw[hd]at hu;cases hu
   |some d=>rw[hd]at hu;exact mem_cons.2 (.inl (mem_singleton.1 hu)))
  have hW2:∀u∈C2 r,u∈W:=fun u hu=>hW u (by
   simp only[C2];cases o.dst with
   |none=>exact hu
   |some d=>exact AaQ _ hu)
  have go:D3 G N all (AAu G N all t KN KX r) [o] σ=some z->Reg P N (toArray all) .seq (o::r) ds L w A B X1 Z:=fun h=>by
   have key:=U3 (P:=P) (ops:=all) (ds:=ds) (B:=B) (X:=X1) (Z:=Z) (W:=W) hG [o] σ L w h hW1 hH (A:=fun ds' L' w'=>Reg P N (toArray all) .seq r ds' L' w' A B X1 Z) fun σ' L' w' hK hR hE hH'=>by
    exact AJU hG ht htp htW hP r σ' L' w' hK hW2 hH' (fun σ2 L2 w2 h2 hR2 hE2 hH2=>hA σ2 L2 w2 h2 (hR.trans hR2) (hE.trans hE2) hH2) (fun i σ2 L2 w2 h2 hR2 hE2 hH2=>hX i σ2 L2 w2 h2 (hR.trans hR2) (hE.trans hE2) hH2)
   exact fun a ha=>Y3 (fun a w h=>by
    obtain⟨ds',L',hk,hr⟩:=h;exact hr a hk) [o] a w (key a ha)
  cases hmu:AHV G o with
  |some q=>
   obtain⟨c,args⟩:=q
   have h:(match AHV G o with
    |some (c,args)=>match ADH N o.op o.dst,evL (B5 σ.env) args with
     |true,some ss=>U1 ss fun ss'=>ALO G (ABe o.dst) (A1 σ.res) c (fun ac=>AAu G N all t KN KX r (apps o.dst ac σ)) ss'
     |_,_=>none
    |none=>match ADw G o with
     |some (c,args)=>match AC1 c.t,evL (B5 σ.env) args with
      |true,some ss=>U1 ss fun ss'=>match M5 G (A1 σ.res) c.ps ss' with
       |some a=>ALN (c.F a) (fun e=>KX (ADM c.T t) (apps (some t) [.put (F6 c.t e)] σ)) (D3 G N all (AAu G N all t KN KX r) [o] σ)
       |none=>none
      |_,_=>none
     |none=>D3 G N all (AAu G N all t KN KX r) [o] σ)=some z:=h
   rw[hmu]at h
   simp only at h
   cases hdb:ADH N o.op o.dst with
   |false=>rw[hdb]at h;exact(A2 h).elim
   |true=>
    cases he:evL (B5 σ.env) args with
    |none=>rw[hdb,he]at h;exact(A2 h).elim
    |some ss=>
     rw[hdb,he]at h
     obtain⟨ss',h1,h2⟩:=ABU (P:=P) (show U1 ss _=some z from h)
     obtain⟨hg,g,xs,ts,hop,hpf,rfl⟩:=ARW hmu
     obtain⟨S,ρ,γ,μ,ι,hS⟩:=hH
     have hN:(match o.dst with|some d=>blt d N|none=>true)=true:=by
      rw[hop]at hdb;cases hd:o.dst with
      |none=>rfl
      |some d=>rw[hd]at hdb;exact hdb
     obtain⟨od,oop,oty,opos,oaf,og⟩:=o
     have hop:oop=.call ⟨.value (.func g),xs,ts⟩:=hop
     have hg:og=none:=hg
     subst hop;subst hg
     obtain⟨ac,m7,key⟩:=ARY (d:=od) (N:=N) (ops:=toArray all) (ds:=ds) (B:=B) (X:=X1) (Z:=Z) (ty:=oty) (pos:=opos) (af:=oaf) (ts:=ts) (id:=ABe od) hS hG hN h2 he hpf h1
     refine fun a0 ha0=>Y3 (fun a1 w1 h3=>?_) [_] a0 w (key a0 ha0)
     obtain⟨ds',L',hk,rfl,hE,hH'⟩:=h3
     have hWd:∀t,od=some t->t∈W:=fun t ht=>hW t (by simp only[C2,ht];exact AaT ..)
     refine(AJU hG ht htp htW hP r _ L' w1 m7 hW2 hH' (fun σ2 L2 w2 g2 hR2 hE2 hH2=>hA σ2 L2 w2 g2 ((AAV od hWd _ _).trans hR2) (EnvS.trans (hE.mono fun u hu=>?_) hE2) hH2) (fun i σ2 L2 w2 g2 hR2 hE2 hH2=>hX i σ2 L2 w2 g2 ((AAV od hWd _ _).trans hR2) (EnvS.trans (hE.mono fun u hu=>?_) hE2) hH2)) a1 hk
     . cases od with
       |none=>cases hu
       |some d=>exact hWd u (by rw[mem_singleton.1 hu])
     . cases od with
       |none=>cases hu
       |some d=>exact hWd u (by rw[mem_singleton.1 hu])
  |none=>
  have h:(match AHV G o with
   |some (c,args)=>match ADH N o.op o.dst,evL (B5 σ.env) args with
    |true,some ss=>U1 ss fun ss'=>ALO G (ABe o.dst) (A1 σ.res) c (fun ac=>AAu G N all t KN KX r (apps o.dst ac σ)) ss'
    |_,_=>none
   |none=>match ADw G o with
    |some (c,args)=>match AC1 c.t,evL (B5 σ.env) args with
     |true,some ss=>U1 ss fun ss'=>match M5 G (A1 σ.res) c.ps ss' with
      |some a=>ALN (c.F a) (fun e=>KX (ADM c.T t) (apps (some t) [.put (F6 c.t e)] σ)) (D3 G N all (AAu G N all t KN KX r) [o] σ)
      |none=>none
     |_,_=>none
    |none=>D3 G N all (AAu G N all t KN KX r) [o] σ)=some z:=h
  rw[hmu]at h;have h:(match ADw G o with
   |some (c,args)=>match AC1 c.t,evL (B5 σ.env) args with
    |true,some ss=>U1 ss fun ss'=>match M5 G (A1 σ.res) c.ps ss' with
     |some a=>ALN (c.F a) (fun e=>KX (ADM c.T t) (apps (some t) [.put (F6 c.t e)] σ)) (D3 G N all (AAu G N all t KN KX r) [o] σ)
     |none=>none
    |_,_=>none
   |none=>D3 G N all (AAu G N all t KN KX r) [o] σ)=some z:=h
  cases ho:ADw G o with
  |none=>rw[ho]at h;exact go h
  |some q=>
   obtain⟨c,args⟩:=q
   rw[ho]at h
   simp only at h
   cases hp:AC1 c.t with
   |false=>rw[hp]at h;exact(A2 h).elim
   |true=>
    cases he:evL (B5 σ.env) args with
    |none=>rw[hp,he]at h;exact(A2 h).elim
    |some ss=>
     rw[hp,he]at h
     obtain⟨ss',h1,h2⟩:=ABU (P:=P) (show U1 ss _=some z from h)
     cases ha:M5 G (A1 σ.res) c.ps ss' with
     |none=>rw[ha]at h1;exact(A2 h1).elim
     |some a=>
      rw[ha]at h1
      simp only at h1
      unfold ALN at h1
      cases hz:D3 G N all (AAu G N all t KN KX r) [o] σ with
      |some z1=>rw[hz]at h1;exact go (hz.trans h1)
      |none=>
      rw[hz]at h1
      simp only at h1
      cases hF:c.F a with
      |none=>rw[hF]at h1;exact(A2 h1).elim
      |some e=>
       rw[hF]at h1
       simp only at h1
       obtain⟨hg,g,xs,ts,hop,hpf,rfl⟩:=AP6 ho
       obtain⟨S,ρ,γ,μ,ι,hS⟩:=hH
       obtain⟨vs,hv,hok⟩:=hS.evL he
       obtain⟨hc,hen⟩:=PfOk.at hG.pf hpf
       have hargs:=ADT hG hS.anch.2 (M':=M) (fun b hb=>mem_mm.2 (.inr hb)) c.ps _ (hS.lend _) ha (h2 _ _ _ _ _ hok)
       have hcall:=hc M w a _ e (fun b hb=>hS.hp.mlt b (mem_mm.2 (.inr hb))) (hS.anch.2.adv (Adv.drop fun b hb=>mem_mm.2 (.inr hb))) hargs hF
       intro a0 ha0
       simp only[wpList]
       rw[Aac (show Region.wanted o (yielded (toArray all) a0.tmps)=true by simp[Region.wanted,hg])]
       left
       have e1:(execOp a0.eval o).run P w=.ok (.enter g (toArray vs)) w:=by
        obtain⟨od,oop,oty,opos,oaf,og⟩:=o;have hop:oop=.call ⟨.value (.func g),xs,ts⟩:=hop;subst hop;obtain⟨xs⟩:=xs;have:=ABN ha0 xs vs hv;simp[execOp,resolve,Act.eval,Deferred.ofValue,invoke,hen,this]
       unfold Oper.wp
       rw[e1,Oper.upon_enter]
       refine hcall.mono ?_
       rintro en w2 ⟨v,rfl,hd,hx⟩
       refine⟨ds,L,ha0,hP.z c.T t L L w2 v htp (fun _ _=>rfl) ?_⟩
       have hS2:=(hS.ext hx).put (d:=t) (s:=F6 c.t e) (v:=v) (E4 c.t (AOh (M':=mm S M) hp hd))
       exact hX _ _ _ _ h1 (AAV (some t) (fun u hu=>by cases hu;exact htW) _ _) ((EnvS.put t L v).mono fun u hu=>by rw[mem_singleton.1 hu];exact htW) ⟨S,ρ,γ,μ,ι,hS2⟩
def ARZ[Fx](r:Option Nat)(n:Nat)(P:Program)[Se P](N:Nat)(pr:AS->Option Γ)(c:Code)(ds:List Deferred)(w0:World)(Mu M:List Nat)(W:List Nat)(run:{Y:Type}->(AS->Option Y)->(Nat->AS->Option Y)->(Γ->Option Y)->AS->Option Y):Prop:=
 ∀(Y:Type) (KN:AS->Option Y) (KX:Nat->AS->Option Y) (KR:Γ->Option Y) (σ:AS) (L:A8) (w:World) (z:Y) (A B:A5) (X:Nat->A5) (Z:List PanicEntry->A5) (X1:Nat->A5),run KN KX KR σ=some z->Holds w0 Mu M σ L w ->
  (∀σ' L' w',KN σ'=some z->Rel P W σ σ'->EnvS W L L'->Holds w0 Mu M σ' L' w'->A ds L' w') ->
  (∀i σ' L' w',KX i σ'=some z->Rel P W σ σ'->EnvS W L L'->Holds w0 Mu M σ' L' w'->X i ds L' w') ->
  (∀r σ' L' w',pr σ'=some r->KR r=some z->EnvS W L L'->Holds w0 Mu M σ' L' w'->B ds L' w')->PZ X X1 Z ds->CF r n P N c ds L w A B X1 Z
end
variable{r:Option Nat}{n:Nat}{N:Nat}{pr:AS->Option Γ}{ds:List Deferred}{w0:World}{Mu M:List Nat}
section
variable{W:List Nat}{ks:List Key}{q:AFB Γ ks}{Y:Type}{KN:AS->Option Y}{KX:Nat->AS->Option Y}{KR:Γ->Option Y}{σ:AS}{σ':AS}{L:A8}{L':A8}{w':World}{z:Y}{α:Type}{β:Type}{y:α⊕β}
theorem AVE[Fx][Sl (P:=P)]{A:A5}(hks:∀t∈O7 ks,t∈W)(hj:ABg (AUg σ') ks=some q)(hz:ADv W KN KX KR σ ks q=some z)(hR:Rel P W σ.start σ')(hE:EnvS W L L')(hH:Holds w0 Mu M σ' L' w')(hA:∀σ' L' w',KN σ'=some z->Rel P W σ σ'->EnvS W L L'->Holds w0 Mu M σ' L' w'->A ds L' w'):A ds L' w':=by
 obtain⟨k,hk,x,h1,h2⟩:=AFL (W:=W) (KN:=KN) (KX:=KX) (KR:=KR) (σ:=σ) hj;rw[h2]at hz;cases k with
 |norm sh=>
  obtain⟨S,ρ,γ,μ,ι,h⟩:=hH
  exact hA _ L' w' hz (ACu (fun t ht=>hks t (AG9 hk t ht)) fun _ h=>h) hE (AFc (U4 h hR h1))
 |exit _ _=>cases h1
 |ret=>cases h1
theorem AP7[Fx][Sl (P:=P)]{X:Nat->A5}{i:Nat}(hks:∀t∈O7 ks,t∈W)(hj:ABg (AOS i σ') ks=some q)(hz:ADv W KN KX KR σ ks q=some z)(hR:Rel P W σ.start σ')(hE:EnvS W L L')(hH:Holds w0 Mu M σ' L' w')(hX:∀i σ' L' w',KX i σ'=some z->Rel P W σ σ'->EnvS W L L'->Holds w0 Mu M σ' L' w'->X i ds L' w'):X i ds L' w':=by
 obtain⟨k,hk,x,h1,h2⟩:=AFL (W:=W) (KN:=KN) (KX:=KX) (KR:=KR) (σ:=σ) hj;rw[h2]at hz;cases k with
 |norm _=>cases h1
 |ret=>cases h1
 |exit j sh=>
  have h1:(match beq i j with
   |true=>I3 sh σ'
   |false=>none)=some x:=h1
  cases hb:beq i j with
  |false=>rw[hb]at h1;cases h1
  |true=>
   rw[hb]at h1
   have:=AaU hb
   subst this
   obtain⟨S,ρ,γ,μ,ι,h⟩:=hH
   exact hX i _ L' w' hz (ACu (fun t ht=>hks t (AHA hk t ht)) fun _ h=>h) hE (AFc (U4 h hR h1))
theorem AP8{r:Γ}(hj:ABg (AOT r) ks=some q)(hz:ADv W KN KX KR σ ks q=some z):KR r=some z:=by
 obtain⟨k,hk,x,h1,h2⟩:=AFL (W:=W) (KN:=KN) (KX:=KX) (KR:=KR) (σ:=σ) hj;rw[h2]at hz;cases k with
 |norm _=>cases h1
 |exit _ _=>cases h1
 |ret=>
  have h1:r=x:=AaO h1
  subst h1;exact hz
theorem AEl[Fx][Sl (P:=P)]{c:Code}{an:An}{run:An->{Y:Type}->(AS->Option Y)->(Nat->AS->Option Y)->(Γ->Option Y)->AS->Option Y}(hr:∀l,ARZ r n P N pr c ds w0 Mu M (D6 c++D5 l) (run l)):ARZ r n P N pr c ds w0 Mu M (D6 c++D5 an) (wrap c an run):=by
 intro Y KN KX KR σ L w z A B X Z X1 h hH hA hX hB hP;have key:∀l,an=l->run l KN KX KR σ=some z->CF r n P N c ds L w A B X1 Z:=fun l he h=>by
  subst he;exact hr an _ _ _ _ _ _ _ _ _ _ _ _ _ h hH hA hX hB hP
 cases an with
 |x=>exact key _ rfl h
 |nd a b=>exact key _ rfl h
 |lp hd ks l=>exact key _ rfl h
 |jn ks l=>
  obtain⟨q,h1,h2⟩:=bindS h
  have hW:∀t∈D6 c++D5 l,t∈D6 c++(O7 ks++D5 l):=fun t ht=>(mem_append.1 ht).elim (AaR _) fun h=>AaS _ (AaS _ h)
  have hks:∀t∈O7 ks,t∈D6 c++(O7 ks++D5 l):=fun t ht=>AaS _ (AaR _ ht)
  refine hr l _ _ _ _ _ _ _ _ _ _ _ _ _ h1 (AG8 hH) (fun σ' L' w' hj hR hE hH'=>?_) (fun i σ' L' w' hj hR hE hH'=>?_) (fun r σ' L' w' hp hj hE hH'=>?_) hP
  . exact AVE hks hj h2 (hR.mono hW) (hE.mono hW) hH' hA
  . exact AP7 hks hj h2 (hR.mono hW) (hE.mono hW) hH' hX
  . exact hB r σ' L' w' hp (AP8 hj h2) (hE.mono hW) hH'
theorem AL8(an:An):∀t∈D5 an.l,t∈D5 an:=fun t ht=>by
 cases an with
 |nd a b=>exact AaR _ ht
 |_=>cases ht
theorem AL9(an:An):∀t∈D5 an.r,t∈D5 an:=fun t ht=>by
 cases an with
 |nd a b=>exact AaS _ ht
 |_=>cases ht
theorem ARa{o:Option α}(h:AQ3 o=some y):∃x,o=some x/\y=.inl x:=by
 cases o with
 |none=>cases h
 |some x=>exact⟨x,rfl,(AaO h).symm⟩
theorem AMA{o:Option β}(h:ALM o=some y):∃x,o=some x/\y=.inr x:=by
 cases o with
 |none=>cases h
 |some x=>exact⟨x,rfl,(AaO h).symm⟩
theorem ACK:∀{l:List Oper},AAS l=true->l.all (fun o=>K5 o.op)=true
 |[],_=>rfl
 |o::l,h=>by
  have h:(APf o.op&&AAS l)=true:=h;simp only[Bool.and_eq_true]at h;simp only[List.all_cons,Bool.and_eq_true];refine⟨?_,ACK h.2⟩;cases ho:o.op<;>first|rfl|(rw[ho]at h;cases h.1)
theorem I9[Fx][Sl (P:=P)]{G:Gx}(hG:GxOk P G):∀(c:Code) (an:An),ARZ r n P N pr c ds w0 Mu M (D6 c++D5 an) (exec G N pr c an)
 |.skip,an=>fun _ _ _ _ _ _ _ _ _ _ _ _ _ h hH hA _ _ _=>ATZ (hA _ _ _ h (Rel.refl _) (EnvS.refl _ _) hH)
 |.region i ops dr,an=>by
  cases dr with
  |true=>
   refine AEl (run:=fun _ _ KN _ _ σ=>match AAS ops.toList with
    |true=>AOQ G N ops.toList KN σ
    |false=>none) fun l=>?_
   intro Y KN KX KR σ L w z A B X Z X1 h hH hA _ _ _
   obtain⟨ops⟩:=ops
   cases hd:AAS ops with
   |false=>simp only[hd]at h;exact(A2 h).elim
   |true=>
    simp only[hd]at h
    exact AP5 hG.mix (ACK hd) (ARQ hG h (fun t ht=>AaR _ ht) hH hA)
  |false=>
   refine AEl (run:=fun _ _ KN KX _ σ=>match AAS ops.toList with
    |true=>match AF4 ops.toList with
     |some (l,T,x,t)=>match lk G.bd T,blt t N&&blt t pnc with
      |some _,true=>D3 G N ops.toList (fun σ'=>match B5 σ'.env x with
       |some s=>KX (ADM T t) (apps (some t) [.put s] σ')
       |none=>none) l σ
      |_,_=>none
     |none=>match AGe G ops.toList,AOW ops.toList with
      |true,some t=>match blt t N&&blt t pnc with
       |true=>AAu G N ops.toList t KN KX ops.toList σ
       |false=>none
      |_,_=>D3 G N ops.toList KN ops.toList σ
    |false=>none) fun l=>?_
   intro Y KN KX KR σ L w z A B X Z X1 h hH hA hX _ hP
   obtain⟨ops⟩:=ops
   cases hd:AAS ops with
   |false=>simp only[hd]at h;exact(A2 h).elim
   |true=>
    simp only[hd]at h
    cases hp:AF4 ops with
    |none=>
     simp only[hp]at h
     have plain:D3 G N ops KN ops σ=some z->CF r n P N (.region i (toArray ops) false) ds L w A B X1 Z:=fun h=>AL4 (ACK hd) (U3 hG ops σ L w h (fun t ht=>AaR _ ht) hH hA)
     cases ht:AGe G ops with
     |false=>simp only[ht]at h;exact plain h
     |true=>
      cases hh:AOW ops with
      |none=>simp only[ht,hh]at h;exact plain h
      |some t=>
       simp only[ht,hh]at h
       cases hb:blt t N&&blt t pnc with
       |false=>simp only[hb]at h;exact(A2 h).elim
       |true=>
        simp only[hb]at h
        obtain⟨hb1,hb2⟩:=Bool.and_eq_true_iff.1 hb
        refine AL4 (ACK hd) (AJU hG hb1 hb2 (AaR _ ?_) hP ops σ L w h (fun t ht=>AaR _ ht) hH hA hX)
        show t∈C2 ops
        cases ops with
        |nil=>cases hh
        |cons o q=>
         have hh:o.dst=some t:=hh
         simp only[C2,hh];exact AaT ..
    |some q=>
     obtain⟨l0,T,x,t⟩:=q
     simp only[hp]at h
     cases hT:lk G.bd T with
     |none=>simp only[hT]at h;exact(A2 h).elim
     |some pl=>
      cases ht2:blt t N&&blt t pnc with
      |false=>simp only[hT,ht2]at h;exact(A2 h).elim
      |true=>
       simp only[hT,ht2]at h
       obtain⟨ht,htp⟩:=Bool.and_eq_true_iff.1 ht2
       obtain⟨m,p,ho,hq⟩:=AL7 hp
       obtain⟨h1,h2,h3,h4,h5⟩:=AL6 hq
       obtain⟨fields,hu,_⟩:=BdOk.at hG.bd hT
       have hw0:∀u,u∈C2 l0\/u=t->u∈D6 (.region i (toArray ops) false)++D5 l:=fun u hu=>AaR _ (by
        show u∈C2 ops;rw[ho];exact AD4 h2 hu)
       refine AL4 (ACK hd) ?_
       have key:=U3 (P:=P) (ops:=ops) (ds:=ds) (B:=B) (X:=X1) (Z:=Z) (W:=D6 (.region i (toArray ops) false)++D5 l) hG l0 σ L w h (fun u hu=>hw0 u (.inl hu)) hH (A:=fun ds' L' w'=>Reg P N (toArray ops) .seq [m,p] ds' L' w' A B X1 Z) fun σ' L' w' hK hR hE hH'=>by
        cases hx:B5 σ'.env x with
        |none=>rw[hx]at hK;exact(A2 hK).elim
        |some s=>
         rw[hx]at hK
         obtain⟨S,ρ,γ,μ,ι,hS⟩:=hH'
         obtain⟨v,hv,hok⟩:=hS.ev hx
         refine AVD hq hu ht hv (hP.z T t L' _ w' v htp (fun u hu=>by rw[look_cons,if_neg (fun e=>hu e.symm)]) ?_)
         refine hX _ _ _ _ hK (hR.trans (AAV (some t) (fun u hu=>hw0 u (.inr (AaO hu).symm)) _ _)) (hE.trans ((EnvS.put t L' v).mono fun u hu=>hw0 u (.inr (mem_singleton.1 hu)))) ⟨S,ρ,γ,μ,ι,hS.put hok⟩
       have hreg:Reg P N (toArray ops) .seq (l0++[m,p]) ds L w A B X1 Z:=fun a ha=>Y3 (fun a w h=>by
        obtain⟨ds',L',hk,hr⟩:=h;exact hr a hk) l0 a w (key a ha)
       have hreg:Reg P N (toArray ops) .seq ops ds L w A B X1 Z:=by rw[<-ho]at hreg;exact hreg
       exact hreg
 |.seq a b,an=>by
  refine AEl fun l=>?_;intro Y KN KX KR σ L w z A B X Z X1 h hH hA hX hB hP;have ha:∀t∈D6 a++D5 l.l,t∈D6 (.seq a b)++D5 l:=fun t ht=>(mem_append.1 ht).elim (fun h=>AaR _ (AaR _ h)) fun h=>AaS _ (AL8 l t h);have hb:∀t∈D6 b++D5 l.r,t∈D6 (.seq a b)++D5 l:=fun t ht=>(mem_append.1 ht).elim (fun h=>AaR _ (AaS _ h)) fun h=>AaS _ (AL9 l t h);refine AL5 (I9 hG a l.l _ _ _ _ _ _ _ _ _ _ _ _ _ h hH (fun σ1 L1 w1 h1 hR hE hH1=>?_) (fun i σ1 L1 w1 h1 hR hE hH1=>hX i σ1 L1 w1 h1 (hR.mono ha) (hE.mono ha) hH1) (fun r σ1 L1 w1 h1 h2 hE hH1=>hB r σ1 L1 w1 h1 h2 (hE.mono ha) hH1) hP);exact I9 hG b l.r _ _ _ _ _ _ _ _ _ _ _ _ _ h1 hH1 (fun σ2 L2 w2 h2 hR2 hE2 hH2=>hA σ2 L2 w2 h2 ((hR.mono ha).trans (hR2.mono hb)) ((hE.mono ha).trans (hE2.mono hb)) hH2) (fun i σ2 L2 w2 h2 hR2 hE2 hH2=>hX i σ2 L2 w2 h2 ((hR.mono ha).trans (hR2.mono hb)) ((hE.mono ha).trans (hE2.mono hb)) hH2) (fun r σ2 L2 w2 h1 h2 hE2 hH2=>hB r σ2 L2 w2 h1 h2 ((hE.mono ha).trans (hE2.mono hb)) hH2) hP
 |.cond c a b,an=>by
  refine AEl fun l=>?_;intro Y KN KX KR σ L w z A B X Z X1 h hH hA hX hB hP;have ha:∀t∈D6 a++D5 l.l,t∈D6 (.cond c a b)++D5 l:=fun t ht=>(mem_append.1 ht).elim (fun h=>AaR _ (AaR _ h)) fun h=>AaS _ (AL8 l t h);have hb:∀t∈D6 b++D5 l.r,t∈D6 (.cond c a b)++D5 l:=fun t ht=>(mem_append.1 ht).elim (fun h=>AaR _ (AaS _ h)) fun h=>AaS _ (AL9 l t h);have hH0:=hH;obtain⟨S,ρ,γ,μ,ι,hS⟩:=hH0;have h:(match B5 σ.env c with
   |some (.bool t)=>cond t (exec G N pr a l.l KN KX KR σ) (exec G N pr b l.r KN KX KR σ)
   |_=>none)=some z:=h
  cases hc:B5 σ.env c with
  |none=>rw[hc]at h;exact(A2 h).elim
  |some s=>
   rw[hc]at h
   cases s with
   |bool t=>
    refine ATb (hS.bool hc) (fun ht=>?_) fun ht=>?_
    . subst ht
      exact I9 hG a l.l _ _ _ _ _ _ _ _ _ _ _ _ _ h hH (fun σ' L' w' h1 hR hE hH1=>hA σ' L' w' h1 (hR.mono ha) (hE.mono ha) hH1) (fun i σ' L' w' h1 hR hE hH1=>hX i σ' L' w' h1 (hR.mono ha) (hE.mono ha) hH1) (fun r σ1 L1 w1 h1 h2 hE hH1=>hB r σ1 L1 w1 h1 h2 (hE.mono ha) hH1) hP
    . subst ht
      exact I9 hG b l.r _ _ _ _ _ _ _ _ _ _ _ _ _ h hH (fun σ' L' w' h1 hR hE hH1=>hA σ' L' w' h1 (hR.mono hb) (hE.mono hb) hH1) (fun i σ' L' w' h1 hR hE hH1=>hX i σ' L' w' h1 (hR.mono hb) (hE.mono hb) hH1) (fun r σ1 L1 w1 h1 h2 hE hH1=>hB r σ1 L1 w1 h1 h2 (hE.mono hb) hH1) hP
   |int _ _|ary _ _ _|str _ _|agg _|fv _ _ _|fn _ _|dead|tup _|rp _ _|ptr _ _|ep _ _ _ _ _|dat _ _|own _|nilS|raw _|it _ _|np _ _|ap _ _ _ _|undef=>exact(A2 h).elim
 |.block i a,an=>by
  refine AEl fun l=>?_;intro Y KN KX KR σ L w z A B X Z X1 h hH hA hX hB hP;cases hi:blt i pnc with
  |false=>simp only[hi]at h;exact(A2 h).elim
  |true=>
  simp only[hi]at h;refine ARU (I9 hG a l _ _ _ _ _ _ _ _ _ _ _ _ _ h hH hA (fun j σ' L' w' h1 hR hE hH1=>?_) hB (hP.block hi));have hq:(bif beq j i then KN σ' else KX j σ')=some z:=h1
  cases hb:beq j i with
  |true=>
   rw[hb,cond_true]at hq
   have:=AaU hb
   subst this
   exact J7 (hA σ' L' w' hq hR hE hH1)
  |false=>
   rw[hb,cond_false]at hq
   exact APK hb (hX j σ' L' w' hq hR hE hH1)
 |.loop c,an=>by
  intro Y KN KX KR σ L w z A B X Z X1 h hH hA hX hB hP;cases an with
  |x=>exact(A2 h).elim
  |nd _ _=>exact(A2 h).elim
  |jn _ _=>exact(A2 h).elim
  |lp hd ks l=>
   let W:=D6 c++(J4 hd.cs++O7 ks++D5 l)
   let body:O6 hd.cs->Option (O6 hd.cs⊕AFB Γ ks):=fun s=>exec G N pr c l (fun σ'=>AQ3 (I3 hd σ')) (fun j σ'=>ALM (ABg (AOS j σ') ks)) (fun r=>ALM (ABg (AOT r) ks)) (B8 W hd σ.start s)
   have h:(match I3 hd σ.start with
    |some s0=>(B7 body s0).bind (ADv W (fun _=>none) KX KR σ ks)
    |none=>none)=some z:=h
   have hin:∀t∈D6 c++D5 l,t∈W:=fun t ht=>(mem_append.1 ht).elim (AaR _) fun h=>AaS _ (AaS _ h)
   have hhd:∀t∈J4 hd.cs,t∈W:=fun t ht=>AaS _ (AaR _ (AaR _ ht))
   have hks:∀t∈O7 ks,t∈W:=fun t ht=>AaS _ (AaR _ (AaS _ ht))
   cases h0:I3 hd σ.start with
   |none=>rw[h0]at h;exact(A2 h).elim
   |some s0=>
    rw[h0]at h
    obtain⟨q,h1,h2⟩:=bindS h
    obtain⟨n,hn⟩:=loopM_some.1 h1
    have hst:Holds w0 Mu M (B8 W hd σ.start s0) L w:=by
     obtain⟨S,ρ,γ,μ,ι,hS⟩:=AG8 hH;exact U4 hS (Rel.refl _) h0
    refine ATc (ι:=A8×O6 hd.cs×Nat) (fun i=>i.1) (fun i w=>EnvS W L i.1/\Holds w0 Mu M (B8 W hd σ.start i.2.1) i.1 w/\M4 body i.2.2 i.2.1=some q) (fun i=>i.2.2) (L,s0,n) ⟨EnvS.refl _ _,hst,hn⟩ (Sub.refl L) ?_
    rintro⟨L1,s,m⟩ w1 ⟨hE1,hH1,hm⟩
    have hE1:EnvS W L L1:=hE1
    cases m with
    |zero=>cases hm
    |succ m=>
     have hm:M4 body (m+1) s=some q:=hm
     simp only[M4]at hm
     cases hb:body s with
     |none=>rw[hb]at hm;exact(A2 hm).elim
     |some y=>
      rw[hb]at hm
      have hrel:Rel P W σ.start (B8 W hd σ.start s):=ACu hhd fun _ h=>h
      refine I9 hG c l _ _ _ _ _ _ _ _ _ _ _ _ _ hb hH1 (fun σ' L' w' hk hR hE hH'=>?_) (fun i σ' L' w' hk hR hE hH'=>?_) (fun r σ' L' w' hp hk hE hH'=>?_) hP
      . obtain⟨s',h3,rfl⟩:=ARa hk
        refine⟨rfl,(L',s',m),⟨hE1.trans (hE.mono hin),?_,hm⟩,Sub.refl L',Abm m⟩
        obtain⟨S,ρ,γ,μ,ι,hS⟩:=hH'
        exact U4 hS (hrel.trans (hR.mono hin)) h3
      . obtain⟨q',h3,rfl⟩:=AMA hk
        have hm:q'=q:=AaO hm
        subst hm
        exact AP7 hks h3 h2 (hrel.trans (hR.mono hin)) (hE1.trans (hE.mono hin)) hH' hX
      . obtain⟨q',h3,rfl⟩:=AMA hk
        have hm:q'=q:=AaO hm
        subst hm
        exact hB r σ' L' w' hp (AP8 h3 h2) (hE1.trans (hE.mono hin)) hH'
 |.exit i,an=>by
  intro Y KN KX KR σ L w z A B X Z X1 h hH hA hX hB hP;have h:(match blt i pnc with
   |true=>KX i σ
   |false=>none)=some z:=h
  cases hi:blt i pnc with
  |false=>rw[hi]at h;exact(A2 h).elim
  |true=>
   rw[hi]at h
   exact ATa (hP.x i _ _ hi (hX i _ _ _ h (Rel.refl _) (EnvS.refl _ _) hH))
 |.ret,an=>by
  intro Y KN KX KR σ L w z A B X Z X1 h hH hA hX hB hP;have h:(match pr σ with
   |some r=>KR r
   |none=>none)=some z:=h
  cases hp:pr σ with
  |none=>rw[hp]at h;exact(A2 h).elim
  |some r=>rw[hp]at h;exact AVB (hB r σ L w hp h (EnvS.refl _ _) hH)
 |.rangeFunc _ _ _ _,an=>by intro Y KN KX KR σ L w z A B X Z X1 h;cases h
 |.scope a,an=>by
  intro Y KN KX KR σ L w z A B X Z X1 h hH hA hX hB hP;exact ART (I9 hG a an _ _ _ _ _ _ _ _ _ _ _ _ _ h hH hA hX hB hP)
 |.label _,an=>fun _ _ _ _ _ _ _ _ _ _ _ _ _ h hH hA _ _ _=>ARS (hA _ _ _ h (Rel.refl _) (EnvS.refl _ _) hH)
 |.goto _,an=>by intro Y KN KX KR σ L w z A B X Z X1 h;cases h
 |.refuse _,an=>by intro Y KN KX KR σ L w z A B X Z X1 h;cases h
end
end
end Go.Rx
namespace Go.Rx
open Go Go.Sx Go.RowKit
variable[Trk][Sg][Sf]{P:Program}[Se P]
class Sn(P:outParam Program)[Se P]:Prop where
 tn:∀n,Sf.nm n=true->TnE (Se.E (P:=P) n)
instance (k:IntKind) (n:Nat):TnE (AQt k n):=⟨fun _ h=>h⟩
theorem AId[Sn P]:∀(t:Ty),ABI t=true->TnE (enc (P:=P) t)
 |.int k,_=>inferInstanceAs (TnE (A9 k))
 |.bool,_=>inferInstanceAs (TnE boolE)
 |.sl t,h=>by
  have:=AId t h;exact inferInstanceAs (TnE (E6 (enc t)))
 |.st n,h=>Sn.tn n h
 |.arr k n,_=>⟨fun _ h=>h⟩
 |.fno _,_=>⟨fun _ h=>h⟩
 |.mp _ _ _,h=>by cases h
section
variable{ρ:Nat->Value}{R:Nat->Option AR}{M:List Nat}{w w':World}
theorem OkD.tn[Sn P]{t:Ty}{x:den t}{v:Value}(ht:ABI t=true)(h:Tn w w')(hd:OkD M w t x v):OkD M w' t x v:=by
 have:=AId (P:=P) t ht;exact Vl.tn h hd
end
section
variable{ρ:Nat->Value}{R:Nat->Option AR}{M:List Nat}{w:World}
theorem ADZ:∀(t:Ty) {x:den t},ok1 t x->(enc (P:=P) t).R M w (AOD t x) x
 |.int k,x,h=>⟨rfl,h⟩
 |.bool,x,_=>rfl
 |.arr k n,x,h=>⟨h.1,h.2.1,rfl,h.2.2⟩
 |.sl _,_,h=>h.elim
 |.st _,_,h=>h.elim
 |.mp _ _ _,_,h=>h.elim
 |.fno _,_,h=>h.elim
theorem AKC:∀(l:List Ty) {x:P6 l},okT l x->(AFy (P:=P) l).R M w (ALF l x) x
 |[],_,h=>h.elim
 |[t],x,h=>ADZ t h
 |t::u::l,x,h=>(prodE_R (E:=enc (P:=P) t) (F:=AFy (P:=P) (u::l))).2 ⟨_,_,rfl,ADZ t h.1,AKC (u::l) h.2⟩
theorem AEm[Sl (P:=P)]:∀(t:Ty) {x:den t},okI t x->OkD (P:=P) M w t x (M8 t x)
 |.int k,x,h=>⟨_,ADZ (P:=P) (.int k) h,.inr ⟨rfl,rfl⟩⟩
 |.bool,x,h=>⟨_,ADZ (P:=P) .bool h,.inr ⟨rfl,rfl⟩⟩
 |.arr k n,x,h=>⟨_,ADZ (P:=P) (.arr k n) h,.inl ⟨rfl,rfl⟩⟩
 |.st n,x,h=>⟨_,(Sl.is n M w _ x).2 (AKC (Sf.ft n) h),.inl ⟨rfl,rfl⟩⟩
 |.sl _,_,h=>h.elim
 |.mp _ _ _,_,h=>h.elim
 |.fno _,_,h=>h.elim
end
abbrev AXH(M0:List Nat)(w0:World):Anch:=⟨fun M w=>Adv M0 M w0 w,fun h k=>h.trans k⟩
abbrev AIe(D:Nat):Anch:=⟨fun M w=>D∉M/\w.heap[D]?=some (.deferred (some [])),fun {M M' w w'} h k=>by
 have hlt:D<w.heap.size:=G0 h.2;exact⟨fun hm=>(k.new D hm).elim h.1 fun h1=>by omega,(k.kp.block D hlt h.1).trans h.2⟩⟩
theorem HS.envTo[Anch]{w0 w:World}{Mu M:List Nat}{σ:AS}{L L2:A8}{S:List Res}{ρ:Nat->Value}{γ:Nat->List Value}{μ:Nat->List Nat}{ι:Nat->Nat}(h:HS (P:=P) w0 Mu M σ L2 w S ρ γ μ ι)(he:∀t s,A1 σ.env t=some s->Sx.A6 L2 t=Sx.A6 L t):HS (P:=P) w0 Mu M σ L w S ρ γ μ ι:=
 ⟨h.hp,h.res,h.inj,h.row,fun t s ht=>by
  obtain⟨v,h1,h2⟩:=h.env t s ht;exact⟨v,(he t s ht).symm.trans h1,h2⟩,h.anch⟩
end Go.Rx
namespace Go.Rx
open Go Go.Sx Go.RowKit
section
variable[Sg][Sf](G:Gx)
def AAv(σ:AS):ResultVar->Option SV
 |.tmp t=>A1 σ.env t
 |.cell t e=>match A1 σ.env t with
  |some v=>AGa G (A1 σ.res) e v
  |none=>none
def ADa(R:Nat->Option AR):(c:Ck)->SV->Option c.den
 |.d t,s=>C1 R t s
 |.own c,s=>AFA R c s
 |.undef,_=>none
 |.it _,_=>none
 |.np t,s=>match s with
  |.raw v=>match v with
   |.pointer a=>match a with
    |none=>some none
    |some _=>none
   |_=>none
  |.np t' x=>match x with
   |some y=>match I2 t' t y with
    |some y=>some (some y)
    |none=>none
   |none=>none
  |.rp v o=>match AAR R t (.rp v o) with
   |some x=>some (some x)
   |none=>none
  |.ptr i o=>match AAR R t (.ptr i o) with
   |some x=>some (some x)
   |none=>none
  |_=>none
def AFM(σ:AS):(cs:List Ck)->List ResultVar->Option (H9 cs)
 |[],rs=>match rs with
  |[]=>some ()
  |_=>none
 |[c],rs=>match rs with
  |[r]=>match AAv G σ r with
   |some s=>ADa (A1 σ.res) c s
   |none=>none
  |_=>none
 |c::d::l,rs=>match rs with
  |r::q=>match AAv G σ r with
   |some s=>match ADa (A1 σ.res) c s with
    |some x=>match AFM σ (d::l) q with
     |some y=>some (x,y)
     |none=>none
    |none=>none
   |none=>none
  |[]=>none
def R1(σ:AS):List Ck->List ResultVar->List Nat
 |.own _::l,r::q=>match AAv G σ r with
  |some (.own i)=>i::R1 σ l q
  |_=>R1 σ l q
 |_::l,_::q=>R1 σ l q
 |_,_=>[]
def AB2(σ:AS):List Ck->List ResultVar->List Nat
 |.d _::l,r::q=>match AAv G σ r with
  |some s=>B3 s++AB2 σ l q
  |none=>AB2 σ l q
 |_::l,_::q=>AB2 σ l q
 |_,_=>[]
def npK(cs:List Ck):List Nat->Bool
 |[]=>true
 |_=>cs.all fun c=>match c with
  |.np _=>false
  |_=>true
def S8(cs:List Ck)(rs:List ResultVar)(σ:AS):Option (H9 cs):=match okK (R1 G σ cs rs) (AB2 G σ cs rs)&&npK cs (R1 G σ cs rs) with
 |true=>AFM G σ cs rs
 |false=>none
def AKd:(b:Bool)->(t:Ty)->AFq b t->SV
 |false,t,x=>.rp (F6 t x) 0
 |true,t,x=>.rp (.np t x) 0
def AIf:(cs:List (Bool×Ty))->AA5 cs->List SV
 |[],_=>[]
 |(b,t)::cs,x=>AKd b t x.1::AIf cs x.2
def ACY:Nat->(ps:List Pt)->E9 ps->List (Nat×SV)
 |_,[],_=>[]
 |i,.d t::ps,x=>(i,F6 t x.1)::ACY (i+1) ps x.2
 |i,.pt t::ps,x=>(i,.rp (F6 t x.1) 0)::ACY (i+1) ps x.2
 |i,.fn a r::ps,x=>(i,.fv a r x.1)::ACY (i+1) ps x.2
 |i,.pp t::ps,x=>(i,AKd true t x.1)::ACY (i+1) ps x.2
 |i,.nl::ps,x=>(i,.nilS)::ACY (i+1) ps x.2
 |i,.cl g cs::ps,x=>(i,.rp (.fn g (AIf cs x.1)) 0)::ACY (i+1) ps x.2
def AVF(f:Func)(an:An)(ps:List Pt)(cs:List Ck)(a:E9 ps):Option (H9 cs):=match f.body with
 |some c=>exec G f.ntmps (S8 G cs f.results.toList) c an (S8 G cs f.results.toList) (fun _ _=>none) some ⟨ACY 0 ps a,[],[],[]⟩
 |none=>none
end
variable[Trk][Sg][Sf]{P:Program}[Se P]
section
variable[Anch]
variable{w0 w:World}{Mu M:List Nat}{σ:AS}{L:A8}{S:List Res}{ρ:Nat->Value}{γ:Nat->List Value}{μ:Nat->List Nat}{ι:Nat->Nat}{G:Gx}
section
variable{b:Nat}{o:Nat}{vs:List Value}{s:SV}{mv:List Nat}{c:Ck}{i:Nat}{q:List ResultVar}
theorem Cells.drop{w:World}(h:Cells w b o vs){o':Nat}{cs:List Value}(hc:∀j y,cs[j]?=some y->vs[o'+j]?=some y):Cells w b (o+o') cs:=fun j y hy=>by
 have:=h (o'+j) y (hc j y hy);rwa [<-AbU]at this
theorem ARb[Sl (P:=P)](h:HS w0 Mu M σ L w S ρ γ μ ι)(hG:GxOk P G){t e b o0 o:Nat}{v s:SV}{u:Value}(hx:Sx.A6 L t=some (.pointer (some ⟨b,o0+o,none⟩)))(hC:Cells w b o0 vs)(hu:u.cells=toArray vs)(hv:Ok ρ (A1 σ.res) (mm S M) w v u)(hc:U0 G e o v=some s):∃y,RsOk P L w (.cell t e) y/\Ok ρ (A1 σ.res) (mm S M) w s y:=by
 have hl:u.cells.toList=vs:=by rw[hu]
 rcases AFE hc hv with⟨ha,y,h1,h2⟩|⟨n,cs,ha,h1,h2,h3⟩
 . rw[hl]at h1;exact⟨y,.one hx (hC o y h1) (AgOk.at0 hG.ag ha),h2⟩
 . refine⟨_,.agg hx (Cells.drop hC fun j y hy=>?_) (AgOk.at1 hG.ag ha).1 h1 (AgOk.at1 hG.ag ha).2,h3⟩;have:=h2 j y hy;rwa [hl]at this
theorem ANP[Sl (P:=P)](h:HS w0 Mu M σ L w S ρ γ μ ι)(hG:GxOk P G){r:ResultVar}(hr:AAv G σ r=some s):∃v,RsOk P L w r v/\Ok ρ (A1 σ.res) (mm S M) w s v:=by
 cases r with
 |tmp t=>
  obtain⟨v,h1,h2⟩:=h.env t s hr
  exact⟨v,.tmp h1,h2⟩
 |cell t e=>
  have hr:(match A1 σ.env t with
   |some v=>AGa G (A1 σ.res) e v
   |none=>none)=some s:=hr
  cases hf:A1 σ.env t with
  |none=>rw[hf]at hr;exact(A2 hr).elim
  |some v=>
   rw[hf]at hr
   simp only at hr
   obtain⟨a,h1,h2⟩:=h.env t v hf
   cases v with
   |rp v o=>
    obtain⟨b,o0,u',vs,rfl,h3,h4,h5⟩:=h2
    exact ARb h hG h1 h3.cells h5 h4 hr
   |ptr i o=>
    have hr:(match A1 σ.res i with
     |some (.row _ l)=>U0 G e o (.agg l)
     |_=>none)=some s:=hr
    cases hi:A1 σ.res i with
    |none=>rw[hi]at hr;exact(A2 hr).elim
    |some a=>
     rw[hi]at hr
     cases a with
     |own _ _ _=>exact(A2 hr).elim
     |row e' l=>
      obtain⟨b,h3,rfl⟩:=h2
      obtain⟨b',h4,h5,h6,_⟩:=h.rowAt hi
      rw[h3]at h4;cases h4
      exact ARb (u:=.agg (toArray (γ i))) (v:=.agg l) (o0:=0) h hG (by rw[h1,Aao]) h5.rd.cells rfl ⟨_,rfl,h6⟩ hr
   |ep i u ix z o=>
    cases z with
    |none=>exact(A2 hr).elim
    |some z=>
     obtain⟨g,n,c,p,e',xs,h3,h4,h5,rfl,h6⟩:=h2
     have ho:=h.ownAt h4
     have hz:=(AAd (h6 z rfl)).2.2
     obtain⟨g',cap,cur,h7,h8,_⟩:=ho.at_ (by have:=h5.1;have:=h5.2;omega)
     rw[h3]at h7;cases h7
     obtain⟨cs,h9,h10⟩:=ho.cellsAt h8 hz
     obtain⟨y,h11,h12⟩:=J5 h9
     exact ARb h hG h1 h10 h12 (E4 u h11) hr
   |int _ _|bool _|ary _ _ _|str _ _|agg _|fv _ _ _|fn _ _|undef|dead|tup _|dat _ _|own _|nilS|raw _|it _ _|np _ _|ap _ _ _ _=>exact(A2 hr).elim
theorem Own.nilO(h:Hp w0 Mu M S w){c:Oc}{x:den c.ty}(hx:nilO c=some x):Hnd (.slice none 0 0) c/\(G1 (P:=P) [] (.slice none 0 0) c x).holds (Q9 c (.slice none 0 0)++M) w/\∀b∈Q9 c (.slice none 0 0),w0.heap.size<=b:=by
 refine⟨?_,ALQ (ALt h hx) 0 rfl⟩;cases c with
 |sl _ _=>trivial
 |mp _ _ _=>cases hx
theorem ANQ[Sl (P:=P)](h:HS w0 Mu M σ L w S ρ γ μ ι)(hmv:∀i∈mv,∃a,A1 σ.res i=some a){x:c.den}{v:Value}(hc:ADa (A1 σ.res) c s=some x)(hv:Ok ρ (A1 σ.res) (mm S M) w s v)(hd:∀t,c=.d t->∀i∈B3 s,i∉mv)(ho:∀e i,c=.own e->s=.own i->i∈mv)(hnp:∀t,c=.np t->mv=[]):(∀Mo,(∀b∈Mo,b∈mm (sel S (mv.map ι)) M)->CkOk M Mo w0 w c x v)/\∀e,c=.own e->∀b∈Q9 e v,b∈mm (sel S (mv.map ι)) M:=by
 cases c with
 |d t=>
  refine⟨fun Mo hMo=>?_,fun e hc=>by cases hc⟩
  refine H8 (fun b hb=>AES (hMo b hb)) t s (fun i hi p c0 xs ha=>?_) hc hv
  have hn:=hd t rfl i hi
  have hcn:(mv.map ι).contains (ι i)=false:=by
   cases hb:(mv.map ι).contains (ι i) with
   |false=>rfl
   |true=>
    simp only[List.contains_eq_mem,decide_eq_true_eq]at hb
    obtain⟨j,hj,he⟩:=mem_map.1 hb
    obtain⟨b,hb⟩:=hmv j hj
    have:=h.inj j i b _ hb ha he
    subst this
    exact absurd hj hn
  exact(AJH h.hp _ (ι i) hcn (h.row i _ ha) (h.res i _ ha)).adv (Adv.drop hMo)
 |own e=>
  rcases ABJ hc with⟨i,rfl,hi⟩|⟨rfl,hx⟩
  . have hr:=h.res i _ hi
    obtain⟨h1,h2,h3⟩:=hv
    subst h1
    have hm:=ho e i rfl rfl
    refine⟨fun Mo _=>⟨h.row i _ hi,ALQ h.hp (ι i) hr⟩,fun _ he b hb=>?_⟩
    cases he
    refine mem_mm.2 (.inl ⟨I4 (ρ i) (γ i) (μ i) (.own false e x),?_,AGh (P:=P) hb⟩)
    have hk:(sel S (mv.map ι))[pos mv i]?=S[ι i]?:=AJR (fun j hj=>by
     obtain⟨a,ha⟩:=hmv j hj;exact⟨_,h.res j a ha⟩) hm
    rw[hr]at hk
    exact AaP hk
  . have hv:v=.slice none 0 0:=hv
    subst hv
    refine⟨fun Mo _=>Own.nilO h.hp hx,fun _ he b hb=>?_⟩
    cases he
    exact(ANK (P:=P) (show nilO e=some (show den e.ty from x) from hx) (AGh (P:=P) hb)).elim
 |undef|it _=>exact(A2 hc).elim
 |np t=>
  refine⟨fun Mo hMo=>?_,fun e hc=>by cases hc⟩
  have hmv0:=hnp t rfl
  subst hmv0
  have hMo:∀b∈Mo,b∈M:=fun b hb=>hMo b hb
  have hM:∀b∈M,b∈mm S M:=fun b hb=>mem_mm.2 (.inr hb)
  have key:∀{s:SV} {x:Option (den t)},(match AAR (A1 σ.res) t s with
    |some x=>some (some x)
    |none=>none)=some x->Ok ρ (A1 σ.res) (mm S M) w s v->NpOk Mo w t x v:=fun {s x} hq hv=>by
   cases hp:AAR (A1 σ.res) t s with
   |none=>rw[hp]at hq;exact(A2 hq).elim
   |some y=>
    rw[hp]at hq
    cases hq
    obtain⟨b,o,vs,h1,h2,h3⟩:=AEd (M':=M) hM (h.lend (B3 s)) hp hv
    exact(NpOk.mon hMo (.inr ⟨y,b,o,vs,rfl,h1,h2,h3⟩))
  cases s with
  |raw u=>
   obtain⟨hv,_⟩:=hv
   subst hv
   cases v with
   |pointer a=>
    cases a with
    |none=>
     have hc:some none=some x:=hc
     cases hc
     exact .inl ⟨rfl,rfl⟩
    |some _=>exact(A2 hc).elim
   |_=>exact(A2 hc).elim
  |np t' q=>
   cases q with
   |none=>exact(A2 hc).elim
   |some y=>
    have hq:(match I2 t' t y with
     |some y=>some (some y)
     |none=>none)=some x:=hc
    exact key (s:=.np t' (some y)) hq hv
  |rp u o=>exact key (s:=.rp u o) hc hv
  |ptr i o=>exact key (s:=.ptr i o) hc hv
  |int _ _|bool _|ary _ _ _|str _ _|agg _|fv _ _ _|fn _ _|undef|dead|tup _|dat _ _|own _|nilS|ep _ _ _ _ _|it _ _|ap _ _ _ _=>exact(A2 hc).elim
theorem AMB{r:ResultVar}{e:Oc}(hr:AAv G σ r=some (.own i)){l:List Ck}:i∈R1 G σ (.own e::l) (r::q):=by
 simp only[R1,hr];exact AaT ..
theorem AP9{r:ResultVar}{l:List Ck}(h:i∈R1 G σ l q):i∈R1 G σ (c::l) (r::q):=by
 cases c with
 |d _=>exact h
 |undef|it _|np _=>exact h
 |own e=>
  simp only[R1]
  split
  . exact AaQ _ h
  . exact h
theorem AQA{r:ResultVar}{l:List Ck}(h:i∈AB2 G σ l q):i∈AB2 G σ (c::l) (r::q):=by
 cases c with
 |undef|it _|np _=>exact h
 |own _=>exact h
 |d t=>
  simp only[AB2]
  split
  . exact AaS _ h
  . exact h
theorem AHq:∀{cs:List Ck} {rs:List ResultVar} {x:H9 cs},AFM G σ cs rs=some x->∀i∈R1 G σ cs rs,∃a,A1 σ.res i=some a:=by
 have one:∀{i:Nat} {e:Oc} {x:den e.ty},AFA (A1 σ.res) e (.own i)=some x->∃a,A1 σ.res i=some a:=fun {i e x} h=>by
  rcases ABJ h with⟨j,he,hj⟩|⟨he,_⟩
  . cases he;exact⟨_,hj⟩
  . cases he
 intro cs;induction cs with
 |nil=>intro rs x _ i hi;cases rs<;>cases hi
 |cons c l ih=>
  intro rs x h i hi
  cases rs with
  |nil=>cases c<;>cases hi
  |cons r q=>
   have hd:∃s y,AAv G σ r=some s/\ADa (A1 σ.res) c s=some y:=by
    cases l with
    |nil=>
     cases q with
     |cons _ _=>exact(A2 h).elim
     |nil=>
      have h:(match AAv G σ r with
       |some s=>ADa (A1 σ.res) c s
       |none=>none)=some x:=h
      cases hs:AAv G σ r with
      |none=>rw[hs]at h;exact(A2 h).elim
      |some s=>rw[hs]at h;exact⟨s,x,rfl,h⟩
    |cons d l=>
     have h:(match AAv G σ r with
      |some s=>match ADa (A1 σ.res) c s with
       |some x=>match AFM G σ (d::l) q with
        |some y=>some (x,y)
        |none=>none
       |none=>none
      |none=>none)=some x:=h
     cases hs:AAv G σ r with
     |none=>rw[hs]at h;exact(A2 h).elim
     |some s=>
      rw[hs]at h
      simp only at h
      cases hy:ADa (A1 σ.res) c s with
      |none=>rw[hy]at h;exact(A2 h).elim
      |some y=>exact⟨s,y,rfl,hy⟩
   obtain⟨s,y,hs,hy⟩:=hd
   have ht:i∈R1 G σ l q->∃a,A1 σ.res i=some a:=fun hi=>by
    cases l with
    |nil=>cases q<;>cases hi
    |cons d l=>
     have h:(match AAv G σ r with
      |some s=>match ADa (A1 σ.res) c s with
       |some x=>match AFM G σ (d::l) q with
        |some y=>some (x,y)
        |none=>none
       |none=>none
      |none=>none)=some x:=h
     rw[hs]at h
     simp only[hy]at h
     cases hz:AFM G σ (d::l) q with
     |none=>rw[hz]at h;exact(A2 h).elim
     |some z=>exact ih hz i hi
   cases c with
   |d _=>exact ht hi
   |undef|it _|np _=>exact ht hi
   |own e=>
    simp only[R1,hs]at hi
    split at hi
    . rename_i j he
      cases he
      rcases mem_cons.1 hi with rfl|hi
      . exact one (show AFA (A1 σ.res) e (.own i)=some y from hy)
      . exact ht hi
    . exact ht hi
theorem AQB{l:List Ck}(h:npK (c::l) mv=true):∀t,c=.np t->mv=[]:=fun t hc=>by
 cases mv with
 |nil=>rfl
 |cons _ _=>
  subst hc
  simp[npK]at h
theorem AVG{l:List Ck}(h:npK (c::l) mv=true):npK l mv=true:=by
 cases mv with
 |nil=>rfl
 |cons _ _=>
  simp only[npK,List.all_cons,Bool.and_eq_true]at h ⊢
  exact h.2
theorem AGr[Sl (P:=P)](h:HS w0 Mu M σ L w S ρ γ μ ι)(hG:GxOk P G){mv:List Nat}(hmv:∀i∈mv,∃a,A1 σ.res i=some a):∀(cs:List Ck) (rs:List ResultVar) {x:H9 cs},(∀i∈R1 G σ cs rs,i∈mv)->(∀i∈AB2 G σ cs rs,i∉mv)->npK cs mv=true->AFM G σ cs rs=some x ->
  ∃vs,AllRs P L w rs vs/\vs.length=cs.length/\(∀Mo,(∀b∈Mo,b∈mm (sel S (mv.map ι)) M)->KsOk M Mo w0 w cs x vs)/\∀b∈obK cs vs,b∈mm (sel S (mv.map ι)) M
 |[],rs,x,_,_,_,hx=>by
  cases rs with
  |nil=>exact⟨[],.nil,rfl,fun _ _=>rfl,fun b hb=>by cases hb⟩
  |cons _ _=>exact(A2 hx).elim
 |[c],rs,x,h1,h2,hnk,hx=>by
  cases rs with
  |nil=>exact(A2 hx).elim
  |cons r q=>
   cases q with
   |cons _ _=>exact(A2 hx).elim
   |nil=>
    have hx:(match AAv G σ r with
     |some s=>ADa (A1 σ.res) c s
     |none=>none)=some x:=hx
    cases hs:AAv G σ r with
    |none=>rw[hs]at hx;exact(A2 hx).elim
    |some s=>
     rw[hs]at hx
     obtain⟨v,h3,h4⟩:=ANP h hG hs
     obtain⟨h5,h6⟩:=ANQ h hmv hx h4 (fun t hc i hi=>h2 i (by subst hc;simp only[AB2,hs];exact AaR _ hi)) (fun e i hc he=>h1 i (by subst hc;subst he;exact AMB hs)) (AQB hnk)
     refine⟨[v],.cons h3 .nil,rfl,fun Mo hMo=>⟨v,rfl,h5 Mo hMo⟩,fun b hb=>?_⟩
     cases c with
     |d _=>cases hb
     |undef|it _|np _=>cases hb
     |own e=>
      have hb:b∈Q9 e v++[]:=hb
      rw[Aan]at hb
      exact h6 e rfl b hb
 |c::d::l,rs,x,h1,h2,hnk,hx=>by
  cases rs with
  |nil=>exact(A2 hx).elim
  |cons r q=>
   have hx:(match AAv G σ r with
    |some s=>match ADa (A1 σ.res) c s with
     |some x=>match AFM G σ (d::l) q with
      |some y=>some (x,y)
      |none=>none
     |none=>none
    |none=>none)=some x:=hx
   cases hs:AAv G σ r with
   |none=>rw[hs]at hx;exact(A2 hx).elim
   |some s=>
    rw[hs]at hx
    simp only at hx
    cases hy:ADa (A1 σ.res) c s with
    |none=>rw[hy]at hx;exact(A2 hx).elim
    |some y=>
     rw[hy]at hx
     simp only at hx
     cases hz:AFM G σ (d::l) q with
     |none=>rw[hz]at hx;exact(A2 hx).elim
     |some z=>
      rw[hz]at hx
      have hx:(y,z)=x:=AaO hx
      subst hx
      obtain⟨v,h3,h4⟩:=ANP h hG hs
      obtain⟨h5,h6⟩:=ANQ h hmv hy h4 (fun t hc i hi=>h2 i (by subst hc;simp only[AB2,hs];exact AaR _ hi)) (fun e i hc he=>h1 i (by subst hc;subst he;exact AMB hs)) (AQB hnk)
      obtain⟨vs,h7,h8,h9,h10⟩:=AGr h hG hmv (d::l) q (fun i hi=>h1 i (AP9 hi)) (fun i hi=>h2 i (AQA hi)) (AVG hnk) hz
      refine⟨v::vs,.cons h3 h7,by simp[h8],fun Mo hMo=>⟨v,vs,rfl,h5 Mo hMo,h9 Mo hMo⟩,fun b hb=>?_⟩
      cases c with
      |d _=>exact h10 b hb
      |undef|it _|np _=>exact h10 b hb
      |own e=>
       rcases mem_append.1 (show b∈Q9 e v++obK (d::l) vs from hb) with hb|hb
       . exact h6 e rfl b hb
       . exact h10 b hb
end
end
theorem AMC{M:List Nat}{w:World}{ρ:Nat->Value}{R:Nat->Option AR}:∀(b:Bool) {t:Ty} {x:AFq b t} {v:Value},BOk (P:=P) M w b t x v->Ok ρ R M w (AKd b t x) v
 |false,u,x,v,⟨b,o,vs,h1,h4,h5⟩=>by
  obtain⟨y,h6,h7⟩:=J5 h5;exact⟨b,o,y,vs,h1,h4,E4 u h6,h7⟩
 |true,u,x,v,⟨b,o,y,h1,h4,h5⟩=>⟨b,o,y,[y],h1,h4,h5,by rw[(NpOk.one h5).1]⟩
theorem AKD{M:List Nat}{w:World}{ρ:Nat->Value}{R:Nat->Option AR}:∀(cs:List (Bool×Ty)) {x:AA5 cs} {vs:List Value},BsOk (P:=P) M w cs x vs->OkV ρ R M w (AIf cs x) vs
 |[],_,_,h=>h
 |(b,_)::cs,_,_,⟨v,r,h1,h2,h3⟩=>⟨v,r,h1,AMC b h2,AKD cs h3⟩
theorem AJV[Sl (P:=P)]{M:List Nat}{w:World}{ρ:Nat->Value}{R:Nat->Option AR}:∀(ps:List Pt) (i:Nat) {a:E9 ps} {vals:List Value},ArgsOk M w ps a vals->∀t s,A1 (ACY i ps a) t=some s->∃v,Sx.A6 (T7 i vals) t=some v/\Ok ρ R M w s v
 |[],_,_,_,_,t,s,h=>by cases h
 |p::ps,i,a,vals,⟨v,r,h1,h2,h3⟩,t,s,h=>by
  subst h1;have key:∀s0,Ok ρ R M w s0 v->A1 ((i,s0)::ACY (i+1) ps a.2) t=some s->∃v',Sx.A6 (T7 i (v::r)) t=some v'/\Ok ρ R M w s v':=fun s0 h0 h=>by
   rw[fnd_cons]at h;show ∃v',Sx.A6 ((i,v)::T7 (i+1) r) t=some v'/\_;rw[look_cons];split at h
   . rename_i e;rw[Aac e];cases h;exact⟨v,rfl,h0⟩
   . rename_i e;rw[if_neg e];exact AJV ps (i+1) h3 t s h
  cases p with
  |d u=>exact key _ (E4 u h2) h
  |pt u=>
   obtain⟨b,o,vs,rfl,h4,h5⟩:=h2
   obtain⟨y,h6,h7⟩:=J5 h5
   exact key (.rp (F6 u a.1) 0) ⟨b,o,y,vs,rfl,h4,E4 u h6,h7⟩ h
  |fn q r=>exact key (.fv q r a.1) h2 h
  |pp u=>exact key (AKd true u a.1) (AMC true h2) h
  |nl=>exact key .nilS h2 h
  |cl g cs=>
   obtain⟨b,o,caps,rfl,h4,h5⟩:=h2
   exact key (.rp (.fn g (AIf cs a.1)) 0) ⟨b,o,_,_,rfl,h4,⟨caps,rfl,AKD cs h5⟩,rfl⟩ h
theorem AFN:∀vs:List Value,ADo vs=ACW vs
 |[]=>rfl
 |[_]=>rfl
 |_::_::_=>rfl
theorem B0[Sl (P:=P)]{G:Gx}(hG:GxOk P G){k:Nat}{f:Func}{c:Code}{an:An}{ps:List Pt}{cs:List Ck}{F:E9 ps->Option (H9 cs)}(hf:P.funcs[k]?=some f)(hb:f.body=some c)(hl:Nat.ble ps.length f.ntmps=true)(hn:Nat.ble cs.length 4=true)(ho:Nat.ble (AEK cs) 1=true)(hF:∀a,F a=AVF G f an ps cs a):Ctr.ok P k ⟨ps,cs,F⟩:=by
 refine⟨Aat ho,fun M w a vals r hM hg ha hr=>?_⟩;have hr:F a=some r:=hr;rw[hF]at hr;unfold AVF at hr;rw[hb]at hr;have hlen:∀(ps:List Pt) {a:E9 ps} {vals:List Value},ArgsOk M w ps a vals->vals.length=ps.length:=by
  intro ps;induction ps with
  |nil=>intro a vals h;have h:vals=[]:=h;rw[h];rfl
  |cons p ps ih=>intro a vals h;obtain⟨v,r,rfl,_,h3⟩:=h;simp[ih h3]
 have h0:Holds w [] M ⟨ACY 0 ps a,[],[],[]⟩ (T7 0 vals) w:=by
  refine⟨[],fun _=>undef,fun _=>[],fun _=>[],fun _=>0,⟨Hp.start hM,(fun i a h=>by cases h),(fun i j a b h=>by cases h),(fun i a h=>by cases h),fun t s h=>?_,⟨trivial,hg⟩⟩⟩;exact AJV ps 0 ha t s h
 have fin:∀σ' L' w',S8 G cs f.results.toList σ'=some r->Holds w [] M σ' L' w'->ABs P f (fun e w'=>∃vs,e=.returned (ACW vs)/\KsOk M (obK cs vs++M) w w' cs r vs/\Ext w w') [] L' w':=fun σ' L' w' h1 hH=>by
  obtain⟨S,ρ,γ,μ,ι,hS⟩:=hH;unfold S8 at h1;cases hk:okK (R1 G σ' cs f.results.toList) (AB2 G σ' cs f.results.toList)&&npK cs (R1 G σ' cs f.results.toList) with
  |false=>rw[hk]at h1;exact(A2 h1).elim
  |true=>
   rw[hk]at h1
   simp only[Bool.and_eq_true]at hk
   obtain⟨vs,h2,h3,h4,h5⟩:=AGr hS hG (mv:=R1 G σ' cs f.results.toList) (AHq h1) cs f.results.toList (fun _ h=>h) (AAg hk.1) hk.2 h1
   refine H2 (by simp) h2 (by rw[h3];exact hn) ⟨vs,by rw[AFN],h4 _ (fun b hb=>?_),?_⟩
   . exact(mem_append.1 hb).elim (h5 b) fun h=>mem_mm.2 (.inr h)
   . exact hS.hp.kp
 refine B9 hf hb rfl (by rw[hlen ps ha];exact hl) ?_;refine AAh (n:=3) ?_;exact I9 hG c an _ _ _ _ _ _ _ _ _ _ _ _ _ hr h0 (fun σ' L' w' h1 _ _ hH=>fin σ' L' w' h1 hH) (fun i σ' L' w' h1=>by cases h1) (fun r' σ' L' w' hp hk _ hH=>by
  have hk:r'=r:=AaO hk;subst hk;exact fin σ' L' w' hp hH) PZ.no
end Go.Rx
namespace Go.Rx
open Go Go.Sx Go.RowKit
variable[Trk][Sg][Sf]{P:Program}[Se P]
theorem KI.trans{M:List Nat}{n:Nat}{a b c:World}(h:KI M n a b)(k:KI M n b c):KI M n a c:=
 ⟨k.1.trans h.1,k.2.1.trans h.2.1,k.2.2.1.trans h.2.2.1,Aad h.2.2.2.1 k.2.2.2.1,fun b hb hn=>(k.2.2.2.2 b hb hn).trans (h.2.2.2.2 b hb hn)⟩
theorem KI.putObj{M:List Nat}{n:Nat}{w:World}{l:Nat}{o:Obj}(h:n<=l):KI M n w (w.putObj l o):=
 ⟨rfl,rfl,rfl,by simp,fun b hb _=>World.putObj_heap_other (by omega)⟩
end Go.Rx
namespace Go.Rx
open Go Go.Sx Go.RowKit
section
variable[Sg][Sf](G:Gx)
def tnK:List Ck->Bool
 |[]=>true
 |.d t::l=>ABI t&&tnK l
 |.own (.sl _ t)::l=>ABI t&&tnK l
 |.np t::l=>ABI t&&tnK l
 |_=>false
end
variable[Trk][Sg][Sf]{P:Program}[Se P]
section
variable{L:A8}{w:World}{w':World}{v:Value}{M:List Nat}{Mo:List Nat}{w0:World}{c:Ck}
theorem RsOk.tn(ht:Tn w w'){r:ResultVar}(h:RsOk P L w r v):RsOk P L w' r v:=by
 cases h with
 |tmp h=>exact .tmp h
 |agg h hc he hn hz=>exact .agg h (ht.cells hc) he hn hz
 |one h hc he=>exact .one h (ht.cell hc) he
theorem AllRs.tn(ht:Tn w w'):∀{rs:List ResultVar} {vs:List Value},AllRs P L w rs vs->AllRs P L w' rs vs
 |_,_,.nil=>.nil
 |_,_,.cons h hr=>.cons (RsOk.tn ht h) (AllRs.tn ht hr)
theorem CkOk.tn[Sn P](ht:Tn w w')(hc:tnK [c]=true){x:c.den}(h:CkOk (P:=P) M Mo w0 w c x v):CkOk (P:=P) M Mo w0 w' c x v:=by
 cases c with
 |d t=>
  have hc:(ABI t&&tnK [])=true:=hc
  simp only[Bool.and_eq_true]at hc
  exact OkD.tn hc.1 ht h
 |own o=>
  cases o with
  |mp _ _ _=>cases hc
  |sl e t=>
   have hc:(ABI t&&tnK [])=true:=hc
   simp only[Bool.and_eq_true]at hc
   have:=AId (P:=P) t hc.1
   exact⟨h.1,Own.tn (E:=enc t) ht h.2.1,h.2.2⟩
 |undef=>cases hc
 |it _=>cases hc
 |np t=>
  have hc:(ABI t&&tnK [])=true:=hc
  simp only[Bool.and_eq_true]at hc
  have:=AId (P:=P) t hc.1
  rcases h with h|⟨y,b,o,vs,h1,h2,h3,h4⟩
  . exact .inl h
  . exact .inr ⟨y,b,o,vs,h1,h2,⟨h3.out,Aah h3.lt ht.1,ht.cells h3.cells⟩,TnE.tn ht h4⟩
theorem AMD{l:List Ck}(h:tnK (c::l)=true):tnK [c]=true/\tnK l=true:=by
 cases c with
 |d t=>
  have h:(ABI t&&tnK l)=true:=h
  simp only[Bool.and_eq_true]at h
  exact⟨by show(ABI t&&true)=true;rw[h.1];rfl,h.2⟩
 |own o=>
  cases o with
  |mp _ _ _=>cases h
  |sl e t=>
   have h:(ABI t&&tnK l)=true:=h
   simp only[Bool.and_eq_true]at h
   exact⟨by show(ABI t&&true)=true;rw[h.1];rfl,h.2⟩
 |undef=>cases h
 |it _=>cases h
 |np t=>
  have h:(ABI t&&tnK l)=true:=h
  simp only[Bool.and_eq_true]at h
  exact⟨by show(ABI t&&true)=true;rw[h.1];rfl,h.2⟩
theorem KsOk.tn[Sn P](ht:Tn w w'):∀(cs:List Ck) {x:H9 cs} {vs:List Value},tnK cs=true->KsOk (P:=P) M Mo w0 w cs x vs->KsOk (P:=P) M Mo w0 w' cs x vs
 |[],_,_,_,h=>h
 |[c],_,_,hc,⟨v,h1,h2⟩=>⟨v,h1,CkOk.tn ht hc h2⟩
 |c::d::l,_,_,hc,⟨v,r,h1,h2,h3⟩=>⟨v,r,h1,CkOk.tn ht (AMD hc).1 h2,KsOk.tn ht (d::l) (AMD hc).2 h3⟩
theorem ANR[Sl (P:=P)][Anch]{G:Gx}(hG:GxOk P G){w0 w:World}{M:List Nat}{σ:AS}{L:A8}{cs:List Ck}{rs:List ResultVar}{r:H9 cs}(hH:Holds (P:=P) w0 [] M σ L w)(h1:S8 G cs rs σ=some r):∃vs,AllRs P L w rs vs/\vs.length=cs.length/\KsOk (P:=P) M (obK cs vs++M) w0 w cs r vs/\Ext w0 w:=by
 obtain⟨S,ρ,γ,μ,ι,hS⟩:=hH;unfold S8 at h1;cases hk:okK (R1 G σ cs rs) (AB2 G σ cs rs)&&npK cs (R1 G σ cs rs) with
 |false=>rw[hk]at h1;exact(A2 h1).elim
 |true=>
  rw[hk]at h1
  simp only[Bool.and_eq_true]at hk
  obtain⟨vs,h2,h3,h4,h5⟩:=AGr hS hG (mv:=R1 G σ cs rs) (AHq h1) cs rs (fun _ h=>h) (AAg hk.1) hk.2 h1
  exact⟨vs,h2,h3,h4 _ (fun b hb=>(mem_append.1 hb).elim (h5 b) fun h=>mem_mm.2 (.inr h)),hS.hp.kp⟩
end
end Go.Rx
namespace Go.Rx
open Go Go.Sx Go.RowKit
section
variable[Sg][Sf](G:Gx)
structure MU where
 all:List Oper
 pre:List Oper
 t:Nat
 mt:TypeId
 x:Operand
 n:Nat
 c:Nat
 e:Nat
 j:Nat
 j2:Nat
 all2:List Oper
 ops2:List Oper
 rest:Code
def AIg:List Oper->Option (List Oper×Oper)
 |[]=>none
 |[o]=>some ([],o)
 |o::r=>match AIg r with
  |some (l,q)=>some (o::l,q)
  |none=>none
def rgO(l:List Oper):Option (List Oper×Nat×TypeId×Operand):=match AIg l with
 |some (pre,⟨some t,.range mt x,_,_,_,none⟩)=>some (pre,t,mt,x)
 |_=>none
def nxO:List Oper->Option (Nat×Nat×Nat)
 |[⟨some n,.next (.tmp t) false,_,_,_,none⟩,⟨some c,.extract (.tmp n') 0,_,_,_,none⟩]=>bif beq n' n then some (t,n,c) else none
 |_=>none
def enO:List Oper->Option (Nat×Nat×List Oper)
 |⟨some e,.entry (.tmp t),_,_,_,none⟩::r=>some (t,e,r)
 |_=>none
def ABM:Code->Code->Option MU
 |.region _ ops false,.block j (.loop (.seq (.region _ nops false) (.seq (.cond (.tmp c') .skip (.exit j')) (.block j2 (.seq (.region _ eops false) rest)))))=>
  match rgO ops.toList,nxO nops.toList,enO eops.toList with
  |some (pre,t,mt,x),some (t1,n,c),some (t2,e,ops2)=>bif beq t1 t&&beq t2 t&&beq c' c&&beq j' j&&AAS eops.toList then some ⟨ops.toList,pre,t,mt,x,n,c,e,j,j2,eops.toList,ops2,rest⟩ else none
  |_,_,_=>none
 |_,_=>none
def ACC:Code->Bool
 |.seq a b=>match ABM a b with
  |some _=>true
  |none=>ACC a||ACC b
 |_=>false
def F7(u:MU)(hd:Sh)(l:An):List Nat:=u.n::u.c::u.e::(J4 hd.cs++(C2 u.ops2++(D6 u.rest++D5 l)))
def AJW(N:Nat)(u:MU)(hd:Sh)(l:An):Bool:=blt u.t N&&blt u.n N&&blt u.c N&&blt u.e N&&blt u.j2 pnc&&!has (F7 u hd l) u.t&&!has (J4 hd.cs) u.n&&!has (J4 hd.cs) u.c
def ADc(N:Nat){ρ:Type}(pr:AS->Option ρ)(u:MU)(hd:Sh)(l:An)(W:List Nat)(σ:AS)(k v:Ty)(s:O6 hd.cs)(y:den k×den v):Option (O6 hd.cs):=
 D3 G N u.all2 (fun σ'=>exec G N pr u.rest l (fun σ''=>I3 hd σ'') (fun i σ''=>bif beq i u.j2 then I3 hd σ'' else none) (fun _=>none) σ') u.ops2 { B8 W hd σ s with env:=(u.e,.tup [F6 k y.1,F6 v y.2])::(B8 W hd σ s).env }
def mapM(N:Nat){ρ:Type}(pr:AS->Option ρ)(u:MU)(an:An){Z:Type}(KN:AS->Option Z)(σ:AS):Option Z:=match an with
 |.lp hd _ l=>D3 G N u.all (fun σ1=>match lk G.mp u.mt,B5 σ1.env u.x with
  |some (m,_,k,v),some sx=>match C1 (A1 σ1.res) (.mp m k v) sx,frz (A1 σ1.res) (B3 sx),AJW N u hd l with
   |some f,some fz,true=>match I3 hd (apps none fz σ1).start with
    |some s0=>W5 (show A4 (den k) (den v) from f) fun xs=>(List.foldlM (ADc G N pr u hd l (u.t::F7 u hd l) (apps none fz σ1).start k v) s0 xs).bind fun s=>KN (B8 (u.t::F7 u hd l) hd (apps none fz σ1).start s)
    |none=>none
   |_,_,_=>none
  |_,_=>none) u.pre σ
 |_=>none
def wrE:Code->An->List Nat
 |.seq a b,an=>match ABM a b with
  |some u=>match an with
   |.lp hd _ l=>C2 u.pre++(u.t::F7 u hd l)
   |_=>[]
  |none=>match ACC a with
   |true=>wrE a an.l++wrE b an.r
   |false=>(D6 a++D5 an.l)++wrE b an.r
 |c,an=>D6 c++D5 an
def V7(N:Nat){ρ:Type}(pr:AS->Option ρ):Code->An->{Z:Type}->(AS->Option Z)->(ρ->Option Z)->AS->Option Z
 |.seq a b,an,_,KN,KR,σ=>match ABM a b with
  |some u=>mapM G N pr u an KN σ
  |none=>match ACC a with
   |true=>V7 N pr a an.l (fun σ'=>V7 N pr b an.r KN KR σ') KR σ
   |false=>exec G N pr a an.l (fun σ'=>V7 N pr b an.r KN KR σ') (fun _ _=>none) KR σ
 |c,an,_,KN,KR,σ=>exec G N pr c an KN (fun _ _=>none) KR σ
end
end Go.Rx
namespace Go.Rx
open Go Go.Sx Go.RowKit Go.ChangeMaps
theorem AKE:∀{l pre:List Oper} {o:Oper},AIg l=some (pre,o)->l=pre++[o]
 |[],_,_,h=>by cases h
 |[q],_,_,h=>by cases h;rfl
 |q::r::l,pre,o,h=>by
  have h:(match AIg (r::l) with
   |some (l,q')=>some (q::l,q')
   |none=>none)=some (pre,o):=h
  cases hr:AIg (r::l) with
  |none=>rw[hr]at h;cases h
  |some p=>
   rw[hr]at h
   cases h
   rw[AKE hr];rfl
theorem ATe{l pre:List Oper}{t:Nat}{mt:TypeId}{x:Operand}(h:rgO l=some (pre,t,mt,x)):∃ty pos af,l=pre++[⟨some t,.range mt x,ty,pos,af,none⟩]:=by
 unfold rgO at h;split at h
 . rename_i h1;cases h
   exact⟨_,_,_,AKE h1⟩
 . cases h
theorem ATf{l:List Oper}{t n c:Nat}(h:nxO l=some (t,n,c)):∃ty pos af ty' pos' af',l=[⟨some n,.next (.tmp t) false,ty,pos,af,none⟩,⟨some c,.extract (.tmp n) 0,ty',pos',af',none⟩]:=by
 unfold nxO at h;split at h
 . rename_i n' t' ty pos af c' n2 ty' pos' af';cases hb:beq n2 n' with
   |false=>rw[hb,cond_false]at h;cases h
   |true=>
    rw[hb,cond_true]at h
    have:=AaU hb
    cases h
    subst this
    exact⟨_,_,_,_,_,_,rfl⟩
 . cases h
theorem ATg{l:List Oper}{t e:Nat}{r:List Oper}(h:enO l=some (t,e,r)):∃ty pos af,l=⟨some e,.entry (.tmp t),ty,pos,af,none⟩::r:=by
 unfold enO at h;split at h
 . cases h;exact⟨_,_,_,rfl⟩
 . cases h
theorem ARc{a b:Code}{u:MU}(h:ABM a b=some u):∃i i1 i2 rty rpos raf nty npos naf cty cpos caf ety epos eaf,a=.region i (toArray u.all) false /\
  b=.block u.j (.loop (.seq (.region i1 (toArray [⟨some u.n,.next (.tmp u.t) false,nty,npos,naf,none⟩,⟨some u.c,.extract (.tmp u.n) 0,cty,cpos,caf,none⟩]) false) (.seq (.cond (.tmp u.c) .skip (.exit u.j)) (.block u.j2 (.seq (.region i2 (toArray u.all2) false) u.rest))))) /\
  u.all=u.pre++[⟨some u.t,.range u.mt u.x,rty,rpos,raf,none⟩]/\u.all2=⟨some u.e,.entry (.tmp u.t),ety,epos,eaf,none⟩::u.ops2:=by
 unfold ABM at h
 split at h
 . rename_i i ops j i1 nops c' j' j2 i2 eops rest
   split at h
   . rename_i pre t mt x t1 n c t2 e ops2 h1 h2 h3
     cases hb:(beq t1 t&&beq t2 t&&beq c' c&&beq j' j&&AAS eops.toList) with
     |false=>rw[hb,cond_false]at h;cases h
     |true=>
      rw[hb,cond_true]at h
      simp only[Bool.and_eq_true]at hb
      obtain⟨⟨⟨⟨b1,b2⟩,b3⟩,b4⟩,b5⟩:=hb
      have e1:=AaU b1
      have e2:=AaU b2
      have e3:=AaU b3
      have e4:=AaU b4
      subst e1;subst e2;subst e3;subst e4
      cases h
      obtain⟨ty,pos,af,k1⟩:=ATe h1
      obtain⟨nty,npos,naf,cty,cpos,caf,k2⟩:=ATf h2
      obtain⟨ety,epos,eaf,k3⟩:=ATg h3
      obtain⟨ops⟩:=ops
      obtain⟨nops⟩:=nops
      obtain⟨eops⟩:=eops
      have k2:nops=_:=k2
      subst k2
      exact⟨_,_,_,_,_,_,_,_,_,_,_,_,_,_,_,rfl,rfl,k1,k3⟩
   . cases h
 . cases h
variable[Trk][Sg][Sf]{P:Program}[Se P]
@[reducible] def fx1(r:Nat)(o:Obj):Fx:=⟨fun b=>if b=r then some o else none⟩
section
variable{w0 w w':World}{Mu M:List Nat}{S:List Res}{R:Res}{r:Nat}{o:Obj}
theorem Z3(hf:R.fp=[r]){b:Nat}:b∈mm S (r::M)↔b∈mm (R::S) M:=by
 show _↔b∈R.fp++mm S M;rw[hf,mem_mm,Aaq,mem_mm,Aap,AcP];constructor
 . rintro (h|h|h)
   . exact .inr (.inl h)
   . exact .inl h
   . exact .inr (.inr h)
 . rintro (h|h|h)
   . exact .inr (.inl h)
   . exact .inl h
   . exact .inr (.inr h)
theorem AQC(h:Hp w0 Mu M (R::S) w)(hf:R.fp=[r])(ho:w.heap[r]?=some o):@Hp _ (fx1 r o) w0 Mu (r::M) S w:=by
 have hrR:r∈R.fp:=by rw[hf];exact mem_singleton.2 rfl
 obtain⟨h1,h2,h3,h4,h5,h6,h7,h8,_⟩:=h;refine @Hp.mk _ (fx1 r o) _ _ _ _ _ h1 (fun b hb=>h2 b ((Z3 hf).1 hb)) ⟨h3.kp.mono fun b hb=>.inl ?_,fun b hb=>(h3.new b ((Z3 hf).1 hb)).imp (fun hb=>?_) id⟩ (fun b hb=>?_) (fun R' hR' b hb hm=>?_) (fun R' hR'=>h6 R' (AaQ _ hR')) (fun i j a b hi hj hne=>h7 (i+1) (j+1) a b hi hj (by omega)) (fun R' hR'=>R'.adv (Adv.drop fun b hb=>(Z3 hf).1 hb) (fun _ _=>rfl) (h8 R' (AaQ _ hR'))) (fun b o' hb=>?_)
 . exact(mem_append.1 hb).elim (AaR _) fun h=>AaS _ (AaQ _ h)
 . exact(mem_append.1 hb).elim (AaR _) fun h=>AaS _ (AaQ _ h)
 . rcases mem_cons.1 hb with rfl|hb
   . exact .inr ⟨o,Aac rfl⟩
   . exact(h4 b hb).imp id fun⟨_,h⟩=>by cases h
 . rcases mem_cons.1 hm with rfl|hm
   . obtain⟨j,hj⟩:=Aar hR';exact h7 0 (j+1) R R' rfl hj (by omega) _ hrR hb
   . exact h5 R' (AaQ _ hR') b hb hm
 . have hb:(if b=r then some o else none)=some o':=hb
   split at hb
   . rename_i e;cases hb
     subst e;exact⟨AaT ..,ho⟩
   . cases hb
theorem AVK(h:@Hp _ (fx1 r o) w0 Mu (r::M) S w)(hf:R.fp=[r])(hmu:R.mu=[])(hr:w0.heap.size<=r)(hM:MLt M w0)(hh:∀M',R.holds M' w):Hp w0 Mu M (R::S) w:=by
 obtain⟨h1,h2,h3,h4,h5,h6,h7,h8,_⟩:=h;refine⟨h1,fun b hb=>h2 b ((Z3 hf).2 hb),⟨h3.kp.mono fun b hb=>?_,fun b hb=>?_⟩,fun b hb=>.inl (hM b hb),fun R' hR' b hb hm=>?_,fun R' hR'=>?_,fun i j a b hi hj hne c hc hc'=>?_,fun R' hR'=>?_,fun _ _ h=>by cases h⟩
 . rcases mem_append.1 hb with hb|hb
   . exact .inl (AaR _ hb)
   . rcases mem_cons.1 hb with rfl|hb
     . exact .inr hr
     . exact .inl (AaS _ hb)
 . rcases h3.new b ((Z3 hf).2 hb) with hb|hb
   . rcases mem_append.1 hb with hb|hb
     . exact .inl (AaR _ hb)
     . rcases mem_cons.1 hb with rfl|hb
       . exact .inr hr
       . exact .inl (AaS _ hb)
   . exact .inr hb
 . rcases mem_cons.1 hR' with rfl|hR'
   . rw[hf]at hb;have:=mem_singleton.1 hb;subst this;have:=hM _ hm;omega
   . exact h5 R' hR' b hb (AaQ _ hm)
 . rcases mem_cons.1 hR' with rfl|hR'
   . refine⟨(by rw[hmu];intro b hb;cases hb),fun b hb=>.inr ?_⟩;rw[hf]at hb;have:=mem_singleton.1 hb;subst this;exact hr
   . exact h6 R' hR'
 . have key:∀R'∈S,∀c∈R.fp,c∉R'.fp:=fun R' hR' c hc hc'=>by
    rw[hf]at hc;have:=mem_singleton.1 hc;subst this;exact h5 R' hR' _ hc' (AaT ..)
   cases i with
   |zero=>
    have hi:R=a:=by simpa using hi
    subst hi
    cases j with
    |zero=>exact hne rfl
    |succ j=>exact key b (AaP (i:=j) (by simpa using hj)) c hc hc'
   |succ i=>
    cases j with
    |zero=>
     have hj:R=b:=by simpa using hj
     subst hj
     exact key a (AaP (i:=i) (by simpa using hi)) c hc' hc
    |succ j=>exact h7 i j a b (by simpa using hi) (by simpa using hj) (by omega) c hc hc'
 . rcases mem_cons.1 hR' with rfl|hR'
   . exact hh _
   . exact R'.adv (Adv.drop fun b hb=>(Z3 hf).2 hb) (fun _ _=>rfl) (h8 R' hR')
end
theorem HS.conv{an:Anch}{fa fb:Fx}{w0 w w':World}{Mu M M':List Nat}{σ:AS}{L L':A8}{S S':List Res}{ρ:Nat->Value}{γ:Nat->List Value}{μ:Nat->List Nat}{ι ι':Nat->Nat}(h:@HS _ _ _ P _ an fa w0 Mu M σ L w S ρ γ μ ι)(hp:@Hp _ fb w0 Mu M' S' w')(hA:Adv (mm S M) (mm S' M') w w')(hr:∀i,S'[ι' i]?=S[ι i]?)(hi:∀i j,ι' i=ι' j->ι i=ι j)(hL:∀t s,A1 σ.env t=some s->Sx.A6 L' t=Sx.A6 L t):@HS _ _ _ P _ an fb w0 Mu M' σ L' w' S' ρ γ μ ι':=by
 obtain⟨_,h2,h3,h4,h5,h6⟩:=h;exact⟨hp,fun i a ha=>(hr i).trans (h2 i a ha),fun i j a b ha hb e=>h3 i j a b ha hb (hi i j e),fun i a ha=>(h4 i a ha).adv hA,fun t s ht=>by
  obtain⟨v,k1,k2⟩:=h5 t s ht;exact⟨v,(hL t s ht).trans k1,Ok.adv hA s k2⟩,h6.adv hA⟩
theorem HS.anchX[Fx](a b:Anch){w0 w:World}{Mu M:List Nat}{σ:AS}{L:A8}{S:List Res}{ρ:Nat->Value}{γ:Nat->List Value}{μ:Nat->List Nat}{ι:Nat->Nat}(h:@HS _ _ _ P _ a _ w0 Mu M σ L w S ρ γ μ ι)(hq:a.Q (mm S M) w->b.Q (mm S M) w):@HS _ _ _ P _ b _ w0 Mu M σ L w S ρ γ μ ι:=by
 obtain⟨h1,h2,h3,h4,h5,h6⟩:=h;exact⟨h1,h2,h3,h4,h5,hq h6.1,h6.2⟩
abbrev ASb(a:Anch){kt:TypeId}{κ α:Type}(K:Ky P kt κ)(E:Enc α)(ag:Bool)(b:Nat)(es:Array MapEntry)(c:Nat)(xs:List (κ×α)):Anch:=
 ⟨fun M w=>a.Q M w/\RdX K E ag M w b es c xs,fun h k=>⟨a.adv h.1 k,h.2.adv k⟩⟩
end Go.Rx
end
