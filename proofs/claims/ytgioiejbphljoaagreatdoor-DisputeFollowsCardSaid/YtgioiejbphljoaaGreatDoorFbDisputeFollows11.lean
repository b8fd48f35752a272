/-
  Part DisputeFollows 11 of the texts that the statement's proof stands on: what memory holds, how code is walked, what the functions reckon. In the order in which they build.
-/
import Derived.Test.YtgioiejbphljoaaGreatDoorFbDisputeFollows10
open List (mem_append mem_map mem_singleton)
set_option linter.unusedVariables false
set_option linter.unusedSectionVars false
set_option maxRecDepth 20000
set_option maxHeartbeats 1000000
noncomputable section
namespace Go.Proofs.YtgioiejbphljoaaGreatDoor
open Go Go.Sx Go.Rx
namespace S
theorem AXx{x:Int}(h:0<=x/\x<=255){Q:Int->Prop}(q:Q x):Ret (chk .u8 x) Q:=⟨x,AYf (ANu h),q⟩
def AJj{α:Type}(k1 k2:α->Int):List α->Int->Option Bool:=fun x130 x129=>(ixo x130 x129).bind fun y131=>(chk .i64 (x129-1)).bind fun n132=>(ixo x130 n132).bind fun y133=>cond (decide (k1 y131<k1 y133)) (some true) ((ixo x130 x129).bind fun y134=>(chk .i64 (x129-1)).bind fun n135=>(ixo x130 n135).bind fun y136=>cond (decide (k1 y134=k1 y136)) ((ixo x130 x129).bind fun y137=>(chk .i64 (x129-1)).bind fun n138=>(ixo x130 n138).bind fun y139=>some (decide (k2 y137<k2 y139))) (some false))
theorem ALX{α:Type}{k1 k2:α->Int}{y:α}(A B:List α)(a:α)(hA:A.length<=1000000):∃b,AJj k1 k2 (A++a::y::B) ((A.length:Int)+1)=some b/\(b=true↔lt2 k1 k2 y a):=by
 show Ret _ fun b:Bool=>b=true↔lt2 k1 k2 y a;unfold AJj lt2;refine Ret.bind (Ret.val ix_y (Ret.bind ?_));rw[show(A.length:Int)+1-1=(A.length:Int) by omega];refine Ret.chk (by omega) (Ret.bind (Ret.val ix_a (Ret.cond (fun H=>Ret.ok ⟨fun _=>.inl (AYZ H),fun _=>rfl⟩) fun H=>Ret.bind (Ret.val ix_y (Ret.bind (Ret.chk (by omega) (Ret.bind (Ret.val ix_a (Ret.cond (fun I=>Ret.bind (Ret.val ix_y (Ret.bind (Ret.chk (by omega) (Ret.bind (Ret.val ix_a (Ret.ok ?_))))))) fun I=>Ret.ok ⟨(fun h=>by cases h),fun h=>?_⟩)))))))))
 . have H:=AYb H;have I:=AYZ I;rw[decide_eq_true_iff];omega
 . have H:=AYb H;have I:=AYb I;omega
section
variable{d:Desk}(hv:Vd d)
include hv
variable{x:Dispute}{day:Int}
theorem ALY(hx:x∈d.disputes):Ret (V3 d x) fun z=>(z=-1/\dec d x=⟨x.day+d.terms.answer+1,5,zeroA⟩)\/∃(n:Nat) (h:n<d.answers.length),z=n/\dec d x=⟨d.answers[n].day,d.answers[n].says+1,d.answers[n]⟩:=by
 have A:=hv.a.len;obtain⟨_,_,f,T,x3,x4⟩:=hv.x.v x hx;have O:=(hv.r.v f (O2 T).1).2.2.2.2.2.1;have B:=hv.t.1;have nd:∀a∈d.answers.filter (fun a=>decide (a.dispute=x.id)),∀b∈d.answers.filter (fun a=>decide (a.dispute=x.id)),a.id=b.id->a=b:=fun a H b Y e=>AB4 hv.a.nd a b (List.mem_filter.1 H).1 (List.mem_filter.1 Y).1 e;unfold V3;refine Ret.bind (B3 d.answers.length (fun n (t:Int×Int)=>t.2=n/\((t.1=-1/\∀a∈d.answers.take n,a.dispute=x.id->Y6 x (x.day+d.terms.answer) a=false)\/∃(m:Nat) (h:m<d.answers.length),t.1=m/\d.answers[m].dispute=x.id/\Y6 x (x.day+d.terms.answer) d.answers[m]=true/\∀a∈d.answers.take n,a.dispute=x.id->Y6 x (x.day+d.terms.answer) a=true->Q9 a d.answers[m]=false)) ⟨rfl,.inl ⟨rfl,fun a H=>by simp at H⟩⟩ ?_ ?_)
 . rintro n I ⟨b,_⟩ ⟨rfl,D⟩;dsimp only at D;have fin:∀b':Int,((b'=-1/\∀a∈d.answers.take (n+1),a.dispute=x.id->Y6 x (x.day+d.terms.answer) a=false)\/∃(m:Nat) (h:m<d.answers.length),b'=m/\d.answers[m].dispute=x.id/\Y6 x (x.day+d.terms.answer) d.answers[m]=true/\∀a∈d.answers.take (n+1),a.dispute=x.id->Y6 x (x.day+d.terms.answer) a=true->Q9 a d.answers[m]=false)->Ret ((chk .i64 ((n:Int)+1)).bind fun n40=>some (Sum.inl (b',n40):(Int×Int)⊕Int)) (Nxt (fun t:Int×Int=>t.2=((n+1:Nat):Int)/\((t.1=-1/\∀a∈d.answers.take (n+1),a.dispute=x.id->Y6 x (x.day+d.terms.answer) a=false)\/∃(m:Nat) (h:m<d.answers.length),t.1=m/\d.answers[m].dispute=x.id/\Y6 x (x.day+d.terms.answer) d.answers[m]=true/\∀a∈d.answers.take (n+1),a.dispute=x.id->Y6 x (x.day+d.terms.answer) a=true->Q9 a d.answers[m]=false)) fun a=>Ret (some a) fun z=>(z=-1/\dec d x=⟨x.day+d.terms.answer+1,5,zeroA⟩)\/∃(n:Nat) (h:n<d.answers.length),z=n/\dec d x=⟨d.answers[n].day,d.answers[n].says+1,d.answers[n]⟩):=fun b' h=>Ret.bind (Ret.chk (by omega) (Ret.next ⟨by dsimp only;omega,h⟩));have skip:¬(d.answers[n].dispute=x.id/\Y6 x (x.day+d.terms.answer) d.answers[n]=true)->((b=-1/\∀a∈d.answers.take (n+1),a.dispute=x.id->Y6 x (x.day+d.terms.answer) a=false)\/∃(m:Nat) (h:m<d.answers.length),b=m/\d.answers[m].dispute=x.id/\Y6 x (x.day+d.terms.answer) d.answers[m]=true/\∀a∈d.answers.take (n+1),a.dispute=x.id->Y6 x (x.day+d.terms.answer) a=true->Q9 a d.answers[m]=false):=fun K=>by
    rcases D with⟨rfl,J⟩|⟨m,hm,rfl,J,E,V⟩
    . refine .inl ⟨rfl,fun a H C=>?_⟩;rw[B6 I]at H;rcases H with H|rfl
      . exact J a H C
      . cases W:Y6 x (x.day+d.terms.answer) d.answers[n] with
        |false=>rfl
        |true=>exact absurd ⟨C,W⟩ K
    . refine .inr ⟨m,hm,rfl,J,E,fun a H C W=>?_⟩;rw[B6 I]at H;rcases H with H|rfl
      . exact V a H C W
      . exact absurd ⟨C,W⟩ K
   refine Ret.condT (K5 I) (Ret.bind (Ret.bind (C0 I (Ret.bind (Ret.mono (Q:=fun c:Bool=>c=false↔(d.answers[n].dispute=x.id/\Y6 x (x.day+d.terms.answer) d.answers[n]=true)) ?_ fun c U=>?_)))))
   . refine Ret.cond (fun c1=>Ret.ok ⟨(fun h=>by cases h),fun h=>?_⟩) fun c1=>Ret.bind (Ret.chk (by omega) ?_)
     . have c1:¬d.answers[n].dispute=x.id:=by simpa using c1
       exact absurd h.1 c1
     . have c1:d.answers[n].dispute=x.id:=by simpa using c1
       rw[within5,bindS];refine Ret.ok ?_;unfold Y6;cases inB x.day (x.day+d.terms.answer) d.answers[n].day with
       |true=>exact⟨fun _=>⟨c1,rfl⟩,fun _=>rfl⟩
       |false=>exact⟨(fun h=>by cases h),fun h=>by cases h.2⟩
   . cases c with
     |true=>
      exact Ret.condT rfl (Ret.ok (fin b (skip fun h=>by have:=U.2 h;cases this)))
     |false=>
      obtain⟨g1,g2⟩:=U.1 rfl
      refine Ret.condF rfl (Ret.bind (Ret.mono (Q:=fun c:Bool=>(c=true/\(b=-1\/∃(m:Nat) (h:m<d.answers.length),b=m/\Q9 d.answers[n] d.answers[m]=true))\/(c=false/\∃(m:Nat) (h:m<d.answers.length),b=m/\Q9 d.answers[n] d.answers[m]=false)) ?_ fun c U=>?_))
      . rcases D with⟨rfl,J⟩|⟨m,hm,rfl,J,E,V⟩
        . exact Ret.condT (by decide) (Ret.ok (.inl ⟨rfl,.inl rfl⟩))
        . refine Ret.condF (AYY (by omega)) (Ret.bind (C0 hm ?_))
          have key:∀c:Bool,(c=true↔Q9 d.answers[n] d.answers[m]=true)->((c=true/\(((m:Nat):Int)=-1\/∃(m':Nat) (h:m'<d.answers.length),((m:Nat):Int)=m'/\Q9 d.answers[n] d.answers[m']=true))\/(c=false/\∃(m':Nat) (h:m'<d.answers.length),((m:Nat):Int)=m'/\Q9 d.answers[n] d.answers[m']=false)):=fun c U=>by
           cases c with
           |true=>exact .inl ⟨rfl,.inr ⟨m,hm,rfl,U.1 rfl⟩⟩
           |false=>
            refine .inr ⟨rfl,m,hm,rfl,?_⟩
            cases h:Q9 d.answers[n] d.answers[m] with
            |false=>rfl
            |true=>have:=U.2 h;cases this
          have H:Q9 d.answers[n] d.answers[m]=true↔(d.answers[n].day<d.answers[m].day\/d.answers[n].day=d.answers[m].day/\d.answers[n].id<d.answers[m].id):=by unfold Q9;exact decide_eq_true_iff
          refine Ret.cond (fun c1=>Ret.ok (key _ ⟨fun _=>H.2 (.inl (AYZ c1)),fun _=>rfl⟩)) fun c1=>Ret.bind (C0 hm (Ret.cond (fun c2=>Ret.bind (C0 hm (Ret.ok (key _ ?_)))) fun c2=>Ret.ok (key _ ⟨(fun h=>by cases h),fun h=>?_⟩)))
          . have c1:=AYb c1
            have c2:=AYZ c2
            rw[decide_eq_true_iff,H]
            constructor
            . intro h;exact .inr ⟨c2,h⟩
            . intro h;omega
          . have c1:=AYb c1
            have c2:=AYb c2
            have:=H.1 h
            omega
      . rcases U with⟨rfl,U⟩|⟨rfl,m,hm,rfl,U⟩
        . refine Ret.bind (Ret.condT rfl (Ret.ok (Ret.ok (fin n (.inr ⟨n,I,rfl,g1,g2,fun a H C W=>?_⟩)))))
          have irr:Q9 d.answers[n] d.answers[n]=false:=by unfold Q9;exact AYY (by omega)
          rw[B6 I]at H
          rcases H with H|rfl
          . rcases D with⟨rfl,J⟩|⟨m,hm,rfl,J,E,V⟩
            . rw[J a H C]at W;cases W
            . rcases U with U|⟨m',F,e,U⟩
              . omega
              . have:m'=m:=by omega
                subst this
                have V:=V a H C W
                cases h:Q9 a d.answers[n] with
                |false=>rfl
                |true=>rw[AO5 h U]at V;cases V
          . exact irr
        . refine Ret.bind (Ret.condF rfl (Ret.ok (Ret.ok (fin m (.inr ?_)))))
          rcases D with⟨X,J⟩|⟨m',F,e,J,E,V⟩
          . omega
          . have:m'=m:=by omega
            subst this
            refine⟨m',F,rfl,J,E,fun a H C W=>?_⟩
            rw[B6 I]at H
            rcases H with H|rfl
            . exact V a H C W
            . exact U
 . rintro⟨b,_⟩ ⟨rfl,D⟩;dsimp only at D;rw[AYo]at D;refine Ret.condF (K6 (AYh _)) (Ret.done (Ret.ok ?_));rcases D with⟨rfl,J⟩|⟨m,hm,rfl,J,E,V⟩
   . refine .inl ⟨rfl,?_⟩;refine(ALW (v':=⟨x.day+d.terms.answer+1,5,zeroA⟩) (AEE hv x) ⟨fun _=>⟨rfl,fun a H=>?_⟩,fun h=>absurd rfl h⟩ (fun a H=>H) (fun a H _ _=>H) nd).symm;obtain⟨E,V⟩:=List.mem_filter.1 H;exact J a E (AYZ V)
   . refine .inr ⟨m,hm,rfl,?_⟩;have G:=(hv.a.v _ (AYg hm)).2.2.1;refine(ALW (v':=⟨d.answers[m].day,d.answers[m].says+1,d.answers[m]⟩) (AEE hv x) ⟨fun h=>?_,fun _=>⟨rfl,List.mem_filter.2 ⟨AYg hm,AYc J⟩,E,fun a H W=>?_⟩⟩ (fun a H=>H) (fun a H _ _=>H) nd).symm
     . have h:d.answers[m].says+1=5:=h;omega
     . obtain⟨g1,g2⟩:=List.mem_filter.1 H;exact V a g1 (AYZ g2) W
theorem AFe(hx:x∈d.disputes):K9 d x=some ((dec d x).day,(dec d x).is_):=by
 obtain⟨_,_,f,V,x3,x4⟩:=hv.x.v x hx;have U:=(hv.r.v f (O2 V).1).2.2.2.2.2.1;have W:=hv.t.1;refine Ret.eq ?_;unfold K9;refine D0 (ALY hv hx) fun z J=>?_;rcases J with⟨rfl,I⟩|⟨n,H,rfl,I⟩
 . rw[I];exact Ret.condT (by decide) (Ret.bind (Ret.chk (by omega) (Ret.bind (Ret.chk (by omega) (Ret.ok rfl)))))
 . rw[I];have C:=(hv.a.v _ (AYg H)).2.2.1;exact Ret.condF (AYY (by omega)) (Ret.bind (C0 H (Ret.bind (C0 H (Ret.bind (AXx (by omega) (Ret.ok rfl)))))))
theorem APH(hx:x∈d.disputes):Ret (Z9 d x) fun z=>(z.2=false/\(dec d x).is_=2)\/((dec d x).is_≠2/\z=(Z3 d x (dec d x),true)):=by
 have V:=hv.r.len;obtain⟨_,_,f,I,x3,x4⟩:=hv.x.v x hx;unfold Z9;rw[AFe hv hx,bindS];dsimp only;refine Ret.cond (fun c=>Ret.ok (.inl ⟨rfl,AYZ c⟩)) fun c=>?_;have c:=AYb c;refine Ret.bind (AEC (by omega) (fun h=>by rw[I]at h;cases h) fun m hm h=>Ret.bind (C0 hm ?_));rw[I]at h;have h:=AYS h;rw[<-h];refine Ret.bind (Ret.mono (Q:=fun t:Int×Int×Int=>(dec d x).is_=3/\t=((dec d x).by_.about,8,(dec d x).by_.cents)\/(dec d x).is_≠3/\t=(0,9,0)) ?_ fun t U=>Ret.ok (.inr ⟨c,?_⟩))
 . refine Ret.cond (fun c2=>D0 (ALY hv hx) fun z J=>?_) fun c2=>Ret.ok (.inr ⟨AYb c2,rfl⟩);have c2:=AYZ c2;rcases J with⟨rfl,H⟩|⟨n,W,rfl,H⟩
   . rw[H]at c2;exact absurd c2 (show ¬(5:Int)=3 by decide)
   . refine Ret.bind (C0 W (Ret.ok (.inl ⟨c2,?_⟩)));rw[H]
 . unfold Z3;rw[I];rcases U with⟨H,rfl⟩|⟨H,rfl⟩
   . rw[AYf H];rfl
   . rw[if_neg H];rfl
theorem wh3:3<=wh d x day↔((dec d x).day<=day/\(dec d x).is_≠2):=by
 have hk:=ALC hv x;unfold wh;split
 . omega
 . split<;>omega
theorem AJM:Ret (V4 d day) fun l=>∃m:List Report,m.Perm (ABn d day)/\m.Pairwise (N8 (·.made) (·.id))/\l=d.reports++m:=by
 have E:=hv.r.len;have D:=hv.x.len;unfold V4;rw[AAR (by simp only[List.length_nil];omega) (by simp only[List.length_nil];omega),bindS,AYq];refine Ret.bind (B3 d.disputes.length (fun n (t:List Report×Int)=>t.2=n/\∃m:List Report,t.1=d.reports++m/\m.Perm (((d.disputes.take n).filter fun x=>decide (3<=wh d x day)).map fun x=>Z3 d x (dec d x))/\m.Pairwise (N8 (·.made) (·.id))) ⟨rfl,[],by simp,by simp,List.Pairwise.nil⟩ ?_ ?_)
 . rintro n I ⟨_,_⟩ ⟨rfl,m,rfl,U,W⟩;have hx:d.disputes[n]∈d.disputes:=AYg I;have F:m.length<=n:=by
    rw[U.length_eq,AY1];exact AYk (AZZ _ _) (List.length_take_le ..)
   have hstep:∀b,decide (3<=wh d d.disputes[n] day)=b->((d.disputes.take (n+1)).filter fun x=>decide (3<=wh d x day))=((d.disputes.take n).filter fun x=>decide (3<=wh d x day))++(if b then [d.disputes[n]] else []):=fun b V=>by
    rw[T3 I,AZ6];congr 1;cases b with
    |true=>simp[of_decide_eq_true V]
    |false=>have:=AYb V;simp[this]
   have fin:∀m':List Report,m'.Perm (((d.disputes.take (n+1)).filter fun x=>decide (3<=wh d x day)).map fun x=>Z3 d x (dec d x))->m'.Pairwise (N8 (·.made) (·.id))->Ret ((chk .i64 ((n:Int)+1)).bind fun n152=>some (Sum.inl (d.reports++m',n152):(List Report×Int)⊕List Report)) (Nxt (fun t:List Report×Int=>t.2=((n+1:Nat):Int)/\∃m:List Report,t.1=d.reports++m/\m.Perm (((d.disputes.take (n+1)).filter fun x=>decide (3<=wh d x day)).map fun x=>Z3 d x (dec d x))/\m.Pairwise (N8 (·.made) (·.id))) fun a=>Ret (some a) fun l=>∃m:List Report,m.Perm (ABn d day)/\m.Pairwise (N8 (·.made) (·.id))/\l=d.reports++m):=fun m' H J=>Ret.bind (Ret.chk (by omega) (Ret.next ⟨by dsimp only;omega,m',rfl,H,J⟩));refine Ret.condT (K5 I) (Ret.bind (Ret.bind (C0 I (D0 (APH hv hx) fun z C=>?_))));obtain⟨r,b⟩:=z;refine Ret.bind (Ret.mono (Q:=fun c:Bool=>c=(!decide (3<=wh d d.disputes[n] day))/\(c=false->r=Z3 d d.disputes[n] (dec d d.disputes[n]))) ?_ fun c K=>?_)
   . rcases C with⟨H,J⟩|⟨H,J⟩
     . have H:b=false:=H;subst H;refine Ret.condT rfl (Ret.ok ⟨?_,fun h=>by cases h⟩);rw[AYY fun h=>((wh3 hv).1 h).2 J];rfl
     . obtain⟨rfl,rfl⟩:=AZU J;refine Ret.condF rfl (Ret.ok ⟨?_,fun _=>rfl⟩);rw[AQd];by_cases c:day<(dec d d.disputes[n]).day
       . rw[AYc c,AYY fun h=>by have:=((wh3 hv).1 h).1;omega];rfl
       . rw[AYY c,AYc ((wh3 hv).2 ⟨by omega,H⟩)];rfl
   . obtain⟨H,J⟩:=K;cases c with
     |true=>
      have V:decide (3<=wh d d.disputes[n] day)=false:=by
       cases h:decide (3<=wh d d.disputes[n] day) with
       |false=>rfl
       |true=>rw[h]at H;cases H
      exact Ret.condT rfl (Ret.ok (fin m (by rw[hstep _ V];simpa using U) W))
     |false=>
      have V:decide (3<=wh d d.disputes[n] day)=true:=by
       cases h:decide (3<=wh d d.disputes[n] day) with
       |true=>rfl
       |false=>rw[h]at H;cases H
      rw[J rfl]
      refine Ret.condF rfl (Ret.bind (Ret.appo (by simp only[List.length_append,List.length_singleton];omega) (by simp only[List.length_append,List.length_singleton];omega) (Ret.bind (Ret.chk (by simp only[List.length_append,List.length_singleton];omega) (Ret.bind ?_)))))
      refine ALN (k1:=fun r:Report=>r.made) (k2:=fun r:Report=>r.id) (pre:=d.reports) (X:=m) (y:=Z3 d d.disputes[n] (dec d d.disputes[n])) (first:=(d.reports.length:Int)) (less:=AJj (fun r:Report=>r.made) (fun r:Report=>r.id)) rfl (by rw[AYj];omega) W ALX (fun X' H J=>?_) (by simp only[List.length_append,List.length_singleton];omega) (by rw[AYv])
      . refine Ret.ok (fin X' (H.trans ?_) J)
        rw[hstep true V,AYf (rfl:true=true),AYp,AYr,AZ5]
        exact U.append_right _
 . rintro⟨_,_⟩ ⟨rfl,m,rfl,U,W⟩;rw[AYo]at U;refine Ret.condF (K6 (AYh _)) (Ret.done (Ret.ok ⟨m,?_,W,rfl⟩));unfold ABn ABW;rw[AY3];exact U
end
end S
namespace S
theorem St.find{l:List Report}(h:VL l){day:Int}{out:List Report}(H:St l day out)(i:Int):(out.find? fun r=>decide (r.id=i))=stF l day i:=by
 apply AaP;intro r;rw[AIo h,ALR ((H.perm.map _).nodup_iff.2 (AG5 (ACb h day))),H.perm.mem_iff]
theorem St.len{l:List Report}(h:VL l){day:Int}{out:List Report}(H:St l day out):out.length<=60:=by
 rw[H.perm.length_eq];exact AJh (ACb h day)
theorem AUX{K:List Report}{o:Report}:fix K o=Report.mk o.id o.source o.account o.made (fix K o).about o.kind (fix K o).cents o.of_:=by
 unfold fix;split<;>rfl
end S
namespace S
def X8(d:Desk)(l:List Report)(x:Dispute)(asked:List Asked)(who:Int):Option Int:=(asked.find? fun a=>P5 d l x a&&decide (a.who=who)).map (·.id)
theorem AF9{d:Desk}{l:List Report}{x:Dispute}:∀(aq:List Asked) (f:A2 (Int×Int) Int) (k:Int×Int),aq.reverse.foldl (P6 d l x) f k=if k.1=x.id then(match X8 d l x aq k.2 with
  |some z=>some z
  |none=>f k) else f k
 |[],f,k=>by simp[X8]
 |a::aq,f,k=>by
  rw[List.reverse_cons,AZz,List.foldl_cons,List.foldl_nil];generalize I:aq.reverse.foldl (P6 d l x) f=g;have hi:=AF9 (d:=d) (l:=l) (x:=x) aq f k;rw[I]at hi;unfold P6 X8;rw[List.find?_cons];by_cases H:P5 d l x a=true
  . rw[H,AYf rfl,Bool.true_and];obtain⟨k1,k2⟩:=k;dsimp only at hi ⊢;by_cases e1:k1=x.id
    . subst e1;rw[AYf rfl];by_cases e:a.who=k2
      . subst e;simp[B9]
      . have e2:¬k2=a.who:=fun h=>e h.symm;rw[AYY e];rw[AYf rfl]at hi;unfold B9;rw[if_neg (fun h=>e2 (AZU h).2),hi];rfl
    . rw[if_neg e1]at hi ⊢;unfold B9;rw[if_neg (fun h=>e1 (AZU h).1),hi]
  . have H:P5 d l x a=false:=by simpa using H
    rw[H];simp only[Bool.false_eq_true,if_false,Bool.false_and];rw[hi];rfl
theorem ARM{d:Desk}{l:List Report}{asked:List Asked}{k:Int×Int}:∀(ys:List (Dispute×Verdict)) (f:A2 (Int×Int) Int),(ys.map (·.1.id)).Nodup->(ys.foldl (ABX d l asked) f) k=match ys.find? fun y=>decide (y.1.id=k.1) with
  |some y=>(match X8 d l y.1 asked k.2 with
   |some z=>some z
   |none=>f k)
  |none=>f k
 |[],f,_=>rfl
 |y::ys,f,h=>by
  rw[AYr,List.nodup_cons]at h;rw[List.foldl_cons,ARM ys _ h.2,List.find?_cons];have e1:ABX d l asked f y k=if k.1=y.1.id then(match X8 d l y.1 asked k.2 with
   |some z=>some z
   |none=>f k) else f k:=AF9 asked f k
  by_cases e:y.1.id=k.1
  . rw[AYc e];have I:(ys.find? fun y=>decide (y.1.id=k.1))=none:=List.find?_eq_none.2 fun z H hd=>h.1 (mem_map.2 ⟨z,H,(AYZ hd).trans e.symm⟩);rw[I];show ABX d l asked f y k=_;rw[e1,AYf e.symm]
  . rw[AYY e];have e2:ABX d l asked f y k=f k:=by rw[e1,if_neg fun h=>e h.symm]
    rw[e2]
theorem ALZ{l:List Report}(h:VL l){day:Int}{f r:Report}(J:f∈l)(I:stF l day f.id=some r):r=Report.mk f.id f.source f.account f.made r.about f.kind r.cents f.of_:=by
 obtain⟨V,H⟩:=(AIo h).1 I;obtain⟨o,U,_,_,rfl⟩:=T_mem.1 V;rw[AH5]at H;have:o=f:=h.cons o (kn_mem.1 U).1 f J H;subst this;exact AUX
end S
namespace S
open Classical in
theorem API{D:Desk_99}:C8 D=some (if TV D.desk.terms then 0 else 50):=by
 unfold C8;rw[d_in1,d_in2];by_cases a1:0<=D.desk.terms.answer/\D.desk.terms.answer<=1000
 . by_cases a2:0<=D.desk.terms.mark/\D.desk.terms.mark<=100000
   . by_cases a3:0<=D.desk.terms.lately/\D.desk.terms.lately<=100000
     . rw[AYf ⟨a1,a2,a3⟩,C6 a1,C6 a2,C6 a3];rfl
     . rw[if_neg (fun h=>a3 h.2.2),C6 a1,C6 a2,show inB 0 100000 D.desk.terms.lately=false from AYY a3];rfl
   . rw[if_neg (fun h=>a2 h.2.1),C6 a1,show inB 0 100000 D.desk.terms.mark=false from AYY a2];rfl
 . rw[if_neg (fun h=>a1 h.1),show inB 0 1000 D.desk.terms.answer=false from AYY a1];rfl
theorem AUY{D:Desk_99}(hk:∀r∈D.desk.reports,0<=r.kind/\r.kind<=255):D8 D=some (T6 D.desk.reports):=by
 unfold D8;rw[AMY hk];rfl
theorem AJN{d:Desk}(hl:d.reports.length<=1000000):Ret (H1 d) fun _=>True:=by
 unfold H1;refine Ret.bind (B3 d.reports.length (fun n (t:Int×A2 Int Report)=>t.1=n) rfl ?_ ?_)
 . rintro n H ⟨_,m⟩ rfl;refine Ret.condT (K5 H) (Ret.bind (C0 H (Ret.bind (Ret.cond (fun h=>?_) fun h=>?_))))
   . exact Ret.ok (Ret.bind (Ret.chk (by omega) (Ret.next (by dsimp only;omega))))
   . exact Ret.ok (Ret.bind (Ret.chk (by omega) (Ret.next (by dsimp only;omega))))
 . rintro⟨_,m⟩ rfl;exact Ret.condF (K6 (AYh _)) (Ret.done (Ret.ok trivial))
theorem AMg{α:Type}{l:List α}{id:α->Option Int}{right:α->Option Bool}{k:α->Int}{G:α->Prop}(hl:l.length<=1000000)(E:∀x∈l,Ret (right x) fun b=>b=true->G x)(W:∀x,id x=some (k x)):Ret (AJg l id right) fun b=>b=true->(∀x∈l,G x)/\(l.map k).Nodup:=by
 unfold AJg;refine Ret.bind (B3 l.length (fun n (t:Int×A2 Int Bool)=>t.1=n/\(∀x∈l.take n,G x)/\(∀(m:Nat) (hm:m<n) (C:m<l.length),∀x∈l.take m,k x≠k l[m])/\∀x∈l.take n,t.2 (k x)=some true) ⟨rfl,(fun x hx=>by simp at hx),(fun m hm=>by omega),(fun x hx=>by simp at hx)⟩ ?_ ?_)
 . rintro n H ⟨_,m⟩ ⟨rfl,J,U,hm⟩;dsimp only at hm;refine Ret.condT (K5 H) (Ret.bind (C0 H (Ret.bind (D0 (E _ (AYg H)) fun b D=>?_))));cases b with
   |false=>exact Ret.condT rfl (Ret.ok (Ret.condT rfl (Ret.done (C1 (Ret.ok fun h=>by cases h)))))
   |true=>
    refine Ret.condF rfl (W5 (W _) (Ret.ok ?_))
    by_cases c:(m (k l[n])).getD false=true
    . rw[c]
      exact Ret.condT rfl (Ret.done (C1 (Ret.ok fun h=>by cases h)))
    . refine Ret.condF (by simpa using c) (W5 (W _) (Ret.bind (Ret.chk (by omega) (Ret.next ⟨by dsimp only;omega,(fun x hx=>?_),(fun j F V=>?_),(fun x hx=>?_)⟩))))
      . rw[B6 H]at hx
        rcases hx with hx|rfl
        . exact J x hx
        . exact D rfl
      . by_cases e:j<n
        . exact U j e V
        . have:j=n:=by omega
          subst this
          intro x hx e
          rw[<-e,hm x hx]at c
          exact c rfl
      . dsimp only[B9]
        rw[B6 H]at hx
        split
        . rfl
        . rcases hx with hx|rfl
          . exact hm x hx
          . rename_i e;exact absurd rfl e
 . rintro⟨_,m⟩ ⟨rfl,J,U,_⟩;rw[AYo]at J;exact Ret.condF (K6 (AYh _)) (Ret.done (B8 (Ret.ok fun _=>⟨J,ANR fun n I=>U n I I⟩)))
theorem AUZ{D:Desk_99}(E:TV D.desk.terms)(I:VL D.desk.reports)(J:D.desk.disputes.length<=1000000)(F:Fc D.desk D.facts):Ret (D9 D) fun e=>(e=0\/e=51)/\(e=0->DV D.desk):=by
 obtain⟨t1,t2,t3⟩:=E;have hl:=I.len;unfold D9;refine Ret.bind (B3 D.desk.reports.length (fun n (t:Int×A2 Int Bool)=>t.1=n/\∀x∈D.desk.reports.take n,t.2 x.id=some true) ⟨rfl,fun x hx=>by simp at hx⟩ ?_ ?_)
 . rintro n H ⟨_,m⟩ ⟨rfl,hm⟩;dsimp only at hm;refine Ret.condT (K5 H) (Ret.bind (C0 H (Ret.bind (Ret.chk (by omega) (Ret.next ⟨by dsimp only;omega,fun x hx=>?_⟩)))));dsimp only[B9];rw[B6 H]at hx;split
   . rfl
   . rcases hx with hx|rfl
     . exact hm x hx
     . rename_i e;exact absurd rfl e
 rintro⟨_,m⟩ ⟨rfl,hm⟩;dsimp only at hm;rw[AYo]at hm;refine Ret.condF (K6 (AYh _)) (Ret.done (Ret.bind (Ret.cond (fun c=>Ret.ok (Ret.condT rfl (Ret.ok ⟨.inr rfl,fun h=>by cases h⟩))) fun c=>?_)));have c:=AYb c;have C:Ret (L8 D.desk.disputes (fun a16=>H9 a16) (fun a17=>E1 a17 D m)) fun b=>b=true->(∀x∈D.desk.disputes,XV D.desk x)/\(D.desk.disputes.map (·.id)).Nodup:=AMg (k:=fun x:Dispute=>x.id) (G:=XV D.desk) J (fun x W=>?_) (fun _=>rfl)
 . refine D0 C fun b V=>Ret.ok ?_;cases b with
   |false=>exact Ret.condT rfl (Ret.ok ⟨.inr rfl,fun h=>by cases h⟩)
   |true=>exact Ret.condF rfl (Ret.ok ⟨.inl rfl,fun _=>⟨by omega,(V rfl).1,(V rfl).2⟩⟩)
 . unfold E1;rw[F];cases U:fct D.desk.reports x.report with
   |none=>exact Ret.bind (Ret.condF rfl (Ret.ok (Ret.ok fun h=>by cases h)))
   |some f=>
    refine Ret.bind (Ret.condT rfl ?_)
    dsimp only[Option.getD_some]
    rw[d_in1,bindS]
    refine Ret.cond (fun v1=>?_) fun _=>Ret.ok (Ret.ok fun h=>by cases h)
    have v1:=C9 v1
    refine Ret.cond (fun v2=>?_) fun _=>Ret.ok (Ret.ok fun h=>by cases h)
    refine Ret.bind (Ret.chk (by omega) (Ret.bind (Ret.chk (by omega) ?_)))
    rw[d_in1,bindS]
    refine Ret.ok (Ret.ok fun v3=>?_)
    have v3:=C9 v3
    exact⟨v1,(fun r I e=>by rw[<-e,hm r I]at v2;cases v2),f,U,v3.1,by omega⟩
end S
namespace S
theorem AUa{D:Desk_99}(I:VL D.desk.reports)(hd:DV D.desk)(T:∀a∈D.desk.answers,0<=a.says/\a.says<=255)(J:D.desk.answers.length<=1000000)(K:Fc D.desk D.facts):Ret (F0 D) fun e=>(e=0\/e=52)/\(e=0->WV D.desk):=by
 have E:=hd.len;unfold F0;refine Ret.bind (Ret.cond (fun c=>Ret.ok (Ret.condT rfl (Ret.ok ⟨.inr rfl,fun h=>by cases h⟩))) fun c=>?_);have c:=AYb c;have C:Ret (P3 D.desk.answers (fun a4=>M9 a4) (fun a5=>F7 a5 D)) fun b=>b=true->(∀a∈D.desk.answers,AV D.desk a)/\(D.desk.answers.map (·.id)).Nodup:=AMg (k:=fun a:Answer=>a.id) (G:=AV D.desk) J (fun a O=>?_) (fun _=>rfl)
 . refine D0 C fun b W=>Ret.ok ?_;cases b with
   |false=>exact Ret.condT rfl (Ret.ok ⟨.inr rfl,fun h=>by cases h⟩)
   |true=>exact Ret.condF rfl (Ret.ok ⟨.inl rfl,fun _=>⟨by omega,(W rfl).1,(W rfl).2⟩⟩)
 . unfold F7;refine Ret.bind ?_;refine(AAB (s:=D.desk.disputes) (f:=fun a1=>I6 a1 a) (fun _ _=>rfl) (by omega) (fun _=>?_) fun k hk h Y=>?_:Ret (AG2 _ _) _)
   . exact Ret.bind (Ret.condT (by decide) (Ret.ok (Ret.condT rfl (Ret.ok fun h=>by cases h))))
   have h:=AYZ h;refine Ret.bind (Ret.condF (AYY (by omega)) ?_);rw[d_in1,bindS];refine Ret.cond (fun _=>Ret.ok (Ret.condT rfl (Ret.ok fun h=>by cases h))) fun v1=>?_;have v1:=C9 (by simpa using v1);rw[d_in2,bindS];refine Ret.ok (Ret.cond (fun _=>Ret.ok fun h=>by cases h) fun v2=>?_);have v2:inB 0 100000 a.day=true/\inB 0 100000 a.about=true:=by simpa using v2
   have v2a:=C9 v2.1;have v2b:=C9 v2.2;refine Ret.bind (C0 hk ?_);have hx:D.desk.disputes[k]∈D.desk.disputes:=AYg hk;generalize D.desk.disputes[k]=x at hx h;by_cases e:a.says=2
   . obtain⟨_,_,f,H,_⟩:=hd.v x hx;refine Ret.bind (Ret.condF (AYY (by omega)) (Ret.ok ?_));rw[AYY (show ¬a.says=3 by omega)];refine Ret.condF rfl (Ret.condT (AYc e) ?_);rw[K,H];have U:=O2 H;have F:=(I.v f U.1).1;rw[AMY (l:=[_]) (fun r I=>by rw[mem_singleton.1 I];dsimp only[Option.getD_some];omega),bindS];refine Ret.ok fun Q=>?_;have hv:=(code3_0.1 (AYZ Q)).v _ (List.mem_singleton_self _);obtain⟨_,_,_,_,_,_,w1,w2,_⟩:=hv;exact⟨v1,v2a,by omega,x,hx,h,fun n=>absurd e n,fun _ g V=>by
      rw[H]at V;cases V
      exact⟨w1,w2⟩⟩
   . by_cases e1:a.says=1\/a.says=3
     . refine Ret.bind (Ret.val (a:=true) ?_ (Ret.condT rfl (Ret.bind (Ret.cond (fun w1=>Ret.ok (Ret.ok fun w2=>?_)) fun _=>Ret.ok (Ret.ok fun h=>by cases h)))))
       . rcases e1 with e1|e1
         . rw[AYc e1];rfl
         . rw[AYY (show ¬a.says=1 by omega),AYc e1];rfl
       . exact⟨v1,v2a,by omega,x,hx,h,fun _=>⟨AYZ w1,AYZ w2⟩,fun n=>absurd n e⟩
     . refine Ret.bind (Ret.val (a:=false) ?_ (Ret.condF rfl (Ret.condF (AYY e) (Ret.ok fun h=>by cases h))));rw[AYY (show ¬a.says=1 by omega),AYY (show ¬a.says=3 by omega)];rfl
theorem AUb{D:Desk_99}(V:TV D.desk.terms)(W:VL D.desk.reports)(hx:DV D.desk)(E:Fc D.desk D.facts):D9 D=some 0:=by
 obtain⟨t1,t2,t3⟩:=V;have hl:=W.len;have C:=hx.len;refine Ret.eq ?_;unfold D9;refine Ret.bind (B3 D.desk.reports.length (fun n (t:Int×A2 Int Bool)=>t.1=n/\∀i,(∀x∈D.desk.reports.take n,x.id≠i)->t.2 i=none) ⟨rfl,fun i _=>rfl⟩ ?_ ?_)
 . rintro n H ⟨_,m⟩ ⟨rfl,hm⟩;dsimp only at hm;refine Ret.condT (K5 H) (Ret.bind (C0 H (Ret.bind (Ret.chk (by omega) (Ret.next ⟨by dsimp only;omega,fun i hi=>?_⟩)))));dsimp only[B9];rw[if_neg (fun e=>hi _ ((B6 H).2 (.inr rfl)) e.symm)];exact hm i fun x hx=>hi x ((B6 H).2 (.inl hx))
 rintro⟨_,m⟩ ⟨rfl,hm⟩;dsimp only at hm;rw[AYo]at hm;refine Ret.condF (K6 (AYh _)) (Ret.done (Ret.bind (Ret.condF (AYY (by omega)) ?_)));have U:L8 D.desk.disputes (fun a16=>H9 a16) (fun a17=>E1 a17 D m)=some true:=AIh (k:=(·.id)) (by omega) (fun x I=>?_) (fun _=>rfl) hx.nd
 . rw[U];exact Ret.ok (Ret.ok rfl)
 . obtain⟨v1,v2,f,J,v3,v4⟩:=hx.v x I;refine Ret.eq ?_;unfold E1;rw[E,J];have v2:=hm x.id v2;refine Ret.bind (Ret.condT rfl ?_);dsimp only[Option.getD_some];rw[d_in1,C6 v1,bindS,v2];refine Ret.condT rfl (Ret.condT rfl (Ret.bind (Ret.chk (by omega) (Ret.bind (Ret.chk (by omega) ?_)))));rw[d_in1,C6 (show _/\_ from⟨v3,by omega⟩)];exact Ret.ok (Ret.ok rfl)
structure NG(d:Desk):Prop where
 i:InD d
 r:d.reports.length<=1000000
 x:d.disputes.length<=1000000
 a:d.answers.length<=1000000
theorem code5_0{d:Desk}:F4 d=0↔Vd d:=by
 unfold F4;constructor
 . intro h;split at h
   . rename_i U;split at h
     . rename_i H;split at h
       . rename_i J;split at h
         . rename_i I;exact⟨U,code3_0.1 H,J,I⟩
         . cases h
       . cases h
     . rename_i H;exact absurd h H
   . cases h
 . intro h;rw[AYf h.t,AYf (code3_0.2 h.r),AYf h.x,AYf h.a]
theorem AQg{d:Desk}(h:NG d):∃D,H7 d=some (D,F4 d)/\(F4 d=0->Dw d D):=by
 by_cases hv:Vd d
 . obtain⟨D,V,U⟩:=AMQ hv;exact⟨D,by rw[V,code5_0.2 hv],fun _=>U⟩
 have C:F4 d≠0:=fun e=>hv (code5_0.1 e);have key:∀f,H1 d=some f->ABC ⟨d,f,fnone⟩ 0 4=some (F4 d)->∃D,H7 d=some (D,F4 d)/\(F4 d=0->Dw d D):=fun f V U=>by
  refine⟨⟨d,f,fnone⟩,?_,fun e=>absurd e C⟩;unfold H7;rw[V,bindS,U,bindS,if_neg C]
 by_cases I:TV d.terms;rotate_left
 . obtain⟨f,E,_⟩:=AJN h.r;refine key f E ?_;have e:F4 d=50:=by unfold F4;rw[if_neg I]
   rw[e];show (C8 _).bind _=_;rw[API,if_neg I,bindS,if_neg (by decide)]
 have s1:∀f,C8 ⟨d,f,fnone⟩=some 0:=fun f=>by rw[API,AYf I]
 have s2:∀f,D8 ⟨d,f,fnone⟩=some (T6 d.reports):=fun f=>AUY h.i.k;by_cases W:T6 d.reports=0;rotate_left
 . obtain⟨f,E,_⟩:=AJN h.r;refine key f E ?_;have e:F4 d=T6 d.reports:=by unfold F4;rw[AYf I,if_neg W]
   rw[e];show (C8 _).bind _=_;rw[s1,bindS,AYf rfl];show (D8 _).bind _=_;rw[s2,bindS,if_neg W]
 have H:=code3_0.1 W;obtain⟨f,E,J⟩:=ARF H;refine key f E ?_;show (C8 _).bind _=_;rw[s1,bindS,AYf rfl];show (D8 _).bind _=_;rw[s2,W,bindS,AYf rfl];show (D9 _).bind _=_;by_cases hd:DV d;rotate_left
 . have e:F4 d=51:=by unfold F4;rw[AYf I,AYf W,if_neg hd]
   obtain⟨e3,V,U,K⟩:=AUZ (D:=⟨d,f,fnone⟩) I H h.x J;rcases U with rfl|rfl
   . exact absurd (K rfl) hd
   . rw[V,bindS,if_neg (by decide),e]
 rw[AUb (D:=⟨d,f,fnone⟩) I H hd J,bindS,AYf rfl];show (F0 _).bind _=_;have F:¬WV d:=fun F=>hv ⟨I,H,hd,F⟩;have e:F4 d=52:=by unfold F4;rw[AYf I,AYf W,AYf hd,if_neg F]
 obtain⟨e4,V,U,K⟩:=AUa (D:=⟨d,f,fnone⟩) H hd h.i.s h.a J;rcases U with rfl|rfl
 . exact absurd (K rfl) F
 . rw[V,bindS,if_neg (by decide),e]
def N0(d:Desk)(day:Int):Int:=if F4 d=0 then(if inB 0 100000 day then 0 else 2) else F4 d
theorem AJO{d:Desk}(h:NG d){day:Int}:∃D,M4 d day=some (D,N0 d day)/\(F4 d=0->Dw d D):=by
 obtain⟨D,I,H⟩:=AQg h;refine⟨D,?_,H⟩;unfold M4 N0;rw[I,bindS];dsimp only;by_cases e:F4 d=0
 . rw[AYf e,e];rw[d_in1];cases J:inB 0 100000 day with
   |true=>rfl
   |false=>rfl
 . rw[if_neg e,AYY e];rfl
end S
namespace S
variable{i:Int}{w:Int}{F:A2 (Int×Int) Int}{d:Desk}{x:Dispute}{aq:List Asked}{a:Asked}
theorem AMh{l:List Report}(h:VL l){day:Int}(hd:0<=day/\day<=100000):Y4 l i day=some ((stF l day i).getD ADY,(stF l day i).isSome):=by
 refine Ret.eq ?_;unfold Y4;refine D0 (ASV h hd) fun z U=>?_;obtain⟨F,e⟩:=z;obtain⟨_,H⟩:=U;have W:=St.len h H;have J:=St.find h H i;dsimp only at H W J ⊢;rw[At3];refine Ret.bind (AAB (fun _ _=>rfl) (by omega) (fun I=>?_) fun k hk C V=>?_)
 . rw[<-J,AMI I];exact Ret.condT (by decide) (Ret.ok rfl)
 . rw[<-J,AMH hk C V];exact Ret.condF (AYY (by omega)) (Ret.bind (C0 hk (Ret.ok rfl)))
theorem AWa{out:List Letter}(hl:out.length<=1000000):AAo out i w=some (out.any fun z=>decide (z.dispute=i)&&decide (z.who=w)):=by
 refine Ret.eq ?_;unfold AAo;refine Ret.bind (B3 out.length (fun n (t:Int)=>t=n/\∀z∈out.take n,(decide (z.dispute=i)&&decide (z.who=w))=false) ⟨rfl,fun z I=>by simp at I⟩ ?_ ?_)
 . rintro n H _ ⟨rfl,J⟩;refine Ret.condT (K5 H) (Ret.bind (Ret.mono (Q:=fun b:Bool=>b=(decide (out[n].dispute=i)&&decide (out[n].who=w))) ?_ fun b U=>?_))
   . exact Ret.bind (C0 H (Ret.cond (fun c=>Ret.bind (C0 H (Ret.ok (by rw[c];rfl)))) fun c=>Ret.ok (by rw[c];rfl)))
   . cases b with
     |true=>exact Ret.condT rfl (Ret.done (C1 (Ret.ok (List.any_eq_true.2 ⟨_,AYg H,U.symm⟩).symm)))
     |false=>
      refine Ret.condF rfl (Ret.bind (Ret.chk (by omega) (Ret.next ⟨by omega,fun z I=>?_⟩)))
      rw[B6 H]at I
      rcases I with I|rfl
      . exact J z I
      . exact U.symm
 . rintro _ ⟨rfl,J⟩;rw[AYo]at J;refine Ret.condF (K6 (AYh _)) (Ret.done (B8 (Ret.ok ?_)));exact(List.any_eq_false.2 fun z I=>by rw[J z I];decide).symm
theorem LetS.put{out out':List Letter}(h:LetS F out){z:Letter}(V:F (z.dispute,z.who)=none)(J:out'.Perm (out++[z]))(U:out'.Pairwise (N8 (·.dispute) (·.who))):LetS (B9 F (z.dispute,z.who) z.asked) out':=by
 have H:∀y∈out,(y.dispute,y.who)≠(z.dispute,z.who):=fun y hy e=>by
  have:=(h.mem y).1 hy;rw[e,V]at this;cases this
 refine⟨fun y=>?_,?_,U⟩
 . rw[J.mem_iff,AYx,AZs];unfold B9;by_cases e:(y.dispute,y.who)=(z.dispute,z.who)
   . rw[AYf e];constructor
     . rintro (I|rfl)
       . exact absurd e (H y I)
       . rfl
     . intro I;obtain⟨e1,e2⟩:=AZU e;have e3:=AYS I;obtain⟨y1,y2,y3⟩:=y;obtain⟨z1,z2,z3⟩:=z;dsimp only at e1 e2 e3;rw[e1,e2,e3];exact .inr rfl
   . rw[if_neg e,<-h.mem y];constructor
     . rintro (I|rfl)
       . exact I
       . exact absurd rfl e
     . exact .inl
 . rw[(J.map _).nodup_iff,AYp,AZ9];refine⟨h.nd,by simp,fun a C b W=>?_⟩;obtain⟨y,hy,rfl⟩:=mem_map.1 C;have:b=(z.dispute,z.who):=by simpa using W
   rw[this];exact H y hy
theorem LetS.had{out:List Letter}(h:LetS F out):(out.any fun z=>decide (z.dispute=i)&&decide (z.who=w))=(F (i,w)).isSome:=by
 cases H:F (i,w) with
 |some a=>exact List.any_eq_true.2 ⟨Letter.mk i w a,(h.mem _).2 H,by simp⟩
 |none=>
  refine List.any_eq_false.2 fun z I hd=>?_
  rw[Bool.and_eq_true,decide_eq_true_iff,decide_eq_true_iff]at hd
  have:=(h.mem z).1 I
  rw[hd.1,hd.2,H]at this;cases this
theorem fst_snoc{l:List Report}{who:Int}:X8 d l x (aq++[a]) who=match X8 d l x aq who with
  |some z=>some z
  |none=>if (P5 d l x a&&decide (a.who=who))=true then some a.id else none:=by
 unfold X8
 rw[List.find?_append]
 cases aq.find? fun a=>P5 d l x a&&decide (a.who=who) with
 |some z=>rfl
 |none=>
  rw[List.find?_cons]
  cases P5 d l x a&&decide (a.who=who) with
  |true=>rfl
  |false=>rfl
theorem ANy{l:List Report}{f:A2 (Int×Int) Int}(I:∀w,f (x.id,w)=none):(aq++[a]).reverse.foldl (P6 d l x) f=if P5 d l x a=true/\X8 d l x aq a.who=none then B9 (aq.reverse.foldl (P6 d l x) f) (x.id,a.who) a.id else aq.reverse.foldl (P6 d l x) f:=by
 funext k;rw[AF9];obtain⟨i,w⟩:=k;dsimp only;by_cases e:i=x.id
 . subst e;rw[AYf rfl,fst_snoc,I];have H:∀w,aq.reverse.foldl (P6 d l x) f (x.id,w)=X8 d l x aq w:=fun w=>by
    rw[AF9];dsimp only;rw[AYf rfl,I];cases X8 d l x aq w<;>rfl
   by_cases c:P5 d l x a=true/\X8 d l x aq a.who=none
   . rw[AYf c,c.1,Bool.true_and];unfold B9;by_cases e2:a.who=w
     . subst e2;rw[c.2,AYf rfl];simp
     . rw[if_neg (fun h=>e2 (AZU h).2.symm),H,AYY e2];cases X8 d l x aq w<;>rfl
   . rw[if_neg c,H];cases J:X8 d l x aq w with
     |some z=>rfl
     |none=>
      dsimp only
      rw[if_neg]
      intro h
      rw[Bool.and_eq_true,decide_eq_true_iff]at h
      exact c ⟨h.1,by rw[h.2];exact J⟩
 . rw[if_neg e];have H:aq.reverse.foldl (P6 d l x) f (i,w)=f (i,w):=by rw[AF9];exact if_neg e
   split
   . unfold B9;rw[if_neg (fun h=>e (AZU h).1),H]
   . rw[H]
section
variable{d:Desk}(hv:Vd d)
include hv
theorem ASa{l:List Report}(hl:VL l)(U:∀r∈d.reports,r∈l){x:Dispute}(hx:x∈d.disputes){a:Asked}(O:0<=a.day/\a.day<=100000):Y5 d l x a=some (P5 d l x a):=by
 have K:=hv.r.len;obtain⟨_,_,f,W,x3,x4⟩:=hv.x.v x hx;obtain⟨V,C,_⟩:=O2 W;have D:=AFb hv hx;have Q:=hv.t.2.2;refine Ret.eq ?_;unfold Y5;refine Ret.bind (AEC (by omega) (fun h=>by rw[W]at h;cases h) fun m hm h=>Ret.bind (C0 hm ?_));rw[W]at h;have h:=AYS h;rw[<-h,AFe hv hx,bindS];dsimp only;have H:P5 d l x a=(decide (a.account=f.account)&&(decide (a.day<(dec d x).day)&&(decide ((dec d x).day-a.day<=d.terms.lately)&&(match stF l a.day f.id with
  |none=>false
  |some was=>decide (was.about<=a.day)&&(match stF l (dec d x).day f.id with
   |none=>true
   |some now=>!decide (was=now)))))):=by
  unfold P5
  rw[W,C];rfl
 refine Ret.bind (Ret.cond (fun c=>Ret.ok (Ret.condT rfl (Ret.ok ?_))) fun c=>Ret.cond (fun c2=>Ret.ok (Ret.condT rfl (Ret.ok ?_))) fun c2=>Ret.bind (Ret.chk (by omega) (Ret.ok (Ret.cond (fun c3=>Ret.ok ?_) fun c3=>?_))))
 . have c:decide (a.account=f.account)=false:=by rw[Bool.not_eq_true']at c;exact c
   rw[H,c];rfl
 . have c2:=AYZ c2;rw[H,AYY (show ¬a.day<(dec d x).day by omega)];simp
 . have c3:=AYZ c3;rw[H,AYY (show ¬(dec d x).day-a.day<=d.terms.lately by omega)];simp
 have c:decide (a.account=f.account)=true:=by rw[Bool.not_eq_false']at c;exact c
 have c2:=AYb c2;have c3:=AYb c3;rw[c,AYc (show a.day<(dec d x).day by omega),AYc (show(dec d x).day-a.day<=d.terms.lately by omega),Bool.true_and,Bool.true_and,Bool.true_and]at H;rw[AMh hl O,bindS];dsimp only;cases I:stF l a.day f.id with
 |none=>
  rw[I]at H
  exact Ret.bind (Ret.condT rfl (Ret.ok (Ret.condT rfl (Ret.ok H.symm))))
 |some was=>
  rw[I]at H
  dsimp only at H
  refine Ret.bind (Ret.condF rfl (Ret.ok (Ret.cond (fun k4=>Ret.ok ?_) fun k4=>?_)))
  . have k4:a.day<was.about:=AYZ k4
    rw[H,AYY (show ¬was.about<=a.day by omega)];rfl
  have k4:¬a.day<was.about:=AYb k4
  rw[AYc (show was.about<=a.day by omega),Bool.true_and]at H
  rw[AMh hl D,bindS]
  dsimp only
  have F:=ALZ hl (U f V) I
  cases J:stF l (dec d x).day f.id with
  |none=>
   rw[J]at H
   exact Ret.bind (Ret.condT rfl (Ret.ok (Ret.ok H.symm)))
  |some now=>
   rw[J]at H
   dsimp only at H
   have E:=ALZ hl (U f V) J
   rw[H]
   refine Ret.bind (Ret.condF rfl (Ret.cond (fun k5=>Ret.ok (Ret.ok ?_)) fun k5=>Ret.ok (Ret.ok ?_)))
   . have k5:¬now.about=was.about:=by simpa using k5
     rw[AYY fun h=>k5 (by rw[h])];rfl
   . have k5:now.about=was.about:=by simpa using k5
     show(!decide (now.cents=was.cents))=!decide (was=now)
     by_cases e:now.cents=was.cents
     . rw[AYc e,AYc (show was=now by rw[F,E,k5,e])]
     . rw[AYY e,AYY fun h=>e (by rw[h])]
theorem ANz{asked:List Asked}(T:AskV asked){m:List Report}(hl:VL (d.reports++m)){day:Int}{n0:Unit}:Ret (B5 (S:=((List Letter)×Int)) (R:=((List Letter))) (fun (x218,x219)=>cond (decide (x219<(d.disputes.length:Int))) (Option.bind (α:=((List Letter))) ((ixo d.disputes x219).bind fun y220=>(K9 d y220).bind fun (r221,r222)=>Option.bind (α:=Bool) (cond (decide (day<r221)) (some true) (some (decide (r222=2)))) ((fun x223=>cond (x223) (some x218) ((B5 (S:=((List Letter)×Int)) (R:=((List Letter))) (fun (x224,x225)=>cond (decide (x225<(asked.length:Int))) (Option.bind (α:=((List Letter))) (Option.bind (α:=Bool) ((ixo asked x225).bind fun y226=>(Y5 d (d.reports++m) y220 y226).bind fun r227=>cond ((!r227)) (some true) ((ixo asked x225).bind fun y228=>(AAo x224 y220.id y228.who).bind fun r229=>some r229)) ((fun x230=>cond (x230) (some x224) ((ixo asked x225).bind fun y231=>(ixo asked x225).bind fun y232=>(appo 24 x224 ([(Letter.mk y220.id y231.who y232.id)])).bind fun l233=>(chk .i64 ((l233.length:Int)-1)).bind fun n234=>(B5 (S:=(Int×(List Letter))) (R:=((List Letter))) (fun (x235,x236)=>Option.bind (α:=Bool) (cond (decide (0<x235)) ((ixo x236 x235).bind fun y237=>(chk .i64 (x235-1)).bind fun n238=>(ixo x236 n238).bind fun y239=>cond (decide (y237.dispute<y239.dispute)) (some true) ((ixo x236 x235).bind fun y240=>(chk .i64 (x235-1)).bind fun n241=>(ixo x236 n241).bind fun y242=>cond (decide (y240.dispute=y242.dispute)) ((ixo x236 x235).bind fun y243=>(chk .i64 (x235-1)).bind fun n244=>(ixo x236 n244).bind fun y245=>some (decide (y243.who<y245.who))) (some false))) (some false)) ((fun x246=>cond (x246) ((chk .i64 (x235-1)).bind fun n247=>(chk .i64 (x235-1)).bind fun n248=>(ixo x236 n248).bind fun y249=>(ixo x236 x235).bind fun y250=>(ixo x236 x235).bind fun y251=>(seto x236 x235 y249).bind fun l252=>(ixo l252 n247).bind fun y253=>(seto l252 n247 y250).bind fun l254=>(chk .i64 (x235-1)).bind fun n255=>some (Sum.inl (n255,l254))) (some (Sum.inr x236))))) (n234,l233)).bind ((fun x256=>some x256)))))) ((fun x257=>(chk .i64 (x225+1)).bind fun n258=>some (Sum.inl (x257,n258))))) (some (Sum.inr x224))) (x218,(0:Int))).bind ((fun x259=>some x259)))))) ((fun x260=>(chk .i64 (x219+1)).bind fun n261=>some (Sum.inl (x260,n261))))) (some (Sum.inr x218))) (([]:List Letter),(0:Int))) fun out=>LetS (ANv d (d.reports++m) asked day) out:=by
 have G:=hv.r.len;have A:=hv.x.len;have P:=T.len;refine B3 d.disputes.length (fun n (t:List Letter×Int)=>t.2=n/\t.1.length<=n*40/\LetS ((((d.disputes.take n).filter fun x=>decide (3<=wh d x day)).map fun x=>(x,dec d x)).foldl (ABX d (d.reports++m) asked) fnone) t.1) ⟨rfl,by simp,fun z=>by simp[fnone],by simp,List.Pairwise.nil⟩ ?_ ?_
 . rintro n J ⟨out,_⟩ ⟨rfl,I,W⟩;dsimp only at I W;have hx:d.disputes[n]∈d.disputes:=AYg J;have hstep:∀b,decide (3<=wh d d.disputes[n] day)=b->((d.disputes.take (n+1)).filter fun x=>decide (3<=wh d x day))=((d.disputes.take n).filter fun x=>decide (3<=wh d x day))++(if b then [d.disputes[n]] else []):=fun b D=>by
    rw[T3 J,AZ6];congr 1;cases b with
    |true=>simp[of_decide_eq_true D]
    |false=>have:=AYb D;simp[this]
   have U:∀w,(((d.disputes.take n).filter fun x=>decide (3<=wh d x day)).map fun x=>(x,dec d x)).foldl (ABX d (d.reports++m) asked) fnone (d.disputes[n].id,w)=none:=fun w=>by
    rw[ARM]
    . have:((((d.disputes.take n).filter fun x=>decide (3<=wh d x day)).map fun x=>(x,dec d x)).find? fun y=>decide (y.1.id=(d.disputes[n].id,w).1))=none:=by
       refine List.find?_eq_none.2 fun y hy N=>?_;obtain⟨x,C,rfl⟩:=mem_map.1 hy;exact ARE hv.x.nd J x (List.mem_filter.1 C).1 (AYZ N)
      rw[this];rfl
    . rw[AY3];exact((List.filter_sublist.trans (List.take_sublist ..)).map _).nodup hv.x.nd
   refine Ret.condT (K5 J) (Ret.bind (Ret.bind (C0 J ?_)));rw[AFe hv hx,bindS];dsimp only;generalize O:(((d.disputes.take n).filter fun x=>decide (3<=wh d x day)).map fun x=>(x,dec d x)).foldl (ABX d (d.reports++m) asked) fnone=f at W U;generalize B:d.disputes[n]=x at hx U hstep;have fin:∀out':List Letter,out'.length<=(n+1)*40->LetS ((((d.disputes.take (n+1)).filter fun x=>decide (3<=wh d x day)).map fun x=>(x,dec d x)).foldl (ABX d (d.reports++m) asked) fnone) out'->Ret ((chk .i64 ((n:Int)+1)).bind fun n261=>some (Sum.inl (out',n261):(List Letter×Int)⊕List Letter)) (Nxt (fun t:List Letter×Int=>t.2=((n+1:Nat):Int)/\t.1.length<=(n+1)*40/\LetS ((((d.disputes.take (n+1)).filter fun x=>decide (3<=wh d x day)).map fun x=>(x,dec d x)).foldl (ABX d (d.reports++m) asked) fnone) t.1) fun out=>LetS (ANv d (d.reports++m) asked day) out):=fun out' C F=>Ret.bind (Ret.chk (by omega) (Ret.next ⟨by dsimp only;omega,C,F⟩));refine Ret.bind (Ret.mono (Q:=fun c:Bool=>c=(!decide (3<=wh d x day))) ?_ fun c V=>?_)
   . refine Ret.cond (fun c=>Ret.ok ?_) fun c=>Ret.ok ?_
     . have c:=AYZ c;rw[AYY fun h=>by have:=((wh3 hv).1 h).1;omega];rfl
     . have c:=AYb c;by_cases e:(dec d x).is_=2
       . rw[AYc e,AYY fun h=>((wh3 hv).1 h).2 e];rfl
       . rw[AYY e,AYc ((wh3 hv).2 ⟨by omega,e⟩)];rfl
   . cases c with
     |true=>
      have D:decide (3<=wh d x day)=false:=by
       cases h:decide (3<=wh d x day) with
       |false=>rfl
       |true=>rw[h]at V;cases V
      refine Ret.condT rfl (Ret.ok (fin out (by omega) ?_))
      rw[hstep _ D]
      simpa[O] using W
     |false=>
      have D:decide (3<=wh d x day)=true:=by
       cases h:decide (3<=wh d x day) with
       |true=>rfl
       |false=>rw[h]at V;cases V
      refine Ret.condF rfl (Ret.bind (B3 asked.length (fun k (t:List Letter×Int)=>t.2=k/\t.1.length<=n*40+k/\LetS ((asked.take k).reverse.foldl (P6 d (d.reports++m) x) f) t.1) ⟨rfl,I,W⟩ ?_ ?_))
      . rintro k hk ⟨o2,_⟩ ⟨rfl,hlen2,H⟩
        dsimp only at hlen2 H
        have K:=T.v _ (AYg hk)
        have hsnoc:=ANy (d:=d) (l:=d.reports++m) (aq:=asked.take k) (a:=asked[k]) U
        rw[<-T3 hk]at hsnoc
        have Y:∀w,(asked.take k).reverse.foldl (P6 d (d.reports++m) x) f (x.id,w)=X8 d (d.reports++m) x (asked.take k) w:=fun w=>by
         rw[AF9];dsimp only;rw[AYf rfl,U];cases X8 d (d.reports++m) x (asked.take k) w<;>rfl
        have fin2:∀out':List Letter,out'.length<=n*40+(k+1)->LetS ((asked.take (k+1)).reverse.foldl (P6 d (d.reports++m) x) f) out'->Ret ((chk .i64 ((k:Int)+1)).bind fun n258=>some (Sum.inl (out',n258):(List Letter×Int)⊕List Letter)) (Nxt (fun t:List Letter×Int=>t.2=((k+1:Nat):Int)/\t.1.length<=n*40+(k+1)/\LetS ((asked.take (k+1)).reverse.foldl (P6 d (d.reports++m) x) f) t.1) fun a=>Ret (some a) fun a=>Ret ((chk .i64 ((n:Int)+1)).bind fun n261=>some (Sum.inl (a,n261):(List Letter×Int)⊕List Letter)) (Nxt (fun t:List Letter×Int=>t.2=((n+1:Nat):Int)/\t.1.length<=(n+1)*40/\LetS ((((d.disputes.take (n+1)).filter fun x=>decide (3<=wh d x day)).map fun x=>(x,dec d x)).foldl (ABX d (d.reports++m) asked) fnone) t.1) fun out=>LetS (ANv d (d.reports++m) asked day) out)):=fun out' C F=>Ret.bind (Ret.chk (by omega) (Ret.next ⟨by dsimp only;omega,C,F⟩))
        refine Ret.condT (K5 hk) (Ret.bind (Ret.bind (Ret.mono (Q:=fun c:Bool=>c=(!decide (P5 d (d.reports++m) x asked[k]=true/\X8 d (d.reports++m) x (asked.take k) asked[k].who=none))) ?_ fun c V=>?_)))
        . refine Ret.bind (C0 hk ?_)
          rw[ASa hv hl (fun r Z=>mem_append.2 (.inl Z)) hx K.2.2.2,bindS]
          cases L:P5 d (d.reports++m) x asked[k] with
          |false=>
           refine Ret.condT rfl (Ret.ok ?_)
           rw[AYY fun h=>by cases h.1];rfl
          |true=>
           refine Ret.condF rfl (Ret.bind (C0 hk ?_))
           rw[AWa (show o2.length<=1000000 by omega),bindS,H.had,Y]
           refine Ret.ok ?_
           cases X8 d (d.reports++m) x (asked.take k) asked[k].who with
           |none=>rw[AYc ⟨rfl,rfl⟩];rfl
           |some z=>rw[AYY fun h=>by cases h.2];rfl
        . by_cases E:P5 d (d.reports++m) x asked[k]=true/\X8 d (d.reports++m) x (asked.take k) asked[k].who=none
          . rw[AYc E]at V
            rw[AYf E]at hsnoc
            subst V
            refine Ret.condF rfl (Ret.bind (C0 hk (Ret.bind (C0 hk (Ret.bind (Ret.appo (by simp only[List.length_singleton];omega) (by simp only[List.length_singleton];omega) (Ret.bind (Ret.chk (by simp only[List.length_append,List.length_singleton];omega) (Ret.bind ?_)))))))))
            refine ALN (k1:=fun r:Letter=>r.dispute) (k2:=fun r:Letter=>r.who) (pre:=[]) (X:=o2) (y:=Letter.mk x.id asked[k].who asked[k].id) (first:=0) (less:=AJj (fun r:Letter=>r.dispute) (fun r:Letter=>r.who)) rfl (by simp;omega) H.ord ALX (fun X' C F=>?_) (by simp) (by simp)
            . rw[AYq]
              refine Ret.ok (fin2 X' ?_ ?_)
              . rw[C.length_eq,AYj,AYm];omega
              . rw[hsnoc]
                exact H.put (z:=Letter.mk x.id asked[k].who asked[k].id) (by rw[Y];exact E.2) C F
          . rw[AYY E]at V
            rw[if_neg E]at hsnoc
            subst V
            exact Ret.condT rfl (Ret.ok (fin2 o2 (by omega) (by rw[hsnoc];exact H)))
      . rintro⟨o2,_⟩ ⟨rfl,hlen2,H⟩
        dsimp only at hlen2 H
        rw[AYo]at H
        refine Ret.condF (K6 (AYh _)) (Ret.done (Ret.ok (fin o2 (by omega) ?_)))
        rw[hstep true D,AYf (rfl:true=true),AYp,AZz,O]
        exact H
 . rintro⟨out,_⟩ ⟨rfl,I,W⟩;dsimp only at I W;rw[AYo]at W;exact Ret.condF (K6 (AYh _)) (Ret.done W)
end
end S
namespace S
variable{asked:List Asked}{d:Desk}{day:Int}
theorem ASb(h:AskV asked):J8 asked=some true:=by
 have hl:=h.len;refine Ret.eq ?_;unfold J8;refine Ret.condF (AYY (by omega)) (Ret.bind (B3 asked.length (fun n (t:Int)=>t=n) rfl ?_ ?_))
 . rintro n H _ rfl;obtain⟨v1,v2,v3,v4⟩:=h.v _ (AYg H);refine Ret.condT (K5 H) (Ret.bind (C0 H (Ret.bind (Ret.val (a:=false) ?_ (Ret.condF rfl (Ret.bind (Ret.chk (by omega) (Ret.next (by omega)))))))));rw[within5,C6 v1,bindS,within5,C6 v2,within5,C6 v3,within5,C6 v4];show cond (decide (0<(n:Int))) _ _=_;refine Ret.eq (Ret.cond (fun c=>?_) fun _=>Ret.ok rfl);have c:=AYZ c;obtain⟨k,rfl⟩:∃k,n=k+1:=⟨n-1,by omega⟩;refine Ret.bind (Ret.chk (by omega) (Ret.bind ?_));rw[show((k+1:Nat):Int)-1=(k:Int) by omega];refine C0 (by omega) (Ret.ok (AYY ?_));have:=h.up k H;omega
 . rintro _ rfl;exact Ret.condF (K6 (AYh _)) (Ret.done (B8 (Ret.ok rfl)))
theorem codeE_0:N0 d day=0↔Vd d/\0<=day/\day<=100000:=by
 unfold N0;constructor
 . intro h;split at h
   . rename_i H;split at h
     . rename_i I;exact⟨code5_0.1 H,C9 I⟩
     . cases h
   . rename_i H;exact absurd h H
 . rintro⟨H,I⟩;rw[AYf (code5_0.2 H),AYf (C6 I)]
def FolA(d:Desk)(day:Int)(r:List Report×Int):Prop:=(N0 d day≠0/\r=([],N0 d day))\/(N0 d day=0/\ADo d day r)
def LetA(d:Desk)(asked:List Asked)(day:Int)(r:List Letter×Int):Prop:=(N0 d day≠0/\r=([],N0 d day))\/(N0 d day=0/\((¬AskV asked/\r=([],53))\/(AskV asked/\LtS d asked day r)))
theorem FolA.uniq{r r':List Report×Int}(h:FolA d day r)(J:FolA d day r'):r=r':=by
 rcases h with⟨H,I⟩|⟨H,I⟩<;>rcases J with⟨g1,g2⟩|⟨g1,g2⟩
 . rw[I,g2]
 . exact absurd g1 H
 . exact absurd H g1
 . exact ALQ (codeE_0.1 H).1 I g2
theorem LetA.uniq{r r':List Letter×Int}(h:LetA d asked day r)(U:LetA d asked day r'):r=r':=by
 rcases h with⟨I,H⟩|⟨I,H⟩<;>rcases U with⟨g1,g2⟩|⟨g1,g2⟩
 . rw[H,g2]
 . exact absurd g1 I
 . exact absurd I g1
 . rcases H with⟨H,J⟩|⟨H,J⟩<;>rcases g2 with⟨g2,g3⟩|⟨g2,g3⟩
   . rw[J,g3]
   . exact absurd g2 H
   . exact absurd H g2
   . exact ASY (codeE_0.1 I).1 J g3
theorem AQh(h:NG d):Ret (N4 d day) (FolA d day):=by
 by_cases e:N0 d day=0
 . obtain⟨hv,hd⟩:=codeE_0.1 e;exact(AQf hv hd).mono fun r H=>.inr ⟨e,H⟩
 . obtain⟨D,I,_⟩:=AJO h (day:=day);unfold N4;rw[I,bindS];exact Ret.condT (by rw[AYY e];rfl) (Ret.ok (.inl ⟨e,rfl⟩))
theorem AQi(h:NG d):Ret (AAY d day) (FolA d day):=by
 unfold AAY;rw[AMZ h.i h.x,bindS];by_cases e:F4 d=0;rotate_left
 . have ee:N0 d day=F4 d:=by unfold N0;rw[if_neg e]
   exact Ret.condT (by rw[AYY e];rfl) (Ret.ok (.inl ⟨by rw[ee];exact e,by rw[ee]⟩))
 have hv:=code5_0.1 e;refine Ret.condF (by rw[AYc e];rfl) ?_;rw[within5,bindS];cases H:inB 0 100000 day with
 |false=>
  have ee:N0 d day=2:=by unfold N0;rw[AYf e,H];rfl
  exact Ret.condT rfl (Ret.ok (.inl ⟨by rw[ee];decide,by rw[ee]⟩))
 |true=>
  have ee:N0 d day=0:=codeE_0.2 ⟨hv,C9 H⟩
  refine Ret.condF rfl (D0 (AJM hv) fun l hl=>?_)
  obtain⟨m,I,U,rfl⟩:=hl
  have J:=I.length_eq
  refine Ret.cond (fun c=>Ret.ok (.inr ⟨ee,.inl ⟨?_,rfl⟩⟩)) fun c=>Ret.ok (.inr ⟨ee,.inr ⟨?_,m,I,U,rfl⟩⟩)
  . have c:=AYZ c
    rw[AYj]at c;omega
  . have c:=AYb c
    rw[AYj]at c;omega
theorem APJ(h:NG d)(J:asked.length<=1000000):Ret (AAA d asked day) (LetA d asked day):=by
 unfold AAA;rw[AMZ h.i h.x,bindS];by_cases e:F4 d=0;rotate_left
 . have ee:N0 d day=F4 d:=by unfold N0;rw[if_neg e]
   exact Ret.condT (by rw[AYY e];rfl) (Ret.ok (.inl ⟨by rw[ee];exact e,by rw[ee]⟩))
 have hv:=code5_0.1 e;refine Ret.condF (by rw[AYc e];rfl) ?_;rw[within5,bindS];cases C:inB 0 100000 day with
 |false=>
  have ee:N0 d day=2:=by unfold N0;rw[AYf e,C];rfl
  exact Ret.condT rfl (Ret.ok (.inl ⟨by rw[ee];decide,by rw[ee]⟩))
 |true=>
  have ee:N0 d day=0:=codeE_0.2 ⟨hv,C9 C⟩
  refine Ret.condF rfl ?_
  by_cases H:AskV asked
  rotate_left
  . obtain⟨b,I,V⟩:=ASX J
    cases b with
    |true=>exact absurd (V rfl) H
    |false=>rw[I,bindS];exact Ret.condT rfl (Ret.ok (.inr ⟨ee,.inl ⟨H,rfl⟩⟩))
  rw[ASb H,bindS]
  refine Ret.condF rfl (D0 (AJM hv) fun l hl=>?_)
  obtain⟨m,I,V,rfl⟩:=hl
  have D:=I.length_eq
  refine Ret.cond (fun c=>Ret.ok (.inr ⟨ee,.inr ⟨H,([],9),.inl ⟨?_,rfl⟩,.inl ⟨rfl,rfl⟩⟩⟩)) fun c=>?_
  . have c:=AYZ c
    rw[AYj]at c;omega
  . have c:=AYb c
    rw[AYj]at c
    have W:ADo d day (d.reports++m,0):=.inr ⟨by omega,m,I,V,rfl⟩
    have U:=ALU hv W rfl
    exact D0 (ANz hv H U (day:=day) (n0:=())) fun out E=>Ret.ok (.inr ⟨ee,.inr ⟨H,_,W,.inr ⟨rfl,rfl,E⟩⟩⟩)
theorem APK(h:NG d)(K:asked.length<=1000000):Ret (F1 d asked day) (LetA d asked day):=by
 obtain⟨D,C,hD⟩:=AJO h (day:=day);by_cases e:N0 d day=0;rotate_left
 . unfold F1;refine Ret.bind ?_;unfold Y7;rw[C,bindS];exact Ret.condT (by rw[AYY e];rfl) (Ret.ok (C1 (Ret.ok (.inl ⟨e,rfl⟩))))
 obtain⟨hv,hd⟩:=codeE_0.1 e;by_cases H:AskV asked
 . exact(APG hv H hd).mono fun r E=>.inr ⟨e,.inr ⟨H,E⟩⟩
 have bad:LetA d asked day ([],53):=.inr ⟨e,.inl ⟨H,rfl⟩⟩;unfold F1;refine Ret.bind ?_;unfold Y7;rw[C,bindS];refine Ret.condF (by rw[e];rfl) (Ret.bind (B3 asked.length (fun n (t:Int×Int)=>t.2=n/\-1<=t.1/\t.1<=999999/\(∀a∈asked.take n,(0<=a.id/\a.id<=999999)/\(0<=a.who/\a.who<=999999)/\(0<=a.account/\a.account<=999999)/\(0<=a.day/\a.day<=100000))/\(∀(m:Nat) (h:m+1<asked.length),m+1<n->asked[m].id<asked[m+1].id)/\∀(m:Nat) (h:m<asked.length),n=m+1->t.1=asked[m].id) ⟨rfl,by decide,by decide,fun a H=>by simp at H,fun m h hm=>by omega,fun m h hm=>by omega⟩ ?_ ?_))
 . rintro n J ⟨p,_⟩ ⟨rfl,V,U,I,W,hl⟩;dsimp only at V U hl;refine Ret.condT (K5 J) (Ret.bind (C0 J (Ret.bind (Ret.mono (Q:=fun b:Bool=>b=false->((p+1<=asked[n].id/\asked[n].id<=999999)/\(0<=asked[n].who/\asked[n].who<=999999)/\(0<=asked[n].account/\asked[n].account<=999999)/\(0<=asked[n].day/\asked[n].day<=100000))) ?_ fun b F=>?_))))
   . refine Ret.bind (Ret.chk (by omega) ?_);rw[d_in1,bindS];refine Ret.cond (fun _=>Ret.ok fun h=>by cases h) fun v1=>?_;have v1:=C9 (by simpa using v1);rw[d_in2,bindS];refine Ret.cond (fun _=>Ret.ok fun h=>by cases h) fun v2=>?_;have v2:inB 0 999999 asked[n].who=true/\inB 0 999999 asked[n].account=true:=by simpa using v2
     rw[d_in1,bindS];refine Ret.ok fun v3=>⟨v1,C9 v2.1,C9 v2.2,C9 (by simpa using v3)⟩
   . cases b with
     |true=>exact Ret.condT rfl (Ret.done (C1 (Ret.ok (C1 (Ret.ok bad)))))
     |false=>
      obtain⟨v1,v2,v3,v4⟩:=F rfl
      refine Ret.condF rfl (Ret.bind (Ret.chk (by omega) (Ret.next ⟨by dsimp only;omega,by dsimp only;omega,by dsimp only;omega,fun a H=>?_,fun m h hm=>?_,fun m h hm=>?_⟩)))
      . rw[B6 J]at H
        rcases H with H|rfl
        . exact I a H
        . exact⟨⟨by omega,by omega⟩,v2,v3,v4⟩
      . by_cases em:m+1=n
        . subst em
          have:=hl m (by omega) rfl
          omega
        . exact W m h (by omega)
      . have:m=n:=by omega
        subst this;rfl
 . rintro⟨p,_⟩ ⟨rfl,V,U,I,W,hl⟩;rw[AYo]at I;refine Ret.condF (K6 (AYh _)) (Ret.done (B8 (Ret.cond (fun _=>Ret.ok (C1 (Ret.ok bad))) fun c=>?_)));have c:=AYb c;exact absurd ⟨by omega,I,fun m h=>W m h h⟩ H
theorem APL(h:NG d):ABU d d=some true:=by
 have hx:=h.x;have I:=h.a;refine Ret.eq ?_;unfold ABU;refine Ret.bind (Ret.condF (by simp) ?_);rw[AFd h.r,bindS];refine Ret.condF rfl (Ret.condF (by simp) (Ret.ok ?_));rw[AYc rfl];refine Ret.condF rfl (Ret.bind (B3 d.disputes.length (fun n (t:Int)=>t=n) rfl ?_ ?_))
 . rintro n H _ rfl;exact Ret.condT (K5 H) (Ret.bind (C0 H (Ret.bind (C0 H (Ret.condF (by simp) (Ret.bind (Ret.chk (by omega) (Ret.next (by omega)))))))))
 . rintro _ rfl;refine Ret.condF (K6 (AYh _)) (Ret.done (B8 (Ret.bind (B3 d.answers.length (fun n (t:Int)=>t=n) rfl ?_ ?_))))
   . rintro n H _ rfl;exact Ret.condT (K5 H) (Ret.bind (C0 H (Ret.bind (C0 H (Ret.condF (by simp) (Ret.bind (Ret.chk (by omega) (Ret.next (by omega)))))))))
   . rintro _ rfl;exact Ret.condF (K6 (AYh _)) (Ret.done (B8 (Ret.ok rfl)))
theorem AHC(F:InD d):U1 d asked day=some true:=by
 refine Ret.eq ?_;unfold U1;refine Ret.bind (D0 (Q':=fun b:Bool=>b=false->d.reports.length<=80/\d.disputes.length<=30/\d.answers.length<=60) ?_ fun b T=>?_)
 . unfold ACI;refine Ret.bind (Ret.cond (fun _=>Ret.ok (Ret.ok fun h=>by cases h)) fun c1=>Ret.cond (fun _=>Ret.ok (Ret.ok fun h=>by cases h)) fun c2=>Ret.ok (Ret.ok fun c3=>?_));have c1:=AYb c1;have c2:=AYb c2;have c3:=AYb c3;exact⟨by omega,by omega,by omega⟩
 cases b with
 |true=>exact Ret.condT rfl (Ret.ok (Ret.condT rfl (Ret.ok rfl)))
 |false=>
 obtain⟨g1,g2,g3⟩:=T rfl;refine Ret.condF rfl (Ret.ok (Ret.cond (fun _=>Ret.ok rfl) fun c=>?_));have c:=AYb c;have Y:asked.length<=60:=by omega
 have H:NG d:=⟨F,by omega,by omega,by omega⟩;have D:ABT d=some d:=by
  unfold ABT;rw[AAR (by simp only[List.length_nil];omega) (by simp only[List.length_nil];omega),bindS,AAR (by simp only[List.length_nil];omega) (by simp only[List.length_nil];omega),bindS,AAR (by simp only[List.length_nil];omega) (by simp only[List.length_nil];omega),bindS];rfl
 rw[D,bindS,AAR (by simp only[List.length_nil];omega) (by simp only[List.length_nil];omega),bindS,AYq];refine D0 (AQh H) fun z Q=>D0 (AQi H) fun z' W=>?_;have e1:=W.uniq Q;subst e1;refine D0 (APK H (by omega)) fun y hy=>D0 (APJ H (by omega)) fun y' C=>?_;have e2:=C.uniq hy;subst e2;have J:z'.1.length<=1000000:=by
  rcases Q with⟨_,rfl⟩|⟨O,K⟩
  . exact AY0 _
  . exact ASZ (codeE_0.1 O).1 K
 have U:y'.1.length<=1000000:=by
  rcases hy with⟨_,rfl⟩|⟨O,⟨_,rfl⟩|⟨K,A⟩⟩
  . exact AY0 _
  . exact AY0 _
  . exact AUW (codeE_0.1 O).1 K.len A
 obtain⟨a,e⟩:=z';obtain⟨l,g⟩:=y';dsimp only at J U ⊢;refine Ret.bind ?_;rw[AFd J,bindS];refine Ret.condT rfl (Ret.condT (AYc rfl) ?_);rw[ALV U,bindS];refine Ret.condT rfl (Ret.ok ?_);rw[AYc rfl];refine Ret.bind (B3 a.length (fun n (t:Int×List Report)=>t.1=n/\t.2.length=a.length) ⟨rfl,rfl⟩ ?_ ?_)
 . rintro n I ⟨_,s⟩ ⟨rfl,E⟩;dsimp only at E;have V:n<s.length:=by omega
   exact Ret.condT (K5 I) (Ret.bind (C0 V (Ret.bind (Ret.seto V (Ret.bind (Ret.chk (by omega) (Ret.next ⟨by dsimp only;omega,by dsimp only;rw[AZ3];exact E⟩)))))))
 rintro⟨_,s⟩ ⟨rfl,E⟩;refine Ret.condF (K6 (AYh _)) (Ret.done (Ret.bind (B3 asked.length (fun n (t:Bool×Int)=>t=(true,(n:Int))) rfl ?_ ?_)))
 . rintro n I _ rfl;refine Ret.condT (K5 I) (Ret.bind (Ret.condT rfl (Ret.bind (C0 I (Ret.bind (C0 I (Ret.ok (Ret.bind (Ret.chk (by omega) (Ret.next ?_))))))))));rw[AYc rfl,show(n:Int)+1=((n+1:Nat):Int) by omega]
 . rintro _ rfl;refine Ret.condF (K6 (AYh _)) (Ret.done (Ret.bind (Ret.condT rfl ?_)));rw[APL H,bindS];exact Ret.ok (Ret.ok rfl)
end S
end Go.Proofs.YtgioiejbphljoaaGreatDoor
end
