/-
  Part 8 of the texts that the statement's proof stands on: what memory holds, how code is walked, what the functions reckon. In the order in which they build.
-/
import Derived.Shelf.Spec.SlicesGrow
import Derived.Test.YtgioiejbphljoaaGreatDoorDg7
set_option linter.unusedVariables false
set_option linter.unusedSectionVars false
set_option maxRecDepth 20000
set_option maxHeartbeats 1000000
set_option linter.unusedVariables false
namespace Go.Proofs.YtgioiejbphljoaaGreatDoor
open Go Go.Sx Go.Rx
namespace S
def AId (l:List Report):Prop:=∀ a∈l,∀ b∈l,a.id=b.id->a=b
structure VL (l:List Report):Prop where
 len:l.length<=60
 v:∀ r∈l,V r
 cons:AId l
theorem AP4 {l:List Report} (hk:∀ r∈l,0<=r.kind/\r.kind<=255):Ret (AAt l) fun e=>e=0->VL l:=by
 unfold AAt
 refine Ret.cond (fun _=>Ret.ok fun h=>by cases h) fun c1=>?_
 have c1:=of_decide_eq_false c1
 refine Ret.bind (C2 l.length (fun n (t:Int)=>t=n/\∀ r∈l.take n,V r) ⟨rfl,fun r hr=>by simp at hr⟩ ?_ ?_)
 . rintro n hlt _ ⟨rfl,hv⟩
   refine Ret.condT (V7 hlt) (Ret.bind (K2 hlt (Ret.bind ((ARx (hk _ (List.getElem_mem hlt))).mono fun b hb=>?_))))
   cases b with
   |false=>exact Ret.condT rfl (Ret.done (D6 (Ret.ok fun h=>by cases h)))
   |true=>
    refine Ret.condF rfl (Ret.bind (Ret.chk (by omega) (Ret.next ⟨by omega,fun r hr=>?_⟩)))
    rw[E7 hlt] at hr
    rcases hr with hr|rfl
    . exact hv r hr
    . exact hb rfl
 rintro _ ⟨rfl,hv⟩
 rw[List.take_length] at hv
 refine Ret.condF (Y6 (Nat.le_refl _)) (Ret.done (B8 (Ret.bind (C2 l.length (fun n (t:Int)=>t=n/\AId (l.take n)) ⟨rfl,fun a ha=>by simp at ha⟩ ?_ ?_))))
 . rintro n hlt _ ⟨rfl,hc⟩
   refine Ret.condT (V7 hlt) (Ret.bind (C2 n (fun m (t:Int)=>t=m/\∀ r∈l.take m,l[n].id=r.id->l[n]=r) ⟨rfl,fun r hr=>by simp at hr⟩ ?_ ?_))
   . rintro m hm _ ⟨rfl,hq⟩
     have hml:m < l.length:=by omega
     refine Ret.condT (decide_eq_true (by omega)) (Ret.bind (Ret.bind (K2 hlt (Ret.bind (K2 hml (Ret.cond (fun h1=>?_) fun h1=>?_))))))
     . refine Ret.bind (K2 hlt (Ret.bind (K2 hml (Ret.ok ?_))))
       by_cases e:l[n]=l[m]
       . refine Ret.condF (by rw[decide_eq_true e];rfl) (Ret.bind (Ret.chk (by omega) (Ret.next ⟨by omega,fun r hr hi=>?_⟩)))
         rw[E7 hml] at hr
         rcases hr with hr|rfl
         . exact hq r hr hi
         . exact e
       . exact Ret.condT (by rw[decide_eq_false e];rfl) (Ret.done (D6 (Ret.done (D6 (Ret.ok fun h=>by cases h)))))
     . have h1:=of_decide_eq_false h1
       refine Ret.ok (Ret.condF rfl (Ret.bind (Ret.chk (by omega) (Ret.next ⟨by omega,fun r hr hi=>?_⟩))))
       rw[E7 hml] at hr
       rcases hr with hr|rfl
       . exact hq r hr hi
       . exact absurd hi h1
   . rintro _ ⟨rfl,hq⟩
     refine Ret.condF (decide_eq_false (by omega)) (Ret.done (B8 (Ret.bind (Ret.chk (by omega) (Ret.next ⟨by omega,fun a ha b hb hab=>?_⟩)))))
     rw[E7 hlt] at ha hb
     rcases ha with ha|rfl <;> rcases hb with hb|rfl
     . exact hc a ha b hb hab
     . exact (hq a ha hab.symm).symm
     . exact hq b hb hab
     . rfl
 . rintro _ ⟨rfl,hc⟩
   rw[List.take_length] at hc
   exact Ret.condF (Y6 (Nat.le_refl _)) (Ret.done (B8 (Ret.ok fun _=>⟨by omega,hv,hc⟩)))
theorem AD8 {l:List Report} (h:VL l):K8 l=some 0:=by
 refine Ret.eq ?_
 unfold K8
 have hl:=h.len
 refine Ret.condF (decide_eq_false (by omega)) ?_
 have h1:Q0 l (fun a1=>Z0 a1)=some (l.any fun _=>false):=ANK (fun r hr=>by
  show Option.bind (S9 r) _=_
  rw[ARw (h.v r hr),bindS];rfl) (by omega)
 rw[h1,bindS]
 refine Ret.condF (by simp) (Ret.bind (C2 l.length (fun n (t:Int×A3 Int Report)=>t.1=n/\∀ i r,t.2 i=some r->r∈l.take n/\r.id=i) ⟨rfl,fun i r hr=>by cases hr⟩ ?_ ?_))
 . rintro n hlt ⟨_,m⟩ ⟨rfl,hm⟩
   dsimp only at hm
   refine Ret.condT (V7 hlt) (Ret.bind (K2 hlt (Ret.bind (Ret.val (a:=false) ?_ (Ret.condF rfl (Ret.bind (Ret.chk (by omega) (Ret.next ⟨by dsimp only;omega,fun i r hr=>?_⟩))))))))
   . cases hq:m l[n].id with
     |none=>rfl
     |some y=>
      obtain⟨h2,h3⟩:=hm _ _ hq
      have:y=l[n]:=h.cons y (List.mem_of_mem_take h2) _ (List.getElem_mem hlt) h3
      show some (!decide (y=l[n]))=_
      rw[decide_eq_true this];rfl
   . dsimp only[B5] at hr
     rw[E7 hlt]
     split at hr
     . rename_i e
       cases hr;exact⟨.inr rfl,e.symm⟩
     . obtain⟨h2,h3⟩:=hm _ _ hr
       exact⟨.inl h2,h3⟩
 . rintro⟨_,m⟩ ⟨rfl,hm⟩
   exact Ret.condF (Y6 (Nat.le_refl _)) (Ret.done (B8 (Ret.ok rfl)))
def Z9 (l:List Report) (i:Int):Option Report:=match l.find? fun r=>decide (r.id=i) with
 |some f=>if f.kind<=7 then some f else none
 |none=>none
theorem AME {α:Type} {l:List α} {g:α->Bool} {n:Nat} (hn:n < l.length) (h:g l[n]=true) (hp:∀ x∈l.take n,g x=false):l.find? g=some l[n]:=by
 have e:l=l.take n++l[n] :: l.drop (n+1):=by rw[List.getElem_cons_drop hn,List.take_append_drop]
 have:∀ (p q:List α) (x:α),(∀ y∈p,g y=false)->g x=true->(p++x :: q).find? g=some x:=by
  intro p q x hp hx
  rw[List.find?_append,List.find?_eq_none.2 (fun y hy=>by rw[hp y hy];decide)]
  simp[List.find?,hx]
 conv=>lhs;rw[e]
 exact this _ _ _ hp h
theorem AMF {α:Type} {l:List α} {g:α->Bool} (hp:∀ x∈l,g x=false):l.find? g=none:=List.find?_eq_none.2 fun y hy=>by rw[hp y hy];decide
theorem At3 {l:List Report} {i:Int}:ACd l i=AG9 l fun r=>some (decide (r.id=i)):=rfl
theorem At5 {d:Desk} {i:Int}:ACc d i=AG9 d.disputes fun r=>some (decide (r.id=i)):=rfl
theorem AOh {l:List Report} (hl:l.length<=1000000) {i:Int} {Q:Int->Prop} (h1:Z9 l i=none->Q (-1)) (h2:∀ (n:Nat) (hn:n < l.length),Z9 l i=some l[n]->Q n):Ret (AAI l i) Q:=by
 unfold AAI
 rw[At3]
 refine Ret.bind (AEl (fun _ _=>rfl) hl (fun h=>?_) fun n hn h hp=>?_)
 . exact Ret.bind (Ret.condF (by decide) (Ret.ok (Ret.condF rfl (Ret.ok (h1 (by unfold Z9;rw[AMF h]))))))
 . have hf:Z9 l i=if l[n].kind<=7 then some l[n] else none:=by unfold Z9;rw[AME hn h hp]
   refine Ret.bind (Ret.condT (decide_eq_true (by omega)) (Ret.bind (K2 hn (Ret.ok ?_))))
   refine Ret.cond (fun h3=>Ret.ok (h1 ?_)) fun h3=>Ret.ok (h2 n hn ?_)
   . have h3:=of_decide_eq_true h3
     rw[hf,if_neg (by omega)]
   . have h3:=of_decide_eq_false h3
     rw[hf,if_pos (by omega)]
theorem V1 {l:List Report} {i:Int} {f:Report} (h:Z9 l i=some f):f∈l/\f.id=i/\f.kind<=7:=by
 unfold Z9 at h
 split at h
 . rename_i g hg
   split at h
   . cases h
     exact⟨List.mem_of_find?_eq_some hg,of_decide_eq_true (List.find?_some (p:=fun r:Report=>decide (r.id=i)) hg),by assumption⟩
   . cases h
 . cases h
theorem ATf {l:List Report} (hc:AId l) {f:Report} (h:f∈l) (hk:f.kind<=7):Z9 l f.id=some f:=by
 unfold Z9
 cases hg:l.find? fun r=>decide (r.id=f.id) with
 |none=>exact absurd (decide_eq_true rfl) (List.find?_eq_none.1 hg f h)
 |some g=>
  have:g=f:=hc g (List.mem_of_find?_eq_some hg) f h (of_decide_eq_true (List.find?_some (p:=fun r:Report=>decide (r.id=f.id)) hg))
  subst this
  show (if g.kind<=7 then some g else none)=_
  rw[if_pos hk]
def TV (t:Terms):Prop:=(0<=t.answer/\t.answer<=1000)/\(0<=t.mark/\t.mark<=100000)/\(0<=t.lately/\t.lately<=100000)
def XV (d:Desk) (x:Dispute):Prop:=(0<=x.id/\x.id<=999999)/\(∀ r∈d.reports,r.id≠x.id)/\∃ f,Z9 d.reports x.report=some f/\f.made<=x.day/\x.day<=100000 - d.terms.answer - 1
structure DV (d:Desk):Prop where
 len:d.disputes.length<=20
 v:∀ x∈d.disputes,XV d x
 nd:(d.disputes.map (·.id)).Nodup
theorem AQm {α:Type} {l:List α} {k:α->Int} (h:∀ (n:Nat) (hn:n < l.length),∀ x∈l.take n,k x≠k l[n]):(l.map k).Nodup:=by
 rw[List.Nodup,List.pairwise_map,List.pairwise_iff_getElem]
 intro i j hi hj hij
 exact h j hj _ (List.mem_take_iff_getElem.2 ⟨i,by omega,rfl⟩)
theorem ANL {d:Desk} (hl:d.reports.length<=1000000) (hld:d.disputes.length<=1000000) (ht:TV d.terms) (hr:VL d.reports):Ret (X2 d) fun b=>b=true->DV d:=by
 unfold X2
 obtain⟨t1,t2,t3⟩:=ht
 refine Ret.cond (fun _=>Ret.ok fun h=>by cases h) fun c1=>?_
 have c1:=of_decide_eq_false c1
 refine Ret.bind (C2 d.disputes.length (fun n (t:Int)=>t=n/\(∀ x∈d.disputes.take n,XV d x)/\∀ (m:Nat) (hm:m < n) (hml:m < d.disputes.length),∀ x∈d.disputes.take m,x.id≠d.disputes[m].id) ⟨rfl,fun r hr=>by simp at hr,fun m hm=>by omega⟩ ?_ ?_)
 . rintro n hlt _ ⟨rfl,hv,hn⟩
   have bad:∀ {o:Option (Int⊕(Unit⊕Bool))} {N:Int->Prop},Ret (cond true (some (Sum.inr (Sum.inr false))) o) (Nxt N (fun a=>Ret (Sum.elim (fun _=>some true) (fun r27=>some r27) a) fun b=>b=true->DV d)):=fun {o N}=>Ret.condT rfl (Ret.done (D6 (Ret.ok fun h=>by cases h)))
   refine Ret.condT (V7 hlt) (Ret.bind (K2 hlt (Ret.bind ?_)))
   rw[within5,bindS]
   refine Ret.no bad fun c2=>?_
   have c2:=G3 c2
   rw[At5]
   refine Ret.bind (AEl (fun _ _=>rfl) hld (fun h=>Ret.condT (by rw[decide_eq_false (by omega)];rfl) (Ret.ok bad)) fun k hk h hp=>?_)
   by_cases e:k=n
   rotate_left
   . exact Ret.condT (by rw[decide_eq_false (by omega)];rfl) (Ret.ok bad)
   subst e
   refine Ret.condF (by rw[decide_eq_true rfl];rfl) ?_
   rw[At3]
   refine Ret.bind (AEl (fun _ _=>rfl) hl (fun h2=>Ret.ok ?_) fun m hm _ _=>Ret.ok ?_)
   rotate_left
   . rw[decide_eq_true (by omega:(0:Int)<=(m:Int))];exact bad
   refine Ret.condF (by decide) (Ret.bind (AOh hl (fun h3=>Ret.bind (Ret.condT (by decide) (Ret.ok bad))) fun m hm h3=>Ret.bind (Ret.condF (decide_eq_false (by omega)) (Ret.bind (K2 hm (Ret.bind (Ret.chk (by omega) (Ret.bind (Ret.chk (by omega) ?_)))))))))
   rw[within5,bindS]
   refine Ret.last bad fun c4=>?_
   have c4:=G3 c4
   refine Ret.condF rfl (Ret.bind (Ret.chk (by omega) (Ret.next ⟨by omega,fun x hx=>?_,fun j hj hjl=>?_⟩)))
   . rw[E7 hlt] at hx
     rcases hx with hx|rfl
     . exact hv x hx
     . exact⟨c2,fun r hr=>of_decide_eq_false (h2 r hr),_,h3,c4.1,c4.2⟩
   . by_cases e:j < k
     . exact hn j e hjl
     . have:j=k:=by omega
       subst this
       exact fun x hx=>of_decide_eq_false (hp x hx)
 . rintro _ ⟨rfl,hv,hn⟩
   rw[List.take_length] at hv
   exact Ret.condF (Y6 (Nat.le_refl _)) (Ret.done (B8 (Ret.ok fun _=>⟨by omega,hv,AQm fun n hn2=>hn n hn2 hn2⟩)))
def AV (d:Desk) (a:Answer):Prop:=(0<=a.id/\a.id<=999999)/\(0<=a.day/\a.day<=100000)/\(1<=a.says/\a.says<=3)/\∃ x∈d.disputes,x.id=a.dispute/\(a.says≠2->a.about=0/\a.cents=0)/\(a.says=2->∀ f,Z9 d.reports x.report=some f->(0<=a.about/\a.about<=100000)/\0<=a.cents/\a.cents<=most f.kind)
structure WV (d:Desk):Prop where
 len:d.answers.length<=40
 v:∀ a∈d.answers,AV d a
 nd:(d.answers.map (·.id)).Nodup
theorem AOi {d:Desk} (hs:∀ a∈d.answers,0<=a.says/\a.says<=255) (hr:VL d.reports) (hd:DV d):Ret (Z8 d) fun b=>b=true->WV d:=by
 unfold Z8
 have hrl:=hr.len
 have hdl:=hd.len
 refine Ret.cond (fun _=>Ret.ok fun h=>by cases h) fun c1=>?_
 have c1:=of_decide_eq_false c1
 refine Ret.bind (C2 d.answers.length (fun n (t:Int)=>t=n/\(∀ x∈d.answers.take n,AV d x)/\∀ (m:Nat) (hm:m < n) (hml:m < d.answers.length),∀ x∈d.answers.take m,x.id≠d.answers[m].id) ⟨rfl,fun r hr=>by simp at hr,fun m hm=>by omega⟩ ?_ ?_)
 . rintro n hlt _ ⟨rfl,hv,hn⟩
   refine Ret.condT (V7 hlt) (Ret.bind (Ret.bind (K2 hlt (Ret.bind (C2 n (fun m (t:Int)=>t=m/\∀ r∈d.answers.take m,r.id≠d.answers[n].id) ⟨rfl,fun r hr=>by simp at hr⟩ ?_ ?_)))))
   . rintro m hm _ ⟨rfl,hq⟩
     have hml:m < d.answers.length:=by omega
     refine Ret.condT (decide_eq_true (by omega)) (Ret.bind (K2 hml (Ret.cond (fun h1=>?_) fun h1=>?_)))
     . exact Ret.done (D6 (Ret.ok (D6 (Ret.done (D6 (Ret.ok fun h=>by cases h))))))
     . refine Ret.bind (Ret.chk (by omega) (Ret.next ⟨by omega,fun r hr=>?_⟩))
       rw[E7 hml] at hr
       rcases hr with hr|rfl
       . exact hq r hr
       . exact of_decide_eq_false h1
   rintro _ ⟨rfl,hq⟩
   refine Ret.condF (decide_eq_false (by omega)) (Ret.done (B8 (Ret.bind ?_)))
   have bad:∀ {o:Option (Unit⊕Bool)} {N:Int->Prop},Ret (cond true (some (Sum.inr false)) o) fun a=>Ret (Sum.elim (fun _=>Option.bind (chk .i64 ((n:Int)+1)) fun n68=>some (Sum.inl n68)) (fun r69=>(some (Sum.inr (Sum.inr r69)):Option (Int⊕(Unit⊕Bool)))) a) (Nxt N (fun a=>Ret (Sum.elim (fun (_:Unit)=>some true) (fun r70=>some r70) a) fun b=>b=true->WV d)):=fun {o N}=>Ret.condT rfl (Ret.ok (D6 (Ret.done (D6 (Ret.ok fun h=>by cases h)))))
   rw[within5,bindS]
   refine Ret.no bad fun c2=>?_
   rw[within5,bindS]
   refine Ret.no bad fun c3=>Ret.bind (Ret.chk (by have:=hs _ (List.getElem_mem hlt);omega) ?_)
   rw[within5,bindS]
   refine Ret.last bad fun c4=>Ret.condF rfl ?_
   have c2:=G3 c2;have c3:=G3 c3;have c4:=G3 c4
   have fin:(∃ x∈d.disputes,x.id=d.answers[n].dispute/\(d.answers[n].says≠2->d.answers[n].about=0/\d.answers[n].cents=0)/\(d.answers[n].says=2->∀ f,Z9 d.reports x.report=some f->(0<=d.answers[n].about/\d.answers[n].about<=100000)/\0<=d.answers[n].cents/\d.answers[n].cents<=most f.kind))->Ret (Sum.elim (fun _=>Option.bind (chk .i64 ((n:Int)+1)) fun n68=>some (Sum.inl n68)) (fun r69=>some (Sum.inr (Sum.inr r69))) (Sum.inl ():Unit⊕Bool)) (Nxt (fun (t:Int)=>t=((n+1:Nat):Int)/\(∀ x∈d.answers.take (n+1),AV d x)/\∀ (m:Nat) (hm:m < n+1) (hml:m < d.answers.length),∀ x∈d.answers.take m,x.id≠d.answers[m].id) (fun a=>Ret (Sum.elim (fun (_:Unit)=>some true) (fun r70=>some r70) a) fun b=>b=true->WV d)):=fun hx=>by
    refine B8 (Ret.bind (Ret.chk (by omega) (Ret.next ⟨by omega,fun x hx2=>?_,fun j hj hjl=>?_⟩)))
    . rw[E7 hlt] at hx2
      rcases hx2 with hx2|rfl
      . exact hv x hx2
      . exact⟨c2,c3,c4,hx⟩
    . by_cases e:j < n
      . exact hn j e hjl
      . have:j=n:=by omega
        subst this
        exact hq
   rw[At5]
   refine Ret.bind (AEl (fun _ _=>rfl) (by omega) (fun h=>Ret.condT (by decide) (Ret.ok (D6 (Ret.done (D6 (Ret.ok fun h=>by cases h)))))) fun k hk h hp=>Ret.condF (decide_eq_false (by omega)) ?_)
   have h:=of_decide_eq_true h
   refine Ret.cond (fun h1=>?_) fun h1=>?_
   . have h1:¬ d.answers[n].says=2:=of_decide_eq_false (by simpa using h1)
     refine Ret.bind (Ret.cond (fun _=>Ret.ok bad) fun h2=>Ret.ok ?_)
     have h2:d.answers[n].about=0:=by simpa using h2
     by_cases h3:d.answers[n].cents=0
     . exact Ret.condF (by rw[decide_eq_true h3];rfl) (Ret.ok (fin ⟨_,List.getElem_mem hk,h,fun _=>⟨h2,h3⟩,fun h=>absurd h h1⟩))
     . rw[decide_eq_false h3];exact bad
   . have h1:d.answers[n].says=2:=by simpa using h1
     obtain⟨_,_,f,hf,_⟩:=hd.v _ (List.getElem_mem hk)
     refine Ret.bind (K2 hk (Ret.bind (AOh (by omega) (fun h3=>by rw[hf] at h3;cases h3) fun m hm h3=>Ret.bind (K2 hm (Ret.bind ?_)))))
     rw[within5,bindS]
     refine Ret.no bad fun c5=>?_
     have c5:=G3 c5
     have hfk:=(V1 h3).2.2
     have hfv:=(hr.v _ (V1 h3).1).1
     rw[ATe (by omega),bindS]
     refine Ret.last bad fun c6=>Ret.condF rfl (Ret.ok (fin ⟨_,List.getElem_mem hk,h,fun h=>absurd h1 h,fun _ g hg=>?_⟩))
     rw[h3] at hg
     cases hg
     exact⟨c5,G3 c6⟩
 . rintro _ ⟨rfl,hv,hn⟩
   rw[List.take_length] at hv
   exact Ret.condF (Y6 (Nat.le_refl _)) (Ret.done (B8 (Ret.ok fun _=>⟨by omega,hv,AQm fun n hn2=>hn n hn2 hn2⟩)))
structure Vd (d:Desk):Prop where
 t:TV d.terms
 r:VL d.reports
 x:DV d
 a:WV d
structure InD (d:Desk):Prop where
 k:∀ r∈d.reports,0<=r.kind/\r.kind<=255
 s:∀ a∈d.answers,0<=a.says/\a.says<=255
theorem AP5 {d:Desk} (hin:InD d) (hlx:d.disputes.length<=1000000):Ret (AAv d) fun e=>e=0->Vd d:=by
 unfold AAv
 have bad:∀ {o:Option Int},Ret (cond true (some (50:Int)) o) fun e=>e=0->Vd d:=fun {o}=>Ret.condT rfl (Ret.ok fun h=>by cases h)
 rw[within5,within5,within5]
 refine Ret.bind ?_
 rw[bindS]
 refine Ret.no bad fun c1=>?_
 rw[bindS]
 refine Ret.no bad fun c2=>?_
 rw[bindS]
 refine Ret.last bad fun c3=>Ret.condF rfl ?_
 have ht:TV d.terms:=⟨G3 c1,G3 c2,G3 c3⟩
 refine E0 (AP4 hin.k) fun e he=>?_
 by_cases e0:e=0
 rotate_left
 . exact Ret.condT (by rw[decide_eq_false e0];rfl) (Ret.ok fun h=>absurd h e0)
 subst e0
 have hr:=he rfl
 refine Ret.condF (by decide) (E0 (ANL (by have:=hr.len;omega) hlx ht hr) fun b hb=>?_)
 cases b with
 |false=>exact Ret.condT rfl (Ret.ok fun h=>by cases h)
 |true=>
  have hx:=hb rfl
  refine Ret.condF rfl (E0 (AOi hin.s hr hx) fun b hb=>?_)
  cases b with
  |false=>exact Ret.condT rfl (Ret.ok fun h=>by cases h)
  |true=>exact Ret.condF rfl (Ret.ok fun _=>⟨ht,hr,hx,hb rfl⟩)
theorem AMG {d:Desk} (hin:InD d) {day:Int}:Ret (R3 d day) fun b=>b=true->Vd d/\0<=day/\day<=100000:=by
 unfold R3 ACI
 have no:Ret (some false) fun b=>b=true->Vd d/\0<=day/\day<=100000:=Ret.ok fun h=>by cases h
 refine Ret.bind (Ret.bind (Ret.bind (Ret.cond (fun _=>Ret.ok (Ret.ok (Ret.condF rfl (Ret.ok no)))) fun c1=>Ret.cond (fun _=>Ret.ok (Ret.ok (Ret.condF rfl (Ret.ok no)))) fun c2=>?_)))
 have c2:=of_decide_eq_false c2
 by_cases c3:(60:Int) < (d.answers.length:Int)
 . rw[decide_eq_true c3];exact Ret.ok (Ret.ok (Ret.condF rfl (Ret.ok no)))
 rw[decide_eq_false c3]
 refine Ret.ok (Ret.ok (Ret.condT rfl (E0 (AP5 hin (by omega)) fun e he=>Ret.cond (fun e0=>?_) fun _=>Ret.ok no)))
 refine Ret.cond (fun c4=>Ret.ok (Ret.ok fun c5=>⟨he (of_decide_eq_true e0),of_decide_eq_true c4,of_decide_eq_true c5⟩)) fun _=>Ret.ok no
end S
end Go.Proofs.YtgioiejbphljoaaGreatDoor
namespace Go.Proofs.YtgioiejbphljoaaGreatDoor
open Go Go.Sx Go.Rx
namespace frame
theorem AMH {α:Type} {E:Enc α} {p:α->Prop} (hE:∀ {M w cs x},E.R M w cs x->p x) {M:List Nat} {w:World} {v:Value} {xs:List α} (h:RdS E M w v xs):∀ x∈xs,p x:=fun r hr=>by
 obtain⟨a,c,_,_,_,h4⟩:=h
 rcases h4 with rfl|⟨b,o,_,_,_,h5⟩
 . cases hr
 . obtain⟨i,hi,rfl⟩:=List.getElem_of_mem hr
   obtain⟨cs,hR,_⟩:=h5 i hi
   exact hE hR
theorem inD {M:List Nat} {w:World} {cs:List Value} {d:Desk} (h:DeskE.R M w cs d):S.InD d:=by
 obtain⟨_,_,_,_,h⟩:=h
 obtain⟨_,_,_,_,h⟩:=h
 obtain⟨_,_,_,_,h⟩:=h
 obtain⟨_,_,_,⟨_,_,h1⟩,h⟩:=h
 obtain⟨_,_,_,_,⟨_,_,h2⟩⟩:=h
 exact⟨AMH (fun h=>by have:=(ReportE_R.1 h).2.2.2.2.2.2.1;rw[InK.u8] at this;exact this) h1,AMH (fun h=>by have:=(AnswerE_R.1 h).2.2.2.2.1;rw[InK.u8] at this;exact this) h2⟩
theorem bu8 {x:Int} (h:InK .u8 x):0<=x/\x<=255:=InK.u8.1 h
theorem ATh {α:Type} {E:Enc α} {M:List Nat} {w:World} {cs:List Value} {xs:List α} (h:(D9 E).R M w cs xs):xs.length<=9223372036854775807:=by
 obtain⟨v,_,a,c,_,h2,h3,_⟩:=h
 have:maxLen=9223372036854775807:=rfl
 omega
def DeskBE:Enc Desk:=Q5 (fun x=>(x.terms,(x.reports,(x.disputes,x.answers)))) (B2 TermsE (B2 (D9 ReportE) (B2 (D9 DisputeE) (D9 AnswerE))))
theorem AMI {M:List Nat} {w:World} {cs:List Value} {d:Desk} (h:DeskBE.R M w cs d):DeskE.R M w cs d:=by
 obtain⟨c1,c2,rfl,⟨d1,d2,rfl,h1,⟨d3,d4,rfl,h2,h3⟩⟩,h⟩:=h
 exact⟨d1,d3++(d4++c2),by simp,h1,⟨d3,d4++c2,rfl,h2,⟨d4,c2,rfl,h3,h⟩⟩⟩
end frame
end Go.Proofs.YtgioiejbphljoaaGreatDoor
set_option maxRecDepth 20000
set_option maxHeartbeats 4000000
namespace Go.Proofs.YtgioiejbphljoaaGreatDoor
open Go Go.Sx Go.Rx Go.RowKit
noncomputable def Z2 (d:Desk_139):Option (List Report×Int×Int):=AAg d.store.reports fun l21=>Option.bind (List.foldlM (m:=Option) (s:=((A3 Int Report))) (α:=Int×Report) (fun x14 (k15,v16)=>Option.bind (α:=(Int×Int)) (cond ((d.fixed k15).isSome) (some (((d.store.reports ((d.fixed k15).getD 0)).getD (Report.mk 0 0 0 0 0 0 0 0)).about,((d.store.reports ((d.fixed k15).getD 0)).getD (Report.mk 0 0 0 0 0 0 0 0)).cents)) (some (v16.about,v16.cents))) ((fun (x17,x18)=>Option.bind (D4 (Report.mk v16.id v16.source v16.account v16.made x17 v16.kind x18 v16.of_)) fun r19=>Option.bind (α:=((A3 Int Report))) (cond (r19) (some (B5 x14 k15 (Report.mk v16.id v16.source v16.account v16.made x17 v16.kind x18 v16.of_))) (some x14)) ((fun x20=>some x20))))) (fnone:(A3 Int Report)) l21) fun x22=>AAg d.gone fun l31=>Option.bind (List.foldlM (m:=Option) (s:=((A3 Int Report))) (α:=Int×Int) (fun x28 (k29,v30)=>some (AAB x28 k29)) x22 l31) fun x32=>AAg x32 fun l41=>Option.bind (List.foldlM (m:=Option) (s:=((List Report))) (α:=Int×Report) (fun x37 (k38,v39)=>Option.bind (appo 64 x37 ([v39])) fun l40=>some l40) ([]:(List Report)) l41) fun x42=>Option.bind (F0 ([(107:Nat),(108:Nat)]) x42) fun (_,m43)=>some (m43,(m43.length:Int),0)
def AK4:An:=.nd (.x) (.nd (.lp ⟨[(.cont 14,.own (.mp 3 (.int .i64) (.st 1)))],[14]⟩ [] (.nd (.nd (.x) (.nd (.x) (.jn [.norm ⟨[(.cell 5 4,.d (.int .i64)),(.cell 5 6,.d (.int .i64))],[5,14]⟩] (.x)))) (.nd (.x) (.jn [.norm ⟨[(.cont 14,.own (.mp 3 (.int .i64) (.st 1)))],[14]⟩] (.x))))) (.nd (.lp ⟨[(.cont 14,.own (.mp 3 (.int .i64) (.st 1)))],[14]⟩ [] (.x)) (.nd (.x) (.nd (.lp ⟨[(.slot 9,.own (.sl 45 (.st 1)))],[]⟩ [] (.x)) (.x)))))
noncomputable def T8 (l:List Report) (known:Int):Option ((List Report×Int)⊕(List Report×Int)):=Option.bind (K8 l) fun r1=>cond ((!decide (r1=0))) (some (Sum.inr (([]:(List Report)),r1))) (Option.bind (J0 (0:Int) (100000:Int) ([known])) fun r2=>cond ((!r2)) (some (Sum.inr (([]:(List Report)),(2:Int)))) (some (Sum.inl (l,known))))
def AMJ:An:=.x
noncomputable def T2 (d:Desk):Option (A3 Int Report):=Option.bind (B6 (S:=(Int×(A3 Int Report))) (R:=((A3 Int Report))) (fun (x10,x11)=>cond (decide (x10 < (d.reports.length:Int))) (Option.bind (ixo d.reports x10) fun y12=>Option.bind (α:=((A3 Int Report))) (cond (decide (y12.kind<=7)) (some (B5 x11 y12.id y12)) (some x11)) ((fun x13=>Option.bind (chk .i64 (x10+1)) fun n14=>some (Sum.inl (n14,x13))))) (some (Sum.inr x11))) ((0:Int),(fnone:(A3 Int Report)))) ((fun x15=>some (x15)))
def anpre70:An:=.nd (.x) (.nd (.x) (.nd (.x) (.lp ⟨[(.slot 19,.d (.int .i64)),(.cont 13,.own (.mp 3 (.int .i64) (.st 1)))],[4,14,13,2,1]⟩ [.exit 0 ⟨[(.cont 13,.own (.mp 3 (.int .i64) (.st 1)))],[4,14,13,2,1]⟩] (.nd (.x) (.nd (.x) (.nd (.nd (.x) (.nd (.x) (.jn [.norm ⟨[(.cont 13,.own (.mp 3 (.int .i64) (.st 1)))],[4,14,13,2,1]⟩] (.x)))) (.x)))))))
end Go.Proofs.YtgioiejbphljoaaGreatDoor
namespace Go.Rx
open Go Go.Sx Go.RowKit
def N4:Nat->Code->Code
 |0,.seq a _=>a
 |n+1,.seq a b=>.seq a (N4 n b)
 |_,c=>c
def AJc:Nat->Code->Code
 |0,.seq _ b=>b
 |n+1,.seq _ b=>AJc n b
 |_,_=>.skip
def AK5:Nat->Code->Bool
 |0,.seq _ _=>true
 |n+1,.seq a b=>(match AA3 a (N4 n b) with
  |some _=>false
  |none=>true)&&AK5 n b
 |_,_=>false
section
variable [Trk] [Sg] [Sf] {P:Program} [Se P] [Anch] {w0 w:World} {M:List Nat} {N:Nat} {Γ:Type} {pr:AS->Option Γ} {ds:List Deferred}
theorem ANM [Sl (P:=P)] {G:Gx} (hG:GxOk P G) (c:Code) (an:An) {Y:Type} {KN:AS->Option Y} {KR:Γ->Option Y} {σ:AS} {L:A7} {w:World} {z:Y} {A B:A4} {X:Nat->A4} {Z:List PanicEntry->A4} (h:exec G N pr c an KN (fun _ _=>none) KR σ=some z) (hH:Holds (P:=P) w0 [] M σ L w)
 (hA:∀ σ' L' w',KN σ'=some z->EnvS (D3 c++C8 an) L L'->Holds (P:=P) w0 [] M σ' L' w'->A ds L' w') (hB:∀ r σ' L' w',pr σ'=some r->KR r=some z->Holds (P:=P) w0 [] M σ' L' w'->B ds L' w'):CW P N c ds L w A B X Z:=
 AAV (n:=3) (ADB (I2 hG c an _ _ _ _ _ _ _ _ _ _ _ _ _ h hH (fun σ1 L1 w1 h1 _ hE1 hH1=>hA σ1 L1 w1 h1 hE1 hH1) (fun i σ2 L2 w2 h2=>by cases h2) (fun r σ2 L2 w2 h2 h3 _ hH2=>hB r σ2 L2 w2 h2 h3 hH2) PZ.no))
theorem ADG [Sl (P:=P)] {G:Gx} (hG:GxOk P G):∀ (n:Nat) (c:Code) (an:An) {Y:Type} {KN:AS->Option Y} {KR:Γ->Option Y} {σ:AS} {L:A7} {w:World} {z:Y} {A B:A4} {X:Nat->A4} {Z:List PanicEntry->A4},AK5 n c=true->X0 G N pr (N4 n c) an KN KR σ=some z->Holds (P:=P) w0 [] M σ L w ->
 (∀ σ' L' w',KN σ'=some z->EnvS (wrE (N4 n c) an) L L'->Holds (P:=P) w0 [] M σ' L' w'->CW P N (AJc n c) ds L' w' A B X Z)->(∀ r σ' L' w',pr σ'=some r->KR r=some z->Holds (P:=P) w0 [] M σ' L' w'->B ds L' w')->CW P N c ds L w A B X Z
 |0,.seq a b,an,Y,KN,KR,σ,L,w,z,A,B,X,Z,_,h,hH,hA,hB=>A6 (AG7 hG a an h hH hA hB)
 |n+1,.seq a b,an,Y,KN,KR,σ,L,w,z,A,B,X,Z,hc,h,hH,hA,hB=>by
  have hc:((match AA3 a (N4 n b) with
   |some _=>false
   |none=>true)&&AK5 n b)=true:=hc
  have h:(match AA3 a (N4 n b) with
   |some u=>mapM G N pr u an KN σ
   |none=>match ABm a with
    |true=>X0 G N pr a an.l (fun σ'=>X0 G N pr (N4 n b) an.r KN KR σ') KR σ
    |false=>exec G N pr a an.l (fun σ'=>X0 G N pr (N4 n b) an.r KN KR σ') (fun _ _=>none) KR σ)=some z:=h
  have hw:wrE (.seq a (N4 n b)) an=(match (generalizing:=false) AA3 a (N4 n b) with
   |some u=>match (generalizing:=false) an with
    |.lp hd _ l=>C4 u.pre++(u.t :: F6 u hd l)
    |_=>[]
   |none=>match (generalizing:=false) ABm a with
    |true=>wrE a an.l++wrE (N4 n b) an.r
    |false=>(D3 a++C8 an.l)++wrE (N4 n b) an.r):=rfl
  cases hu:AA3 a (N4 n b) with
  |some u=>rw[hu] at hc;cases hc
  |none=>
   rw[hu] at h hw hc
   simp only[Bool.true_and] at h hw hc
   cases ha:ABm a with
   |true=>
    rw[ha] at h hw
    exact A6 (AG7 hG a an.l h hH (fun σ1 L1 w1 h1 hE1 hH1=>ADG hG n b an.r hc h1 hH1 (fun σ2 L2 w2 h2 hE2 hH2=>hA σ2 L2 w2 h2 (by show EnvS (wrE (.seq a (N4 n b)) an) L L2;rw[hw];exact (hE1.mono fun t ht=>List.mem_append_left _ ht).trans (hE2.mono fun t ht=>List.mem_append_right _ ht)) hH2) hB) hB)
   |false=>
    rw[ha] at h hw
    exact A6 (ANM hG a an.l h hH (fun σ1 L1 w1 h1 hE1 hH1=>ADG hG n b an.r hc h1 hH1 (fun σ2 L2 w2 h2 hE2 hH2=>hA σ2 L2 w2 h2 (by show EnvS (wrE (.seq a (N4 n b)) an) L L2;rw[hw];exact (hE1.mono fun t ht=>List.mem_append_left _ ht).trans (hE2.mono fun t ht=>List.mem_append_right _ ht)) hH2) hB) hB)
 |0,.skip,_,_,_,_,_,_,_,_,_,_,_,_,h,_,_,_,_|0,.region _ _ _,_,_,_,_,_,_,_,_,_,_,_,_,h,_,_,_,_|0,.cond _ _ _,_,_,_,_,_,_,_,_,_,_,_,_,h,_,_,_,_|0,.loop _,_,_,_,_,_,_,_,_,_,_,_,_,h,_,_,_,_|0,.exit _,_,_,_,_,_,_,_,_,_,_,_,_,h,_,_,_,_|0,.ret,_,_,_,_,_,_,_,_,_,_,_,_,h,_,_,_,_
 |0,.scope _,_,_,_,_,_,_,_,_,_,_,_,_,h,_,_,_,_|0,.label _,_,_,_,_,_,_,_,_,_,_,_,_,h,_,_,_,_|0,.goto _,_,_,_,_,_,_,_,_,_,_,_,_,h,_,_,_,_|0,.refuse _,_,_,_,_,_,_,_,_,_,_,_,_,h,_,_,_,_|0,.block _ _,_,_,_,_,_,_,_,_,_,_,_,_,h,_,_,_,_|0,.rangeFunc _ _ _ _,_,_,_,_,_,_,_,_,_,_,_,_,h,_,_,_,_
 |_+1,.skip,_,_,_,_,_,_,_,_,_,_,_,_,h,_,_,_,_|_+1,.region _ _ _,_,_,_,_,_,_,_,_,_,_,_,_,h,_,_,_,_|_+1,.cond _ _ _,_,_,_,_,_,_,_,_,_,_,_,_,h,_,_,_,_|_+1,.loop _,_,_,_,_,_,_,_,_,_,_,_,_,h,_,_,_,_|_+1,.exit _,_,_,_,_,_,_,_,_,_,_,_,_,h,_,_,_,_|_+1,.ret,_,_,_,_,_,_,_,_,_,_,_,_,h,_,_,_,_
 |_+1,.scope _,_,_,_,_,_,_,_,_,_,_,_,_,h,_,_,_,_|_+1,.label _,_,_,_,_,_,_,_,_,_,_,_,_,h,_,_,_,_|_+1,.goto _,_,_,_,_,_,_,_,_,_,_,_,_,h,_,_,_,_|_+1,.refuse _,_,_,_,_,_,_,_,_,_,_,_,_,h,_,_,_,_|_+1,.block _ _,_,_,_,_,_,_,_,_,_,_,_,_,h,_,_,_,_|_+1,.rangeFunc _ _ _ _,_,_,_,_,_,_,_,_,_,_,_,_,h,_,_,_,_=>by cases h
theorem Holds.packed [Sl (P:=P)] {sh:Sh} {σ:AS} {L:A7} {w:World} {x:N6 sh.cs} (h:Holds (P:=P) w0 [] M σ L w) (hp:H8 sh σ=some x):Holds (P:=P) w0 [] M (B9 [] sh σ x) L w:=by
 obtain⟨S,ρ,γ,μ,ι,hS⟩:=h
 exact S7 hS (Rel.refl _) hp
end
theorem AK6 [Trk] [Sg] [Sf] {P:Program} [Se P] [Sl (P:=P)] [Anch] {G:Gx} (hG:GxOk P G) {f:Func} {cs:List Ck} {M:List Nat} {w:World} {r:I5 cs} (hn:Nat.ble cs.length 4=true) {σ':AS} {L':A7} {w':World} (h1:U9 G cs f.results.toList σ'=some r) (hH:Holds (P:=P) w [] M σ' L' w'):AB7 P f (fun e w'=>∃ vs,e=.returned (ACF vs)/\KsOk (P:=P) M (obK cs vs++M) w w' cs r vs/\Ext w w') [] L' w':=by
 obtain⟨S,ρ,γ,μ,ι,hS⟩:=hH
 unfold U9 at h1
 cases hk:okK (P8 G σ' cs f.results.toList) (ABf G σ' cs f.results.toList)&&npK cs (P8 G σ' cs f.results.toList) with
 |false=>rw[hk] at h1;exact (A2 h1).elim
 |true=>
  rw[hk] at h1
  simp only[Bool.and_eq_true] at hk
  obtain⟨vs,h2,h3,h4,h5⟩:=AGC hS hG (mv:=P8 G σ' cs f.results.toList) (AG6 h1) cs f.results.toList (fun _ h=>h) (AAT hk.1) hk.2 h1
  refine O1 (by simp) h2 (by rw[h3];exact hn) ⟨vs,by rw[AEj],h4 _ (fun b hb=>?_),?_⟩
  . exact (List.mem_append.1 hb).elim (h5 b) fun h=>mem_mm.2 (.inr h)
  . exact hS.hp.kp
end Go.Rx
set_option maxRecDepth 20000
set_option maxHeartbeats 4000000
namespace Go.Proofs.YtgioiejbphljoaaGreatDoor
open Go Go.Sx Go.Rx Go.RowKit
def ACJ (r:Report):List Value:=[.int .i64 r.id,.int .i64 r.source,.int .i64 r.account,.int .i64 r.made,.int .i64 r.about,.int .u8 r.kind,.int .i64 r.cents,.int .i64 r.of_]
def InR (r:Report):Prop:=InK .i64 r.id/\InK .i64 r.source/\InK .i64 r.account/\InK .i64 r.made/\InK .i64 r.about/\InK .u8 r.kind/\InK .i64 r.cents/\InK .i64 r.of_
noncomputable def ATi:Code:=match Tryz.f105.body with
 |some c=>c
 |none=>.skip
def AVl:Sh:=⟨[(.slot 72,.own (.sl 45 (.st 1))),(.slot 73,.d (.int .i64)),(.slot 74,.d (.int .i64))],[]⟩
noncomputable def AQo:Gx:={ gxb with fs:=[(72,ctr72),(107,ctr107),(108,ctr108)],fm:=[(106,ctrm106)] }
theorem AP6:GxOk Tryz.prog AQo:=AFb ⟨⟨ok72,Tryz.call72⟩,⟨⟨ok107,Tryz.call107⟩,⟨⟨ok108,Tryz.call108⟩,trivial⟩⟩⟩ trivial ⟨⟨okm106,Tryz.call106⟩,trivial⟩
noncomputable def M3 (d:Desk_139):Option (List Report):=Option.bind (Z2 d) fun x=>cond (decide (x.2.1=(x.1.length:Int))&&decide (x.2.2=0)) (some x.1) none
def DkOk (M:List Nat) (w:World) (v:Value) (d:Desk_139):Prop:=Ok (P:=Tryz.prog) (fun _=>undef) (fun _=>none) M w (.rp (.str 14 d) 0) v
theorem ATj (d:Desk_139):X0 AQo 83 (fun _=>(none:Option Unit)) (N4 5 ATi) AK4 (H8 AVl) (fun _=>none) ⟨[(1,.rp (.str 14 d) 0)],[],[],[]⟩=Z2 d:=by kernel_rfl
theorem AH3 {M:List Nat} {w:World} (hM:MLt M w) (hg:GlOk (P:=Tryz.prog) M w) {vp:Value} {d:Desk_139} (hd:DkOk M w vp d) {r0:List Report} (h:M3 d=some r0) {b2:Nat} (hb2:b2 < w.heap.size) (hg2:∀ g,gOf w b2=some g->g < w.heap.size) {n lp:Nat} {J Jx:List Report->World->Prop} (hJ:AbidesFrom w.heap.size J)
 (hY:∀ (pre:List Report) (x:Report) (W1:World),J pre W1->pre.length < r0.length->r0[pre.length]?=some x->YieldAt Fence.wide (n - 1) Tryz.prog lp #[.agg (ACJ x).toArray] W1 fun e W'=>(e=.returned (.bool true)/\J (pre++[x]) W'/\KB b2 W1 W')\/(e=.returned (.bool false)/\Jx (pre++[x]) W')) (h0:J [] w) :
 Calls Tryz.prog 105 (List.toArray [.func (.yield lp) #[] #[],vp]) w fun e W'=>(∃ v,e=.returned v)/\((∃ xs,xs=r0/\J xs W')\/(∃ pre,pre <+: r0/\Jx pre W')):=by
 unfold M3 at h
 obtain⟨⟨r1,p,q⟩,hp,h⟩:=R6 h
 obtain⟨hpq,rfl,rfl⟩:r1=r0/\p=(r0.length:Int)/\q=0:=by
  cases hc:(decide (p=(r1.length:Int))&&decide (q=0)) with
  |false=>rw[show (decide (p=(r1.length:Int))&&decide (q=0))=false from hc] at h;cases h
  |true=>
   rw[show (decide (p=(r1.length:Int))&&decide (q=0))=true from hc] at h
   have h:r1=r0:=Option.some.inj h
   simp only[Bool.and_eq_true,decide_eq_true_eq] at hc
   subst h
   exact⟨rfl,hc.1,hc.2⟩
 subst hpq
 have h0':Holds (P:=Tryz.prog) w [] M ⟨[(1,.rp (.str 14 d) 0)],[],[],[]⟩ [(0,.func (.yield lp) #[] #[]),(1,vp)] w:=by
  refine⟨[],fun _=>undef,fun _=>[],fun _=>[],fun _=>0,⟨Hp.start hM,(fun i a h=>by cases h),(fun i j a b h=>by cases h),(fun i a h=>by cases h),fun t s ht=>?_,⟨trivial,hg⟩⟩⟩
  rw[fnd_cons] at ht
  split at ht
  . rename_i e;subst e;cases ht;exact⟨vp,rfl,hd⟩
  . cases ht
 refine G7 (l:=[.func (.yield lp) #[] #[],vp]) (fn:=Tryz.f105) Tryz.func105 rfl rfl rfl ?_
 refine ADG (P:=Tryz.prog) (pr:=fun _=>(none:Option Unit)) AP6 5 ATi AK4 (by decide) ((ATj d).trans hp) h0' (fun σ' L' w1 hK hE hH=>?_) (fun r _ _ _ hr _ _=>by cases hr)
 have hH2:=hH.packed hK
 clear hH hK
 obtain⟨S,ρ,γ,μ,ι,hS⟩:=hH2
 obtain⟨v72,l72,e72,_⟩:=hS.env 72 (.own 72) rfl
 obtain⟨v73,l73,e73,_⟩:=hS.env 73 (.int .i64 (r1.length:Int)) rfl
 obtain⟨v74,l74,e74,_⟩:=hS.env 74 (.int .i64 0) rfl
 subst e73 e74
 have l0:Sx.A5 L' 0=some (.func (.yield lp) #[] #[]):=hE 0 (by decide)
 have hi72:S[ι 72]?=some (ownR [] ReportE 45 v72 r1):=by rw[e72];exact hS.res 72 _ rfl
 have hI:Hp w [] M S w1:=hS.hp
 have hRD:=hI.freeze _ hi72
 have hge_:∀ b∈ob v72,w.heap.size<=b:=fun b hb=>((hI.own _ (List.mem_of_getElem? hi72)).2 b hb).resolve_left (fun h=>by cases h)
 refine G6 ?_
 have hgB:∀ g,gOf w1 b2=some g->g < w.heap.size:=fun g hg=>(KB.of_ext hI.kp hb2).gof g hg |>.elim (hg2 g) fun h=>by
  have h5:gOf w b2=some g:=by
   unfold gOf at hg ⊢
   rw[World.cell?_of_block (a:=⟨b2,0,none⟩) (w:=w) (hI.kp.block b2 hb2 (by simp))] at hg
   exact hg
  exact hg2 g h5
 have hlen_:=RdS.inK hRD
 refine ASE (L:=[(74,_),(72,_),(73,_),(0,_)]) (Sub.cons l74 (Sub.cons l72 (Sub.cons l73 (Sub.cons l0 (Sub.nil _))))) ?_
 refine AO1 1 (ι:=Nat) (fun i=>[(74,.int .i64 i)]) (fun i W_=>i<=r1.length/\J (r1.take i) W_/\KB b2 w1 W_) (fun i=>r1.length - i) 0 ⟨Nat.zero_le _,hJ _ _ _ none h0 (Ext.grownBy hI.kp) (fun r hr=>by cases hr),KB.refl _ _⟩ (Sub.cons rfl (Sub.cons rfl (Sub.cons rfl (Sub.cons rfl (Sub.nil _))))) (fun i W_ hW_=>?_)
 obtain⟨hi,hJi,hKi⟩:=hW_
 refine A6 ?_
 refine A9 ?_
 refine AHK rfl rfl rfl ?_
 refine Reg.nil ?_
 refine A6 ?_
 refine AAN rfl (fun hc=>?_) (fun hc=>?_)
 . have hlt:i < r1.length:=by have:=of_decide_eq_true hc;omega
   refine O8 ?_
   refine A6 ?_
   refine G6 ?_
   obtain⟨b,o,c,cs,hv,hbM,hbl,hR,hC⟩:=hRD.at i hlt
   obtain⟨rfl,r0_,r1_,r2_,r3_,r4_,r5_,r6_,r7_⟩:=ReportE_R.1 hR
   obtain⟨_,_,hs_,hle_,_⟩:=(hRD).shape
   rw[hv] at hs_
   cases hs_
   obtain⟨c9,rfl⟩:∃ c9,c=c9+1:=⟨c - 1,by omega⟩
   have hbw:w.heap.size<=b:=hge_ b (by rw[hv];simp[ob])
   have hb2':b≠b2:=by omega
   have hbg:gOf w1 b2≠some b:=fun e=>by have:=hgB b e;omega
   have hCi:Cells W_ b (o+i * 8) (ACJ r1[i]):=fun j u hj=>hKi.cell b _ u hb2' hbg (hC j u hj)
   refine A6 ?_
   refine A9 ?_
   refine Reg.val (.pointer (some ⟨b,o+i * 8,none⟩)) rfl rfl rfl (fun a ha w9 _=>?_) ?_
   . have hx:ev [(73,Value.int IntKind.i64 (r1.length:Int)),(0,Value.func (.func 0) #[] #[])] (.tmp 73)=some (.int .i64 (r1.length:Int)):=rfl
     have h1:=ha.eval (x:=.tmp 72) (v:=v72) rfl
     have h2:=ha.eval (x:=.tmp 74) (v:=.int .i64 (i:Int)) rfl
     rw[hv] at h1
     have h3:(i:Int) < (r1.length:Int):=by omega
     simp[execOp,h1,h2,Instr.indexAt,asIntOf,run_underlying Tryz.underlying24,h3,Tryz.sizeOf45,add_none]
     intro h9_;exact absurd h9_ (by omega)
   refine ABF rfl hCi Tryz.isAgg45 rfl Tryz.sizeOf45 rfl ?_
   refine ASI Tryz.zeroValue45 rfl rfl (fun bt w3 hbt ex3 hlt3 hRt=>?_)
   have hRt':Row 45 w3 bt [.int .i64 0,.int .i64 0,.int .i64 0,.int .i64 0,.int .i64 0,.int .u8 0,.int .i64 0,.int .i64 0]:=hRt
   refine AO4 rfl rfl rfl hRt' Tryz.sizeOf45 rfl rfl (C9 rfl (C9 rfl (C9 rfl (C9 rfl (C9 rfl (C9 rfl (C9 rfl (C9 rfl ACm)))))))) (fun w4 hr4 hk4=>?_)
   have e24:Ext W_ w4:=ex3.tail hk4 fun c hc=>by
    have:c=bt:=by simpa using hc
    omega
   refine Reg.nil ?_
   have hr4':Row 45 w4 bt (ACJ r1[i]):=hr4
   have hJ4:J (r1.take i) w4:=hJ _ _ _ none hJi (Ext.grownBy e24) (fun r hr=>by cases hr)
   have hY4:=hY (r1.take i) r1[i] w4 hJ4 (by rw[List.length_take];omega) (by rw[List.length_take,Nat.min_eq_left (by omega)];exact List.getElem?_eq_getElem hlt)
   have htk:r1.take (i+1)=r1.take i++[r1[i]]:=by rw[List.take_add_one,List.getElem?_eq_getElem hlt];rfl
   have hK4:KB b2 w1 w4:=hKi.trans (KB.of_ext e24 (Nat.lt_of_lt_of_le hb2 (Nat.le_trans hI.kp.size hKi.size)))
   refine A6 ?_
   refine AIH n ?_
   refine Rgi.val (.func (.yield lp) #[] #[]) rfl rfl rfl rfl (fun a ha=>by simp[execOp,ha.eval (x:=.tmp 0) (v:=.func (.yield lp) #[] #[]) rfl]) ?_
   refine Rgi.val (.agg (ACJ r1[i]).toArray) rfl rfl rfl rfl (fun a ha=>by
    have:=run_loadCells_list (P:=Tryz.prog) w4 ⟨bt,0,none⟩ (ACJ r1[i]) (fun j v hj=>by rw[add_none];exact hr4'.rd.cells j v hj)
    have h9:=ha.eval (x:=.tmp 13) (v:=.pointer (some ⟨bt,0,none⟩)) rfl
    simp only[ACJ] at this ⊢
    simp at this
    simp[execOp,h9,Instr.loadAt,Instr.sureAddr,loadVar,Tryz.isAgg45,Tryz.sizeOf45,this]) ?_
   refine Rgi.yield rfl rfl rfl hY4 ?_
   rintro e w5 (⟨rfl,hJ5,hK5⟩|⟨rfl,hJ5⟩)
   . refine⟨_,rfl,?_⟩
     refine Rgi.val (.bool false) rfl rfl rfl rfl (fun a ha=>by
      have h9:=ha.eval (x:=.tmp 80) (v:=.bool true) rfl
      simp[execOp,h9,Op.unary]) ?_
     refine Rgi.nil ?_
     refine ABU rfl ?_
     refine O8 ?_
     refine A9 ?_
     refine AQP (n:=((i+1:Nat):Int)) rfl rfl rfl ⟨by omega,by rw[InK.i64] at hlen_ ⊢;omega⟩ ?_
     refine I4 rfl rfl ?_
     refine Reg.nil ?_
     exact⟨rfl,i+1,⟨by omega,by rw[htk];exact hJ5,hK4.trans hK5⟩,Sub.cons rfl (Sub.cons rfl (Sub.cons rfl (Sub.cons rfl (Sub.nil _)))),by omega⟩
   . refine⟨_,rfl,?_⟩
     refine Rgi.val (.bool true) rfl rfl rfl rfl (fun a ha=>by
      have h9:=ha.eval (x:=.tmp 80) (v:=.bool false) rfl
      simp[execOp,h9,Op.unary]) ?_
     refine Rgi.nil ?_
     refine ACn rfl ?_
     refine J7 ?_
     refine ASF Tryz.results105 ?_
     exact⟨⟨_,rfl⟩,.inr ⟨_,List.take_prefix (i+1) _,by rw[htk];exact hJ5⟩⟩
 . have hge:¬ (i:Int) < (r1.length:Int):=of_decide_eq_false hc
   have hi':i=r1.length:=by omega
   subst hi'
   refine ABT ?_
   refine T6 ?_
   refine ASF Tryz.results105 ?_
   exact⟨⟨_,rfl⟩,.inl ⟨_,rfl,by rwa [List.take_length] at hJi⟩⟩
end Go.Proofs.YtgioiejbphljoaaGreatDoor
set_option maxRecDepth 20000
set_option maxHeartbeats 4000000
namespace Go.Proofs.YtgioiejbphljoaaGreatDoor
open Go Go.Sx Go.Rx Go.RowKit
theorem DkOk.adv {M M':List Nat} {w w':World} {v:Value} {d:Desk_139} (h:DkOk M w v d) (ha:Adv M M' w w'):DkOk M' w' v d:=Ok.adv ha _ h
def ItF (M:List Nat) (w:World) (v:Value) (d:Desk_139):Prop:=∃ p,v=.func (.func 105) #[] [p].toArray/\DkOk M w p d
theorem ItF.adv {M M':List Nat} {w w':World} {v:Value} {d:Desk_139} (h:ItF M w v d) (ha:Adv M M' w w'):ItF M' w' v d:=by
 obtain⟨p,h0,h1⟩:=h
 exact⟨p,h0,h1.adv ha⟩
abbrev AEm:={ r:Report // InR r }
theorem AMK {a b:List AEm} (h:a.map Subtype.val=b.map Subtype.val):a=b:=(List.map_inj_right (fun _ _ h=>Subtype.ext h)).1 h
theorem ANN {F:Fence} {m:Nat} {P:Program} {l:Nat} {args:Array Value} {W:World} {R R':Ending->World->Prop} (h:YieldAt F m P l args W R) (hr:∀ e w,R e w->R' e w):YieldAt F m P l args W R':=by
 obtain⟨fn,tmps,assign,body,h1,h2⟩:=h
 exact⟨fn,tmps,assign,body,h1,h2.mono hr⟩
theorem ALc (n:Nat) {M:List Nat} {w:World} (hM:MLt M w) (hgl:GlOk (P:=Tryz.prog) M w) {v:Value} {d:Desk_139} (hf:ItF M w v d) {l:List AEm} (h:M3 d=some (l.map Subtype.val)) {b2:Nat} (hb2:b2 < w.heap.size) (hg2:∀ g,gOf w b2=some g->g < w.heap.size) :
 ∃ lb,v=.func (.func 105) #[] lb/\SeqStopsK Fence.wide n Tryz.prog 105 lb (fun r:AEm=>#[.agg (ACJ r.1).toArray]) (KB b2) (fun ys=>ys=l) (fun pre=>pre <+: l) l.length w:=by
 obtain⟨p,rfl,hf⟩:=hf
 refine⟨_,rfl,fun lp J Jx W hW hJ _ hY h0=>?_⟩
 have hE:Ext w W:=ACC hW (fun h=>h)
 have hA:Adv M M w W:=Adv.of_ext hE
 have hg2':∀ g,gOf W b2=some g->g < W.heap.size:=fun g hg=>by
  rcases (KB.of_ext hE hb2).gof g hg with h1|h1
  . exact Nat.lt_of_lt_of_le (hg2 g h1) hE.size
  . have h5:gOf w b2=some g:=by
     unfold gOf at hg ⊢
     rw[World.cell?_of_block (a:=⟨b2,0,none⟩) (w:=w) (hE.block b2 hb2 (by simp))] at hg
     exact hg
    exact Nat.lt_of_lt_of_le (hg2 g h5) hE.size
 refine callsIn_wide.2 ((AH3 (hM.ext hE) (hgl.adv hA) (DkOk.adv hf hA) h (Nat.lt_of_lt_of_le hb2 hE.size) hg2' (n:=n) (lp:=lp)
  (J:=fun pre W=>∃ pre':List AEm,pre'.map Subtype.val=pre/\J pre' W) (Jx:=fun pre W=>∃ pre':List AEm,pre'.map Subtype.val=pre/\Jx pre' W) ?_ ?_ ⟨[],rfl,h0⟩).mono ?_)
 . rintro s W1 W2 row ⟨pre',h1,h2⟩ hg hr
   exact⟨pre',h1,hJ _ _ _ row h2 hg hr⟩
 . rintro pre x W1 ⟨pre',rfl,h2⟩ hlt hx
   rw[List.length_map] at hlt
   rw[List.length_map] at hx
   rw[List.getElem?_map] at hx
   obtain⟨x',hx',rfl⟩:=Option.map_eq_some_iff.1 hx
   refine ANN (hY pre' x' W1 h2 (by rw[List.length_map] at hlt;exact hlt)) ?_
   rintro e W' (⟨rfl,h3,h4⟩|⟨rfl,h3⟩)
   . exact .inl ⟨rfl,⟨_,by simp,h3⟩,h4⟩
   . exact .inr ⟨rfl,_,by simp,h3⟩
 . rintro e W' ⟨hv,⟨xs,rfl,pre',h1,h2⟩|⟨pre,hp,pre',rfl,h2⟩⟩
   . exact⟨hv,.inl ⟨_,AMK h1,h2⟩⟩
   . refine⟨hv,.inr ⟨pre',?_,h2⟩⟩
     obtain⟨t,ht⟩:=hp
     refine⟨l.drop pre'.length,AMK ?_⟩
     rw[List.map_append,List.map_drop,<-ht]
     simp
theorem AQp:AJ3 ReportE:=fun h=>ReportE_R.2 (ReportE_R.1 h)
def AlR (M:List Nat) (b2:Nat) (x:AEm) (L:Sx.A7) (W:World):Prop:=∃ b5 u,Sub [(2,.pointer (some ⟨b2,0,none⟩)),(5,.pointer (some ⟨b5,0,none⟩))] L/\Row 45 W b5 (ACJ x.1)/\Row 24 W b2 [u]/\b5∉ob u/\b5≠b2/\b5∉M
theorem AFe {M:List Nat} {w:World} (hM:MLt M w) (hgl:GlOk (P:=Tryz.prog) M w) {v:Value} {d:Desk_139} (hf:ItF M w v d) {l:List AEm} (h:M3 d=some (l.map Subtype.val)) (hl:l.length * 64<=140737488355328) :
 Calls Tryz.prog 102 (List.toArray [.slice none 0 0,v]) w fun e w'=>∃ v':Value,e=.returned v'/\(Sx.Own ReportE 45 0 M w' v' (l.map Subtype.val)/\∀ b∈ob v',w.heap.size<=b)/\Ext w w':=by
 refine ABr Tryz.func102 rfl Tryz.ntmps102 rfl ?_
 have hI:=Hp.start (Mu:=[]) hM
 refine A6 ?_
 refine A9 ?_
 refine AAP hI rfl rfl rfl ?_
 intro b2 w2 hI2 x2
 refine G2 rfl rfl ?_
 refine Reg.nil ?_
 refine A6 ?_
 refine A6 ?_
 refine A9 ?_
 refine I4 rfl rfl ?_
 refine Reg.nil ?_
 have hI3:Hp w [] M (F2 ReportE 45 24 b2 (.slice none 0 0) []) w2:=hI2.addNil ReportE 45
 have hb2:b2 < w2.heap.size:=hI3.mlt b2 (by simp[mm,rowR])
 have hgn:gOf w2 b2=none:=by rw[hI3.gof];rfl
 obtain⟨lb,hv,hseq⟩:=ALc 2 hI2.mlt (hgl.adv hI2.adv) (hf.adv hI2.adv) h hb2 (fun g hg=>by rw[hgn] at hg;cases hg)
 subst hv
 refine G6 ?_
 refine ANx (val:=fun r:AEm=>.agg (ACJ r.1).toArray) (K:=KB b2) (xs:=l) rfl Tryz.call105 rfl hseq (fun h k=>h.trans k) (fun W lp o o' hlp ho hc _=>KB.putObj ho hc (by omega))
  (fun pre W=>∃ v',Hp w [] M (F2 ReportE 45 24 b2 v' (pre.map Subtype.val)) W/\w2.heap.size<=W.heap.size/\pre.length<=l.length) (fun _ _=>False) ?_ (fun _ _ _ _ h _ _=>h.elim) ⟨_,hI3,Nat.le_refl _,Nat.zero_le _⟩ (AlR M b2) ?_ ?_ ?_ ?_ (fun _ _ _ _ _ h _=>h.elim)
 . rintro pre W W' row ⟨v',h1,h2,h3⟩ hg hr
   exact⟨v',h1.turnG AQp (fun h=>h) hg (fun r e=>⟨Nat.le_trans hI3.kp.size (hr r e).1,(hr r e).2⟩),Nat.le_trans h2 hg.size,h3⟩
 . rintro x L' _ W W' row ⟨b5,u,h1,h2,h3,h4,h5,h6⟩ hg hr
   have hcl:∀ (b:Nat) (o:Obj),W.heap[b]?=some o->o.isCells=true->W'.heap[b]?=W.heap[b]?:=fun b o hb hc=>hg.block b (J8 hb) fun e=>by
    obtain⟨_,o',g1,g2⟩:=hr b e.symm
    rw[hb] at g1;cases g1
    rw[hc] at g2;cases g2
   exact⟨b5,u,h1,(hcl b5 _ h2 rfl).trans h2,(hcl b2 _ h3 rfl).trans h3,h4,h5,h6⟩
 . rintro l' pre x W ⟨v',h1,h2,h3⟩
   refine ABI rfl ?_
   refine ACr h1 Tryz.zeroValue45 rfl rfl ?_
   intro b5 w5 hI5 x5
   refine ABX 0 hI5 rfl rfl rfl rfl Tryz.sizeOf45 rfl rfl (C9 rfl (C9 rfl (C9 rfl (C9 rfl (C9 rfl (C9 rfl (C9 rfl (C9 rfl ACm)))))))) ?_
   intro w6 hI6 x6
   have hI6':Hp w [] M (rowR 45 b5 (ACJ x.1) :: F2 ReportE 45 24 b2 v' (pre.map Subtype.val)) w6:=hI6
   have hI7:Hp w [] M (F2 ReportE 45 24 b2 v' (pre.map Subtype.val)) w6:=hI6'.erase 0
   have hA:Adv (mm (F2 ReportE 45 24 b2 v' (pre.map Subtype.val)) M) (mm (F2 ReportE 45 24 b2 v' (pre.map Subtype.val)) M) W w6:=x5.trans (x6.trans (F9 (σ:=rowR 45 b5 (ACJ x.1) :: F2 ReportE 45 24 b2 v' (pre.map Subtype.val)) 0))
   obtain⟨hk1,hk2⟩:=h1.kb hI7 hA
   refine Reg.nil ⟨rfl,⟨hk2.size,fun k o hB=>hk2.same k o (Nat.le_trans hI3.kp.size hB)⟩,hk1,⟨v',hI7,Nat.le_trans h2 hA.kp.size,h3⟩,b5,v',Sub.cons rfl (Sub.cons rfl (Sub.nil _)),hI6'.row 0 rfl,hI6'.row 2 rfl,?_,?_,?_⟩
   . intro hb
     exact hI6'.dis 0 1 _ _ rfl rfl (by omega) b5 (by simp[rowR]) hb
   . intro hb
     exact hI6'.dis 0 2 _ _ rfl rfl (by omega) b5 (by simp[rowR]) (by simp[rowR,hb])
   . exact hI6'.sepM _ (List.mem_cons_self ..) b5 (by simp[rowR])
 . rintro l' pre x L' W ⟨v',h1,h2,h3⟩ ⟨b5,u,hs,hr5,hru,h5u,h52,h5M⟩ hlt
   have huv:u=v':=by
    have e1:W.heap[b2]?=_:=hru
    have e2:W.heap[b2]?=_:=h1.row 1 rfl
    rw[e1] at e2
    have:=Option.some.inj e2
    injection this with h9
    simpa using h9
   subst huv
   refine ASV hs ?_
   refine AEN ?_
   have hC5:RdC (mm (F2 ReportE 45 24 b2 u (pre.map Subtype.val)) M) W b5 0 (ACJ x.1):=H1 (fun hb=>by
    simp only[mm,ownR,rowR,List.mem_append,List.mem_cons,List.not_mem_nil,or_false] at hb
    rcases hb with h9|h9|h9
    . exact h5u h9
    . exact h52 h9
    . exact h5M h9) hr5
   obtain⟨q0,q1,q2,q3,q4,q5,q6,q7⟩:=x.2
   refine ABI rfl ?_
   refine V9 rfl ((h1.row 1 rfl).rd.cells.at 0 rfl) Tryz.isAgg24 rfl ?_
   refine ABF rfl hC5.cells Tryz.isAgg45 rfl Tryz.sizeOf45 rfl ?_
   refine AJo (E:=ReportE) (xs:=[x.1]) ATW h1 rfl rfl (Cls.cons rfl Cls.nil) (Chs.cons (ReportE_R.2 ⟨rfl,q0,q1,q2,q3,q4,q5,q6,q7⟩) Chs.nil) rfl rfl ?_
   intro v8 w8 hI8 x8
   have hf9:=hI8.freeze 0 rfl
   have hI9:=hI8.erase 0
   have hlen:(pre.map Subtype.val).length+[x.1].length<=l.length:=by simp;omega
   refine AFr 0 ATW hI9 rfl rfl rfl hf9 ⟨?_,?_⟩ rfl ?_
   . omega
   . omega
   intro v10 w10 hI10 x10
   refine ABX 1 hI10 rfl rfl rfl (Own.cells1 (hI10.ownAt 0 rfl)) Tryz.sizeOf24 rfl rfl (C9 (Own.oneC (hI10.ownAt 0 rfl)) ACm) ?_
   intro w11 hI11 x11
   have hI12:Hp w [] M (F2 ReportE 45 24 b2 v10 ((pre++[x]).map Subtype.val)) w11:=by
    have h9:(pre++[x]).map Subtype.val=pre.map Subtype.val++[x.1]:=by simp
    rw[h9];exact hI11
   have hA:Adv (mm (F2 ReportE 45 24 b2 u (pre.map Subtype.val)) M) (mm (F2 ReportE 45 24 b2 v10 ((pre++[x]).map Subtype.val)) M) W w11:=by
    have h9:(pre++[x]).map Subtype.val=pre.map Subtype.val++[x.1]:=by simp
    rw[h9]
    exact x8.trans ((F9 (σ:=ownR [] ReportE 45 v8 [x.1] :: F2 ReportE 45 24 b2 u (pre.map Subtype.val)) 0).trans (x10.trans x11))
   obtain⟨hk1,hk2⟩:=h1.kb hI12 hA
   exact Reg.nil ⟨⟨hk2.size,fun k o hB=>hk2.same k o (Nat.le_trans hI3.kp.size hB)⟩,hk1,v10,hI12,Nat.le_trans h2 hA.kp.size,by simp;omega⟩
 . rintro D W hD ⟨v',h1,h2,h3⟩ hdef
   refine A6 ?_
   refine A9 ?_
   refine V9 rfl ((h1.row 1 rfl).rd.cells.at 0 rfl) Tryz.isAgg24 rfl ?_
   refine G2 rfl rfl ?_
   refine Reg.nil ?_
   refine J7 ?_
   have h9:=h1.turnG AQp (fun h=>h) (grownBy_putObj' W D (.deferred none)) fun j e=>by cases e;exact⟨Nat.le_trans hI3.kp.size hD,_,hdef,rfl⟩
   refine .inr ⟨D,_,rfl,run_takeDeferred hdef,v',fun a ha=>?_,v',rfl,h9.ownOut 0 rfl,h9.kp⟩
   rw[results_tmp Tryz.results102,ha.getD rfl]
end Go.Proofs.YtgioiejbphljoaaGreatDoor
set_option maxRecDepth 20000
set_option maxHeartbeats 4000000
namespace Go.Proofs.YtgioiejbphljoaaGreatDoor
open Go Go.Sx Go.Rx Go.RowKit
theorem AEn {M:List Nat} {w:World} (hM:MLt M w) {d:Desk_139} {v:Value} (hd:OkD (P:=Tryz.prog) M w (.st 14) d v) :
 Calls Tryz.prog 69 (List.toArray [v]) w fun e w'=>∃ v0:Value,e=.returned v0/\ItF M w' v0 d/\Ext w w':=by
 have hI:=Hp.start (Mu:=[]) hM
 have hd0:=hd
 obtain⟨cs,h1,h3⟩:=hd
 obtain rfl:v=.agg (List.toArray cs):=h3.elim (fun h=>h.2) fun h=>by cases h.1
 refine G7 (l:=[_]) (fn:=Tryz.f69) Tryz.func69 rfl Tryz.ntmps69 rfl ?_
 refine A6 ?_
 refine A9 ?_
 refine AAP hI rfl rfl rfl ?_
 intro b w2 hI2 x2
 refine G2 rfl rfl ?_
 refine Reg.nil ?_
 refine A6 ?_
 refine A9 ?_
 refine AEG rfl rfl ?_
 refine G2 rfl rfl ?_
 refine Reg.nil ?_
 refine J7 ?_
 refine fin1 Tryz.results69 rfl ?_
 exact⟨_,rfl,⟨.pointer (some ⟨b,0,none⟩),rfl,b,0,_,_,rfl,(hI2.freezeRow 0 rfl).adv (Adv.refl _ _),OkD.adv hd0 (Adv.of_ext hI2.kp),rfl⟩,hI2.kp⟩
open Classical in
noncomputable def F3 (d:Desk_139):Option (List Report):=Option.bind (M3 d) fun l=>if l.length * 64<=140737488355328/\∀ r∈l,InR r then some l else none
theorem AHA {M:List Nat} {w:World} (hM:MLt M w) (hg:GlOk (P:=Tryz.prog) M w) {d:Desk_139} {v:Value} (hf:ItF M w v d) {r0:List Report} (h:F3 d=some r0) :
 Calls Tryz.prog 67 (List.toArray [v]) w fun e w'=>∃ v0_0:Value,e=.returned (v0_0)/\(Sx.Own ReportE 45 0 M w' v0_0 r0/\∀ b∈ob v0_0,w.heap.size<=b)/\Ext w w':=by
 unfold F3 at h
 obtain⟨l,hl,h⟩:=R6 h
 split at h
 . rename_i hc
   obtain rfl:=Option.some.inj h
   obtain⟨xs,hxs⟩:∃ xs:List AEm,xs.map Subtype.val=l:=⟨l.attach.map fun r=>⟨r.1,hc.2 r.1 r.2⟩,by rw[List.map_map];exact List.attach_map_subtype_val l⟩
   refine G7 Tryz.func67 rfl Tryz.ntmps67 rfl ?_
   refine A6 ?_
   refine A9 ?_
   refine G2 rfl rfl ?_
   refine Reg.nil ?_
   refine A6 ?_
   refine A9 ?_
   refine I4 rfl rfl ?_
   refine Y2 rfl Tryz.call102 rfl ?_
   refine (AFe hM hg hf (l:=xs) (by rw[hxs];exact hl) (by have:=congrArg List.length hxs;rw[List.length_map] at this;rw[this];exact hc.1)).mono ?_
   rintro _ w2 ⟨v,rfl,ho,hx⟩
   refine⟨_,rfl,?_⟩
   refine G2 rfl rfl ?_
   refine Reg.nil ?_
   refine J7 ?_
   refine fin1 Tryz.results67 rfl ?_
   rw[hxs] at ho
   exact⟨_,rfl,ho,hx⟩
 . cases h
noncomputable def c29:Code:=match Tryz.f29.body with
 |some c=>c
 |none=>.skip
def ATk:Sh:=⟨[(.slot 0,.d (.sl (.st 1))),(.slot 1,.d (.int .i64))],[]⟩
noncomputable def ANO:Gx:={ gxb with fs:=[(65,ctr65),(66,ctr66)] }
theorem AML:GxOk Tryz.prog ANO:=B1 ⟨⟨ok65,Tryz.call65⟩,⟨⟨ok66,Tryz.call66⟩,trivial⟩⟩
noncomputable def E1 (l:List Report) (known:Int):Option (List Report×Int):=Option.bind (T8 l known) fun x=>Sum.elim (fun y=>Option.bind (O9 y.1 y.2) fun d=>Option.bind (F3 d) fun r=>some ((r,(0:Int)):List Report×Int)) (fun r=>some r) x
def cs29:List Ck:=[.own (.sl 45 (.st 1)),.d (.int .i64)]
theorem AVm (l:List Report) (known:Int):X0 ANO 21 (U9 ANO cs29 Tryz.f29.results.toList) (N4 2 c29) AMJ (fun σ=>match H8 ATk σ with
 |some x=>some (Sum.inl x)
 |none=>none) (fun r=>some (Sum.inr r)) ⟨[(0,.dat (.sl (.st 1)) l),(1,.int .i64 known)],[],[],[]⟩=T8 l known:=by kernel_rfl
noncomputable def ctr29:Ctr:=⟨[.d (.sl (.st 1)),.d (.int .i64)],cs29,fun a=>E1 a.1 a.2.1⟩
theorem ok29:Ctr.ok Tryz.prog 29 ctr29:=by
 refine⟨by decide,fun M w a vals r hM hg ha hr=>?_⟩
 obtain⟨l,known,_⟩:=a
 obtain⟨vl,_,rfl,hvl,⟨vk,_,rfl,hvk,rfl⟩⟩:=ha
 have hr:E1 l known=some r:=hr
 unfold E1 at hr
 obtain⟨z,hz,hr⟩:=R6 hr
 have hvl:OkD (P:=Tryz.prog) M w (.sl (.st 1)) l vl:=hvl
 have hvk:OkD (P:=Tryz.prog) M w (.int .i64) known vk:=hvk
 have h0:Holds (P:=Tryz.prog) w [] M ⟨[(0,.dat (.sl (.st 1)) l),(1,.int .i64 known)],[],[],[]⟩ [(0,vl),(1,vk)] w:=by
  refine⟨[],fun _=>undef,fun _=>[],fun _=>[],fun _=>0,⟨Hp.start hM,(fun i a h=>by cases h),(fun i j a b h=>by cases h),(fun i a h=>by cases h),fun t s ht=>?_,⟨trivial,hg⟩⟩⟩
  rw[fnd_cons] at ht
  split at ht
  . rename_i e;subst e;cases ht;exact⟨vl,rfl,rfl,hvl⟩
  rw[fnd_cons] at ht
  split at ht
  . rename_i e;subst e;cases ht;exact⟨vk,rfl,E5 (.int .i64) hvk⟩
  . cases ht
 refine G7 (l:=[vl,vk]) (fn:=Tryz.f29) Tryz.func29 rfl rfl rfl ?_
 refine ADG (P:=Tryz.prog) (pr:=U9 ANO cs29 Tryz.f29.results.toList) AML 2 c29 AMJ (by decide) ((AVm l known).trans hz) h0 (fun σ' L' w1 hK hE hH=>?_) (fun r' σ' L' w' hp hk hH=>?_)
 . cases hpk:H8 ATk σ' with
   |none=>rw[hpk] at hK;cases hK
   |some x=>
   rw[hpk] at hK
   cases hK
   obtain⟨l,known⟩:=x
   have hH2:=hH.packed hpk
   obtain⟨S,ρ,γ,μ,ι,hS⟩:=hH2
   obtain⟨v0,l0,e0⟩:=hS.env 0 (.dat (.sl (.st 1)) l) rfl
   obtain⟨v1,l1,rfl,e1⟩:=hS.env 1 (.int .i64 known) rfl
   have hr:(Option.bind (O9 l known) fun d=>Option.bind (F3 d) fun r=>some ((r,(0:Int)):List Report×Int))=some r:=hr
   obtain⟨d,hd,hr⟩:=R6 hr
   obtain⟨r1,hr1,hr⟩:=R6 hr
   cases hr
   have hM1:MLt (mm S M) w1:=hS.hp.mlt
   have hg1:GlOk (P:=Tryz.prog) (mm S M) w1:=hS.anch.2
   refine A6 ?_
   refine A9 ?_
   refine I4 l0 rfl ?_
   refine I4 (v:=.int .i64 known) (by show Sx.A5 ((16,v0) :: L') 1=some (.int .i64 known);rw[look_cons,if_neg (by decide)];exact l1) rfl ?_
   refine Y2 rfl Tryz.call68 rfl ?_
   refine (ok68.2 (mm S M) w1 (l,known,()) [v0,.int .i64 known] d hM1 hg1 ⟨v0,_,rfl,e0.2,_,[],rfl,⟨[_],⟨rfl,e1⟩,.inr ⟨rfl,rfl⟩⟩,rfl⟩ hd).mono ?_
   rintro _ w2 ⟨_,rfl,⟨v2,rfl,h2⟩,x2⟩
   refine⟨_,rfl,?_⟩
   have h2:OkD (P:=Tryz.prog) (mm S M) w2 (.st 14) d v2:=h2
   refine Y2 rfl Tryz.call69 rfl ?_
   refine (AEn (hM1.ext x2) h2).mono ?_
   rintro _ w3 ⟨v3,rfl,h3,x3⟩
   refine⟨_,rfl,?_⟩
   refine Y2 rfl Tryz.call67 rfl ?_
   refine (AHA ((hM1.ext x2).ext x3) ((hg1.adv (Adv.of_ext x2)).adv (Adv.of_ext x3)) h3 hr1).mono ?_
   rintro _ w4 ⟨v4,rfl,⟨h4,h5⟩,x4⟩
   refine⟨_,rfl,?_⟩
   refine G2 rfl rfl ?_
   refine G2 rfl rfl ?_
   refine Reg.nil ?_
   refine J7 ?_
   refine AWK Tryz.results29 rfl rfl ?_
   refine⟨[v4,.int .i64 0],rfl,⟨v4,_,rfl,⟨trivial,h4.mon fun b hb=>(List.mem_append.1 hb).imp id fun h=>mem_mm.2 (.inr h),fun b hb=>?_⟩,_,rfl,⟨[.int .i64 0],⟨rfl,(by decide:InK .i64 0)⟩,.inr ⟨rfl,rfl⟩⟩⟩,?_⟩
   . exact Nat.le_trans hS.hp.kp.size (Nat.le_trans x2.size (Nat.le_trans x3.size (h5 b hb)))
   . exact ((hS.hp.kp.trans x2).trans x3).trans x4
 . have hk:Sum.inr r'=z:=Option.some.inj hk
   subst hk
   have hr:some r'=some r:=hr
   cases hr
   exact AK6 AML (by decide) hp hH
end Go.Proofs.YtgioiejbphljoaaGreatDoor
set_option maxRecDepth 20000
set_option maxHeartbeats 4000000
namespace Go.Rx
open Go Go.Sx Go.RowKit
section
variable [Trk] [Sg] [Sf] {P:Program} [Se P] [Anch]
variable {w0 w:World} {Mu M:List Nat} {L:A7} {G:Gx} {N:Nat} {ds:List Deferred} {A B:A4} {X:Nat->A4} {Z:List PanicEntry->A4}
def AllE (env:List (Nat×SV)):List (Nat×SV)->Prop
 |[]=>True
 |p :: l=>A1 env p.1=some p.2/\AllE env l
theorem AllE.out {env:List (Nat×SV)} {t:Nat} {s:SV}:∀ {l:List (Nat×SV)},AllE env l->A1 l t=some s->A1 env t=some s
 |[],_,h=>by cases h
 |(k,u) :: l,⟨h1,h2⟩,h=>by
  rw[fnd_cons] at h
  split at h
  . rename_i e;subst e;cases h;exact h1
  . exact AllE.out h2 h
theorem Holds.fewer {env env':List (Nat×SV)} {res:List (Nat×AR)} {kl kl':List Nat} {ch ch':List (Nat×Nat)} (h:Holds (P:=P) w0 Mu M ⟨env,res,kl,ch⟩ L w) (hE:AllE env env'):Holds (P:=P) w0 Mu M ⟨env',res,kl',ch'⟩ L w:=by
 obtain⟨S,ρ,γ,μ,ι,hS⟩:=h
 exact⟨S,ρ,γ,μ,ι,hS.hp,hS.res,hS.inj,hS.row,fun t s ht=>hS.env t s (hE.out ht),hS.anch⟩
theorem ABD [Sl (P:=P)] (hG:GxOk P G) {id:Nat} {ops:List Oper} {σ σ':AS} (h:C6 G N ops some ops σ=some σ') (hH:Holds (P:=P) w0 Mu M σ L w) (hA:∀ L' w',EnvS (C4 ops) L L'->Holds (P:=P) w0 Mu M σ' L' w'->A ds L' w'):CW P N (.region id (List.toArray ops) false) ds L w A B X Z:=
 A9 (S6 hG ops σ L w h (fun _ ht=>ht) hH fun σ1 L1 w1 h1 _ hE hH1=>by cases h1;exact hA L1 w1 hE hH1)
theorem Holds.slotB {σ:AS} {t:Nat} {b:Bool} (h:Holds (P:=P) w0 Mu M σ L w) (ht:A1 σ.env t=some (.bool b)):Sx.A5 L t=some (.bool b):=by
 obtain⟨S,ρ,γ,μ,ι,hS⟩:=h
 obtain⟨v,h1,h2⟩:=hS.env t _ ht
 have h2:v=.bool b:=h2
 subst h2;exact h1
theorem ANP [Sl (P:=P)] (hG:GxOk P G) {id:Nat} {ops:List Oper} {σ σ':AS} {Y:Type} {o:Option Y} {x:Y} {K:Y->Option AS} (hb:o=some x) (h:C6 G N ops some ops σ=Option.bind o K) (hk:K x=some σ') (hH:Holds (P:=P) w0 Mu M σ L w) (hA:∀ L' w',EnvS (C4 ops) L L'->Holds (P:=P) w0 Mu M σ' L' w'->A ds L' w'):CW P N (.region id (List.toArray ops) false) ds L w A B X Z:=
 ABD hG (by rw[h,hb];exact hk) hH hA
theorem Holds.ops [Sl (P:=P)] (hG:GxOk P G) {all l rest:List Oper} {σ σ':AS} (h:C6 G N all some l σ=some σ') (hH:Holds (P:=P) w0 Mu M σ L w) (hA:∀ L' w',EnvS (C4 l) L L'->Holds (P:=P) w0 Mu M σ' L' w'->Reg P N (List.toArray all) .seq rest ds L' w' A B X Z):Reg P N (List.toArray all) .seq (l++rest) ds L w A B X Z:=by
 have key:=S6 (P:=P) (ops:=all) (ds:=ds) (B:=B) (X:=X) (Z:=Z) (W:=C4 l) hG l σ L w h (fun _ ht=>ht) hH (A:=fun ds' L' w'=>Reg P N (List.toArray all) .seq rest ds' L' w' A B X Z) fun σ1 L1 w1 h1 _ hE hH1=>by cases h1;exact hA L1 w1 hE hH1
 exact fun a ha=>W8 (fun a w h=>by
  obtain⟨ds',L',hk,hr⟩:=h
  exact hr a hk) l a w (key a ha)
theorem Holds.toL {σ:AS} {L2:A7} (h:Holds (P:=P) w0 Mu M σ L w) (he:∀ t s,A1 σ.env t=some s->Sx.A5 L2 t=Sx.A5 L t):Holds (P:=P) w0 Mu M σ L2 w:=by
 obtain⟨S,ρ,γ,μ,ι,hS⟩:=h
 exact⟨S,ρ,γ,μ,ι,hS.envTo fun t s ht=>(he t s ht).symm⟩
end
section
variable [Trk] [Sg] [Sf] {P:Program} [Se P] [Anch]
variable {w0 w:World} {Mu M:List Nat} {σ:AS} {L:A7} {S:List Res} {ρ:Nat->Value} {γ:Nat->List Value} {μ:Nat->List Nat} {ι:Nat->Nat} {G:Gx} {N:Nat} {ds:List Deferred} {A B:A4} {X:Nat->A4} {Z:List PanicEntry->A4}
theorem Holds.res {env:List (Nat×SV)} {res res':List (Nat×AR)} {kl kl':List Nat} {ch ch':List (Nat×Nat)} (h:Holds (P:=P) w0 Mu M ⟨env,res,kl,ch⟩ L w) (hr:∀ j,A1 res' j=A1 res j):Holds (P:=P) w0 Mu M ⟨env,res',kl',ch'⟩ L w:=by
 obtain⟨S,ρ,γ,μ,ι,hS⟩:=h
 have e:A1 res'=A1 res:=funext hr
 refine⟨S,ρ,γ,μ,ι,hS.hp,fun i a h=>hS.res i a ((hr i).symm.trans h),fun i j a b h1 h2=>hS.inj i j a b ((hr i).symm.trans h1) ((hr j).symm.trans h2),fun i a h=>?_,fun t s ht=>?_,hS.anch⟩
 . have:=hS.row i a ((hr i).symm.trans h)
   show RowOk ρ (A1 res') _ _ _ _ _
   rw[e];exact this
 . obtain⟨v,h1,h2⟩:=hS.env t s ht
   refine⟨v,h1,?_⟩
   show Ok ρ (A1 res') _ _ _ _
   rw[e];exact h2
end
section
variable [Trk] [Sg] [Sf] {P:Program} [Se P]
theorem Holds.start [Anch] {M:List Nat} {w:World} {env:List (Nat×SV)} {L:A7} (hM:MLt M w) (hE:∀ t s,A1 env t=some s->∃ v,Sx.A5 L t=some v/\Ok (P:=P) (fun _=>undef) (fun _=>none) M w s v) (hA:AnOk M w):Holds (P:=P) w [] M ⟨env,[],[],[]⟩ L w:=
 ⟨[],fun _=>undef,fun _=>[],fun _=>[],fun _=>0,⟨Hp.start hM,(fun i a h=>by cases h),(fun i j a b h=>by cases h),(fun i a h=>by cases h),hE,hA⟩⟩
theorem Holds.ends [Anch] {M:List Nat} {w w':World} {Mu:List Nat} {σ:AS} {L:A7} (h:Holds (P:=P) w Mu M σ L w'):Kp Mu w w':=by
 obtain⟨S,ρ,γ,μ,ι,hS⟩:=h
 exact hS.hp.kp
end
section
variable {P:Program}
theorem ABQ [Trk] [Sg] [Sf] [Se P] [Sl (P:=P)] [Anch] {w0 w:World} {Mu M:List Nat} {L:A7} {G:Gx} {N:Nat} {ds:List Deferred} {A B:A4} {X:Nat->A4} {Z:List PanicEntry->A4} {id:Nat} {ops:List Oper} {σ σ':AS} {Y:Type} {o:Option Y} {x:Y} {K:Y->Option AS} (hG:GxOk P G) (hH:Holds (P:=P) w0 Mu M σ L w) (hb:o=some x) (h:C6 G N ops some ops σ=Option.bind o K) (hk:K x=some σ') (hA:∀ L' w',EnvS (C4 ops) L L'->Holds (P:=P) w0 Mu M σ' L' w'->A ds L' w'):CW P N (.region id (List.toArray ops) false) ds L w A B X Z:=
 ANP hG hb h hk hH hA
theorem AEo [Trk] [Sg] [Sf] [Se P] [Anch] {w0 w:World} {Mu M:List Nat} {L:A7} {σ:AS} {env':List (Nat×SV)} {res':List (Nat×AR)} (h:Holds (P:=P) w0 Mu M σ L w) (hE:AllE σ.env env') (hr:∀ j,A1 res' j=A1 σ.res j) (kl':List Nat:=[]) (ch':List (Nat×Nat):=[]):Holds (P:=P) w0 Mu M ⟨env',res',kl',ch'⟩ L w:=by
 obtain⟨e,r,kl,ch⟩:=σ
 exact Holds.res (kl:=kl') (ch:=ch') (h.fewer hE) hr
end
end Go.Rx
namespace Go.Sx
open Go Go.RowKit
variable [Trk]
section
variable {n:Nat} {P:Program} {N:Nat} {ops:Array Oper} {rest:List Oper} {ds:List Deferred} {L:A7} {w:World} {A B:A4} {X:Nat->A4} {Z:List PanicEntry->A4}
theorem AH4 {f x y:Operand} {l d:Nat} {v u:Value} {ts:Array TypeId} {ty:TypeId} {pos:String} {af:Array Edge} {R:Ending->World->Prop} (hf:ev L f=some (.func (.yield l) #[] #[])) (hx:ev L x=some v) (hy:ev L y=some u) (hN:Nat.blt d N=true)
 (hY:YieldAt Fence.wide (n - 1) P l #[v,u] w R) (h:∀ e w',R e w'->∃ q,e=.returned q/\Rgi n P N ops rest ds ((d,q) :: L) w' A B X Z) :
 Rgi n P N ops (⟨some d,.call ⟨.value f,#[x,y],ts⟩,ty,pos,af,none⟩ :: rest) ds L w A B X Z:=fun a ha=>by
 obtain⟨fn,tmps,assign,body,hy',hR⟩:=hY
 unfold wpListIn
 rw[if_pos (by rfl)]
 refine⟨fun _ _=>trivial,?_⟩
 have hs:∀ o:Oper,J9 o.op=true->Oper.semAt Fence.wide.round a.eval o=execOp a.eval o:=fun o hdf=>Oper.semAt_eq _ _ _ fun c hc=>by rw[hc] at hdf;simp[J9] at hdf
 rw[hs _ rfl]
 have hrun:(execOp a.eval ⟨some d,.call ⟨.value f,#[x,y],ts⟩,ty,pos,af,none⟩).run P w=.ok (.round l fn tmps assign body) w:=by
  simp[execOp,resolve,ha.eval hf,ha.eval hx,ha.eval hy,Deferred.ofValue,invoke,hy']
 rw[hrun]
 refine⟨fun e=>(by cases e),hR.mono fun e w' h'=>?_⟩
 obtain⟨q,rfl,h2⟩:=h e w' h'
 exact h2 _ (ha.put hN q)
theorem Rgi.take {d:Option Tmp} {op:Op} {ty:TypeId} {pos:String} {after:Array Edge} {j t:Nat} {b:Bool} (hj:(ops[j]?).bind (·.dst)=some t) (ht:A5 L t=some (.bool b))
 (h:Rgi n P N ops (⟨d,op,ty,pos,after,none⟩ :: rest) ds L w A B X Z):Rgi n P N ops (⟨d,op,ty,pos,after,some (j,b)⟩ :: rest) ds L w A B X Z:=fun a ha=>by
 have:=h a ha
 have e:Region.wanted (⟨d,op,ty,pos,after,some (j,b)⟩:Oper) (yielded ops a.tmps)=true:=by simp only[Region.wanted,V8 ha hj ht,BEq.rfl]
 have e0:Region.wanted (⟨d,op,ty,pos,after,none⟩:Oper) (yielded ops a.tmps)=true:=rfl
 unfold wpListIn at this ⊢
 rw[if_pos e0] at this
 rw[if_pos e]
 exact this
theorem Rgi.pass {d:Nat} {op:Op} {ty:TypeId} {pos:String} {after:Array Edge} {j t:Nat} {b b':Bool} (hN:Nat.blt d N=true) (hj:(ops[j]?).bind (·.dst)=some t) (ht:A5 L t=some (.bool b')) (hb:(b'==b)=false)
 (h:Rgi n P N ops rest ds ((d,undef) :: L) w A B X Z):Rgi n P N ops (⟨some d,op,ty,pos,after,some (j,b)⟩ :: rest) ds L w A B X Z:=fun a ha=>by
 have hw:Region.wanted (⟨some d,op,ty,pos,after,some (j,b)⟩:Oper) (yielded ops a.tmps)=false:=by
  simp only[Region.wanted,V8 ha hj ht]
  simpa using hb
 unfold wpListIn
 rw[if_neg (by rw[hw];decide)]
 exact⟨fun _ _=>trivial,h _ (ha.put hN _)⟩
end
end Go.Sx
namespace Go.Rx
open Go Go.Sx Go.RowKit
variable [Trk] [Sg] [Sf]
section
variable {P:Program} [Se P] {N:Nat} {ds:List Deferred} {A B:A4} {X:Nat->A4} {Z:List PanicEntry->A4}
def AW8 (ops:List Oper):Bool:=(List.range ops.length).all fun k=>match ops[k]? with
 |some o=>o.after.toList.all fun e=>!(Region.binds .any e)||Nat.blt e.on k
 |none=>true
theorem AP7 {ops:List Oper} (h:AW8 ops=true):∀ (k:Nat) (o:Oper),ops[k]?=some o->∀ e∈o.after.toList,Region.binds .any e=true->e.on < k:=fun k o ho e he hb=>by
 have hk:k < ops.length:=(List.getElem?_eq_some_iff.1 ho).1
 have h1:=List.all_eq_true.1 h k (List.mem_range.2 hk)
 rw[ho] at h1
 have h2:=List.all_eq_true.1 h1 e he
 rw[hb] at h2
 simpa using h2
theorem AOj {id:Nat} {ops:List Oper} {L0:A7} {w0:World} (hm:P.follows .mixedOrders=true) (hd:ops.all (fun o=>J9 o.op)=true) (hg:ops.all (fun o=>o.guard.isNone)=true) (J:(Nat->Bool)->A7->World->Prop) (h0:J (fun _=>false) L0 { w0 with drawn:=w0.drawn+1 })
 (low:∀ k o,ops[k]?=some o->∀ e∈o.after.toList,Region.binds .any e=true->e.on < k)
 (step:∀ D L w k o,J D L w->D k=false->ops[k]?=some o->(∀ e∈o.after.toList,Region.binds .any e=true->D e.on=true)->Reg P N (List.toArray ops) .seq [o] ds L w (fun ds' L' w'=>ds'=ds/\J (fun j=>Nat.beq j k||D j) L' w') B X Z)
 (fin:∀ D L w,(∀ k,k < ops.length->D k=true)->J D L w->A ds L w):CW P N (.region id (List.toArray ops) true) ds L0 w0 A B X Z:=by
 refine AAV (n:=3) (AOR hm hd fun a ha=>?_)
 have hsize:(List.toArray ops).size=ops.length:=by simp
 have key:∀ (n:Nat) (listed:Array Bool) (a:Act) (w:World) (L:A7),listed.size=ops.length->((List.range ops.length).filter fun k=>!listed.getD k false).length=n->Knows N ds L a->J (fun k=>listed.getD k false) L w->wpAny P .any (List.toArray ops) (Q6 N A B X Z) n listed a w:=by
  intro n
  induction n with
  |zero=>
   intro listed a w L hsz hn hk hJ
   have hall:∀ k,k < ops.length->listed.getD k false=true:=fun k hk=>by
    cases hb:listed.getD k false with
    |true=>rfl
    |false=>
     have:k∈(List.range ops.length).filter fun k=>!listed.getD k false:=List.mem_filter.2 ⟨List.mem_range.2 hk,by rw[hb];rfl⟩
     rw[List.eq_nil_of_length_eq_zero hn] at this
     cases this
   refine⟨List.eq_nil_iff_forall_not_mem.2 fun k hk=>?_,ds,L,hk,fin _ L w hall hJ⟩
   obtain⟨h0,o,ho,_⟩:=mem_ready.1 hk
   have hk':k < ops.length:=by rw[<-hsize];exact (Array.getElem?_eq_some_iff.1 ho).1
   have:=hall k hk'
   rw[ADo (by rw[hsz];exact hk') true false,this] at h0;cases h0
  |succ n ih=>
   intro listed a w L hsz hn hk hJ
   refine⟨fun hr=>?_,fun i hi=>?_⟩
   . have hall:∀ m k,k < ops.length->k < m->listed.getD k false=true:=by
      intro m
      induction m with
      |zero=>intro k _ hm;omega
      |succ m ihm=>
       intro k hk hm
       cases hb:listed.getD k false with
       |true=>rfl
       |false=>
        obtain⟨o,ho⟩:∃ o,ops[k]?=some o:=⟨ops[k],by simp[hk]⟩
        have:k∈Region.ready .any (List.toArray ops) listed:=mem_ready.2 ⟨by rw[ADo (by rw[hsz];exact hk) true false];exact hb,o,by rw[List.getElem?_toArray];exact ho,fun e he hbd=>by
         have:=low k o ho e (Array.mem_toList_iff.2 he) hbd
         exact ihm e.on (by omega) (by omega)⟩
        rw[hr] at this;cases this
     exact⟨ds,L,hk,fin _ L w (fun k hk=>hall (k+1) k hk (Nat.lt_succ_self k)) hJ⟩
   . obtain⟨hi0,o,hoi,hiall⟩:=mem_ready.1 hi
     have his:i < ops.length:=by rw[<-hsize];exact (Array.getElem?_eq_some_iff.1 hoi).1
     have hoi':ops[i]?=some o:=by rw[List.getElem?_toArray] at hoi;exact hoi
     rw[ADo (by rw[hsz];exact his) true false] at hi0
     have hlsz:i < listed.size:=by rw[hsz];exact his
     have h1:=step _ L w i o hJ hi0 hoi' (fun e he hbd=>hiall e (Array.mem_toList_iff.1 he) hbd) a hk
     have hgd:o.guard=none:=by
      have:=List.all_eq_true.1 hg o (List.mem_of_getElem? hoi')
      simpa using this
     have hw:Region.wanted o (yielded (List.toArray ops) a.tmps)=true:=by simp[Region.wanted,hgd]
     unfold wpOp
     rw[hoi]
     simp only[hw,if_true]
     left
     simp only[wpList] at h1
     rw[if_pos hw] at h1
     refine AC9 (h1.resolve_right fun hh=>ABk hh.2) ?_ (fun c a w hz=>hz) ABk
     rintro a' w' ⟨ds',L',hk',rfl,hJ'⟩
     have hfun:(fun k=>(listed.setIfInBounds i true).getD k false)=fun j=>Nat.beq j i||listed.getD j false:=by
      funext k
      by_cases e:k=i
      . subst e
        simp[hlsz]
      . rw[getD_set_ne false (Ne.symm e)]
        have:Nat.beq k i=false:=by
         cases hb:Nat.beq k i with
         |false=>rfl
         |true=>exact absurd (Nat.eq_of_beq_eq_true hb) e
        rw[this,Bool.false_or]
     refine ih _ a' w' L' (by simp[hsz]) ?_ hk' (by rw[hfun];exact hJ')
     have hfil:((List.range ops.length).filter fun k=>!(listed.setIfInBounds i true).getD k false)=((List.range ops.length).filter fun k=>!listed.getD k false).erase i:=by
      rw[List.Nodup.erase_eq_filter (List.Pairwise.filter _ List.nodup_range),List.filter_filter]
      refine List.filter_congr fun k hk=>?_
      have:=congrFun hfun k
      rw[this]
      by_cases e:k=i
      . subst e;simp
      . have:Nat.beq k i=false:=by
         cases hb:Nat.beq k i with
         |false=>rfl
         |true=>exact absurd (Nat.eq_of_beq_eq_true hb) e
        simp[this,e]
     rw[hfil,List.length_erase_of_mem (List.mem_filter.2 ⟨List.mem_range.2 his,by rw[hi0];rfl⟩),hn]
     rfl
 have hz:(fun k=>(Array.replicate (List.toArray ops).size false).getD k false)=fun _=>false:=funext fun k=>by
  rw[Array.getD_eq_getD_getElem?,Array.getElem?_replicate]
  split <;> rfl
 refine key _ _ a _ L0 (by simp) ?_ ha (by rw[hz];exact h0)
 have:((List.range ops.length).filter fun k=>!(Array.replicate (List.toArray ops).size false).getD k false)=List.range ops.length:=List.filter_eq_self.2 fun k _=>by simp[Array.getD]
 rw[this];simp
end
end Go.Rx
set_option maxRecDepth 20000
set_option maxHeartbeats 4000000
namespace Go.Proofs.YtgioiejbphljoaaGreatDoor
open Go Go.Sx Go.Rx Go.RowKit
def M5:Enc Value:=⟨1,Nat.one_pos,fun _ _ cs x=>cs=[x]/\x.oneCell'=true,fun h=>by rw[h.1];rfl,fun _ h=>h,fun _ h=>h,fun h u hu=>by rw[h.1] at hu;rw[List.mem_singleton.1 hu];exact h.2⟩
noncomputable abbrev K3:Ky Tryz.prog 3 Int:=W5 .i64 Tryz.underlying3
def AFf (x:Answer):List Value:=[.int .i64 x.id,.int .i64 x.dispute,.int .i64 x.day,.int .u8 x.says,.int .i64 x.about,.int .i64 x.cents]
def InA (x:Answer):Prop:=InK .i64 x.id/\InK .i64 x.dispute/\InK .i64 x.day/\InK .u8 x.says/\InK .i64 x.about/\InK .i64 x.cents
theorem AW9 {M:List Nat} {w:World} {x:Answer} (h:InA x):AnswerE.R M w (AFf x) x:=AnswerE_R.2 ⟨rfl,h⟩
noncomputable def r70:Code:=match Tryz.f70.body with
 |some (.seq _ (.seq _ (.seq _ (.seq _ (.seq (.seq _ (.block _ (.loop (.seq _ (.seq _ (.seq (.block _ (.seq _ r)) _)))))) _)))))=>r
 |_=>.skip
noncomputable def o70:List Oper:=match r70 with
 |.region _ l _=>l.toList
 |_=>[]
def ANQ:List Nat:=[51,52,53,54,55,56,57,58,59,60,61,62]
def HA (w0 w:World) (M:List Nat) (σ σ':List Res) (W:World):Prop:=Hp w0 [] M σ' W/\Adv (mm σ M) (mm σ' M) w W
structure J70 (w0 w1:World) (M:List Nat) (σ:List Res) (i jm b4 b11 bm:Nat) (v:Value) (l:List Answer) (a:Answer) (g:A3 Int Value) (L0:A7) (D:Nat->Bool) (L:A7) (W:World):Prop where
 base:∀ t,t∉ANQ->Sx.A5 L t=Sx.A5 L0 t
 f0:D 0=true->Sx.A5 L 51=some (.pointer (some ⟨b4,7,none⟩))
 f1:D 1=true->Sx.A5 L 52=some (.map (some bm))
 f2:D 2=true->Sx.A5 L 53=some (.pointer (some ⟨b11,1,none⟩))
 f3:D 3=true->Sx.A5 L 54=some (.int .i64 a.dispute)
 f4:D 4=true->Sx.A5 L 55=some (.pointer (some ⟨b4,7,none⟩))
 f5:D 5=true->Sx.A5 L 56=some (.map (some bm))
 f6:D 6=true->Sx.A5 L 57=some (.pointer (some ⟨b11,1,none⟩))
 f7:D 7=true->Sx.A5 L 58=some (.int .i64 a.dispute)
 f8:D 8=true->Sx.A5 L 59=some v
 f9:D 9=true->Sx.A5 L 60=some (.agg (List.toArray (AFf a)))
 r10:D 10=true->D 9=true
 r11:D 11=true->D 8=true/\D 9=true/\D 10=true
 r12:D 12=true->∀ j,j < 12->D j=true
 p0:D 11=false->HA w0 w1 M σ σ W
 p1:D 10=true->D 11=false->∃ vb,Sx.A5 L 61=some vb/\RdS AnswerE (mm σ M) W vb [a]
 p2:D 11=true->D 12=false->∃ v',Sx.A5 L 62=some v'/\v'.oneCell'=true/\HA w0 w1 M σ (σ.set i (ownR [] AnswerE 60 v' (l++[a]))) W
 p3:D 12=true->∃ v',HA w0 w1 M σ ((σ.set i (ownR [] AnswerE 60 v' (l++[a]))).set jm (mapO K3 M5 false bm (B5 g a.dispute v'))) W
theorem ANR {w0:World} {M:List Nat} {σ:List Res} {w:World} {L:A7} {i jm j4 j11 b4 b11 bm:Nat} {v:Value} {l:List Answer} {a:Answer} {g:A3 Int Value} {cs4:List Value} {A B:A4} {X:Nat->A4} {Z:List PanicEntry->A4}
 (hI:Hp w0 [] M σ w) (hi:σ[i]?=some (ownR [] AnswerE 60 v l)) (hm:σ[jm]?=some (mapO K3 M5 false bm g)) (h4:σ[j4]?=some (rowR 99 b4 cs4)) (hc4:cs4[7]?=some (.map (some bm))) (h11:σ[j11]?=some (rowR 60 b11 (AFf a))) (hia:InA a) (hv:(g a.dispute).getD (.slice none 0 0)=v)
 (d1:i≠jm) (d2:i≠j4) (d3:i≠j11) (hlen:(l.length+1) * 48<=140737488355328) (l4:Sx.A5 L 4=some (.pointer (some ⟨b4,0,none⟩))) (l11:Sx.A5 L 11=some (.pointer (some ⟨b11,0,none⟩)))
 (hA:∀ v' L' w',(∀ t,t∉ANQ->Sx.A5 L' t=Sx.A5 L t)->HA w0 w M σ ((σ.set i (ownR [] AnswerE 60 v' (l++[a]))).set jm (mapO K3 M5 false bm (B5 g a.dispute v'))) w'->A [] L' w'):CW Tryz.prog 65 r70 [] L w A B X Z:=by
 refine AOj (ops:=o70) gx_mix (by decide) (by decide) (J70 w0 w M σ i jm b4 b11 bm v l a g L) ?_ (AP7 (by decide)) ?_ ?_
 . exact⟨fun _ _=>rfl,(fun h=>by cases h),(fun h=>by cases h),(fun h=>by cases h),(fun h=>by cases h),(fun h=>by cases h),(fun h=>by cases h),(fun h=>by cases h),(fun h=>by cases h),(fun h=>by cases h),(fun h=>by cases h),(fun h=>by cases h),(fun h=>by cases h),(fun h=>by cases h),(fun _=>⟨hI.ext (Kp.drew _ _),Adv.of_ext (Kp.drew _ _)⟩),(fun h=>by cases h),(fun h=>by cases h),(fun h=>by cases h)⟩
 . intro D L' W k o hJ hk ho hdep
   have common:k < 12->D 12=false/\Row 99 W b4 cs4/\Row 60 W b11 (AFf a):=fun hlt=>by
    have hD12:D 12=false:=by
     cases hb:D 12 with
     |false=>rfl
     |true=>rw[hJ.r12 hb k hlt] at hk;cases hk
    cases h11':D 11 with
    |false=>exact⟨hD12,(hJ.p0 h11').1.row j4 h4,(hJ.p0 h11').1.row j11 h11⟩
    |true=>
     obtain⟨v',_,_,hp⟩:=hJ.p2 h11' hD12
     exact⟨hD12,hp.1.row j4 (by rw[List.getElem?_set_ne d2];exact h4),hp.1.row j11 (by rw[List.getElem?_set_ne d3];exact h11)⟩
   match k,hk,ho,hdep,common with
   |0,hk,ho,hdep,common=>
    obtain⟨hD12,row4,row11⟩:=common (by decide)
    clear common
    have ho:=Option.some.inj (show some _=some o from ho)
    subst ho
    refine ABW ((hJ.base 4 (by decide)).trans l4) Tryz.underlying99 rfl Tryz.sizeOf97 rfl ?_
    exact Reg.nil ⟨rfl,⟨fun t ht=>(by rw[look_cons,if_neg (fun e=>ht (by subst e;decide))];exact hJ.base t ht),fun _=>rfl,hJ.f1,hJ.f2,hJ.f3,hJ.f4,hJ.f5,hJ.f6,hJ.f7,hJ.f8,hJ.f9,hJ.r10,hJ.r11,fun h j hj=>by rw[hJ.r12 h j hj,Bool.or_true],hJ.p0,hJ.p1,hJ.p2,hJ.p3⟩⟩
   |1,hk,ho,hdep,common=>
    obtain⟨hD12,row4,row11⟩:=common (by decide)
    clear common
    have ho:=Option.some.inj (show some _=some o from ho)
    subst ho
    refine V9 (hJ.f0 (hdep _ (List.mem_of_getElem? (i:=0) rfl) rfl)) (row4.rd.cells.at 7 hc4) Tryz.isAgg97 rfl ?_
    exact Reg.nil ⟨rfl,⟨fun t ht=>(by rw[look_cons,if_neg (fun e=>ht (by subst e;decide))];exact hJ.base t ht),hJ.f0,fun _=>rfl,hJ.f2,hJ.f3,hJ.f4,hJ.f5,hJ.f6,hJ.f7,hJ.f8,hJ.f9,hJ.r10,hJ.r11,fun h j hj=>by rw[hJ.r12 h j hj,Bool.or_true],hJ.p0,hJ.p1,hJ.p2,hJ.p3⟩⟩
   |2,hk,ho,hdep,common=>
    obtain⟨hD12,row4,row11⟩:=common (by decide)
    clear common
    have ho:=Option.some.inj (show some _=some o from ho)
    subst ho
    refine ABW ((hJ.base 11 (by decide)).trans l11) Tryz.underlying60 rfl Tryz.sizeOf3 rfl ?_
    exact Reg.nil ⟨rfl,⟨fun t ht=>(by rw[look_cons,if_neg (fun e=>ht (by subst e;decide))];exact hJ.base t ht),hJ.f0,hJ.f1,fun _=>rfl,hJ.f3,hJ.f4,hJ.f5,hJ.f6,hJ.f7,hJ.f8,hJ.f9,hJ.r10,hJ.r11,fun h j hj=>by rw[hJ.r12 h j hj,Bool.or_true],hJ.p0,hJ.p1,hJ.p2,hJ.p3⟩⟩
   |3,hk,ho,hdep,common=>
    obtain⟨hD12,row4,row11⟩:=common (by decide)
    clear common
    have ho:=Option.some.inj (show some _=some o from ho)
    subst ho
    refine V9 (hJ.f2 (hdep _ (List.mem_of_getElem? (i:=0) rfl) rfl)) (row11.rd.cells.at 1 rfl) Tryz.isAgg3 rfl ?_
    exact Reg.nil ⟨rfl,⟨fun t ht=>(by rw[look_cons,if_neg (fun e=>ht (by subst e;decide))];exact hJ.base t ht),hJ.f0,hJ.f1,hJ.f2,fun _=>rfl,hJ.f4,hJ.f5,hJ.f6,hJ.f7,hJ.f8,hJ.f9,hJ.r10,hJ.r11,fun h j hj=>by rw[hJ.r12 h j hj,Bool.or_true],hJ.p0,hJ.p1,hJ.p2,hJ.p3⟩⟩
   |4,hk,ho,hdep,common=>
    obtain⟨hD12,row4,row11⟩:=common (by decide)
    clear common
    have ho:=Option.some.inj (show some _=some o from ho)
    subst ho
    refine ABW ((hJ.base 4 (by decide)).trans l4) Tryz.underlying99 rfl Tryz.sizeOf97 rfl ?_
    exact Reg.nil ⟨rfl,⟨fun t ht=>(by rw[look_cons,if_neg (fun e=>ht (by subst e;decide))];exact hJ.base t ht),hJ.f0,hJ.f1,hJ.f2,hJ.f3,fun _=>rfl,hJ.f5,hJ.f6,hJ.f7,hJ.f8,hJ.f9,hJ.r10,hJ.r11,fun h j hj=>by rw[hJ.r12 h j hj,Bool.or_true],hJ.p0,hJ.p1,hJ.p2,hJ.p3⟩⟩
   |5,hk,ho,hdep,common=>
    obtain⟨hD12,row4,row11⟩:=common (by decide)
    clear common
    have ho:=Option.some.inj (show some _=some o from ho)
    subst ho
    refine V9 (hJ.f4 (hdep _ (List.mem_of_getElem? (i:=0) rfl) rfl)) (row4.rd.cells.at 7 hc4) Tryz.isAgg97 rfl ?_
    exact Reg.nil ⟨rfl,⟨fun t ht=>(by rw[look_cons,if_neg (fun e=>ht (by subst e;decide))];exact hJ.base t ht),hJ.f0,hJ.f1,hJ.f2,hJ.f3,hJ.f4,fun _=>rfl,hJ.f6,hJ.f7,hJ.f8,hJ.f9,hJ.r10,hJ.r11,fun h j hj=>by rw[hJ.r12 h j hj,Bool.or_true],hJ.p0,hJ.p1,hJ.p2,hJ.p3⟩⟩
   |6,hk,ho,hdep,common=>
    obtain⟨hD12,row4,row11⟩:=common (by decide)
    clear common
    have ho:=Option.some.inj (show some _=some o from ho)
    subst ho
    refine ABW ((hJ.base 11 (by decide)).trans l11) Tryz.underlying60 rfl Tryz.sizeOf3 rfl ?_
    exact Reg.nil ⟨rfl,⟨fun t ht=>(by rw[look_cons,if_neg (fun e=>ht (by subst e;decide))];exact hJ.base t ht),hJ.f0,hJ.f1,hJ.f2,hJ.f3,hJ.f4,hJ.f5,fun _=>rfl,hJ.f7,hJ.f8,hJ.f9,hJ.r10,hJ.r11,fun h j hj=>by rw[hJ.r12 h j hj,Bool.or_true],hJ.p0,hJ.p1,hJ.p2,hJ.p3⟩⟩
   |7,hk,ho,hdep,common=>
    obtain⟨hD12,row4,row11⟩:=common (by decide)
    clear common
    have ho:=Option.some.inj (show some _=some o from ho)
    subst ho
    refine V9 (hJ.f6 (hdep _ (List.mem_of_getElem? (i:=0) rfl) rfl)) (row11.rd.cells.at 1 rfl) Tryz.isAgg3 rfl ?_
    exact Reg.nil ⟨rfl,⟨fun t ht=>(by rw[look_cons,if_neg (fun e=>ht (by subst e;decide))];exact hJ.base t ht),hJ.f0,hJ.f1,hJ.f2,hJ.f3,hJ.f4,hJ.f5,hJ.f6,fun _=>rfl,hJ.f8,hJ.f9,hJ.r10,hJ.r11,fun h j hj=>by rw[hJ.r12 h j hj,Bool.or_true],hJ.p0,hJ.p1,hJ.p2,hJ.p3⟩⟩
   |8,hk,ho,hdep,common=>
    obtain⟨hD12,row4,row11⟩:=common (by decide)
    clear common
    have ho:=Option.some.inj (show some _=some o from ho)
    subst ho
    have h11f:D 11=false:=by
     cases hb:D 11 with
     |false=>rfl
     |true=>rw[(hJ.r11 hb).1] at hk;cases hk
    refine ASN jm (hJ.p0 h11f).1 hm (hJ.f5 (hdep _ (List.mem_of_getElem? (i:=0) rfl) rfl)) (hJ.f7 (hdep _ (List.mem_of_getElem? (i:=1) rfl) rfl)) hia.2.1 Tryz.underlying97 Tryz.zeroValue26 (z0:=.slice none 0 0) ⟨[_],⟨rfl,rfl⟩,.inr ⟨rfl,rfl⟩⟩ rfl fun v9 hv9=>?_
    have e9:v9=v:=by
     obtain⟨cs,⟨h1,_⟩,⟨h2,_⟩|⟨_,h2⟩⟩:=hv9
     . cases h2
     . rw[h1] at h2;rw[<-hv];exact (List.singleton_inj.1 h2).symm
    subst e9
    exact Reg.nil ⟨rfl,⟨fun t ht=>(by rw[look_cons,if_neg (fun e=>ht (by subst e;decide))];exact hJ.base t ht),hJ.f0,hJ.f1,hJ.f2,hJ.f3,hJ.f4,hJ.f5,hJ.f6,hJ.f7,fun _=>rfl,hJ.f9,hJ.r10,fun h=>⟨rfl,(hJ.r11 h).2⟩,fun h j hj=>by rw[hJ.r12 h j hj,Bool.or_true],hJ.p0,hJ.p1,hJ.p2,hJ.p3⟩⟩
   |9,hk,ho,hdep,common=>
    obtain⟨hD12,row4,row11⟩:=common (by decide)
    clear common
    have ho:=Option.some.inj (show some _=some o from ho)
    subst ho
    refine ABF ((hJ.base 11 (by decide)).trans l11) row11.rd.cells Tryz.isAgg60 rfl Tryz.sizeOf60 rfl ?_
    exact Reg.nil ⟨rfl,⟨fun t ht=>(by rw[look_cons,if_neg (fun e=>ht (by subst e;decide))];exact hJ.base t ht),hJ.f0,hJ.f1,hJ.f2,hJ.f3,hJ.f4,hJ.f5,hJ.f6,hJ.f7,hJ.f8,fun _=>rfl,fun _=>rfl,fun h=>⟨(hJ.r11 h).1,rfl,(hJ.r11 h).2.2⟩,fun h j hj=>by rw[hJ.r12 h j hj,Bool.or_true],hJ.p0,hJ.p1,hJ.p2,hJ.p3⟩⟩
   |10,hk,ho,hdep,common=>
    obtain⟨hD12,row4,row11⟩:=common (by decide)
    clear common
    have ho:=Option.some.inj (show some _=some o from ho)
    subst ho
    have h11f:D 11=false:=by
     cases hb:D 11 with
     |false=>rfl
     |true=>rw[(hJ.r11 hb).2.2] at hk;cases hk
    refine AJo (E:=AnswerE) (xs:=[a]) rsl26 (hJ.p0 h11f).1 rfl (show Sx.evs L' [.tmp 60]=some [_] by simp only[Sx.evs,Sx.ev,hJ.f9 (hdep _ (List.mem_of_getElem? (i:=0) rfl) rfl)];rfl) (Cls.cons rfl Cls.nil) (Chs.cons (AW9 hia) Chs.nil) rfl rfl ?_
    intro vb w' hI' x'
    have hf':=hI'.freeze 0 rfl
    have hI2:HA w0 w M σ σ w':=⟨hI'.erase 0,(hJ.p0 h11f).2.trans (x'.trans (F9 (σ:=_ :: σ) 0))⟩
    exact Reg.nil ⟨rfl,⟨fun t ht=>(by rw[look_cons,if_neg (fun e=>ht (by subst e;decide))];exact hJ.base t ht),hJ.f0,hJ.f1,hJ.f2,hJ.f3,hJ.f4,hJ.f5,hJ.f6,hJ.f7,hJ.f8,hJ.f9,fun _=>hdep _ (List.mem_of_getElem? (i:=0) rfl) rfl,fun h=>⟨(hJ.r11 h).1,(hJ.r11 h).2.1,rfl⟩,fun h j hj=>by rw[hJ.r12 h j hj,Bool.or_true],fun _=>hI2,fun _ _=>⟨vb,rfl,hf'⟩,(fun h=>by rw[show D 11=true from h] at h11f;cases h11f),(fun h=>by rw[show D 12=true from h] at hD12;cases hD12)⟩⟩
   |11,hk,ho,hdep,common=>
    obtain⟨hD12,row4,row11⟩:=common (by decide)
    clear common
    have ho:=Option.some.inj (show some _=some o from ho)
    subst ho
    have hdep9:D 9=true:=hJ.r10 (hdep _ (List.mem_of_getElem? (i:=1) rfl) rfl)
    have hk11:D 11=false:=hk
    obtain⟨vb,hvb,hrb⟩:=hJ.p1 (hdep _ (List.mem_of_getElem? (i:=1) rfl) rfl) hk11
    refine AFr i rsl26 (hJ.p0 hk11).1 hi (hJ.f8 (hdep _ (List.mem_of_getElem? (i:=0) rfl) rfl)) hvb hrb ⟨hlen,Nat.le_trans (Nat.le_mul_of_pos_right _ (by decide)) hlen⟩ rfl ?_
    intro v' w' hI' x'
    have ho':=hI'.ownAt i (by rw[List.getElem?_set_self (List.getElem?_eq_some_iff.1 hi).1])
    exact Reg.nil ⟨rfl,⟨fun t ht=>(by rw[look_cons,if_neg (fun e=>ht (by subst e;decide))];exact hJ.base t ht),hJ.f0,hJ.f1,hJ.f2,hJ.f3,hJ.f4,hJ.f5,hJ.f6,hJ.f7,hJ.f8,hJ.f9,hJ.r10,fun _=>⟨(hdep _ (List.mem_of_getElem? (i:=0) rfl) rfl),hdep9,(hdep _ (List.mem_of_getElem? (i:=1) rfl) rfl)⟩,fun h j hj=>by rw[hJ.r12 h j hj,Bool.or_true],(fun h=>by cases h),(fun _ h=>by cases h),fun _ _=>⟨v',rfl,Own.oneC ho',hI',(hJ.p0 hk11).2.trans x'⟩,(fun h=>by rw[show D 12=true from h] at hD12;cases hD12)⟩⟩
   |12,hk,ho,hdep,common=>
    clear common
    have ho:=Option.some.inj (show some _=some o from ho)
    subst ho
    have e0:D 0=true:=(hdep _ (List.mem_of_getElem? (i:=4) rfl) rfl)
    have e1:D 1=true:=(hdep _ (List.mem_of_getElem? (i:=5) rfl) rfl)
    have e2:D 2=true:=(hdep _ (List.mem_of_getElem? (i:=6) rfl) rfl)
    have e3:D 3=true:=(hdep _ (List.mem_of_getElem? (i:=7) rfl) rfl)
    have e4:D 4=true:=(hdep _ (List.mem_of_getElem? (i:=8) rfl) rfl)
    have e5:D 5=true:=(hdep _ (List.mem_of_getElem? (i:=9) rfl) rfl)
    have e6:D 6=true:=(hdep _ (List.mem_of_getElem? (i:=10) rfl) rfl)
    have e7:D 7=true:=(hdep _ (List.mem_of_getElem? (i:=11) rfl) rfl)
    have e8:D 8=true:=(hdep _ (List.mem_of_getElem? (i:=12) rfl) rfl)
    have e9:D 9=true:=(hdep _ (List.mem_of_getElem? (i:=13) rfl) rfl)
    have e10:D 10=true:=(hdep _ (List.mem_of_getElem? (i:=14) rfl) rfl)
    have e11:D 11=true:=(hdep _ (List.mem_of_getElem? (i:=15) rfl) rfl)
    obtain⟨v',hv',ho',hp⟩:=hJ.p2 e11 hk
    refine AMl (K:=K3) (E:=M5) (ag:=false) jm hp.1 (by rw[List.getElem?_set_ne d1];exact hm) (hJ.f1 e1) (hJ.f3 e3) hia.2.1 hv' (z:=v') ⟨[v'],⟨rfl,ho'⟩,.inr ⟨rfl,rfl⟩⟩ Tryz.underlying97 ?_
    intro w' hI' x'
    refine Reg.nil ⟨rfl,⟨hJ.base,hJ.f0,hJ.f1,hJ.f2,hJ.f3,hJ.f4,hJ.f5,hJ.f6,hJ.f7,hJ.f8,hJ.f9,hJ.r10,hJ.r11,fun _ j hj=>?_,(fun h=>by rw[show D 11=false from h] at e11;cases e11),(fun _ h=>by rw[show D 11=false from h] at e11;cases e11),(fun _ h=>by cases h),fun _=>⟨v',hI',hp.2.trans x'⟩⟩⟩
    have:D j=true:=by
     match j,hj with
     |0,_=>exact e0
     |1,_=>exact e1
     |2,_=>exact e2
     |3,_=>exact e3
     |4,_=>exact e4
     |5,_=>exact e5
     |6,_=>exact e6
     |7,_=>exact e7
     |8,_=>exact e8
     |9,_=>exact e9
     |10,_=>exact e10
     |11,_=>exact e11
    rw[this,Bool.or_true]
   |_+13,_,ho,_,_=>cases ho
 . intro D L' W hall hJ
   obtain⟨v',h⟩:=hJ.p3 (hall 12 (by decide))
   exact hA v' L' W hJ.base h
end Go.Proofs.YtgioiejbphljoaaGreatDoor
set_option maxRecDepth 20000
set_option maxHeartbeats 4000000
namespace Go.Proofs.YtgioiejbphljoaaGreatDoor
open Go Go.Sx Go.Rx Go.RowKit
def AIe:List Answer->A3 Int (List Answer)->Option (A3 Int (List Answer))
 |[],h=>some h
 |a :: l,h=>Option.bind (appo 48 ((h a.dispute).getD []) [a]) fun y=>AIe l (B5 h a.dispute y)
noncomputable def AXA:Code:=match Tryz.f70.body with
 |some (.seq _ (.seq _ (.seq _ (.seq _ (.seq c _)))))=>c
 |_=>.skip
def AP8:List Nat:=[44,45,46,47,48,49,50,11,51,52,53,54,55,56,57,58,59,60,61,62,63]
abbrev Os:=List (Int×Value×List Answer)
def M6 (os:Os):List Res:=os.map fun o=>ownR [] AnswerE 60 o.2.1 o.2.2
theorem AJD {κ α:Type} {f:A3 κ α} {l:List (κ×α)} (h:Lists f l) {i:Nat} {k:κ} {x:α} (hi:l[i]?=some (k,x)):f k=some x:=(h.2 k x).1 (List.mem_of_getElem? hi)
theorem AVn {w0:World} {M:List Nat} {S1:List Res} {W:World} {g:A3 Int Value} {f:A3 Int (List Answer)} {os:Os} (k:Int) (hg:Lists g (os.map fun o=>(o.1,o.2.1))) (hf:Lists f (os.map fun o=>(o.1,o.2.2))) (hI:Hp w0 [] M (M6 os++S1) W) :
 ∃ (os1:Os) (i:Nat) (v:Value) (l:List Answer),Hp w0 [] M (M6 os1++S1) W/\Adv (mm (M6 os++S1) M) (mm (M6 os1++S1) M) W W/\os1[i]?=some (k,v,l)/\(g k).getD (.slice none 0 0)=v/\(f k).getD []=l/\∀ v' l',Lists (B5 g k v') ((os1.set i (k,v',l')).map fun o=>(o.1,o.2.1))/\Lists (B5 f k l') ((os1.set i (k,v',l')).map fun o=>(o.1,o.2.2)):=by
 by_cases hk:∃ o∈os,o.1=k
 . obtain⟨⟨k',v,l⟩,ho,hkk⟩:=hk
   have hkk:k'=k:=hkk
   subst hkk
   obtain⟨i,hi⟩:=List.getElem?_of_mem ho
   have h1:(os.map fun o=>(o.1,o.2.1))[i]?=some (k',v):=by rw[List.getElem?_map,hi];rfl
   have h2:(os.map fun o=>(o.1,o.2.2))[i]?=some (k',l):=by rw[List.getElem?_map,hi];rfl
   refine⟨os,i,v,l,hI,Adv.refl _ _,hi,by rw[AJD hg h1];rfl,by rw[AJD hf h2];rfl,fun v' l'=>⟨?_,?_⟩⟩
   . rw[List.map_set];exact hg.set h1 v'
   . rw[List.map_set];exact hf.set h2 l'
 . have hg0:∀ x∈(os.map fun o=>(o.1,o.2.1)),x.1≠k:=fun x hx e=>by
    obtain⟨o,ho,rfl⟩:=List.mem_map.1 hx
    exact hk ⟨o,ho,e⟩
   have hf0:∀ x∈(os.map fun o=>(o.1,o.2.2)),x.1≠k:=fun x hx e=>by
    obtain⟨o,ho,rfl⟩:=List.mem_map.1 hx
    exact hk ⟨o,ho,e⟩
   refine⟨(k,.slice none 0 0,[]) :: os,0,_,[],hI.addNil AnswerE 60,hI.addNilH AnswerE 60,rfl,by rw[hg.none hg0];rfl,by rw[hf.none hf0];rfl,fun v' l'=>⟨?_,?_⟩⟩
   . exact (hg.push v' hg0).perm (by simp only[List.set_cons_zero,List.map_cons];exact (List.perm_append_singleton _ _).symm)
   . exact (hf.push l' hf0).perm (by simp only[List.set_cons_zero,List.map_cons];exact (List.perm_append_singleton _ _).symm)
theorem AP9 {w0:World} {M:List Nat} {S0:List Res} {w:World} {L:A7} {jm j4 j1 b4 b1 bm:Nat} {al:List Answer} {cs1 cs4:List Value} {va:Value} {h:A3 Int (List Answer)} {A B:A4} {X:Nat->A4} {Z:List PanicEntry->A4}
 (hI:Hp w0 [] M S0 w) (hm:S0[jm]?=some (mapO K3 M5 false bm fnone)) (h4:S0[j4]?=some (rowR 99 b4 cs4)) (hc4:cs4[7]?=some (.map (some bm))) (h1:S0[j1]?=some (rowR 28 b1 cs1)) (hc1:cs1[5]?=some va) (hva:RdS AnswerE (mm S0 M) w va al) (d4:j4≠jm) (hw:w0.heap.size<=w.heap.size)
 (l1:Sx.A5 L 1=some (.pointer (some ⟨b1,0,none⟩))) (l4:Sx.A5 L 4=some (.pointer (some ⟨b4,0,none⟩))) (hr:AIe al fnone=some h)
 (hA:∀ L' w' (g:A3 Int Value) (os:Os),(∀ t,t∉AP8->Sx.A5 L' t=Sx.A5 L t)->Lists g (os.map fun o=>(o.1,o.2.1))->Lists h (os.map fun o=>(o.1,o.2.2))->HA w0 w M S0 (M6 os++S0.set jm (mapO K3 M5 false bm g)) w'->A [] L' w'):CW Tryz.prog 65 AXA [] L w A B X Z:=by
 obtain⟨a45,c45,rfl,hlen,hle⟩:=hva.shape
 have hlen_:InK .i64 ((al.length:Nat):Int):=hva.inK
 rw[InK.i64] at hlen_
 refine A6 ?_
 refine A9 ?_
 refine ABW l1 Tryz.underlying28 rfl Tryz.sizeOf26 rfl ?_
 refine V9 rfl ((hI.row j1 h1).rd.cells.at 5 hc1) Tryz.isAgg26 rfl ?_
 refine AE7 rfl Tryz.underlying26 rfl ?_
 refine I4 rfl rfl ?_
 refine Reg.nil ?_
 refine G6 ?_
 refine ABV (ι:=A7×Nat×A3 Int Value×A3 Int (List Answer)×Os) (fun q=>q.1) (fun q W=>((∀ t,t∉AP8->Sx.A5 q.1 t=Sx.A5 L t)/\Sx.A5 q.1 45=some (.slice a45 al.length c45)/\Sx.A5 q.1 46=some (.int .i64 (al.length:Nat))/\Sx.A5 q.1 47=some (.int .i64 (q.2.1:Nat)))/\q.2.1<=al.length/\AIe (al.drop q.2.1) q.2.2.2.1=some h/\Lists q.2.2.1 (q.2.2.2.2.map fun o=>(o.1,o.2.1))/\Lists q.2.2.2.1 (q.2.2.2.2.map fun o=>(o.1,o.2.2))/\HA w0 w M S0 (M6 q.2.2.2.2++S0.set jm (mapO K3 M5 false bm q.2.2.1)) W) (fun q=>al.length - q.2.1) (_,0,fnone,fnone,[]) ⟨⟨fun t ht=>?_,rfl,rfl,rfl⟩,Nat.zero_le _,by simpa using hr,Lists.nil,Lists.nil,?_⟩ (Sub.refl _) ?_
 . show Sx.A5 (_ :: _ :: _ :: _ :: L) t=_
   rw[look_cons,if_neg (fun e=>ht (by subst e;decide)),look_cons,if_neg (fun e=>ht (by subst e;decide)),look_cons,if_neg (fun e=>ht (by subst e;decide)),look_cons,if_neg (fun e=>ht (by subst e;decide))]
 . have e:M6 []++S0.set jm (mapO K3 M5 false bm fnone)=S0:=by
    show S0.set jm _=S0
    exact List.ext_getElem? fun j=>by
     rw[List.getElem?_set]
     split
     . rename_i e;subst e;rw[hm];rw[if_pos (List.getElem?_eq_some_iff.1 hm).1]
     . rfl
   exact⟨by rw[e];exact hI,by rw[e];exact Adv.refl _ _⟩
 rintro⟨L1,i,g,f,os⟩ W1 ⟨⟨lb,l45,l46,l47⟩,hi,hdi,hg,hf,hH⟩
 dsimp only at lb l45 l46 l47 hi hdi hg hf hH ⊢
 refine A6 ?_
 refine A9 ?_
 refine AHK l47 l46 rfl ?_
 refine Reg.nil ?_
 refine A6 ?_
 refine AAN rfl (fun hlt=>?_) (fun hge=>?_)
 . have hlt:i < al.length:=by have:=of_decide_eq_true hlt;omega
   rw[List.drop_eq_getElem_cons hlt] at hdi
   obtain⟨y,hy,hdi⟩:=R6 hdi
   obtain⟨hyl,rfl⟩:=ACq hy
   have hra:=hva.adv hH.2
   obtain⟨os1,i0,v,l,hI1,x1,ho,hgv,hfl,hset⟩:=AVn (al[i]).dispute hg hf hH.1
   rw[hfl] at hyl hdi
   refine O8 ?_
   refine A6 ?_
   refine G6 ?_
   refine A6 ?_
   refine A9 ?_
   refine ASK l45 l47 hra (z:=al[i]) (AFH (List.getElem?_eq_getElem hlt)) Tryz.underlying26 Tryz.sizeOf60 rfl ?_
   intro b9 o9 cs9 hR9 hC9
   obtain⟨rfl,hia⟩:=(AnswerE_R (x:=al[i])).1 hR9
   obtain⟨q0,q1,q2,q3,q4,q5⟩:=hia
   refine ABF rfl hC9.cells Tryz.isAgg60 rfl Tryz.sizeOf60 rfl ?_
   refine ACr hI1 Tryz.zeroValue60 rfl rfl ?_
   intro b11 w5 hI5 x5
   refine ABX 0 hI5 rfl rfl rfl rfl Tryz.sizeOf60 rfl rfl (C9 rfl (C9 rfl (C9 rfl (C9 rfl (C9 rfl (C9 rfl ACm)))))) ?_
   intro w6 hI6 x6
   have hI6:Hp w0 [] M (rowR 60 b11 (AFf al[i]) :: (M6 os1++S0.set jm (mapO K3 M5 false bm g))) w6:=hI6
   have x6:Adv (mm (rowR 60 b11 [.int .i64 0,.int .i64 0,.int .i64 0,.int .u8 0,.int .i64 0,.int .i64 0] :: (M6 os1++S0.set jm (mapO K3 M5 false bm g))) M) (mm (rowR 60 b11 (AFf al[i]) :: (M6 os1++S0.set jm (mapO K3 M5 false bm g))) M) w5 w6:=x6
   refine Reg.nil ?_
   have e4:M6 os1++S0.set jm (mapO K3 M5 false bm g)=M6 os1++S0.set jm (mapO K3 M5 false bm g):=rfl
   have hio:i0 < os1.length:=(List.getElem?_eq_some_iff.1 ho).1
   have hlo:(M6 os1).length=os1.length:=by simp[M6]
   have hjm:jm < S0.length:=(List.getElem?_eq_some_iff.1 hm).1
   refine ANR hI6 (i:=i0+1) (jm:=os1.length+jm+1) (j4:=os1.length+j4+1) (j11:=0) (b4:=b4) (b11:=b11) (bm:=bm) (v:=v) (l:=l) (a:=al[i]) (g:=g) (cs4:=cs4) ?_ ?_ ?_ hc4 rfl ⟨q0,q1,q2,q3,q4,q5⟩ hgv (by omega) (by omega) (by omega) hyl.1 ?_ rfl ?_
   . rw[List.getElem?_cons_succ,List.getElem?_append_left (by rw[hlo];exact hio)]
     simp only[M6,List.getElem?_map,ho];rfl
   . rw[List.getElem?_cons_succ,List.getElem?_append_right (by rw[hlo];omega),hlo,Nat.add_sub_cancel_left,List.getElem?_set_self hjm]
   . rw[List.getElem?_cons_succ,List.getElem?_append_right (by rw[hlo];omega),hlo,Nat.add_sub_cancel_left,List.getElem?_set_ne (Ne.symm d4)]
     exact h4
   . exact (lb 4 (by decide)).trans l4
   . intro v' L5 w7 lb5 hH7
     have e7:((rowR 60 b11 (AFf al[i]) :: (M6 os1++S0.set jm (mapO K3 M5 false bm g))).set (i0+1) (ownR [] AnswerE 60 v' (l++[al[i]]))).set (os1.length+jm+1) (mapO K3 M5 false bm (B5 g (al[i]).dispute v'))=rowR 60 b11 (AFf al[i]) :: (M6 (os1.set i0 ((al[i]).dispute,v',l++[al[i]]))++S0.set jm (mapO K3 M5 false bm (B5 g (al[i]).dispute v'))):=by
      rw[List.set_cons_succ,List.set_cons_succ,List.set_append_left _ _ (by rw[hlo];exact hio),List.set_append_right _ _ (by rw[List.length_set,hlo];omega),List.length_set,hlo,Nat.add_sub_cancel_left,List.set_set]
      simp only[M6,List.map_set]
     rw[e7] at hH7
     have hH8:HA w0 w M S0 (M6 (os1.set i0 ((al[i]).dispute,v',l++[al[i]]))++S0.set jm (mapO K3 M5 false bm (B5 g (al[i]).dispute v'))) w7:=⟨hH7.1.erase 0,hH.2.trans (x1.trans (x5.trans (x6.trans (hH7.2.trans (F9 (σ:=_ :: _) 0)))))⟩
     refine A9 ?_
     refine AHL ((lb5 47 (by decide)).trans l47) rfl rfl (InK.i64.2 (by omega)) ?_
     refine I4 rfl rfl ?_
     refine Reg.nil ⟨rfl,(_,i+1,B5 g (al[i]).dispute v',B5 f (al[i]).dispute (l++[al[i]]),os1.set i0 ((al[i]).dispute,v',l++[al[i]])),?_,Sub.refl _,by dsimp only;omega⟩
     refine⟨⟨fun t ht=>?_,(lb5 45 (by decide)).trans l45,(lb5 46 (by decide)).trans l46,rfl⟩,hlt,hdi,(hset v' _).1,(hset v' _).2,hH8⟩
     show Sx.A5 (_ :: _ :: L5) t=_
     rw[look_cons,if_neg (fun e=>ht (by subst e;decide)),look_cons,if_neg (fun e=>ht (by subst e;decide)),lb5 t (fun e=>ht ((by decide:∀ u∈ANQ,u∈AP8) t e))]
     show Sx.A5 (_ :: _ :: _ :: _ :: L1) t=_
     rw[look_cons,if_neg (fun e=>ht (by subst e;decide)),look_cons,if_neg (fun e=>ht (by subst e;decide)),look_cons,if_neg (fun e=>ht (by subst e;decide)),look_cons,if_neg (fun e=>ht (by subst e;decide))]
     exact lb t ht
 . have hge:¬ i < al.length:=by have:=of_decide_eq_false hge;omega
   obtain rfl:i=al.length:=by omega
   rw[List.drop_length] at hdi
   have hdi:=Option.some.inj hdi
   subst hdi
   refine ABT (T6 ?_)
   exact hA _ W1 g os (fun t ht=>by
    show Sx.A5 (_ :: L1) t=_
    rw[look_cons,if_neg (fun e=>ht (by subst e;decide))]
    exact lb t ht) hg hf hH
end Go.Proofs.YtgioiejbphljoaaGreatDoor
set_option maxRecDepth 20000
set_option maxHeartbeats 4000000
namespace Go.Proofs.YtgioiejbphljoaaGreatDoor
open Go Go.Sx Go.Rx Go.RowKit
theorem AEp:∀ {cs vs:List Value},cs.length=vs.length->C1 cs 0 vs=vs
 |[],[],_=>rfl
 |_ :: r,v :: vs,h=>by
  show v :: C1 r 0 vs=_
  rw[AEp (by simpa using h)]
 |[],_ :: _,h=>by cases h
 |_ :: _,[],h=>by cases h
noncomputable def AQq:Nat->Desk_99->Option Int
 |0=>N0
 |1=>N1
 |2=>N2
 |_=>N3
def stepG:Nat->Nat
 |0=>202
 |1=>203
 |2=>204
 |_=>208
noncomputable def AB1 (x:Desk_99) (i:Nat):Nat->Option Int
 |0=>some 0
 |n+1=>Option.bind (AQq i x) fun e=>if e=0 then AB1 x (i+1) n else some e
theorem ANS (i:Nat) {M:List Nat} {w:World} (hM:MLt M w) (hg:GlOk (P:=Tryz.prog) M w) {x:Desk_99} {v:Value} (hx:OkD (P:=Tryz.prog) M w (.st 10) x v) {e:Int} (hr:AQq i x=some e) :
 CallsV Tryz.prog (.func (.func (stepG i)) #[] #[]) [v] w fun en w'=>en=.returned (.int .i64 e)/\InK .i64 e/\Ext w w':=by
 have fin:∀ {k:Nat} {c:Ctr},c.ps=[.d (.st 10)]->True:=fun _=>trivial
 have conv:∀ {k:Nat},Calls Tryz.prog k (List.toArray [v]) w (fun en w'=>∃ vs,en=.returned (ACF vs)/\KsOk (P:=Tryz.prog) M (obK [.d (.int .i64)] vs++M) w w' [.d (.int .i64)] e vs/\Ext w w')->(∀ args w,(callFunc k args).run Tryz.prog w=.ok (.enter k args) w)->CallsV Tryz.prog (.func (.func k) #[] #[]) [v] w fun en w'=>en=.returned (.int .i64 e)/\InK .i64 e/\Ext w w':=fun {k} h hc=>by
  refine⟨k,#[],rfl,hc,?_⟩
  refine Calls.mono (by simpa using h) ?_
  rintro en w' ⟨vs,rfl,⟨u,rfl,hu⟩,hx⟩
  have hu:OkD (P:=Tryz.prog) M w' (.int .i64) e u:=hu
  obtain⟨rfl,hk⟩:=E5 (ρ:=fun _=>undef) (R:=fun _=>none) (.int .i64) hu
  exact⟨rfl,hk,hx⟩
 match i,hr with
 |0,hr=>exact conv (ok202.2 M w (x,()) [v] e hM hg ⟨v,[],rfl,hx,rfl⟩ hr) Tryz.call202
 |1,hr=>exact conv (ok203.2 M w (x,()) [v] e hM hg ⟨v,[],rfl,hx,rfl⟩ hr) Tryz.call203
 |2,hr=>exact conv (ok204.2 M w (x,()) [v] e hM hg ⟨v,[],rfl,hx,rfl⟩ hr) Tryz.call204
 |_+3,hr=>exact conv (ok208.2 M w (x,()) [v] e hM hg ⟨v,[],rfl,hx,rfl⟩ hr) Tryz.call208
noncomputable def AXB:Code:=match Tryz.f70.body with
 |some (.seq _ (.seq _ (.seq _ (.seq c _))))=>c
 |_=>.skip
def ANT:List Nat:=[32,33,34,35,8,36,37,38,9,39,40,41,42,3,43]
theorem ANU {M:List Nat} {w:World} {L:A7} {x:Desk_99} {b2 b4:Nat} {cs2 cs4:List Value} {e:Int} {A B:A4} {X:Nat->A4} {Z:List PanicEntry->A4} (hM:MLt M w) (hg:GlOk (P:=Tryz.prog) M w) (h4:RdC M w b4 0 cs4) (hx:(enc (P:=Tryz.prog) (.st 10)).R M w cs4 x) (h2:Row 99 w b2 cs2) (hn2:cs2.length=8)
 (l2:Sx.A5 L 2=some (.pointer (some ⟨b2,0,none⟩))) (l4:Sx.A5 L 4=some (.pointer (some ⟨b4,0,none⟩))) (hr:AB1 x 0 4=some e)
 (hok:e=0->∀ L' w',Ext w w'->(∀ t,t∉ANT->Sx.A5 L' t=Sx.A5 L t)->A [] L' w')
 (herr:e≠0->∀ L' w' w'',Ext w w'->Kp [b2] w' w''->Row 99 w'' b2 cs4->InK .i64 e->(∀ t,t∉ANT->Sx.A5 L' t=Sx.A5 L t)->Sx.A5 L' 3=some (.int .i64 e)->B [] L' w''):CW Tryz.prog 65 AXB [] L w A B X Z:=by
 obtain⟨bg,og,ug,vg,eg,hcg,⟨vs',rfl,hvs⟩,hug⟩:=hg 1 _ rfl (fun _=>undef) (fun _=>none)
 cases eg
 obtain rfl:vs'=vg:=by
  have h:List.toArray vs'=List.toArray vg:=hug
  simpa using h
 have hn4:cs4.length=8:=(enc (P:=Tryz.prog) (.st 10)).len hx
 have one4:∀ u∈cs4,u.oneCell'=true:=(enc (P:=Tryz.prog) (.st 10)).one hx
 have ei:vs'=[.func (.func 202) #[] #[],.func (.func 203) #[] #[],.func (.func 204) #[] #[],.func (.func 208) #[] #[]]:=by
  have one:∀ {g:Nat} {l:List SV} {vs:List Value},OkL (P:=Tryz.prog) (fun _=>undef) (fun _=>none) M w (.fn g [] :: l) vs->∃ r,vs=.func (.func g) #[] #[] :: r/\OkL (P:=Tryz.prog) (fun _=>undef) (fun _=>none) M w l r:=fun {g l vs} h=>by
   obtain⟨u,c,r,rfl,⟨ws,rfl,hws⟩,hc,hr⟩:=h
   have hws:ws=[]:=hws
   subst hws
   have hc:#[Value.func (.func g) #[] #[]]=List.toArray c:=hc
   have:c=[Value.func (.func g) #[] #[]]:=by simpa using hc.symm
   subst this
   exact⟨r,rfl,hr⟩
  obtain⟨r1,rfl,h1⟩:=one hvs
  obtain⟨r2,rfl,h2⟩:=one h1
  obtain⟨r3,rfl,h3⟩:=one h2
  obtain⟨r4,rfl,h4⟩:=one h3
  have h4:r4=[]:=h4
  rw[h4]
 subst ei
 refine A6 ?_
 refine A9 ?_
 refine ABF rfl hcg.cells Tryz.isAgg184 rfl Tryz.sizeOf184 rfl ?_
 refine I4 rfl rfl ?_
 refine Reg.nil ?_
 refine G6 ?_
 refine ABV (ι:=A7×Nat) (fun q=>q.1) (fun q W=>((∀ t,t∉ANT->Sx.A5 q.1 t=Sx.A5 L t)/\Sx.A5 q.1 32=some (.agg #[.func (.func 202) #[] #[],.func (.func 203) #[] #[],.func (.func 204) #[] #[],.func (.func 208) #[] #[]])/\Sx.A5 q.1 33=some (.int .i64 (q.2:Nat)))/\q.2<=4/\AB1 x q.2 (4 - q.2)=some e/\Ext w W) (fun q=>4 - q.2) (_,0) ⟨⟨fun t ht=>?_,rfl,rfl⟩,Nat.zero_le _,hr,Kp.refl _ _⟩ (Sub.refl _) ?_
 . show Sx.A5 (_ :: _ :: L) t=_
   rw[look_cons,if_neg (fun e=>ht (by subst e;decide)),look_cons,if_neg (fun e=>ht (by subst e;decide))]
 rintro⟨L1,i⟩ W1 ⟨⟨lb,l32,l33⟩,hi,hdi,hE⟩
 dsimp only at lb l32 l33 hi hdi ⊢
 refine A6 ?_
 refine A9 ?_
 refine AHK l33 rfl rfl ?_
 refine Reg.nil ?_
 refine A6 ?_
 refine AAN rfl (fun hlt=>?_) (fun hge=>?_)
 . have hlt:i < 4:=by have:=of_decide_eq_true hlt;omega
   rw[show 4 - i=(4 - (i+1))+1 by omega] at hdi
   obtain⟨e1,he1,hdi⟩:=R6 hdi
   refine O8 ?_
   refine A6 ?_
   refine G6 ?_
   refine A6 ?_
   refine A9 ?_
   refine Reg.val (.func (.func (stepG i)) #[] #[]) rfl rfl rfl (fun a ha w' _=>?_) ?_
   . have h7:=ha.eval (x:=.tmp 32) l32
     have h8:=ha.eval (x:=.tmp 33) l33
     have hi4:i=0\/i=1\/i=2\/i=3:=by omega
     rcases hi4 with rfl|rfl|rfl|rfl <;> simp[execOp,h7,h8,Instr.index,asIntOf,run_underlying Tryz.underlying184,part,Tryz.isAgg183,Tryz.sizeOf183,stepG]
   refine G2 rfl rfl ?_
   refine Reg.nil ?_
   refine A6 ?_
   refine A9 ?_
   refine I4 rfl rfl ?_
   refine ABF ((lb 4 (by decide)).trans l4) (h4.adv (Adv.of_ext hE)).cells Tryz.isAgg99 hn4 Tryz.sizeOf99 rfl ?_
   refine AFq (vs:=[.agg cs4.toArray]) rfl rfl rfl ?_
   obtain⟨g9,c9,v9,hc9,hcall⟩:=ANS i (hM.ext hE) (hg.adv (Adv.of_ext hE)) (v:=.agg cs4.toArray) ⟨cs4,(enc (P:=Tryz.prog) (.st 10)).adv hx (Adv.of_ext hE),.inl ⟨rfl,rfl⟩⟩ he1
   refine⟨g9,c9,v9,hc9,hcall.mono ?_⟩
   rintro _ W2 ⟨rfl,hk1,hE2⟩
   refine⟨_,rfl,?_⟩
   refine G2 rfl rfl ?_
   refine Reg.nil ?_
   refine A6 ?_
   refine A9 ?_
   refine I4 rfl rfl ?_
   refine AQO rfl rfl rfl ?_
   refine Reg.nil ?_
   have lk9:∀ {a b c d f g h k:Value} (t:Nat),t∉ANT->Sx.A5 ((40,a) :: (39,b) :: (9,c) :: (38,d) :: (37,f) :: (36,g) :: (8,h) :: (35,k) :: (34,.bool (decide ((i:Int) < 4))) :: L1) t=Sx.A5 L t:=fun t ht=>by
    rw[look_cons,if_neg (fun e=>ht (by subst e;decide)),look_cons,if_neg (fun e=>ht (by subst e;decide)),look_cons,if_neg (fun e=>ht (by subst e;decide)),look_cons,if_neg (fun e=>ht (by subst e;decide)),look_cons,if_neg (fun e=>ht (by subst e;decide)),look_cons,if_neg (fun e=>ht (by subst e;decide)),look_cons,if_neg (fun e=>ht (by subst e;decide)),look_cons,if_neg (fun e=>ht (by subst e;decide)),look_cons,if_neg (fun e=>ht (by subst e;decide))]
    exact lb t ht
   have hEx:Ext w W2:=hE.trans hE2
   refine AAN rfl (fun hne=>?_) (fun heq=>?_)
   . have hne:e1≠0:=by simpa using hne
     rw[if_neg hne] at hdi
     cases hdi
     refine A6 ?_
     refine A9 ?_
     refine ABF ((lk9 4 (by decide)).trans l4) (h4.adv (Adv.of_ext hEx)).cells Tryz.isAgg99 hn4 Tryz.sizeOf99 rfl ?_
     refine I4 rfl rfl ?_
     have hb2:b2 < w.heap.size:=J8 h2
     refine AO4 (e:=99) (cs:=cs2) (vs:=cs4) ((lk9 2 (by decide)).trans l2) rfl rfl ((hEx.block b2 hb2 (by simp)).trans h2) Tryz.sizeOf99 hn4 (by rw[hn2,hn4];rfl) one4 ?_
     intro w3 hr3 hk3
     refine G2 rfl rfl ?_
     refine Reg.nil ?_
     refine J7 ?_
     have hset:C1 cs2 0 cs4=cs4:=AEp (by rw[hn2,hn4])
     rw[hset] at hr3
     exact herr hne _ W2 w3 hEx hk3 hr3 hk1 (fun t ht=>by
      show Sx.A5 (_ :: _ :: _ :: _) t=_
      rw[look_cons,if_neg (fun e=>ht (by subst e;decide)),look_cons,if_neg (fun e=>ht (by subst e;decide)),look_cons,if_neg (fun e=>ht (by subst e;decide))]
      exact lk9 t ht) rfl
   . have heq:e1=0:=by simpa using heq
     rw[if_pos heq] at hdi
     refine O8 ?_
     refine A9 ?_
     refine AHL l33 rfl rfl (InK.i64.2 (by omega)) ?_
     refine I4 rfl rfl ?_
     refine Reg.nil ⟨rfl,(_,i+1),?_,Sub.refl _,by dsimp only;omega⟩
     refine⟨⟨fun t ht=>?_,l32,rfl⟩,hlt,hdi,hEx⟩
     show Sx.A5 (_ :: _ :: _) t=_
     rw[look_cons,if_neg (fun e=>ht (by subst e;decide)),look_cons,if_neg (fun e=>ht (by subst e;decide))]
     exact lk9 t ht
 . have hge:¬ i < 4:=by have:=of_decide_eq_false hge;omega
   obtain rfl:i=4:=by omega
   have he:e=0:=(Option.some.inj hdi).symm
   refine ABT (T6 ?_)
   exact hok he _ W1 hE (fun t ht=>by
    show Sx.A5 (_ :: L1) t=_
    rw[look_cons,if_neg (fun e=>ht (by subst e;decide))]
    exact lb t ht)
end Go.Proofs.YtgioiejbphljoaaGreatDoor
set_option maxRecDepth 20000
set_option maxHeartbeats 4000000
namespace Go.Rx
open Go Go.Sx Go.RowKit
section
variable [Trk] [Sg] [Sf] {P:Program} [Se P] [Anch] {w0 w:World} {M:List Nat} {N:Nat} {ds:List Deferred}
theorem AOm [Sl (P:=P)] {G:Gx} (hG:GxOk P G) (c:Code) (an:An) {sh:Sh} {σ:AS} {x:N6 sh.cs} {L:A7} {w:World} {A B:A4} {X:Nat->A4} {Z:List PanicEntry->A4} (h:exec G N (fun _=>(none:Option Unit)) c an (H8 sh) (fun _ _=>none) (fun _=>none) σ=some x) (hH:Holds (P:=P) w0 [] M σ L w)
 (hA:∀ L' w',EnvS (D3 c++C8 an) L L'->Holds (P:=P) w0 [] M (B9 (D3 c++C8 an) sh σ x) L' w'->A ds L' w'):CW P N c ds L w A B X Z:=
 AAV (n:=3) (ADB (I2 hG c an _ _ _ _ _ _ _ _ _ _ _ _ _ h hH (fun σ1 L1 w1 h1 hR hE1 hH1=>by
  obtain⟨S,ρ,γ,μ,ι,hS⟩:=hH1
  exact hA L1 w1 hE1 (S7 hS hR h1)) (fun i σ2 L2 w2 h2=>by cases h2) (fun r σ2 L2 w2 h2 h3 _ hH2=>by cases h2) PZ.no))
end
section
variable [Trk] [Sg] [Sf] {P:Program} [Se P] {ρ:Nat->Value} {R:Nat->Option AR} {M:List Nat} {w:World} {l:List SV} {vs:List Value}
theorem AAX {k:IntKind} {x:Int} (h:OkL (P:=P) ρ R M w (.int k x :: l) vs):∃ r,vs=.int k x :: r/\InK k x/\OkL (P:=P) ρ R M w l r:=by
 obtain⟨u,c,r,rfl,⟨rfl,hk⟩,hc,hr⟩:=h
 have hc:#[Value.int k x]=List.toArray c:=hc
 have:c=[Value.int k x]:=by simpa using hc.symm
 subst this
 exact⟨r,rfl,hk,hr⟩
theorem AD9 {t:Ty} {x:List (den t)} (h:OkL (P:=P) ρ R M w (.dat (.sl t) x :: l) vs):∃ v r,vs=v :: r/\OkD (P:=P) M w (.sl t) x v/\v.cells=#[v]/\OkL (P:=P) ρ R M w l r:=by
 obtain⟨u,c,r,rfl,⟨_,hd⟩,hc,hr⟩:=h
 obtain⟨a,n,rfl,_⟩:=(OkD.rds hd).shape
 have hc:#[Value.slice a x.length n]=List.toArray c:=hc
 have:c=[Value.slice a x.length n]:=by simpa using hc.symm
 subst this
 exact⟨_,r,rfl,hd,rfl,hr⟩
theorem ABE {s:SV} (h:OkL (P:=P) ρ R M w (s :: l) vs) (hs:∀ u,Ok (P:=P) ρ R M w s u->u.cells=#[u]):∃ u r,vs=u :: r/\OkL (P:=P) ρ R M w l r:=by
 obtain⟨u,c,r,rfl,hu,hc,hr⟩:=h
 rw[hs u hu] at hc
 have:c=[u]:=by simpa using hc.symm
 subst this
 exact⟨u,r,rfl,hr⟩
theorem ACl {i:Nat} (h:OkL (P:=P) ρ R M w (.own i :: l) vs):∃ r,vs=ρ i :: r/\OkL (P:=P) ρ R M w l r:=by
 obtain⟨u,c,r,rfl,⟨rfl,h1,_⟩,hc,hr⟩:=h
 rw[h1] at hc
 have:c=[ρ i]:=by simpa using hc.symm
 subst this
 exact⟨r,rfl,hr⟩
end
end Go.Rx
namespace Go.Proofs.YtgioiejbphljoaaGreatDoor
open Go Go.Sx Go.Rx Go.RowKit
theorem AB2 {P:Program} {kt:TypeId} {α β:Type} {K:Ky P kt Int} {E:Enc α} {E':Enc β} {ag ag':Bool} {M M':List Nat} {w:World} {b:Nat} {g:A3 Int α} {f:A3 Int β} (h:MapH K E ag M w b g) (hc:∀ k x v,g k=some x->Vl E ag M w v x->∃ y,f k=some y/\Vl E' ag' M' w v y) (hn:∀ k,g k=none->f k=none):MapH K E' ag' M' w b f:=by
 obtain⟨es,c,xs,h1,h2,h3,h4⟩:=h
 have key:∀ (es:List MapEntry) (xs:List (Int×α)),EntK K E ag M w es xs->(∀ x∈xs,g x.1=some x.2)->∃ ys:List (Int×β),EntK K E' ag' M' w es ys/\ys.map (·.1)=xs.map (·.1)/\∀ y∈ys,f y.1=some y.2:=by
  intro es
  induction es with
  |nil=>
   intro xs h _
   cases xs with
   |nil=>exact⟨[],trivial,rfl,fun _ h=>by cases h⟩
   |cons _ _=>exact h.elim
  |cons e es ih=>
   intro xs h hx
   cases xs with
   |nil=>exact h.elim
   |cons x xs=>
    obtain⟨k1,k2,k3⟩:=h
    obtain⟨ys,y1,y2,y3⟩:=ih xs k3 fun z hz=>hx z (List.mem_cons_of_mem _ hz)
    obtain⟨y,hy1,hy2⟩:=hc x.1 x.2 e.val (hx x (List.mem_cons_self ..)) k2
    exact⟨(x.1,y) :: ys,⟨k1,hy2,y1⟩,by simp[y2],fun z hz=>(List.mem_cons.1 hz).elim (fun e=>by subst e;exact hy1) (y3 z)⟩
 obtain⟨ys,y1,y2,y3⟩:=key _ _ h3 fun x hx=>(h4.2 x.1 x.2).1 hx
 refine⟨es,c,ys,h1,h2,y1,by rw[y2];exact h4.1,fun a y=>⟨fun hm=>y3 _ hm,fun hf=>?_⟩⟩
 cases hg:g a with
 |none=>rw[hn a hg] at hf;cases hf
 |some x=>
  have h5:(a,x)∈xs:=(h4.2 a x).2 hg
  have h6:a∈ys.map (·.1):=by rw[y2];exact List.mem_map.2 ⟨_,h5,rfl⟩
  obtain⟨z,hz,rfl⟩:=List.mem_map.1 h6
  have:=y3 z hz
  rw[hf] at this
  cases this
  exact hz
def s70 (d:Desk):AS:=⟨[(1,.ptr 1 0),(2,.ptr 2 0),(3,.int .i64 0),(4,.ptr 4 0)],
 [(4,.row 99 [.int .i64 d.terms.answer,.int .i64 d.terms.mark,.int .i64 d.terms.lately,.dat (.sl (.st 1)) d.reports,.dat (.sl (.st 2)) d.disputes,.dat (.sl (.st 3)) d.answers,.own 13,.own 14]),(14,.own false (.mp 3 (.int .i64) (.sl (.st 3))) (fnone:A3 Int (List Answer))),(13,.own false (.mp 3 (.int .i64) (.st 1)) (fnone:A3 Int Report)),
  (2,.row 99 [.int .i64 0,.int .i64 0,.int .i64 0,.nilS,.nilS,.nilS,.raw (.map none),.raw (.map none)]),(1,.row 28 [.int .i64 d.terms.answer,.int .i64 d.terms.mark,.int .i64 d.terms.lately,.dat (.sl (.st 1)) d.reports,.dat (.sl (.st 2)) d.disputes,.dat (.sl (.st 3)) d.answers])],[],[]⟩
noncomputable def ANV:Code:=match Tryz.f70.body with
 |some (.seq _ (.seq _ (.seq c _)))=>c
 |_=>.skip
def ANW:Sh:=⟨[(.cont 13,.own (.mp 3 (.int .i64) (.st 1)))],[4,14,13,2,1]⟩
theorem AGG:GxOk Tryz.prog gxb:=B1 trivial
theorem AVo (d:Desk):exec gxb 65 (fun _=>(none:Option Unit)) ANV anpre70.r.r (H8 ANW) (fun _ _=>none) (fun _=>none) (s70 d)=T2 d:=by kernel_rfl
noncomputable def P0 (d:Desk):Option (Desk_99×Int):=Option.bind (T2 d) fun f=>Option.bind (AB1 ⟨d,f,fnone⟩ 0 4) fun e=>if e=0 then Option.bind (AIe d.answers fnone) fun h=>some (⟨d,f,h⟩,0) else some (⟨d,f,fnone⟩,e)
noncomputable def ctr70:Ctr:=⟨[.d (.st 4)],[.d (.st 10),.d (.int .i64)],fun a=>P0 a.1⟩
theorem AMN {M:List Nat} {W:World} {d:Desk} {f:A3 Int Report} {h:A3 Int (List Answer)} {v3 v4 v5 v6 v7:Value} (k0:InK .i64 d.terms.answer) (k1:InK .i64 d.terms.mark) (k2:InK .i64 d.terms.lately) (k3:OkD (P:=Tryz.prog) M W (.sl (.st 1)) d.reports v3) (k4:OkD (P:=Tryz.prog) M W (.sl (.st 2)) d.disputes v4) (k5:OkD (P:=Tryz.prog) M W (.sl (.st 3)) d.answers v5) (k6:OkD (P:=Tryz.prog) M W (.mp 3 (.int .i64) (.st 1)) f v6) (k7:OkD (P:=Tryz.prog) M W (.mp 3 (.int .i64) (.sl (.st 3))) h v7)
 (c3:v3.cells=#[v3]) (c4:v4.cells=#[v4]) (c5:v5.cells=#[v5]) (c6:v6.cells=#[v6]) (c7:v7.cells=#[v7]) :
 OkD (P:=Tryz.prog) M W (.st 10) (⟨d,f,h⟩:Desk_99) (.agg (List.toArray [.int .i64 d.terms.answer,.int .i64 d.terms.mark,.int .i64 d.terms.lately,v3,v4,v5,v6,v7])):=
 H6 (ρ:=fun _=>undef) (R:=fun _=>none) (M:=M) (fun _ h=>h) (.st 10) (.agg [.int .i64 d.terms.answer,.int .i64 d.terms.mark,.int .i64 d.terms.lately,.dat (.sl (.st 1)) d.reports,.dat (.sl (.st 2)) d.disputes,.dat (.sl (.st 3)) d.answers,.dat (.mp 3 (.int .i64) (.st 1)) f,.dat (.mp 3 (.int .i64) (.sl (.st 3))) h]) (fun i hi=>by cases hi) rfl
  ⟨_,rfl,_,[_],_,rfl,⟨rfl,k0⟩,rfl,_,[_],_,rfl,⟨rfl,k1⟩,rfl,_,[_],_,rfl,⟨rfl,k2⟩,rfl,v3,[v3],_,rfl,⟨rfl,k3⟩,c3,v4,[v4],_,rfl,⟨rfl,k4⟩,c4,v5,[v5],_,rfl,⟨rfl,k5⟩,c5,v6,[v6],_,rfl,⟨rfl,k6⟩,c6,v7,[v7],_,rfl,⟨rfl,k7⟩,c7,rfl⟩
theorem ok70:Ctr.ok Tryz.prog 70 ctr70:=by
 refine⟨by decide,fun M w a vals r hM hg ha hr=>?_⟩
 obtain⟨d,_⟩:=a
 obtain⟨vd,_,rfl,hvd,rfl⟩:=ha
 have hvd:OkD (P:=Tryz.prog) M w (.st 4) d vd:=hvd
 have hr:P0 d=some r:=hr
 unfold P0 at hr
 obtain⟨f,hf,hr⟩:=R6 hr
 obtain⟨e,he,hr⟩:=R6 hr
 have h0:Holds (P:=Tryz.prog) w [] M ⟨[(0,.str 4 d)],[],[],[]⟩ [(0,vd)] w:=by
  refine Holds.start hM (fun t s ht=>?_) ⟨trivial,hg⟩
  rw[fnd_cons] at ht
  split at ht
  . rename_i e;subst e;cases ht;exact⟨vd,rfl,hvd⟩
  . cases ht
 refine G7 (l:=[vd]) (fn:=Tryz.f70) Tryz.func70 rfl rfl rfl ?_
 refine A6 ?_
 refine ABD AGG (by exact rfl) h0 fun L1 w1 hE1 h1=>?_
 refine A6 ?_
 refine ABD AGG (by exact rfl) h1 fun L2 w2 hE2 h2=>?_
 have h3:=AEo (env':=(s70 d).env) (res':=(s70 d).res) h2 ⟨rfl,rfl,rfl,rfl,trivial⟩ fun _=>rfl
 clear h1 h2
 refine A6 ?_
 refine AOm AGG ANV anpre70.r.r (sh:=ANW) (σ:=s70 d) ((AVo d).trans hf) h3 fun L3 w3 hE3 h4=>?_
 obtain⟨S,ρ,γ,μ,ι,hS⟩:=h4
 obtain⟨v4,l4,bb4,hb4,rfl⟩:=hS.env 4 (.ptr 4 0) rfl
 obtain⟨v2,l2,bb2,hb2,rfl⟩:=hS.env 2 (.ptr 2 0) rfl
 obtain⟨v1,l1,bb1,hb1,rfl⟩:=hS.env 1 (.ptr 1 0) rfl
 obtain⟨v3,l3,rfl,_⟩:=hS.env 3 (.int .i64 0) rfl
 obtain⟨b4,e4,r4,o4,i4⟩:=hS.rowAt (i:=4) (e:=99) (l:=[.int .i64 d.terms.answer,.int .i64 d.terms.mark,.int .i64 d.terms.lately,.dat (.sl (.st 1)) d.reports,.dat (.sl (.st 2)) d.disputes,.dat (.sl (.st 3)) d.answers,.own 13,.own 14]) rfl
 obtain⟨b2,e2,r2,o2,i2⟩:=hS.rowAt (i:=2) (e:=99) (l:=[.int .i64 0,.int .i64 0,.int .i64 0,.nilS,.nilS,.nilS,.raw (.map none),.raw (.map none)]) rfl
 obtain⟨b1,e1,r1,o1,i1⟩:=hS.rowAt (i:=1) (e:=28) (l:=[.int .i64 d.terms.answer,.int .i64 d.terms.mark,.int .i64 d.terms.lately,.dat (.sl (.st 1)) d.reports,.dat (.sl (.st 2)) d.disputes,.dat (.sl (.st 3)) d.answers]) rfl
 have i13:=hS.res 13 (.own false (.mp 3 (.int .i64) (.st 1)) f) rfl
 have i14:=hS.res 14 (.own false (.mp 3 (.int .i64) (.sl (.st 3))) (fnone:A3 Int (List Answer))) rfl
 obtain⟨b13,e13⟩:∃ b,ρ 13=.map (some b):=hS.row 13 _ rfl
 obtain⟨b14,e14⟩:∃ b,ρ 14=.map (some b):=hS.row 14 _ rfl
 rw[hb4] at e4;cases e4
 rw[hb2] at e2;cases e2
 rw[hb1] at e1;cases e1
 obtain⟨qa,g4,k0,oa⟩:=AAX o4
 obtain⟨qb,ea,k1,ob⟩:=AAX oa
 obtain⟨qc,eb,k2,oc⟩:=AAX ob
 obtain⟨vr,qd,ec,dr,cr,od⟩:=AD9 oc
 obtain⟨vx,qe,ed,dx,cx,oe⟩:=AD9 od
 obtain⟨vy,qf,ee,dy,cy,of⟩:=AD9 oe
 obtain⟨qg,ef,og⟩:=ACl of
 obtain⟨qh,eg,oh⟩:=ACl og
 have oh:qh=[]:=oh
 rw[oh] at eg
 rw[eg,e14] at ef
 rw[ef,e13] at ee
 rw[ee] at ed
 rw[ed] at ec
 rw[ec] at eb
 rw[eb] at ea
 rw[ea] at g4
 rw[g4] at r4 i4
 obtain⟨pa,g1,_,oa1⟩:=AAX o1
 obtain⟨pb,fa,_,ob1⟩:=AAX oa1
 obtain⟨pc,fb,_,oc1⟩:=AAX ob1
 obtain⟨vr1,pd,fc,_,_,od1⟩:=AD9 oc1
 obtain⟨vx1,pe,fd,_,_,oe1⟩:=AD9 od1
 obtain⟨va1,pf,fe,da1,_,of1⟩:=AD9 oe1
 have of1:pf=[]:=of1
 rw[of1] at fe
 rw[fe] at fd
 rw[fd] at fc
 rw[fc] at fb
 rw[fb] at fa
 rw[fa] at g1
 rw[g1] at r1 i1
 have hn2:(γ 2).length=8:=by
  obtain⟨_,t1,a1,u1⟩:=ABE o2 fun u h=>by obtain⟨rfl,_⟩:=h;rfl
  obtain⟨_,t2,a2,u2⟩:=ABE u1 fun u h=>by obtain⟨rfl,_⟩:=h;rfl
  obtain⟨_,t3,a3,u3⟩:=ABE u2 fun u h=>by obtain⟨rfl,_⟩:=h;rfl
  obtain⟨_,t4,a4,u4⟩:=ABE u3 fun u h=>by have h:u=.slice none 0 0:=h;rw[h];rfl
  obtain⟨_,t5,a5,u5⟩:=ABE u4 fun u h=>by have h:u=.slice none 0 0:=h;rw[h];rfl
  obtain⟨_,t6,a6,u6⟩:=ABE u5 fun u h=>by have h:u=.slice none 0 0:=h;rw[h];rfl
  obtain⟨_,t7,a7,u7⟩:=ABE u6 fun u h=>by obtain⟨rfl,_⟩:=h;rfl
  obtain⟨_,t8,a8,u8⟩:=ABE u7 fun u h=>by obtain⟨rfl,_⟩:=h;rfl
  have u8:t8=[]:=u8
  rw[a1,a2,a3,a4,a5,a6,a7,a8,u8];rfl
 have i13:S[ι 13]?=some (mapO K3 ReportE true b13 f):=by rw[i13];show some (mapRes (P:=Tryz.prog) [] 3 (.int .i64) (.st 1) (blk (ρ 13)) f)=_;rw[e13];rfl
 have i14:S[ι 14]?=some (mapO K3 (enc (P:=Tryz.prog) (.sl (.st 3))) false b14 fnone):=by rw[i14];show some (mapRes (P:=Tryz.prog) [] 3 (.int .i64) (.sl (.st 3)) (blk (ρ 14)) fnone)=_;rw[e14];rfl
 have hI:=hS.hp
 have hgl:=hS.anch.2
 have hne:∀ {i j:Nat} {a b:AR},A1 (B9 (D3 ANV++C8 anpre70.r.r) ANW (s70 d) f).res i=some a->A1 (B9 (D3 ANV++C8 anpre70.r.r) ANW (s70 d) f).res j=some b->i≠j->ι i≠ι j:=fun {i j a b} h1 h2 hn e=>hn (hS.inj _ _ _ _ h1 h2 e)
 have n4:ι 4≠ι 14:=hne (i:=4) (j:=14) rfl rfl (by decide)
 have n2:ι 2≠ι 14:=hne (i:=2) (j:=14) rfl rfl (by decide)
 have n1:ι 1≠ι 14:=hne (i:=1) (j:=14) rfl rfl (by decide)
 have n13:ι 13≠ι 14:=hne (i:=13) (j:=14) rfl rfl (by decide)
 have n24:ι 2≠ι 4:=hne (i:=2) (j:=4) rfl rfl (by decide)
 have n213:ι 2≠ι 13:=hne (i:=2) (j:=13) rfl rfl (by decide)
 clear hne hS o1 o4 oa ob oc od oe of og oa1 ob1 oc1 od1 oe1
 have hI1:Hp w [] M (S.set (ι 14) (mapO K3 M5 false b14 fnone)) w3:=hI.upd (ι 14) i14 (Kp.refl _ _) (fun b hb=>.inl hb) rfl fun M' hM'=>AB2 (hI.mapAt' _ i14) (fun k x v h=>by cases h) (fun k _=>rfl)
 have x1:Adv (mm S M) (mm (S.set (ι 14) (mapO K3 M5 false b14 fnone)) M) w3 w3:=hI.updA (r':=mapO K3 M5 false b14 fnone) (ι 14) i14 (Kp.refl _ _) (fun b hb=>.inl hb)
 have memM2:∀ b∈bb2 :: M,b∈mm S M:=fun b hb=>mem_mm.2 ((List.mem_cons.1 hb).imp (fun e=>⟨_,List.mem_of_getElem? i2,by rw[e];exact List.mem_singleton.2 rfl⟩) id)
 have nin:∀ {b:Nat} {j:Nat} {r:Res},S[j]?=some r->b∈r.fp->ι 2≠j->b∉bb2 :: M:=fun {b j r} hj hb hn hm=>by
  rcases List.mem_cons.1 hm with e|hm
  . exact hI.dis (ι 2) j _ _ i2 hj hn bb2 (List.mem_singleton.2 rfl) (e▸hb)
  . exact hI.sepM _ (List.mem_of_getElem? hj) b hb hm
 have n214:ι 2≠ι 14:=n2
 have h4r:RdC (bb2 :: M) w3 bb4 0 _:=H1 (nin i4 (List.mem_singleton.2 rfl) n24) r4
 have d13:OkD (P:=Tryz.prog) (bb2 :: M) w3 (.mp 3 (.int .i64) (.st 1)) f (.map (some b13)):=⟨[_],⟨_,K3,rfl,rfl,b13,rfl,nin i13 (List.mem_singleton.2 rfl) n213,AB2 (hI.mapAt' _ i13) (fun k x v h hv=>⟨x,h,hv.mon fun b hb=>.inl (memM2 b hb)⟩) (fun k h=>h)⟩,.inr ⟨rfl,rfl⟩⟩
 have d14:OkD (P:=Tryz.prog) (bb2 :: M) w3 (.mp 3 (.int .i64) (.sl (.st 3))) (fnone:A3 Int (List Answer)) (.map (some b14)):=⟨[_],⟨_,K3,rfl,rfl,b14,rfl,nin i14 (List.mem_singleton.2 rfl) n214,AB2 (hI.mapAt' _ i14) (fun k x v h=>by cases h) (fun k h=>h)⟩,.inr ⟨rfl,rfl⟩⟩
 have hdesk:=AMN k0 k1 k2 (OkD.adv dr (Adv.drop memM2)) (OkD.adv dx (Adv.drop memM2)) (OkD.adv dy (Adv.drop memM2)) d13 d14 cr cx cy rfl rfl
 obtain⟨cs,hR,hcs⟩:=id hdesk
 have hcs:cs=[.int .i64 d.terms.answer,.int .i64 d.terms.mark,.int .i64 d.terms.lately,vr,vx,vy,.map (some b13),.map (some b14)]:=by
  rcases hcs with⟨_,h⟩|⟨h,_⟩
  . have h:=Value.agg.inj h
    simpa using h.symm
  . cases h
 subst hcs
 have hw3:w.heap.size<=w3.heap.size:=hI.kp.size
 have hb2:w.heap.size<=bb2:=((hI.own _ (List.mem_of_getElem? i2)).2 bb2 (List.mem_singleton.2 rfl)).resolve_left (fun h=>by cases h)
 refine A6 ?_
 refine ANU (fun b hb=>hI.mlt b (memM2 b hb)) (hgl.adv (Adv.drop memM2)) h4r hR r2 ?_ l2 l4 he (fun he0 L4 w4 hE4 lk4=>?_) (fun hne L4 w4 w5 hE4 hk5 hr5 hke lk4 l34=>?_)
 . exact hn2
 . rw[if_pos he0] at hr
   obtain⟨h,hh,hr⟩:=R6 hr
   cases hr
   refine A6 ?_
   have hw4:w.heap.size<=w4.heap.size:=Nat.le_trans hw3 hE4.size
   refine AP9 (S0:=S.set (ι 14) (mapO K3 M5 false b14 fnone)) (jm:=ι 14) (j4:=ι 4) (j1:=ι 1) (bm:=b14) (hI1.ext hE4) (List.getElem?_set_self (List.getElem?_eq_some_iff.1 i14).1) (by rw[List.getElem?_set_ne (Ne.symm n4)];exact i4) rfl (by rw[List.getElem?_set_ne (Ne.symm n1)];exact i1) rfl (OkD.rds (OkD.adv da1 (x1.trans (Adv.of_ext hE4)))) n4 hw4 ((lk4 1 (by decide)).trans l1) ((lk4 4 (by decide)).trans l4) hh fun L5 w5 g os lk5 hg5 hh5 hH5=>?_
   rw[List.set_set] at hH5
   have hlo:(M6 os).length=os.length:=by simp[M6]
   have at1:∀ {j:Nat} {q:Res},S[j]?=some q->j≠ι 14->(M6 os++S.set (ι 14) (mapO K3 M5 false b14 g))[os.length+j]?=some q:=fun {j q} hj hn=>by
    rw[List.getElem?_append_right (by rw[hlo];omega),hlo,Nat.add_sub_cancel_left,List.getElem?_set_ne (Ne.symm hn)]
    exact hj
   have at14:(M6 os++S.set (ι 14) (mapO K3 M5 false b14 g))[os.length+ι 14]?=some (mapO K3 M5 false b14 g):=by
    rw[List.getElem?_append_right (by rw[hlo];omega),hlo,Nat.add_sub_cancel_left,List.getElem?_set_self (List.getElem?_eq_some_iff.1 i14).1]
   refine A6 ?_
   refine A9 ?_
   refine ABF ((lk5 4 (by decide)).trans ((lk4 4 (by decide)).trans l4)) (hH5.1.row _ (at1 i4 n4)).rd.cells Tryz.isAgg99 rfl Tryz.sizeOf99 rfl ?_
   refine ABX (os.length+ι 2) hH5.1 (at1 i2 n2) ((lk5 2 (by decide)).trans ((lk4 2 (by decide)).trans l2)) rfl rfl Tryz.sizeOf99 rfl (by rw[hn2];rfl) ((enc (P:=Tryz.prog) (.st 10)).one hR) ?_
   intro w6 hI6 x6
   refine G2 rfl rfl ?_
   refine Reg.nil ?_
   refine J7 ?_
   rw[AEp (by rw[hn2];rfl)] at hI6 x6
   have hx6:=x1.trans ((Adv.of_ext hE4).trans (hH5.2.trans x6))
   have keep:∀ {j:Nat} {q:Res},(M6 os++S.set (ι 14) (mapO K3 M5 false b14 g))[j]?=some q->j≠os.length+ι 2->((M6 os++S.set (ι 14) (mapO K3 M5 false b14 g)).set (os.length+ι 2) (rowR 99 bb2 [.int .i64 d.terms.answer,.int .i64 d.terms.mark,.int .i64 d.terms.lately,vr,vx,vy,.map (some b13),.map (some b14)]))[j]?=some q:=fun {j q} hj hn=>by
    rw[List.getElem?_set_ne (Ne.symm hn)];exact hj
   have f13:=keep (at1 i13 n13) (by omega)
   have f14:=keep at14 (by omega)
   have fown:∀ o∈os,RdS AnswerE M w6 o.2.1 o.2.2:=fun o ho=>by
    obtain⟨i,hi⟩:=List.getElem?_of_mem ho
    have hil:i < os.length:=(List.getElem?_eq_some_iff.1 hi).1
    have h1:(M6 os++S.set (ι 14) (mapO K3 M5 false b14 g))[i]?=some (ownR [] AnswerE 60 o.2.1 o.2.2):=by
     rw[List.getElem?_append_left (by rw[hlo];exact hil)]
     simp only[M6,List.getElem?_map,hi];rfl
    have h2:=keep h1 (by omega)
    exact ((hI6.ownAt i h2).mon fun b hb=>.inr (mem_mm.2 (.inr hb))).rd fun b hb=>hI6.sepM _ (List.mem_of_getElem? h2) b hb
   have c13:OkD (P:=Tryz.prog) M w6 (.mp 3 (.int .i64) (.st 1)) f (.map (some b13)):=⟨[_],⟨_,K3,rfl,rfl,b13,rfl,hI.sepM _ (List.mem_of_getElem? i13) b13 (List.mem_singleton.2 rfl),AB2 (hI6.mapAt' _ f13) (fun k x v h hv=>⟨x,h,hv.mon fun b hb=>.inl (mem_mm.2 (.inr hb))⟩) (fun k h=>h)⟩,.inr ⟨rfl,rfl⟩⟩
   have c14:OkD (P:=Tryz.prog) M w6 (.mp 3 (.int .i64) (.sl (.st 3))) h (.map (some b14)):=⟨[_],⟨_,K3,rfl,rfl,b14,rfl,hI.sepM _ (List.mem_of_getElem? i14) b14 (List.mem_singleton.2 rfl),AB2 (hI6.mapAt' _ f14) (fun k x v hk hv=>by
    obtain⟨o,ho,ho2⟩:=List.mem_map.1 ((hg5.2 k x).2 hk)
    cases ho2
    obtain⟨cs,⟨h1,_⟩,⟨h2,_⟩|⟨_,h2⟩⟩:=hv
    . cases h2
    . rw[h1] at h2
      have h2:=List.singleton_inj.1 h2
      subst h2
      exact⟨o.2.2,(hh5.2 o.1 o.2.2).1 (List.mem_map.2 ⟨o,ho,rfl⟩),[_],⟨_,rfl,fown o ho⟩,.inr ⟨rfl,rfl⟩⟩) (fun k hk=>by
    refine hh5.none fun x hx e=>?_
    obtain⟨o,ho,rfl⟩:=List.mem_map.1 hx
    have h1:=(hg5.2 o.1 o.2.1).1 (List.mem_map.2 ⟨o,ho,rfl⟩)
    rw[show o.1=k from e,hk] at h1
    cases h1)⟩,.inr ⟨rfl,rfl⟩⟩
   have memM:∀ b∈M,b∈mm ((M6 os++S.set (ι 14) (mapO K3 M5 false b14 g)).set (os.length+ι 2) (rowR 99 bb2 [.int .i64 d.terms.answer,.int .i64 d.terms.mark,.int .i64 d.terms.lately,vr,vx,vy,.map (some b13),.map (some b14)])) M:=fun b hb=>mem_mm.2 (.inr hb)
   have hfin:=AMN (d:=d) (f:=f) (h:=h) k0 k1 k2 ((OkD.adv dr hx6).mon memM) ((OkD.adv dx hx6).mon memM) ((OkD.adv dy hx6).mon memM) c13 c14 cr cx cy rfl rfl
   have r6:=hI6.row (os.length+ι 2) (List.getElem?_set_self (List.getElem?_eq_some_iff.1 (at1 i2 n2)).1)
   exact O1 (rs:=[.cell 2 99,.tmp 3]) (vs:=[_,_]) rfl (.cons (.agg ((lk5 2 (by decide)).trans ((lk4 2 (by decide)).trans l2)) r6.rd.cells Tryz.isAgg99 rfl Tryz.sizeOf99) (.cons (.tmp rfl) .nil)) rfl ⟨[_,_],rfl,⟨_,_,rfl,hfin,_,rfl,⟨[_],⟨rfl,(by decide:InK .i64 0)⟩,.inr ⟨rfl,rfl⟩⟩⟩,hI6.kp⟩
 . rw[if_neg hne] at hr
   cases hr
   have hA5:Adv (bb2 :: M) (bb2 :: M) w3 w5:=⟨(hE4.mono fun b hb=>by cases hb).trans (hk5.mono fun b hb=>.inl (List.mem_cons.2 (.inl (List.mem_singleton.1 hb)))),fun b hb=>.inl hb⟩
   refine O1 (rs:=[.cell 2 99,.tmp 3]) (vs:=[_,_]) rfl (.cons (.agg ((lk4 2 (by decide)).trans l2) hr5.rd.cells Tryz.isAgg99 rfl Tryz.sizeOf99) (.cons (.tmp l34) .nil)) rfl ⟨[_,_],rfl,⟨_,_,rfl,(OkD.adv hdesk hA5).mon fun b hb=>List.mem_cons_of_mem _ hb,_,rfl,⟨[_],⟨rfl,hke⟩,.inr ⟨rfl,rfl⟩⟩⟩,?_⟩
   exact (hI.kp.trans hE4).tail hk5 fun c hc=>by rw[List.mem_singleton.1 hc];exact .inr hb2
end Go.Proofs.YtgioiejbphljoaaGreatDoor
set_option maxRecDepth 20000
set_option maxHeartbeats 4000000
namespace Go.Rx
open Go Go.Sx Go.RowKit
section
variable [Trk]
theorem AOn (htk:¬ Trk.t) {M:List Nat} {w W W':World} (h:Adv M M w W) (k:KI M w.heap.size W W'):Adv M M w W':=
 ⟨⟨k.1.trans h.kp.os,k.2.1.trans h.kp.tape,k.2.2.1.trans h.kp.output,Nat.le_trans h.kp.size k.2.2.2.1,fun b hb hn=>(k.2.2.2.2 b hb hn).trans (h.kp.block b hb hn),fun t=>absurd t htk⟩,fun b hb=>.inl hb⟩
theorem ARy {M:List Nat} {w W:World} (hM:MLt M w) (h:Adv M M w W):MLt M W:=fun b hb=>Nat.lt_of_lt_of_le (hM b hb) h.kp.size
end
section
variable [Trk] [Sg] [Sf] {P:Program} [Se P]
theorem AFg {ρ:Nat->Value} {R:Nat->Option AR} {M:List Nat} {w:World}:∀ {l:List (IntKind×Int)} {vs:List Value},OkL (P:=P) ρ R M w (l.map fun p=>.int p.1 p.2) vs->vs=(l.map fun p=>Value.int p.1 p.2)/\∀ p∈l,InK p.1 p.2
 |[],vs,h=>⟨h,fun _ h=>by cases h⟩
 |p :: l,vs,h=>by
  obtain⟨u,c,r,rfl,⟨rfl,hk⟩,h2,h3⟩:=h
  obtain⟨rfl,h4⟩:=AFg h3
  have h2:#[Value.int p.1 p.2]=List.toArray c:=h2
  have:c=[Value.int p.1 p.2]:=by simpa using h2.symm
  subst this
  exact⟨rfl,fun q hq=>(List.mem_cons.1 hq).elim (fun e=>by subst e;exact hk) (h4 q)⟩
end
end Go.Rx
namespace Go.Sx
open Go Go.RowKit
variable [Trk]
theorem AIf {n:Nat} {P:Program} {N:Nat} {ops:Array Oper} {rest:List Oper} {ds:List Deferred} {L:A7} {w:World} {A B:A4} {X:Nat->A4} {Z:List PanicEntry->A4} {d e b o m:Nat} {x:Operand} {cs:List Value} {ty:TypeId} {pos:String} {af:Array Edge} (hx:ev L x=some (.pointer (some ⟨b,o,none⟩))) (hc:Cells w b o cs) (he:∀ w,(isAgg e).run P w=.ok true w) (hn:cs.length=m) (hz:∀ w,(sizeOf e).run P w=.ok m w) (hN:Nat.blt d N=true)
 (h:Rgi n P N ops rest ds ((d,.agg cs.toArray) :: L) w A B X Z):Rgi n P N ops (⟨some d,.load e x,ty,pos,af,none⟩ :: rest) ds L w A B X Z:=by
 subst hn
 refine Rgi.val _ rfl rfl hN rfl (fun a ha=>?_) h
 have:=run_loadCells_list (P:=P) w ⟨b,o,none⟩ cs (fun j v hj=>by rw[add_none];exact hc j v hj)
 have h9:=ha.eval hx
 simp[execOp,h9,Instr.loadAt,Instr.sureAddr,loadVar,he,hz,this]
end Go.Sx
namespace Go.Proofs.YtgioiejbphljoaaGreatDoor
open Go Go.Sx Go.Rx Go.RowKit
noncomputable def AFh (d:Desk_99) (day:Int):List Dispute->Option (List (Dispute×Verdict))
 |[]=>some []
 |x :: l=>Option.bind (F4 d x day) fun r=>Option.bind (AFh d day l) fun ys=>some (if 3<=r.1 then (x,r.2) :: ys else ys)
theorem AFi {α:Type} {l:List α} {i:Nat} (h:i < l.length):l.drop i=l[i] :: l.drop (i+1):=List.drop_eq_getElem_cons h
theorem ATl:GxOk Tryz.prog { gxb with fs:=[(57,ctr57)] }:=B1 ⟨⟨ok57,Tryz.call57⟩,trivial⟩
theorem AK7 {α:Type} {l:List α} {n:Nat} {x:α} (h:l[n]?=some x):l.take (n+1)=l.take n++[x]:=by
 rw[List.take_add_one,h];rfl
def AQr (d:Desk_99) (day:Int) (l:List Dispute) (i:Int):List (Nat×SV):=[(1,.rp (.str 10 d) 0),(2,.rp (.int .i64 day) 0),(10,.dat (.sl (.st 2)) l),(12,.int .i64 i)]
theorem AE2 (n:Nat) {M:List Nat} {w:World} (hM:MLt M w) (hg:GlOk (P:=Tryz.prog) M w) {d:Desk_99} {day:Int} {v1 v2:Value} (h1:Ok (P:=Tryz.prog) (fun _=>undef) (fun _=>none) M w (.rp (.str 10 d) 0) v1) (h2:Ok (P:=Tryz.prog) (fun _=>undef) (fun _=>none) M w (.rp (.int .i64 day) 0) v2) {ys:List (Dispute×Verdict)} (hd:AFh d day d.desk.disputes=some ys) {α:Type} (val:α->Dispute×Verdict) (zs:List α) (hzs:zs.map val=ys) :
 SeqStopsK Fence.wide n Tryz.prog 84 #[v1,v2] (fun x=>#[K7 (.st 2) (val x).1,K7 (.st 12) (val x).2]) (KI M w.heap.size) (fun ys=>ys=zs) (fun pre=>pre <+: zs) zs.length w:=by
 intro lp J Jx W hW hJ _ hY h0
 have hE:Ext w W:=ACC hW (fun h=>h)
 have hA0:Adv M M w W:=Adv.of_ext hE
 subst hzs
 obtain⟨b,o0,u,vs,rfl,hc,hu,hcu⟩:=id h1
 obtain⟨v10,hv10,hk10⟩:∃ v10,vs[4]?=some v10/\Ok (P:=Tryz.prog) (fun _=>undef) (fun _=>none) M w (.dat (.sl (.st 2)) d.desk.disputes) v10:=by
  rcases AEa (G:=gxb) (t:=25) (o:=4) (v:=.str 10 d) (s:=.dat (.sl (.st 2)) d.desk.disputes) rfl hu with⟨_,y,h3,h4⟩|⟨n,cs,h3,_⟩
  . rw[hcu] at h3;exact⟨y,h3,h4⟩
  . cases h3
 have hds:=OkD.rds hk10.2
 obtain⟨a10,c10,hv,hlen,hle⟩:=hds.shape
 subst hv
 refine callsIn_wide.2 ?_
 let R:Ending->World->Prop:=fun e W'=>(∃ v,e=.returned v)/\((∃ xs,xs=zs/\J xs W')\/(∃ pre,pre <+: zs/\Jx pre W'))
 have hret:∀ (pre:List α) (L:Sx.A7) (W':World),pre <+: zs->Jx pre W'->AB7 Tryz.prog Tryz.f84 R [] L W':=fun pre L W' h1 h2=>O1 (rs:=[]) (vs:=[]) rfl .nil rfl ⟨⟨_,rfl⟩,.inr ⟨pre,h1,h2⟩⟩
 refine G7 (l:=[.func (.yield lp) #[] #[],.pointer (some ⟨b,o0+0,none⟩),v2]) (fn:=Tryz.f84) Tryz.func84 rfl rfl rfl ?_
 refine A6 ?_
 refine A9 ?_
 refine ABW rfl Tryz.underlying99 rfl Tryz.sizeOf28 rfl ?_
 refine ABW rfl Tryz.underlying28 rfl Tryz.sizeOf25 rfl ?_
 refine V9 rfl ((hc.adv hA0).cells.at 4 hv10) Tryz.isAgg25 rfl ?_
 refine AE7 rfl Tryz.underlying25 rfl ?_
 refine I4 rfl rfl ?_
 refine Reg.nil ?_
 refine G6 ?_
 let ls:=d.desk.disputes
 have hlen_:InK .i64 ((ls.length:Nat):Int):=hds.inK
 refine ABV (ι:=A7×Nat×Nat) (fun q=>q.1) (fun q W'=>(Sx.A5 q.1 0=some (.func (.yield lp) #[] #[])/\Sx.A5 q.1 1=some (.pointer (some ⟨b,o0+0,none⟩))/\Sx.A5 q.1 2=some v2/\Sx.A5 q.1 10=some (.slice a10 ls.length c10)/\Sx.A5 q.1 11=some (.int .i64 (ls.length:Nat))/\Sx.A5 q.1 12=some (.int .i64 (q.2.1:Nat)))/\q.2.1<=ls.length/\AFh d day (ls.drop q.2.1)=some ((zs.drop q.2.2).map val)/\q.2.2<=zs.length/\J (zs.take q.2.2) W'/\Adv M M w W') (fun q=>ls.length - q.2.1) (_,0,0) ⟨⟨rfl,rfl,rfl,rfl,rfl,rfl⟩,Nat.zero_le _,by simpa using hd,Nat.zero_le _,by simpa using h0,hA0⟩ (Sub.refl _) ?_
 rintro⟨L,i,k⟩ W1 ⟨⟨l0,l1,l2,l10,l11,l12⟩,hi,hdi,hk,hJi,hA1⟩
 dsimp only at l0 l1 l2 l10 l11 l12 hi hdi hk hJi ⊢
 refine A6 ?_
 refine A9 ?_
 refine AHK l12 l11 rfl ?_
 refine Reg.nil ?_
 refine A6 ?_
 refine AAN (by show Sx.A5 ((13,_) :: L) 13=_;rw[look_cons,if_pos rfl]) (fun hlt=>?_) (fun hge=>?_)
 . have hlt:i < ls.length:=by simpa using hlt
   rw[AFi hlt] at hdi
   obtain⟨r,hr,hdi⟩:=R6 hdi
   obtain⟨ys',hys',hdi⟩:=R6 hdi
   have hdi:=Option.some.inj hdi
   refine O8 ?_
   refine A6 ?_
   refine G6 ?_
   have hst:Holds (P:=Tryz.prog) W1 [] M ⟨AQr d day ls i,[],[],[]⟩ ((13,.bool (decide ((i:Int) < (ls.length:Int)))) :: L) W1:=by
    refine Holds.start (ARy hM hA1) (fun t s ht=>?_) ⟨trivial,hg.adv hA1⟩
    unfold AQr at ht
    rw[fnd_cons] at ht
    split at ht
    . rename_i e;subst e;cases ht;exact⟨_,(by rw[look_cons,if_neg (by decide)];exact l1),Ok.adv hA1 _ h1⟩
    rw[fnd_cons] at ht
    split at ht
    . rename_i e;subst e;cases ht;exact⟨_,(by rw[look_cons,if_neg (by decide)];exact l2),Ok.adv hA1 _ h2⟩
    rw[fnd_cons] at ht
    split at ht
    . rename_i e;subst e;cases ht;exact⟨_,(by rw[look_cons,if_neg (by decide)];exact l10),Ok.adv hA1 _ hk10⟩
    rw[fnd_cons] at ht
    split at ht
    . rename_i e;subst e;cases ht;exact⟨_,(by rw[look_cons,if_neg (by decide)];exact l12),rfl,InK.i64.2 (by rw[InK.i64] at hlen_;omega)⟩
    cases ht
   have hix:ixo ls (i:Int)=some ls[i]:=AFH (List.getElem?_eq_getElem hlt)
   refine A6 ?_
   refine ABQ ATl hst hix rfl rfl fun L2 W2 hE2 hst2=>?_
   refine A6 ?_
   refine ABQ ATl hst2 hr rfl rfl fun L3 W3 hE3 hst3=>?_
   obtain⟨S,ρ,γ,μ,ι,hS⟩:=hst3
   have hex:Ext W1 W3:=hS.hp.kp
   obtain⟨v5,l5,b5,hb5,rfl⟩:=hS.env 5 (.ptr 5 0) rfl
   obtain⟨v7,l7,b7,hb7,rfl⟩:=hS.env 7 (.ptr 7 0) rfl
   obtain⟨v6,l6,rfl,hk6⟩:=hS.env 6 (.int .u8 r.1) rfl
   obtain⟨c5,hc5,hr5,ho5,_⟩:=hS.rowAt (i:=5) rfl
   obtain⟨c7,hc7,hr7,ho7,_⟩:=hS.rowAt (i:=7) rfl
   rw[hb5] at hc5;cases hc5
   rw[hb7] at hc7;cases hc7
   obtain⟨hg5,_⟩:=AFg (l:=[(.i64,ls[i].id),(.i64,ls[i].report),(.i64,ls[i].day)]) ho5
   obtain⟨hg7,_⟩:=AFg (l:=[(.i64,r.2.day),(.u8,r.2.is_),(.i64,r.2.by_.id),(.i64,r.2.by_.dispute),(.i64,r.2.by_.day),(.u8,r.2.by_.says),(.i64,r.2.by_.about),(.i64,r.2.by_.cents)]) ho7
   rw[hg5] at hr5
   rw[hg7] at hr7
   have hJ3:J (zs.take k) W3:=hJ _ _ _ none hJi (Ext.grownBy hex) (fun r hr=>by cases hr)
   have hA3:Adv M M w W3:=hA1.trans (Adv.of_ext hex)
   have look3:∀ t,t∉[5,6,7,13,14,15,16,17,18,19,20,21,22]->Sx.A5 L3 t=Sx.A5 L t:=fun t ht=>by
    rw[hE3 t (fun h=>ht ((by decide:∀ u∈C4 _,u∈[5,6,7,13,14,15,16,17,18,19,20,21,22]) t h)),hE2 t (fun h=>ht ((by decide:∀ u∈C4 _,u∈[5,6,7,13,14,15,16,17,18,19,20,21,22]) t h)),look_cons,if_neg (fun e=>ht (by subst e;decide))]
   have q0:=(look3 0 (by decide)).trans l0
   have q1:=(look3 1 (by decide)).trans l1
   have q2:=(look3 2 (by decide)).trans l2
   have q10:=(look3 10 (by decide)).trans l10
   have q11:=(look3 11 (by decide)).trans l11
   have q12:=(look3 12 (by decide)).trans l12
   clear look3 hE2 hE3 hS hst2 hst
   clear_value ls
   have add1:InK .i64 ((i:Int)+1):=InK.i64.2 (by rw[InK.i64] at hlen_;omega)
   refine A6 ?_
   refine AIH n ?_
   refine Rgi.val (.int .u8 r.1) rfl rfl rfl rfl (fun a ha=>by simp[execOp,ha.eval (x:=.tmp 6) l6]) ?_
   refine Rgi.val (.bool (decide (3<=r.1))) rfl rfl rfl rfl (fun a ha=>by
    have h9:=ha.eval (x:=.tmp 23) (v:=.int .u8 r.1) rfl
    have h8:=ha.eval (x:=.const (.int .u8 3)) (v:=.int .u8 3) rfl
    simp[execOp,h9,h8,eqGuard_geq,binOp_geq]) ?_
   refine Rgi.val (.bool (decide (3<=r.1))) rfl rfl rfl rfl (fun a ha=>by
    simp[execOp,ha.eval (x:=.tmp 24) (v:=.bool (decide (3<=r.1))) rfl]) ?_
   have look4:∀ {p q u:Value} (t:Nat),t∉[23,24,25]->Sx.A5 ((25,p) :: (24,q) :: (23,u) :: L3) t=Sx.A5 L3 t:=fun t ht=>by
    rw[look_cons,if_neg (fun e=>ht (by subst e;decide)),look_cons,if_neg (fun e=>ht (by subst e;decide)),look_cons,if_neg (fun e=>ht (by subst e;decide))]
   have m0:=(look4 (p:=.bool (decide (3<=r.1))) (q:=.bool (decide (3<=r.1))) (u:=.int .u8 r.1) 0 (by decide)).trans q0
   have m1:=(look4 (p:=.bool (decide (3<=r.1))) (q:=.bool (decide (3<=r.1))) (u:=.int .u8 r.1) 1 (by decide)).trans q1
   have m2:=(look4 (p:=.bool (decide (3<=r.1))) (q:=.bool (decide (3<=r.1))) (u:=.int .u8 r.1) 2 (by decide)).trans q2
   have m5:=(look4 (p:=.bool (decide (3<=r.1))) (q:=.bool (decide (3<=r.1))) (u:=.int .u8 r.1) 5 (by decide)).trans l5
   have m7:=(look4 (p:=.bool (decide (3<=r.1))) (q:=.bool (decide (3<=r.1))) (u:=.int .u8 r.1) 7 (by decide)).trans l7
   have m10:=(look4 (p:=.bool (decide (3<=r.1))) (q:=.bool (decide (3<=r.1))) (u:=.int .u8 r.1) 10 (by decide)).trans q10
   have m11:=(look4 (p:=.bool (decide (3<=r.1))) (q:=.bool (decide (3<=r.1))) (u:=.int .u8 r.1) 11 (by decide)).trans q11
   have m12:=(look4 (p:=.bool (decide (3<=r.1))) (q:=.bool (decide (3<=r.1))) (u:=.int .u8 r.1) 12 (by decide)).trans q12
   have m25:Sx.A5 ((25,Value.bool (decide (3<=r.1))) :: (24,.bool (decide (3<=r.1))) :: (23,.int .u8 r.1) :: L3) 25=some (.bool (decide (3<=r.1))):=by rw[look_cons,if_pos rfl]
   generalize ((25,Value.bool (decide (3<=r.1))) :: (24,.bool (decide (3<=r.1))) :: (23,.int .u8 r.1) :: L3)=L4 at m0 m1 m2 m5 m7 m10 m11 m12 m25
   by_cases h3:3<=r.1
   . rw[decide_eq_true h3] at m25
     rw[if_pos h3] at hdi
     obtain⟨z,hz,hzs,hkz⟩:∃ z,zs[k]?=some z/\val z=(ls[i],r.2)/\ys'=(zs.drop (k+1)).map val:=by
      rcases Nat.lt_or_ge k zs.length with h|h
      . rw[AFi h,List.map_cons,List.cons.injEq] at hdi
        exact⟨zs[k],List.getElem?_eq_getElem h,hdi.1.symm,hdi.2⟩
      . rw[List.drop_of_length_le h] at hdi
        cases hdi
     have hklt:k < zs.length:=(List.getElem?_eq_some_iff.1 hz).1
     have htk:=AK7 hz
     have hY3:=hY (zs.take k) z W3 hJ3 (by rw[List.length_take];omega)
     dsimp only at hY3
     rw[hzs] at hY3
     refine Rgi.take (t:=25) rfl m25 ?_
     refine Rgi.val (.func (.yield lp) #[] #[]) rfl rfl rfl rfl (fun a ha=>by simp[execOp,ha.eval (x:=.tmp 0) m0]) ?_
     refine Rgi.take (t:=25) rfl m25 ?_
     refine AIf m5 hr5.rd.cells Tryz.isAgg53 rfl Tryz.sizeOf53 rfl ?_
     refine Rgi.take (t:=25) rfl m25 ?_
     refine AIf m7 hr7.rd.cells Tryz.isAgg111 rfl Tryz.sizeOf111 rfl ?_
     refine Rgi.take (t:=25) rfl m25 ?_
     refine AH4 rfl rfl rfl rfl hY3 ?_
     rintro e W4 (⟨rfl,hJ4,hk4⟩|⟨rfl,hJx4⟩)
     . refine⟨_,rfl,?_⟩
       refine Rgi.take (t:=25) rfl m25 ?_
       refine Rgi.val (.bool false) rfl rfl rfl rfl (fun a ha=>by simp[execOp,ha.eval (x:=.tmp 29) rfl,Op.unary]) ?_
       refine Rgi.val (.bool false) rfl rfl rfl rfl (fun a ha=>by
        have h9:=ha.eval (x:=.tmp 25) (v:=.bool true) m25
        simp[execOp,h9,ha.eval (x:=.tmp 30) rfl,asBool]) ?_
       refine Rgi.nil ?_
       refine ABU rfl ?_
       refine O8 ?_
       refine A9 ?_
       refine AHL m12 rfl rfl add1 ?_
       refine I4 rfl rfl ?_
       refine Reg.nil ⟨rfl,(_,i+1,k+1),?_,Sub.refl _,by dsimp only;omega⟩
       exact⟨⟨m0,m1,m2,m10,m11,rfl⟩,hlt,by rw[<-hkz];exact hys',hklt,by rw[htk];exact hJ4,AOn id hA3 hk4⟩
     . refine⟨_,rfl,?_⟩
       refine Rgi.take (t:=25) rfl m25 ?_
       refine Rgi.val (.bool true) rfl rfl rfl rfl (fun a ha=>by simp[execOp,ha.eval (x:=.tmp 29) rfl,Op.unary]) ?_
       refine Rgi.val (.bool true) rfl rfl rfl rfl (fun a ha=>by
        have h9:=ha.eval (x:=.tmp 25) (v:=.bool true) m25
        simp[execOp,h9,ha.eval (x:=.tmp 30) rfl,asBool]) ?_
       refine Rgi.nil ?_
       refine ACn rfl ?_
       refine J7 ?_
       exact hret _ _ _ (htk▸List.take_prefix _ _) hJx4
   . rw[decide_eq_false h3] at m25
     rw[if_neg h3] at hdi
     refine Rgi.pass (t:=25) rfl rfl m25 rfl ?_
     refine Rgi.pass (t:=25) rfl rfl m25 rfl ?_
     refine Rgi.pass (t:=25) rfl rfl m25 rfl ?_
     refine Rgi.pass (t:=25) rfl rfl m25 rfl ?_
     refine Rgi.pass (t:=25) rfl rfl m25 rfl ?_
     refine Rgi.val (.bool false) rfl rfl rfl rfl (fun a ha=>by
      have h9:=ha.eval (x:=.tmp 25) (v:=.bool false) m25
      have h8:=ha.eval (x:=.const (.bool false)) (v:=.bool false) rfl
      simp[execOp,h9,h8,asBool]) ?_
     refine Rgi.nil ?_
     refine ABU rfl ?_
     refine O8 ?_
     refine A9 ?_
     refine AHL m12 rfl rfl add1 ?_
     refine I4 rfl rfl ?_
     refine Reg.nil ⟨rfl,(_,i+1,k),?_,Sub.refl _,by dsimp only;omega⟩
     exact⟨⟨m0,m1,m2,m10,m11,rfl⟩,hlt,by rw[<-hdi];exact hys',hk,hJ3,hA3⟩
 . have hge:¬ i < ls.length:=by simpa using hge
   obtain rfl:i=ls.length:=by omega
   rw[List.drop_length] at hdi
   have hdi:=Option.some.inj hdi
   have hkz:zs.length<=k:=by
    have:=congrArg List.length hdi
    simp at this
    omega
   refine ABT (T6 ?_)
   refine O1 (rs:=[]) (vs:=[]) rfl .nil rfl ⟨⟨_,rfl⟩,.inl ⟨zs,rfl,?_⟩⟩
   rwa [List.take_of_length_le hkz] at hJi
theorem C45 {M:List Nat} {w:World} (hM:MLt M w) {d:Desk_99} {day:Int} {vd:Value} (hvd:OkD (P:=Tryz.prog) M w (.st 10) d vd) (hkd:InK .i64 day):Calls Tryz.prog 45 (List.toArray [vd,.int .i64 day]) w fun e w'=>∃ p1 p2,e=.returned (.func (.func 84) #[] #[p1,p2])/\Ok (P:=Tryz.prog) (fun _=>undef) (fun _=>none) M w' (.rp (.str 10 d) 0) p1/\Ok (P:=Tryz.prog) (fun _=>undef) (fun _=>none) M w' (.rp (.int .i64 day) 0) p2/\Ext w w':=by
 have hvd0:=hvd
 obtain⟨cs,h1,h3⟩:=hvd
 obtain rfl:vd=.agg (List.toArray cs):=h3.elim (fun h=>h.2) fun h=>by cases h.1
 refine G7 (l:=[.agg (List.toArray cs),.int .i64 day]) (fn:=Tryz.f45) Tryz.func45 rfl rfl rfl ?_
 have hI:=Hp.start (Mu:=[]) hM
 refine A6 ?_
 refine A9 ?_
 refine AAP hI rfl rfl rfl ?_
 intro b w2 hI2 x2
 have hC2:=hI2.freezeRow 0 rfl
 have hI2:=hI2.erase 0
 refine AAP hI2 rfl rfl rfl ?_
 intro b3 w3 hI3 x3
 have hC3:=hI3.freezeRow 0 rfl
 have hI3':=hI3.erase 0
 have x3':Adv (mm [] M) (mm [] M) w2 w3:=x3.trans (F9 (σ:=[_]) 0)
 refine G2 rfl rfl ?_
 refine Reg.nil ?_
 refine A6 ?_
 refine A9 ?_
 refine AEG (xs:=[.tmp 2,.tmp 3]) rfl rfl ?_
 refine G2 rfl rfl ?_
 refine Reg.nil ?_
 refine J7 ?_
 exact O1 (rs:=[.tmp 4]) (vs:=[_]) rfl (.cons (.tmp rfl) .nil) rfl ⟨.pointer (some ⟨b,0,none⟩),.pointer (some ⟨b3,0,none⟩),rfl,⟨b,0,_,_,rfl,hC2.adv x3',OkD.adv hvd0 (Adv.of_ext hI3'.kp),rfl⟩,⟨b3,0,_,_,rfl,hC3,⟨rfl,hkd⟩,rfl⟩,hI3'.kp⟩
open Classical in
noncomputable def C7 (d:Desk_99) (day:Int):Option (List (Dispute×Verdict)):=Option.bind (AFh d day d.desk.disputes) fun ys=>if ∀ y∈ys,ADf [.st 2,.st 12] y then some ys else none
noncomputable def AVp:Ctr:=⟨[.d (.st 10),.d (.int .i64)],[.it [.st 2,.st 12]],fun a=>C7 a.1 a.2.1⟩
theorem ok45:Ctr.ok Tryz.prog 45 AVp:=by
 refine⟨by decide,fun M w a vals r hM hg ha hr=>?_⟩
 obtain⟨d,day,_⟩:=a
 obtain⟨vd,_,rfl,hvd,⟨vk,_,rfl,hvk,rfl⟩⟩:=ha
 have hvd:OkD (P:=Tryz.prog) M w (.st 10) d vd:=hvd
 have hr:C7 d day=some r:=hr
 obtain⟨rfl,hkd⟩:vk=.int .i64 day/\InK .i64 day:=by
  have h:OkD (P:=Tryz.prog) M w (.int .i64) day vk:=hvk
  exact E5 (ρ:=fun _=>undef) (R:=fun _=>none) (.int .i64) h
 unfold C7 at hr
 obtain⟨ys,hys,hr⟩:=R6 hr
 split at hr
 . rename_i hok
   cases hr
   have hvd0:=hvd
   obtain⟨cs,h1,h3⟩:=hvd
   obtain rfl:vd=.agg (List.toArray cs):=h3.elim (fun h=>h.2) fun h=>by cases h.1
   refine G7 (l:=[.agg (List.toArray cs),.int .i64 day]) (fn:=Tryz.f45) Tryz.func45 rfl rfl rfl ?_
   have hI:=Hp.start (Mu:=[]) hM
   refine A6 ?_
   refine A9 ?_
   refine AAP hI rfl rfl rfl ?_
   intro b w2 hI2 x2
   have hC2:=hI2.freezeRow 0 rfl
   have hI2:=hI2.erase 0
   refine AAP hI2 rfl rfl rfl ?_
   intro b3 w3 hI3 x3
   have hC3:=hI3.freezeRow 0 rfl
   have hI3':=hI3.erase 0
   have x3':Adv (mm [] M) (mm [] M) w2 w3:=x3.trans (F9 (σ:=[_]) 0)
   refine G2 rfl rfl ?_
   refine Reg.nil ?_
   refine A6 ?_
   refine A9 ?_
   refine AEG (xs:=[.tmp 2,.tmp 3]) rfl rfl ?_
   refine G2 rfl rfl ?_
   refine Reg.nil ?_
   refine J7 ?_
   refine O1 (rs:=[.tmp 4]) (vs:=[_]) rfl (.cons (.tmp rfl) .nil) rfl ⟨[_],rfl,⟨_,rfl,⟨_,_,rfl,Tryz.call84,hok,fun M1 w1 hA hM1 α val zs hzs=>?_⟩,rfl,rfl⟩,hI3'.kp⟩
   exact AE2 2 hM1 ((hg.adv (Adv.of_ext hI3'.kp)).adv hA) (v1:=.pointer (some ⟨b,0,none⟩)) (v2:=.pointer (some ⟨b3,0,none⟩)) ⟨b,0,_,_,rfl,(hC2.adv x3').adv hA,OkD.adv hvd0 ((Adv.of_ext hI3'.kp).trans hA),rfl⟩ ⟨b3,0,_,_,rfl,hC3.adv hA,⟨rfl,hkd⟩,rfl⟩ hys val zs hzs
 . cases hr
def bwN (l:List Asked):Nat->List (Int×Asked)
 |0=>[]
 |n+1=>match l[n]? with
  |some x=>((n:Int),x) :: bwN l n
  |none=>bwN l n
theorem AIg (n:Nat) {M:List Nat} {w:World} (hM:MLt M w) (hg:GlOk (P:=Tryz.prog) M w) {l:List Asked} {v1:Value} (h1:Ok (P:=Tryz.prog) (fun _=>undef) (fun _=>none) M w (.rp (.dat (.sl (.st 5)) l) 0) v1) {α:Type} (val:α->Int×Asked) (zs:List α) (hzs:zs.map val=bwN l l.length) :
 SeqStopsK Fence.wide n Tryz.prog 85 #[v1] (fun x=>#[K7 (.int .i64) (val x).1,K7 (.st 5) (val x).2]) (KI M w.heap.size) (fun ys=>ys=zs) (fun pre=>pre <+: zs) zs.length w:=by
 intro lp J Jx W hW hJ _ hY h0
 have hE:Ext w W:=ACC hW (fun h=>h)
 have hA0:Adv M M w W:=Adv.of_ext hE
 obtain⟨b,o0,u,vs,rfl,hc,hu,hcu⟩:=id h1
 have hds:=OkD.rds hu.2
 obtain⟨a10,c10,rfl,hlen,hle⟩:=hds.shape
 obtain rfl:vs=[.slice a10 l.length c10]:=by
  have h:#[Value.slice a10 l.length c10]=List.toArray vs:=hcu
  simpa using h.symm
 have hlen_:InK .i64 ((l.length:Nat):Int):=hds.inK
 rw[InK.i64] at hlen_
 refine callsIn_wide.2 ?_
 let R:Ending->World->Prop:=fun e W'=>(∃ v,e=.returned v)/\((∃ xs,xs=zs/\J xs W')\/(∃ pre,pre <+: zs/\Jx pre W'))
 have hret:∀ (pre:List α) (L:Sx.A7) (W':World),pre <+: zs->Jx pre W'->AB7 Tryz.prog Tryz.f85 R [] L W':=fun pre L W' h1 h2=>O1 (rs:=[]) (vs:=[]) rfl .nil rfl ⟨⟨_,rfl⟩,.inr ⟨pre,h1,h2⟩⟩
 refine G7 (l:=[.func (.yield lp) #[] #[],.pointer (some ⟨b,o0+0,none⟩)]) (fn:=Tryz.f85) Tryz.func85 rfl rfl rfl ?_
 refine A6 ?_
 refine A9 ?_
 refine V9 rfl ((hc.adv hA0).cells.at 0 rfl) Tryz.isAgg29 rfl ?_
 refine AE7 rfl Tryz.underlying29 rfl ?_
 refine AMh rfl rfl rfl (InK.i64.2 (by omega)) ?_
 refine G2 rfl rfl ?_
 refine Reg.nil ?_
 refine G6 ?_
 refine ABV (ι:=A7×Nat×Nat) (fun q=>q.1) (fun q W'=>(Sx.A5 q.1 0=some (.func (.yield lp) #[] #[])/\Sx.A5 q.1 1=some (.pointer (some ⟨b,o0+0,none⟩))/\Sx.A5 q.1 3=some (.int .i64 ((q.2.1:Nat) - 1:Int)))/\q.2.1<=l.length/\bwN l q.2.1=(zs.drop q.2.2).map val/\q.2.2<=zs.length/\J (zs.take q.2.2) W'/\Adv M M w W') (fun q=>q.2.1) (_,l.length,0) ⟨⟨rfl,rfl,rfl⟩,Nat.le_refl _,by simpa using hzs.symm,Nat.zero_le _,by simpa using h0,hA0⟩ (Sub.refl _) ?_
 rintro⟨L,i,k⟩ W1 ⟨⟨l0,l1,l3⟩,hi,hdi,hk,hJi,hA1⟩
 dsimp only at l0 l1 l3 hi hdi hk hJi ⊢
 refine A6 ?_
 refine A6 ?_
 refine A9 ?_
 refine I4 l3 rfl ?_
 refine AQN rfl rfl rfl ?_
 refine Reg.nil ?_
 refine AAN rfl (fun hlt=>?_) (fun hge=>?_)
 . have hlt:0 < i:=by have:=of_decide_eq_true hlt;omega
   obtain⟨m,rfl⟩:∃ m,i=m+1:=⟨i - 1,by omega⟩
   have e3:(((m+1:Nat):Int) - 1)=(m:Int):=by omega
   rw[e3] at l3
   have hx:l[m]?=some l[m]:=List.getElem?_eq_getElem (by omega)
   simp only[bwN,hx] at hdi
   obtain⟨z,hz,hzs2,hkz⟩:∃ z,zs[k]?=some z/\val z=((m:Int),l[m])/\bwN l m=(zs.drop (k+1)).map val:=by
    rcases Nat.lt_or_ge k zs.length with h|h
    . rw[AFi h,List.map_cons,List.cons.injEq] at hdi
      exact⟨zs[k],List.getElem?_eq_getElem h,hdi.1.symm,hdi.2⟩
    . rw[List.drop_of_length_le h] at hdi
      cases hdi
   have hklt:k < zs.length:=(List.getElem?_eq_some_iff.1 hz).1
   have htk:=AK7 hz
   have hY3:=hY (zs.take k) z W1 hJi (by rw[List.length_take];omega)
   dsimp only at hY3
   rw[hzs2] at hY3
   obtain⟨b4,o4,c4,cs4,hv4,_,_,hR4,hC4⟩:=(hds.adv hA1).at m (Nat.lt_of_lt_of_le (Nat.lt_succ_self m) hi)
   cases hv4
   obtain⟨rfl,_⟩:=(AG8 (x:=l[m])).1 hR4
   refine O8 ?_
   refine A6 ?_
   refine G6 ?_
   refine A6 ?_
   refine AIH n ?_
   refine Rgi.val (.func (.yield lp) #[] #[]) rfl rfl rfl rfl (fun a ha=>by simp[execOp,ha.eval (x:=.tmp 0) l0]) ?_
   refine Rgi.val (.int .i64 (m:Int)) rfl rfl rfl rfl (fun a ha=>by simp[execOp,ha.eval (x:=.tmp 3) l3]) ?_
   refine Rgi.val (.slice (some ⟨b4,o4,none⟩) l.length c10) rfl rfl rfl rfl (fun a ha=>by
    have h9:=ha.eval (x:=.tmp 1) l1
    simp[execOp,h9,Instr.loadAt,Instr.sureAddr,loadVar,Tryz.isAgg29,show W1.cell? ⟨b,o0,none⟩=some (.slice (some ⟨b4,o4,none⟩) l.length c10) from (hc.adv hA1).cells.at 0 rfl]) ?_
   refine Rgi.val (.int .i64 (m:Int)) rfl rfl rfl rfl (fun a ha=>by simp[execOp,ha.eval (x:=.tmp 3) l3]) ?_
   refine Rgi.val (.pointer (some ⟨b4,o4+m * 4,none⟩)) rfl rfl rfl rfl (fun a ha=>by
    have h7:=ha.eval (x:=.tmp 13) (v:=.slice (some ⟨b4,o4,none⟩) l.length c10) rfl
    have h8:=ha.eval (x:=.tmp 14) (v:=.int .i64 (m:Int)) rfl
    have h3:(m:Int) < (l.length:Int):=by omega
    simp[execOp,h7,h8,Instr.indexAt,asIntOf,run_underlying Tryz.underlying29,h3,Tryz.sizeOf47,add_none]
    try (intro h9_;exact absurd h9_ (by omega))) ?_
   refine AIf rfl hC4 Tryz.isAgg47 rfl Tryz.sizeOf47 rfl ?_
   refine AH4 rfl rfl rfl rfl hY3 ?_
   rintro e W4 (⟨rfl,hJ4,hk4⟩|⟨rfl,hJx4⟩)
   . refine⟨_,rfl,?_⟩
     refine Rgi.val (.bool false) rfl rfl rfl rfl (fun a ha=>by simp[execOp,ha.eval (x:=.tmp 17) rfl,Op.unary]) ?_
     refine Rgi.nil ?_
     refine ABU rfl ?_
     refine O8 ?_
     refine A9 ?_
     refine I4 l3 rfl ?_
     refine AMh rfl rfl rfl (InK.i64.2 (by omega)) ?_
     refine G2 rfl rfl ?_
     refine Reg.nil ⟨rfl,(_,m,k+1),?_,Sub.refl _,by dsimp only;omega⟩
     exact⟨⟨l0,l1,rfl⟩,Nat.le_of_succ_le hi,hkz,hklt,by rw[htk];exact hJ4,AOn id hA1 hk4⟩
   . refine⟨_,rfl,?_⟩
     refine Rgi.val (.bool true) rfl rfl rfl rfl (fun a ha=>by simp[execOp,ha.eval (x:=.tmp 17) rfl,Op.unary]) ?_
     refine Rgi.nil ?_
     refine ACn rfl ?_
     refine J7 ?_
     exact hret _ _ _ (htk▸List.take_prefix _ _) hJx4
 . have hge:¬ (0:Int)<=(i:Int) - 1:=by simpa using hge
   obtain rfl:i=0:=by omega
   have hkz:zs.length<=k:=by
    have:=congrArg List.length hdi
    simp[bwN] at this
    omega
   refine ABT (T6 ?_)
   refine O1 (rs:=[]) (vs:=[]) rfl .nil rfl ⟨⟨_,rfl⟩,.inl ⟨zs,rfl,?_⟩⟩
   rwa [List.take_of_length_le hkz] at hJi
theorem C47 {M:List Nat} {w:World} (hM:MLt M w) {l:List Asked} {vd:Value} (hvd:OkD (P:=Tryz.prog) M w (.sl (.st 5)) l vd):Calls Tryz.prog 47 (List.toArray [vd]) w fun e w'=>∃ p1,e=.returned (.func (.func 85) #[] #[p1])/\Ok (P:=Tryz.prog) (fun _=>undef) (fun _=>none) M w' (.rp (.dat (.sl (.st 5)) l) 0) p1/\Ext w w':=by
 have hvd0:=hvd
 obtain⟨sa,c,hv,_⟩:=(OkD.rds hvd)
 subst hv
 refine G7 (l:=[_]) (fn:=Tryz.f47) Tryz.func47 rfl rfl rfl ?_
 have hI:=Hp.start (Mu:=[]) hM
 refine A6 ?_
 refine A9 ?_
 refine AAP hI rfl rfl rfl ?_
 intro b w2 hI2 x2
 have hC2:=hI2.freezeRow 0 rfl
 have hI2:=hI2.erase 0
 refine G2 rfl rfl ?_
 refine Reg.nil ?_
 refine A6 ?_
 refine A9 ?_
 refine AEG (xs:=[.tmp 1]) rfl rfl ?_
 refine G2 rfl rfl ?_
 refine Reg.nil ?_
 refine J7 ?_
 exact O1 (rs:=[.tmp 2]) (vs:=[_]) rfl (.cons (.tmp rfl) .nil) rfl ⟨.pointer (some ⟨b,0,none⟩),rfl,⟨b,0,_,_,rfl,hC2,⟨rfl,OkD.adv hvd0 (Adv.of_ext hI2.kp)⟩,rfl⟩,hI2.kp⟩
open Classical in
noncomputable def U2 (l:List Asked):Option (List (Int×Asked)):=if ∀ y∈bwN l l.length,ADf [.int .i64,.st 5] y then some (bwN l l.length) else none
end Go.Proofs.YtgioiejbphljoaaGreatDoor
set_option maxRecDepth 20000
set_option maxHeartbeats 4000000
namespace Go.Proofs.YtgioiejbphljoaaGreatDoor
open Go Go.Sx Go.Rx Go.RowKit
def M4 (_:Unit) (n:Int):Option (List Report):=if 0<=n/\n * 64<=140737488355328 then some [] else none
def ctr120:Ctr:=⟨[.nl,.d (.int .i64)],[.own (.sl 45 (.st 1))],fun a=>M4 a.1 a.2.1⟩
theorem ARz (M:List Nat) (w:World) (n:Nat) (hc:n * 64<=140737488355328):Calls Tryz.prog 120 #[.slice none 0 0,.int .i64 n] w fun e w'=>∃ v,e=.returned v/\(Sx.Own ReportE 45 0 M w' v ([]:List Report)/\∀ b∈ob v,w.heap.size<=b)/\Ext w w':=by
 rcases Nat.eq_zero_or_pos n with rfl|hn
 . have h:=Any8.slices_Grow_room AFK none 0 0 0 w (Nat.le_refl _) (by decide) (by decide) (Nat.le_refl _)
   change Calls Tryz.prog 120 _ _ _ at h
   refine h.mono ?_
   rintro e w' ⟨rfl,rfl⟩
   exact⟨_,rfl,⟨.inl ⟨none,rfl,rfl⟩,fun b hb=>by cases hb⟩,Kp.refl _ _⟩
 . obtain⟨i0,z,h1,h2,h3,h4,h5⟩:=rsl24.info
   have h:=Any8.slices_Grow_grow AFK i0 z h1 h2 (by rw[h3];decide) none 0 0 n [] w (Nat.le_refl _) (by omega) (by rw[h4];omega) (by omega) (by simp) (fun _=>rfl) (fun a ha=>by cases ha)
   change Calls Tryz.prog 120 _ _ _ at h
   refine h.mono ?_
   have hG:=grownCap_ge w (0+n) 0 45
   have hG2:=grownCap_le_maxLen w (0+n) 0 45 (by unfold maxLen;omega)
   change ∀ e w',e=Ending.returned (.slice (some ⟨w.heap.size,0,none⟩) 0 (grownCap w (0+n) 0 45))/\w'=w.drew.alloc (.cells (([]:List Value).toArray++Builtin.zeroCells z.cells (0+n - 0)++Builtin.zeroCells z.cells (grownCap w (0+n) 0 45 - (0+n))) 45)->_
   generalize grownCap w (0+n) 0 45=G at hG hG2
   rintro e w' ⟨rfl,rfl⟩
   obtain⟨c,rfl⟩:∃ c,G=c+1:=⟨G - 1,by omega⟩
   have hz:z.cells.size=8:=h5
   refine⟨_,rfl,⟨.inr ⟨w.heap.size,c,_,rfl,Nat.zero_le _,heap_alloc_new w.drew _,Nat.zero_le _,hG2,?_,?_⟩,fun b hb=>?_⟩,?_⟩
   . simp only[Array.size_append,List.size_toArray,size_zeroCells,hz,List.length_nil]
     show _=(c+1) * 8
     omega
   . simp[Chunks]
   . have:b=w.heap.size:=by simpa[ob] using hb
     omega
   . exact⟨rfl,rfl,rfl,by simp,fun k hk _=>Below.heap_alloc w.drew _ k hk,fun _=>Nat.le_succ _⟩
theorem ok120:Ctr.ok Tryz.prog 120 ctr120:=by
 refine⟨by decide,fun M w a vals r hM _ ha hr=>?_⟩
 obtain⟨v,q,rfl,hv,ha⟩:=ha
 have hv:v=.slice none 0 0:=hv
 subst hv
 obtain⟨v2,q2,rfl,hv2,ha⟩:=ha
 have ha:q2=[]:=ha
 subst ha
 obtain⟨cs,hi,h9|⟨_,rfl⟩⟩:=hv2
 . cases h9.1
 have key:∀ m:Int,[v2]=[Value.int .i64 m]->M4 () m=some r->Calls Tryz.prog 120 #[.slice none 0 0,v2] w fun e w'=>∃ vs,e=.returned (ACF vs)/\KsOk (P:=Tryz.prog) M (obK ctr120.rs vs++M) w w' ctr120.rs r vs/\Ext w w':=fun m hi1 hr=>by
  obtain rfl:v2=Value.int .i64 m:=by simpa using hi1
  unfold M4 at hr
  split at hr
  . rename_i hc
    cases hr
    obtain⟨n,rfl⟩:∃ n:Nat,m=n:=⟨m.toNat,by omega⟩
    refine (ARz M w n (by omega)).mono ?_
    rintro e w' ⟨v,rfl,h1,h2⟩
    exact⟨[v],rfl,⟨v,rfl,AN9 h1⟩,h2⟩
  . cases hr
 exact key _ hi.1 hr
end Go.Proofs.YtgioiejbphljoaaGreatDoor
set_option maxRecDepth 20000
set_option maxHeartbeats 4000000
namespace Go.Proofs.YtgioiejbphljoaaGreatDoor
open Go Go.Sx Go.Rx Go.RowKit
noncomputable def I0 (d:Desk) (day:Int):Option (Desk_99×Int):=Option.bind (P0 d) fun (r1,r2)=>Option.bind (α:=(Bool)) (cond (decide (r2=0)) (Option.bind (D8 (0:Int) (100000:Int) ([day])) fun r4=>some (!r4)) (some false)) ((fun x5=>Option.bind (α:=(Int)) (cond (x5) (some (2:Int)) (some r2)) ((fun x6=>some (r1,x6)))))
def AXC:An:=.nd (.x) (.nd (.x) (.nd (.nd (.jn [.norm ⟨[(.slot 20,.d .bool)],[6,4]⟩] (.x)) (.jn [.norm ⟨[(.slot 7,.d (.int .i64))],[6,4]⟩] (.x))) (.x)))
noncomputable def ctr40:Ctr:=⟨[.d (.st 4),.d (.int .i64)],[.d (.st 10),.d (.int .i64)],fun a=>I0 a.1 a.2.1⟩
theorem ok40:Ctr.ok Tryz.prog 40 ctr40:=B0 (G:={ gxb with fs:=[(44,ctr44),(70,ctr70)] }) (an:=AXC) (B1 ⟨⟨ok44,Tryz.call44⟩,⟨⟨ok70,Tryz.call70⟩,trivial⟩⟩) Tryz.func40 rfl rfl rfl rfl (fun a=>by kernel_rfl)
noncomputable def T3 (slices:(List (List Report))):Option (List Report):=Option.bind (B6 (S:=(Int×Int)) (R:=(Int)) (fun (x6,x7)=>cond (decide (x6 < (slices.length:Int))) (Option.bind (ixo slices x6) fun y8=>Option.bind (chk .i64 (x7+(y8.length:Int))) fun n9=>cond (decide (n9 < 0)) (none) (Option.bind (chk .i64 (x6+1)) fun n10=>some (Sum.inl (n10,n9)))) (some (Sum.inr x7))) ((0:Int),(0:Int))) ((fun x11=>Option.bind (M4 () x11) fun r12=>Option.bind (B6 (S:=(Int×(List Report))) (R:=((List Report))) (fun (x18,x19)=>cond (decide (x18 < (slices.length:Int))) (Option.bind (ixo slices x18) fun y20=>Option.bind (appo 64 x19 y20) fun l21=>Option.bind (chk .i64 (x18+1)) fun n22=>some (Sum.inl (n22,l21))) (some (Sum.inr x19))) ((0:Int),r12)) ((fun x23=>some x23))))
def AXD:An:=.nd (.x) (.nd (.x) (.nd (.nd (.x) (.lp ⟨[(.slot 11,.d (.int .i64)),(.slot 3,.d (.int .i64))],[]⟩ [.exit 0 ⟨[(.slot 3,.d (.int .i64))],[]⟩] (.x))) (.nd (.x) (.nd (.nd (.x) (.lp ⟨[(.slot 27,.d (.int .i64)),(.slot 6,.own (.sl 45 (.st 1)))],[]⟩ [.exit 2 ⟨[(.slot 6,.own (.sl 45 (.st 1)))],[]⟩] (.x))) (.x)))))
noncomputable def ctr80:Ctr:=⟨[.d (.sl (.sl (.st 1)))],[.own (.sl 45 (.st 1))],fun a=>T3 a.1⟩
theorem ok80:Ctr.ok Tryz.prog 80 ctr80:=B0 (G:={ gxb with fs:=[(120,ctr120)] }) (an:=AXD) (B1 ⟨⟨ok120,Tryz.call120⟩,trivial⟩) Tryz.func80 rfl rfl rfl rfl (fun a=>by kernel_rfl)
noncomputable def T4 (l:(List Report)) (day:Int):Option (A3 Int Report):=Option.bind (E1 l day) fun (r1,r2)=>Option.bind (B6 (S:=(Int×(A3 Int Report))) (R:=((A3 Int Report))) (fun (x10,x11)=>cond (decide (x10 < (r1.length:Int))) (Option.bind (ixo r1 x10) fun y12=>Option.bind (chk .i64 (x10+1)) fun n13=>some (Sum.inl (n13,(B5 x11 y12.id y12)))) (some (Sum.inr x11))) ((0:Int),(fnone:(A3 Int Report)))) ((fun x14=>some x14))
def AXE:An:=.nd (.x) (.nd (.x) (.nd (.x) (.nd (.nd (.x) (.lp ⟨[(.slot 19,.d (.int .i64)),(.cont 10,.own (.mp 3 (.int .i64) (.st 1)))],[14,10]⟩ [.exit 0 ⟨[(.cont 10,.own (.mp 3 (.int .i64) (.st 1)))],[10]⟩] (.x))) (.x))))
noncomputable def ctr46:Ctr:=⟨[.d (.sl (.st 1)),.d (.int .i64)],[.own (.mp 3 (.int .i64) (.st 1))],fun a=>T4 a.1 a.2.1⟩
theorem ok46:Ctr.ok Tryz.prog 46 ctr46:=B0 (G:={ gxb with fs:=[(29,ctr29)] }) (an:=AXE) (B1 ⟨⟨ok29,Tryz.call29⟩,trivial⟩) Tryz.func46 rfl rfl rfl rfl (fun a=>by kernel_rfl)
noncomputable def R4 (d:Desk) (day:Int):Option ((List Int)×Int):=Option.bind (I0 d day) fun (r1,r2)=>cond ((!decide (r2=0))) (some (([]:(List Int)),r2)) (Option.bind (O3 r1.desk.disputes) fun r3=>Option.bind (G5 ([(60:Nat),(61:Nat)]) r3) fun (_,m4)=>Option.bind (B6 (S:=(Int×(List Int))) (R:=((List Int))) (fun (x13,x14)=>cond (decide (x13 < (m4.length:Int))) (Option.bind (ixo m4 x13) fun y15=>Option.bind (F4 r1 y15 day) fun (r16,r17)=>Option.bind (α:=((List Int))) (cond (decide (r16=1)) (Option.bind (appo 8 x14 ([y15.id])) fun l18=>some l18) (some x14)) ((fun x19=>Option.bind (chk .i64 (x13+1)) fun n20=>some (Sum.inl (n20,x19))))) (some (Sum.inr x14))) ((0:Int),([]:(List Int)))) ((fun x21=>some (x21,(0:Int)))))
def AXF:An:=.nd (.x) (.nd (.x) (.nd (.x) (.nd (.x) (.nd (.nd (.x) (.lp ⟨[(.slot 29,.d (.int .i64)),(.slot 8,.own (.sl 3 (.int .i64)))],[25,6]⟩ [.exit 0 ⟨[(.slot 8,.own (.sl 3 (.int .i64)))],[]⟩] (.nd (.x) (.nd (.x) (.nd (.nd (.x) (.nd (.x) (.nd (.x) (.jn [.norm ⟨[(.slot 8,.own (.sl 3 (.int .i64)))],[25,6]⟩] (.x))))) (.x)))))) (.x)))))
noncomputable def ctr24:Ctr:=⟨[.d (.st 4),.d (.int .i64)],[.own (.sl 3 (.int .i64)),.d (.int .i64)],fun a=>R4 a.1 a.2.1⟩
theorem ok24:Ctr.ok Tryz.prog 24 ctr24:=B0 (G:={ gxb with fs:=[(40,ctr40),(57,ctr57),(59,ctr59),(60,ctr60),(61,ctr61)],fm:=[(58,ctrm58)] }) (an:=AXF) (AFb ⟨⟨ok40,Tryz.call40⟩,⟨⟨ok57,Tryz.call57⟩,⟨⟨ok59,Tryz.call59⟩,⟨⟨ok60,Tryz.call60⟩,⟨⟨ok61,Tryz.call61⟩,trivial⟩⟩⟩⟩⟩ trivial ⟨⟨okm58,Tryz.call58⟩,trivial⟩) Tryz.func24 rfl rfl rfl rfl (fun a=>by kernel_rfl)
noncomputable def I1 (d:Desk) (id:Int) (day:Int):Option (Int×Int×Int):=Option.bind (I0 d day) fun (r1,r2)=>cond ((!decide (r2=0))) (some ((0:Int),(0:Int),r2)) (Option.bind (V0 r1.desk.disputes (fun a3=>Z1 a3 id)) fun r4=>cond (decide (r4 < 0)) (some ((0:Int),(0:Int),(6:Int))) (Option.bind (ixo r1.desk.disputes r4) fun y5=>Option.bind (F4 r1 y5 day) fun (r6,r7)=>some (r6,r7.day,(0:Int))))
def AXG:An:=.x
noncomputable def ctr23:Ctr:=⟨[.d (.st 4),.d (.int .i64),.d (.int .i64)],[.d (.int .u8),.d (.int .i64),.d (.int .i64)],fun a=>I1 a.1 a.2.1 a.2.2.1⟩
theorem ok23:Ctr.ok Tryz.prog 23 ctr23:=B0 (G:={ gxb with fs:=[(40,ctr40),(55,ctr55),(56,ctr56),(57,ctr57)] }) (an:=AXG) (B1 ⟨⟨ok40,Tryz.call40⟩,⟨⟨ok55,Tryz.call55⟩,⟨⟨ok56,Tryz.call56⟩,⟨⟨ok57,Tryz.call57⟩,trivial⟩⟩⟩⟩) Tryz.func23 rfl rfl rfl rfl (fun a=>by kernel_rfl)
noncomputable def AAY (id:Int) (day:Int) (where_:Int) (decided:Int):Option Bool:=Option.bind (AAJ) fun r1=>Option.bind (I1 r1 id day) fun (r2,r3,r4)=>Option.bind (α:=(Bool)) (cond (decide (r4=0)) (cond (decide (r2=where_)) (some (decide (r3=decided))) (some false)) (some false)) ((fun x5=>some x5))
def AXH:An:=.nd (.x) (.nd (.x) (.nd (.jn [.norm ⟨[(.slot 8,.d .bool)],[]⟩] (.x)) (.x)))
noncomputable def ctr31:Ctr:=⟨[.d (.int .i64),.d (.int .i64),.d (.int .u8),.d (.int .i64)],[.d .bool],fun a=>AAY a.1 a.2.1 a.2.2.1 a.2.2.2.1⟩
theorem ok31:Ctr.ok Tryz.prog 31 ctr31:=B0 (G:={ gxb with fs:=[(23,ctr23),(33,ctr33)] }) (an:=AXH) (B1 ⟨⟨ok23,Tryz.call23⟩,⟨⟨ok33,Tryz.call33⟩,trivial⟩⟩) Tryz.func31 rfl rfl rfl rfl (fun a=>by kernel_rfl)
noncomputable def AAZ (d:Desk) (report:Int) (day:Int):Option (Int×Int):=Option.bind (I0 d day) fun (r1,r2)=>cond ((!decide (r2=0))) (some ((0:Int),r2)) (cond ((!((r1.facts report).isSome))) (some ((0:Int),(6:Int))) (Option.bind (B6 (S:=(Int×Int)) (R:=(Int)) (fun (x20,x21)=>cond (decide (x21 < (r1.desk.disputes.length:Int))) (Option.bind (α:=((Int)⊕(Int))) (Option.bind (ixo r1.desk.disputes x21) fun y22=>cond ((!decide (y22.report=report))) (some (Sum.inl x20)) (Option.bind (F4 r1 y22 day) fun (r23,r24)=>cond (decide (r23=1)) (some (Sum.inr r23)) (Option.bind (α:=(Bool)) (cond (decide (r23=2)) (Option.bind (chk .i64 (day - r24.day)) fun n25=>some (decide (n25<=r1.desk.terms.mark))) (some false)) ((fun x26=>Option.bind (α:=(Int)) (cond (x26) (some r23) (some x20)) ((fun x27=>some (Sum.inl x27)))))))) ((Sum.elim (fun x28=>Option.bind (chk .i64 (x21+1)) fun n29=>some (Sum.inl (x28,n29))) (fun x30=>some (Sum.inr x30))))) (some (Sum.inr x20))) ((0:Int),(0:Int))) ((fun x31=>some (x31,(0:Int))))))
def AXI:An:=.nd (.x) (.nd (.x) (.nd (.x) (.nd (.x) (.nd (.x) (.nd (.x) (.nd (.nd (.x) (.lp ⟨[(.slot 12,.d (.int .u8)),(.slot 39,.d (.int .i64))],[8]⟩ [.exit 0 ⟨[(.slot 12,.d (.int .u8))],[]⟩] (.nd (.x) (.nd (.x) (.nd (.jn [.norm ⟨[(.slot 12,.d (.int .u8))],[8]⟩,.exit 0 ⟨[(.slot 12,.d (.int .u8))],[]⟩] (.nd (.x) (.nd (.x) (.nd (.x) (.nd (.x) (.nd (.x) (.nd (.jn [.norm ⟨[(.slot 58,.d .bool)],[8]⟩] (.x)) (.jn [.norm ⟨[(.slot 12,.d (.int .u8))],[8]⟩] (.x))))))))) (.x)))))) (.x)))))))
noncomputable def ctr28:Ctr:=⟨[.d (.st 4),.d (.int .i64),.d (.int .i64)],[.d (.int .u8),.d (.int .i64)],fun a=>AAZ a.1 a.2.1 a.2.2.1⟩
theorem ok28:Ctr.ok Tryz.prog 28 ctr28:=B0 (G:={ gxb with fs:=[(40,ctr40),(57,ctr57)] }) (an:=AXI) (B1 ⟨⟨ok40,Tryz.call40⟩,⟨⟨ok57,Tryz.call57⟩,trivial⟩⟩) Tryz.func28 rfl rfl rfl rfl (fun a=>by kernel_rfl)
noncomputable def P1 (id:Int) (day:Int) (mark:Int):Option Bool:=Option.bind (AAJ) fun r1=>Option.bind (AAZ r1 id day) fun (r2,r3)=>Option.bind (α:=(Bool)) (cond (decide (r3=0)) (some (decide (r2=mark))) (some false)) ((fun x4=>some x4))
def AXJ:An:=.nd (.x) (.nd (.x) (.nd (.jn [.norm ⟨[(.slot 6,.d .bool)],[]⟩] (.x)) (.x)))
noncomputable def ctr32:Ctr:=⟨[.d (.int .i64),.d (.int .i64),.d (.int .u8)],[.d .bool],fun a=>P1 a.1 a.2.1 a.2.2.1⟩
theorem ok32:Ctr.ok Tryz.prog 32 ctr32:=B0 (G:={ gxb with fs:=[(28,ctr28),(33,ctr33)] }) (an:=AXJ) (B1 ⟨⟨ok28,Tryz.call28⟩,⟨⟨ok33,Tryz.call33⟩,trivial⟩⟩) Tryz.func32 rfl rfl rfl rfl (fun a=>by kernel_rfl)
end Go.Proofs.YtgioiejbphljoaaGreatDoor
