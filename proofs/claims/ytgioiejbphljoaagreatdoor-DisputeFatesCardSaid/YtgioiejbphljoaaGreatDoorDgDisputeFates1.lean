/-
  Part DisputeFates 1 of the texts that the statement's proof stands on: what memory holds, how code is walked, what the functions reckon. In the order in which they build.
-/
import Derived.Test.YtgioiejbphljoaaGreatDoorDg10
set_option linter.unusedVariables false
set_option linter.unusedSectionVars false
set_option maxRecDepth 20000
set_option maxHeartbeats 1000000
set_option linter.unusedVariables false
namespace Go.Proofs.YtgioiejbphljoaaGreatDoor
open Go Go.Sx Go.Rx
namespace S
theorem wh_ge {d:Desk} {x:Dispute} {day:Int} (h:2<=wh d x day):(dec d x).day<=day/\wh d x day=(dec d x).is_:=by
 unfold wh at h ⊢
 split
 . exact⟨by assumption,rfl⟩
 . rename_i c
   rw[if_neg c] at h
   split at h <;> omega
theorem find_in {l:List Report} (hc:AId l) {c:Report} (h:c∈l):(l.find? fun r=>decide (r.id=c.id))=some c:=by
 cases hg:l.find? fun r=>decide (r.id=c.id) with
 |none=>exact absurd (decide_eq_true rfl) (List.find?_eq_none.1 hg c h)
 |some g=>rw[hc g (List.mem_of_find?_eq_some hg) c h (of_decide_eq_true (List.find?_some (p:=fun r:Report=>decide (r.id=c.id)) hg))]
theorem AR9 {K:List Report} {i:Int} {r:Report} (hr:r∈K) (h:Wd K i r):H4 K i=true:=List.any_eq_true.2 ⟨r,hr,(AIh hr).2 h⟩
theorem ALV {l:List Report} (h:VL l) {day i:Int} (hn:∀ r∈l,r.id=i->¬ r.made<=day):U1 l day i=none:=by
 cases hs:U1 l day i with
 |none=>rfl
 |some r=>
  obtain⟨h1,h2⟩:=(AEC h).1 hs
  obtain⟨o,h3,_,_,rfl⟩:=T_mem.1 h1
  rw[AB6] at h2
  obtain⟨h4,h5⟩:=kn_mem.1 h3
  exact absurd h5 (hn o h4 h2)
section
variable {d:Desk} (hv:Vd d) {day:Int} {m:List Report} (hp:m.Perm (ABS d day)) (hVL:VL (d.reports++m))
include hv hp hVL
theorem ASA {r:Report} (hr:r∈m):∃ y∈d.disputes,r=X9 d y (dec d y)/\3<=wh d y day:=by
 have hr:=hp.mem_iff.1 hr
 unfold ABS at hr
 obtain⟨y,hy,rfl⟩:=List.mem_map.1 hr
 obtain⟨y1,y2,y3⟩:=decd_mem.1 hy
 exact⟨y.1,y1,by rw[y3],y2⟩
theorem ASB {y:Dispute} (hy:y∈d.disputes) (h3:3<=wh d y day):X9 d y (dec d y)∈m:=by
 refine hp.mem_iff.2 ?_
 unfold ABS
 exact List.mem_map.2 ⟨(y,dec d y),decd_mem.2 ⟨hy,h3,rfl⟩,rfl⟩
theorem AMe {r:Report} (hr:r∈m):∃ y∈d.disputes,∃ g∈d.reports,g.kind<=7/\g.id=y.report/\r.of_=g.id/\3<=wh d y day:=by
 obtain⟨y,hy,rfl,h3⟩:=ASA hv hp hVL hr
 obtain⟨_,_,g,hg,_⟩:=hv.x.v y hy
 have hgm:=V1 hg
 refine⟨y,hy,g,hgm.1,hgm.2.2,hgm.2.1,?_,h3⟩
 unfold X9
 rw[hg]
 split <;> rfl
theorem AFo {r:Report} (h:r∈D7 d.reports day):r∈D7 (d.reports++m) day:=by
 obtain⟨h1,h2⟩:=kn_mem.1 h
 exact kn_mem.2 ⟨List.mem_append.2 (.inl h1),h2⟩
theorem AOz {r:Report} (h:r∈D7 (d.reports++m) day) (hr:r∉m):r∈D7 d.reports day:=by
 obtain⟨h1,h2⟩:=kn_mem.1 h
 exact kn_mem.2 ⟨(List.mem_append.1 h1).resolve_right hr,h2⟩
theorem AMf {g:Report} (hg:g∈D7 d.reports day) (hm:∀ r∈m,r.of_≠g.id) (r:Report):Wd (D7 d.reports day) g.id r↔Wd (D7 (d.reports++m) day) g.id r:=by
 have hK2:=X7 hVL day
 constructor
 . rintro⟨h1,h2,h3,o,⟨h4,h5⟩,h6⟩
   exact⟨AFo hv hp hVL h1,h2,h3,o,⟨AFo hv hp hVL h4,h5⟩,h6⟩
 . rintro⟨h1,h2,h3,o,⟨h4,h5⟩,h6⟩
   have:o=g:=hK2.one h4 (AFo hv hp hVL hg) (by rw[h5.1,h3])
   subst this
   exact⟨AOz hv hp hVL h1 fun hr=>hm r hr h3,h2,h3,o,⟨hg,h5⟩,h6⟩
theorem AHI {g:Report} (hg:g∈D7 d.reports day) (hm:∀ r∈m,r.of_≠g.id):WdR (D7 d.reports day) g.id none↔WdR (D7 (d.reports++m) day) g.id none:=by
 constructor
 . intro h r hr hw
   have hw:=(AMf hv hp hVL hg hm r).2 hw
   exact h r hw.1 hw
 . intro h r hr hw
   have hw:=(AMf hv hp hVL hg hm r).1 hw
   exact h r hw.1 hw
theorem AQL {f:Report} (hf:f∈d.reports) (hk:f.kind<=7) (hno:∀ y∈d.disputes,y.report=f.id->¬ 3<=wh d y day):U1 d.reports day f.id=U1 (d.reports++m) day f.id:=by
 have hf2:f∈d.reports++m:=List.mem_append.2 (.inl hf)
 by_cases hm:f.made<=day
 rotate_left
 . rw[ALV hv.r fun r hr e=>by rw[hv.r.cons r hr f hf e];exact hm,ALV hVL fun r hr e=>by rw[hVL.cons r hr f hf2 e];exact hm]
 have hK1:=X7 hv.r day
 have hK2:=X7 hVL day
 have hfK:f∈D7 d.reports day:=kn_mem.2 ⟨hf,hm⟩
 have hfK2:=AFo hv hp hVL hfK
 have of1:∀ r∈m,r.of_≠f.id:=fun r hr e=>by
  obtain⟨y,hy,g,_,_,h1,h2,h3⟩:=AMe hv hp hVL hr
  exact hno y hy (by rw[<-h1,<-h2,e]) h3
 have of2:∀ c∈D7 d.reports day,c.kind=8->∀ r∈m,r.of_≠c.id:=fun c hc h8 r hr e=>by
  obtain⟨y,hy,g,hg,h7,h1,h2,h3⟩:=AMe hv hp hVL hr
  have:=hv.r.cons g hg c (kn_mem.1 hc).1 (by rw[<-h2,e])
  subst this;omega
 have hgo:H4 (D7 d.reports day) f.id=H4 (D7 (d.reports++m) day) f.id:=by
  have h:=AHI hv hp hVL hfK of1
  rw[<-gone_iff,<-gone_iff] at h
  cases h1:H4 (D7 d.reports day) f.id <;> cases h2:H4 (D7 (d.reports++m) day) f.id
  . rfl
  . rw[h.1 h1] at h2;cases h2
  . rw[h.2 h2] at h1;cases h1
  . rfl
 have hb:AA4 (D7 d.reports day) f=AA4 (D7 (d.reports++m) day) f:=by
  refine (AIi hK2 hfK2 ((ABn hfK).congr fun r=>?_)).symm
  constructor
  . rintro⟨h1,h2,⟨_,h3⟩,h4,h5⟩
    exact⟨AFo hv hp hVL h1,h2,⟨hfK2,h3⟩,h4,(AHI hv hp hVL h1 (of2 r h1 h2)).1 h5⟩
  . rintro⟨h1,h2,⟨_,h3⟩,h4,h5⟩
    have h6:r∈D7 d.reports day:=AOz hv hp hVL h1 fun hr=>of1 r hr h3.1.symm
    exact⟨h6,h2,⟨hfK,h3⟩,h4,(AHI hv hp hVL h6 (of2 r h6 h2)).2 h5⟩
 rw[AEw hv.r hf hm hk,AEw hVL hf2 hm hk,hgo]
 unfold fix
 rw[hb]
end
theorem AIn (h21:J1=some true) {d:Desk} (hin:InD d) {day which:Int} (hw:0<=which/\which<=255):Y1 d day which=some true:=by
 refine Ret.eq ?_
 unfold Y1
 rw[h21,bindS]
 refine Ret.bind (E0 (AMG hin) fun b hb=>?_)
 cases b with
 |false=>exact Ret.condT rfl (Ret.ok (Ret.condT rfl (Ret.ok rfl)))
 |true=>
 obtain⟨hv,hd0,hd1⟩:=hb rfl
 refine Ret.condF rfl (Ret.cond (fun _=>Ret.ok (Ret.condT rfl (Ret.ok rfl))) fun c0=>Ret.ok (Ret.condF rfl ?_))
 have c0:=of_decide_eq_false c0
 have hlx:=hv.x.len
 have hal:=hv.a.len
 refine Ret.bind (Ret.chk (by omega) (Ret.bind (Ret.remO hw.1 (by omega) (Ret.bind (APE (Int.emod_nonneg _ (by omega)) (Int.emod_lt_of_pos _ (by omega)) fun x hxi=>?_)))))
 have hx:x∈d.disputes:=List.mem_of_getElem? hxi
 rw[AGI hv hx ⟨hd0,hd1⟩,bindS]
 refine E0 (AHG hv ⟨hd0,hd1⟩) fun z hz=>?_
 obtain⟨l,e⟩:=z
 have hz':=hz
 rcases hz with⟨_,g⟩|⟨hlen,m,hp,ho,g⟩
 . obtain⟨rfl,rfl⟩:=Prod.mk.inj g
   exact Ret.condF rfl (Ret.condT rfl (Ret.bind (Ret.condT rfl (Ret.ok (Ret.ok rfl)))))
 obtain⟨rfl,rfl⟩:=Prod.mk.inj g
 refine Ret.condF rfl (Ret.condF rfl ?_)
 have hVL:VL (d.reports++m):=ALP hv hz' rfl
 refine E0 (ABR hv.r ⟨hd0,hd1⟩) fun z1 h1=>?_
 obtain⟨s1,e1⟩:=z1
 obtain⟨rfl,hs1⟩:=h1
 refine E0 (ABR hVL ⟨hd0,hd1⟩) fun z2 h2=>?_
 obtain⟨s2,e2⟩:=z2
 obtain⟨rfl,hs2⟩:=h2
 have n1:=St.len hv.r hs1
 have n2:=St.len hVL hs2
 dsimp only at n1 n2 hs1 hs2
 refine Ret.bind (Ret.condF rfl (Ret.ok (Ret.condF rfl ?_)))
 rw[AED (by omega),bindS]
 dsimp only
 rw[AED (by omega),bindS]
 dsimp only
 rw[St.find hv.r hs1,St.find hVL hs2]
 obtain⟨x1,x2,f,hf,x3,x4⟩:=hv.x.v x hx
 obtain⟨hfm,hfi,hfk⟩:=V1 hf
 have hf2:f∈d.reports++m:=List.mem_append.2 (.inl hfm)
 have hday:=AMQ hv (x:=x)
 have hdk:=AK8 hv x
 rw[<-hfi]
 have hrep:3<=wh d x day->X9 d x (dec d x)∈D7 (d.reports++m) day/\f∈D7 (d.reports++m) day:=fun h3=>by
  obtain⟨h4,h5⟩:=wh_ge (by omega:2<=wh d x day)
  refine⟨kn_mem.2 ⟨List.mem_append.2 (.inr (ASB hv hp hVL hx h3)),by rw[AQH];exact h4⟩,kn_mem.2 ⟨hf2,by omega⟩⟩
 by_cases w45:wh d x day=4\/wh d x day=5
 . have hv45:(if wh d x day=4 then true else decide (wh d x day=5))=true:=by
    rcases w45 with h|h
    . rw[if_pos h]
    . rw[if_neg (by omega)];exact decide_eq_true h
   obtain⟨hrK,hfK⟩:=hrep (by omega)
   obtain⟨h4,h5⟩:=wh_ge (by omega:2<=wh d x day)
   have hr:X9 d x (dec d x)=Report.mk x.id f.source f.account (dec d x).day 0 9 0 f.id:=by
    unfold X9
    rw[hf,if_neg (by omega)];rfl
   have hgone:H4 (D7 (d.reports++m) day) f.id=true:=AR9 hrK ⟨hrK,by rw[hr],by rw[hr],f,⟨hfK,by rw[hr],by rw[hr],by rw[hr]⟩,by omega⟩
   have hst:U1 (d.reports++m) day f.id=none:=by rw[AEw hVL hf2 (by omega) hfk,hgone];rfl
   refine Ret.bind (Ret.val (a:=true) ?_ (Ret.condT rfl ?_))
   . rcases w45 with h|h
     . rw[decide_eq_true h];rfl
     . rw[decide_eq_false (by omega),decide_eq_true h];rfl
   rw[hst]
   refine E0 (AMa hVL ⟨hd0,hd1⟩ hfK hfk) fun z hz=>?_
   obtain⟨z1,z2,z3⟩:=z
   obtain⟨q1,q2⟩:=hz
   rw[hgone,if_pos rfl] at q2
   have q1:z3=0:=q1
   have q2:z1=2:=q2
   subst q1 q2
   exact Ret.bind (Ret.condT rfl (Ret.condT rfl (Ret.condT rfl (Ret.ok (Ret.ok rfl)))))
 refine Ret.bind (Ret.val (a:=false) ?_ (Ret.condF rfl ?_))
 . rw[decide_eq_false (by omega),decide_eq_false (by omega)];rfl
 by_cases w3:wh d x day=3
 . refine Ret.condT (decide_eq_true w3) ?_
   obtain⟨hrK,hfK⟩:=hrep (by omega)
   obtain⟨h4,h5⟩:=wh_ge (by omega:2<=wh d x day)
   have hK:=X7 hVL day
   generalize hrr:X9 d x (dec d x)=r at hrK
   have hr:r=Report.mk x.id f.source f.account (dec d x).day (dec d x).by_.about 8 (dec d x).by_.cents f.id:=by
    rw[<-hrr]
    unfold X9
    rw[hf,if_pos (by omega)];rfl
   have hri:r.id=x.id:=by rw[hr]
   rw[<-hri]
   refine E0 (AR8 hVL ⟨hd0,hd1⟩ hfK hfk hrK (by rw[hr]) (by rw[hr])) fun z hz=>?_
   obtain⟨o1,o2,o3⟩:=z
   obtain⟨p1,p2⟩:=hz
   have p1:o3=0:=p1
   subst p1
   refine E0 (AMa hVL ⟨hd0,hd1⟩ hfK hfk) fun z hz=>?_
   obtain⟨z1,z2,z3⟩:=z
   obtain⟨q1,q2⟩:=hz
   have q1:z3=0:=q1
   subst q1
   dsimp only at p2 q2
   refine Ret.bind (Ret.condF rfl (Ret.ok (Ret.condF rfl ?_)))
   have hst:=AEw hVL hf2 (by omega:f.made<=day) hfk
   cases hgf:H4 (D7 (d.reports++m) day) f.id with
   |true=>
    rw[hgf,if_pos rfl] at hst q2
    rw[hst,q2]
    exact Ret.bind (Ret.condT rfl (Ret.ok (Ret.condT rfl (Ret.bind (Ret.condT rfl (Ret.ok (Ret.ok rfl)))))))
   |false=>
    rw[hgf,if_neg Bool.false_ne_true] at hst q2
    rw[hst]
    cases hgr:H4 (D7 (d.reports++m) day) r.id with
    |true=>
     rw[hgr,if_pos rfl] at p2
     rw[p2]
     refine Ret.bind (Ret.condF rfl (Ret.ok (Ret.condT rfl (Ret.bind (Ret.condT rfl (Ret.ok (Ret.ok ?_)))))))
     have:¬ z1=2:=by
      cases hb:AA4 (D7 (d.reports++m) day) f with
      |none=>rw[hb] at q2;have q2:z1=0:=q2;omega
      |some c=>rw[hb] at q2;have q2:z1=1:=q2.1;omega
     rw[decide_eq_false this];rfl
    |false=>
     rw[hgr,if_neg Bool.false_ne_true,hgf] at p2
     have ho12:¬ o1=2:=by split at p2 <;> omega
     refine Ret.bind (Ret.condF rfl (Ret.ok ?_))
     rw[decide_eq_false ho12]
     refine Ret.condF rfl ?_
     have hby:(dec d x).by_∈d.answers/\(dec d x).by_.dispute=x.id/\(dec d x).by_.says=2/\(dec d x).by_.day=(dec d x).day:=by
      obtain⟨u1,u2,_,_⟩:=(AFj hv x).by_ (by omega)
      obtain⟨u3,u4⟩:=List.mem_filter.1 u2
      refine⟨u3,of_decide_eq_true u4,?_,by rw[u1]⟩
      have:(dec d x).by_.says+1=(dec d x).is_:=by rw[u1]
      omega
     have hcents:0<=r.cents/\r.cents<=most f.kind:=by
      obtain⟨_,_,_,y,hy,y1,_,y2⟩:=hv.a.v _ hby.1
      have:y=x:=AAL hv.x.nd y x hy hx (by rw[y1,hby.2.1])
      subst this
      rw[hr]
      exact (y2 hby.2.2.1 f hf).2
     have hco:Co (D7 (d.reports++m) day) f r:=⟨by rw[hr],⟨hfK,by rw[hr],by rw[hr],by rw[hr]⟩,hcents,gone_iff.1 hgr⟩
     have hlat:=ABn (K:=D7 (d.reports++m) day) hfK
     cases hb:AA4 (D7 (d.reports++m) day) f with
     |none=>rw[hb] at hlat;exact absurd hco (hlat r hrK)
     |some c=>
      rw[hb] at hlat q2 p2
      obtain⟨q2,q3⟩:=(show z1=1/\z2=c.id from q2)
      subst q2 q3
      obtain⟨cK,cCo,cmax⟩:=hlat
      have hcmp:=cmax r hrK hco
      have cl:=(kn_mem.1 cK).1
      rw[AED (by have:=hVL.len;omega),bindS,find_in hVL.cons cl]
      have hrm:r.made=(dec d x).day:=by rw[hr]
      refine Ret.bind (Ret.val (a:=false) ?_ (Ret.condF rfl ?_))
      . show (cond false (some true) (cond false (some true) (cond (decide (c.made < (dec d x).day)) (some true) (cond (decide (c.made=(dec d x).day)) (some (decide (c.id < r.id))) (some false)))):Option Bool)=some false
        rw[decide_eq_false (show ¬ c.made < (dec d x).day by omega)]
        by_cases c9:c.made=(dec d x).day
        . rw[decide_eq_true c9,decide_eq_false (show ¬ c.id < r.id by omega)];rfl
        . rw[decide_eq_false c9];rfl
      by_cases e:c.id=r.id
      . refine Ret.condF (by rw[decide_eq_true e];rfl) ?_
        have hcr:c=r:=hK.one cK hrK e
        subst hcr
        rw[if_pos ⟨rfl,rfl⟩] at p2
        have hfix:fix (D7 (d.reports++m) day) f=Report.mk f.id f.source f.account f.made c.about f.kind c.cents f.of_:=by unfold fix;rw[hb]
        refine Ret.bind (C2 d.answers.length (fun n (t:Int)=>t=n/\∀ a∈d.answers.take n,a≠(dec d x).by_) ⟨rfl,fun a ha=>by simp at ha⟩ ?_ ?_)
        . rintro n hlt _ ⟨rfl,hpre⟩
          refine Ret.condT (V7 hlt) (Ret.bind (K2 hlt (Ret.bind ?_)))
          have dn:Ret (Option.bind (α:=(Bool)) (cond true (some (decide (o1=4))) (some false)) fun x44=>some (Sum.inr (Sum.inr x44):Int⊕(Unit⊕Bool))) (Nxt (fun (t:Int)=>t=((n+1:Nat):Int)/\∀ a∈d.answers.take (n+1),a≠(dec d x).by_) fun a=>Ret (Sum.elim (fun _=>some false) (fun r46=>some r46) a) (·=true)):=Ret.bind (Ret.condT rfl (Ret.ok (Ret.done (D6 (Ret.ok (decide_eq_true p2))))))
          have nx:d.answers[n]≠(dec d x).by_->Ret (Option.bind (chk .i64 ((n:Int)+1)) fun n45=>some (Sum.inl n45:Int⊕(Unit⊕Bool))) (Nxt (fun (t:Int)=>t=((n+1:Nat):Int)/\∀ a∈d.answers.take (n+1),a≠(dec d x).by_) fun a=>Ret (Sum.elim (fun _=>some false) (fun r46=>some r46) a) (·=true)):=fun hne=>Ret.bind (Ret.chk (by omega) (Ret.next ⟨by omega,fun a ha=>by
           rw[E7 hlt] at ha
           rcases ha with ha|rfl
           . exact hpre a ha
           . exact hne⟩))
          refine Ret.cond (fun k1=>Ret.cond (fun k2=>Ret.cond (fun k3=>Ret.cond (fun k4=>Ret.ok ?_) fun k4=>Ret.ok (Ret.condF rfl (nx ?_))) fun k3=>Ret.ok (Ret.condF rfl (nx ?_))) fun k2=>Ret.ok (Ret.condF rfl (nx ?_))) fun k1=>Ret.ok (Ret.condF rfl (nx ?_))
          . refine Ret.cond (fun _=>dn) fun k5=>nx ?_
            intro h
            refine absurd ?_ (of_decide_eq_false k5)
            rw[h]
            dsimp only[Option.getD_some]
            rw[hfix,hr]
          . intro h
            refine absurd ?_ (of_decide_eq_false k4)
            rw[h]
            dsimp only[Option.getD_some]
            rw[hfix,hr]
          . intro h
            refine absurd ?_ (of_decide_eq_false k3)
            rw[h];exact hby.2.2.1
          . intro h
            refine absurd ?_ (of_decide_eq_false k2)
            rw[h];exact hby.2.2.2
          . intro h
            refine absurd ?_ (of_decide_eq_false k1)
            rw[h,hby.2.1,hri]
        . rintro _ ⟨rfl,hpre⟩
          rw[List.take_length] at hpre
          exact absurd rfl (hpre _ hby.1)
      . refine Ret.condT (by rw[decide_eq_false e];rfl) ?_
        rw[if_neg (fun h9=>e (Option.some.inj h9.2))] at p2
        rw[p2]
        exact Ret.bind (Ret.condT rfl (Ret.ok (Ret.ok rfl)))
 . refine Ret.condF (decide_eq_false w3) (Ret.bind (C2 d.disputes.length (fun n (t:Int)=>t=n/\∀ y∈d.disputes.take n,y.report=f.id->¬ 3<=wh d y day) ⟨rfl,fun a ha=>by simp at ha⟩ ?_ ?_))
   . rintro n hlt _ ⟨rfl,hpre⟩
     refine Ret.condT (V7 hlt) (Ret.bind (K2 hlt ?_))
     rw[AGI hv (List.getElem_mem hlt) ⟨hd0,hd1⟩,bindS]
     have nx:(d.disputes[n].report=f.id->¬ 3<=wh d d.disputes[n] day)->Ret (Option.bind (chk .i64 ((n:Int)+1)) fun n62=>some (Sum.inl n62:Int⊕(Unit⊕Bool))) (Nxt (fun (t:Int)=>t=((n+1:Nat):Int)/\∀ y∈d.disputes.take (n+1),y.report=f.id->¬ 3<=wh d y day) fun a=>Ret (Sum.elim (fun _=>Option.bind (α:=(Bool)) (cond true (cond ((U1 d.reports day f.id).isSome==(U1 (d.reports++m) day f.id).isSome) (some (decide ((U1 d.reports day f.id).getD ABo=(U1 (d.reports++m) day f.id).getD ABo))) (some false)) (some false)) fun x63=>some x63) (fun r64=>some r64) a) (·=true)):=fun hne=>Ret.bind (Ret.chk (by omega) (Ret.next ⟨by omega,fun a ha=>by
      rw[E7 hlt] at ha
      rcases ha with ha|rfl
      . exact hpre a ha
      . exact hne⟩))
     refine Ret.bind (Ret.condF rfl (Ret.cond (fun k1=>Ret.ok ?_) fun k1=>Ret.ok (Ret.condF rfl (nx fun h=>absurd h (of_decide_eq_false k1)))))
     refine Ret.cond (fun _=>Ret.bind (Ret.condT rfl (Ret.ok (Ret.done (D6 (Ret.ok rfl)))))) fun k2=>nx fun _=>?_
     have k2:=of_decide_eq_false k2
     omega
   . rintro _ ⟨rfl,hpre⟩
     rw[List.take_length] at hpre
     refine Ret.condF (Y6 (Nat.le_refl _)) (Ret.done (B8 (Ret.bind (Ret.condT rfl ?_))))
     rw[AQL hv hp hVL hfm hfk hpre]
     exact Ret.condT (by simp) (Ret.ok (Ret.ok (decide_eq_true rfl)))
end S
end Go.Proofs.YtgioiejbphljoaaGreatDoor
