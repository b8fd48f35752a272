/-
  Part DisputeDecided 1 of the texts that the statement's proof stands on: what memory holds, how code is walked, what the functions reckon. In the order in which they build.
-/
import Derived.Test.YtgioiejbphljoaaGreatDoorDm10
set_option linter.unusedVariables false
set_option linter.unusedSectionVars false
set_option maxRecDepth 20000
set_option maxHeartbeats 1000000
set_option linter.unusedVariables false
namespace Go.Proofs.YtgioiejbphljoaaGreatDoor
open Go Go.Sx Go.Rx
namespace S
theorem AGz (h21:J9=some true) {d:Desk} (hin:InD d) {day which:Int} (hw:0<=which/\which<=255):S9 d day which=some true:=by
 refine Ret.eq ?_
 unfold S9
 rw[h21,bindS]
 refine Ret.bind (O1 (ALk hin) fun b hb=>?_)
 cases b with
 |false=>exact Ret.condT rfl (Ret.ok (Ret.condT rfl (Ret.ok rfl)))
 |true=>
 obtain⟨hv,hd0,hd1⟩:=hb rfl
 refine Ret.condF rfl (Ret.cond (fun _=>Ret.ok (Ret.condT rfl (Ret.ok rfl))) fun c0=>Ret.ok (Ret.condF rfl ?_))
 have c0:=of_decide_eq_false c0
 have hlx:=hv.x.len
 refine Ret.bind (Ret.chk (by omega) (Ret.bind (Ret.remO hw.1 (by omega) (Ret.bind (AJc (Int.emod_nonneg _ (by omega)) (Int.emod_lt_of_pos _ (by omega)) fun x hxi=>?_)))))
 have hx:x∈d.disputes:=List.mem_of_getElem? hxi
 rw[AIQ hv hx ⟨hd0,hd1⟩,bindS]
 refine O1 (AQS hv ⟨hd0,hd1⟩) fun r hr=>?_
 obtain⟨out,e⟩:=r
 obtain⟨rfl,hout⟩:=hr
 have hday:=ALv hv (x:=x)
 have hdi:=ACz hv hx
 have ht:=hv.t.1
 obtain⟨_,_,f,hf,x1,x2⟩:=hv.x.v x hx
 have hfm:=(hv.r.v f (X7 hf).1).2.2.2.2.2.1
 refine Ret.bind (Ret.condF rfl (Ret.condF rfl (Ret.condF (decide_eq_false (by omega)) (Ret.bind (Ret.chk (by omega) (Ret.bind (Ret.chk (by omega) (Ret.ok ?_))))))))
 rw[decide_eq_false (by omega)]
 refine Ret.condF rfl (Ret.bind (D4 out.length (fun n (t:Bool×Int)=>t.2=n/\t.1=(out.take n).any fun i=>decide (i=x.id)) ⟨rfl,rfl⟩ ?_ ?_))
 . rintro n hlt ⟨o,_⟩ ⟨rfl,ho⟩
   dsimp only at ho
   refine Ret.condT (ltT hlt) (Ret.bind (N8 hlt (Ret.bind (Ret.val (a:=o||decide (out[n]=x.id)) (by cases o <;> rfl) (Ret.bind (Ret.chk ?_ (Ret.next ⟨by dsimp only;omega,?_⟩)))))))
   . have:out.length<=20:=by
      obtain⟨m,hp,_,rfl⟩:=hout
      rw[List.length_map]
      exact Nat.le_trans (List.length_filter_le ..) (by rw[hp.length_eq];exact hlx)
     omega
   . dsimp only;rw[N5 hlt,<-ho]
 rintro⟨o,_⟩ ⟨rfl,ho⟩
 dsimp only at ho
 rw[List.take_length] at ho
 have ho:o=decide (wh d x day=1):=by
  rw[ho,Bool.eq_iff_iff,decide_eq_true_iff,<-ARb hv hout hx,List.any_eq_true]
  constructor
  . rintro⟨i,hi,e⟩;rw[<-of_decide_eq_true e];exact hi
  . intro h;exact⟨_,h,decide_eq_true rfl⟩
 refine Ret.condF (ltF (Nat.le_refl _)) (Ret.done ?_)
 have hk:=AKl hv x
 have w1:(decide (wh d x day=0))=decide (day < x.day):=by
  unfold wh
  rw[Bool.eq_iff_iff,decide_eq_true_iff,decide_eq_true_iff]
  split
  . omega
  . split <;> omega
 have w2:(decide (1 < wh d x day))=decide ((dec d x).day<=day):=by
  unfold wh
  rw[Bool.eq_iff_iff,decide_eq_true_iff,decide_eq_true_iff]
  split
  . omega
  . split <;> omega
 have w3:wh d x day<=5:=by
  unfold wh
  split
  . omega
  . split <;> omega
 rw[ho,w1,w2]
 refine Ret.bind (Ret.condF (by simp) (Ret.condF (by simp) (Ret.condF (by simp) (Ret.ok ?_))))
 rw[decide_eq_false (by omega)]
 have hal:=hv.a.len
 have hdec:=AFP hv x
 let p:Answer->Bool:=fun a=>decide (a.dispute=x.id)&&(win x (x.day+d.terms.answer) a&&decide (a.day=(dec d x).day))
 refine Ret.condF rfl (O1 (Q':=fun r:Int⊕Bool=>∃ s,r=.inl s/\(s=0↔d.answers.any p=false)) ?_ ?_)
 . refine D4 d.answers.length (fun n (t:Int×Int)=>t.1=n/\(t.2=0↔(d.answers.take n).any p=false)) ⟨rfl,by simp⟩ ?_ ?_
   . rintro n hlt ⟨_,s⟩ ⟨rfl,hs⟩
     dsimp only at hs
     have ham:=List.getElem_mem hlt
     have hav:=hv.a.v _ ham
     have go:p d.answers[n]=false->Ret (Sum.elim (fun x53=>Option.bind (chk .i64 ((n:Int)+1)) fun n54=>some (Sum.inl (n54,x53))) (fun r55=>some (Sum.inr (Sum.inr r55))) (Sum.inl s:Int⊕Bool)) (Nxt (fun (t:Int×Int)=>t.1=((n+1:Nat):Int)/\(t.2=0↔(d.answers.take (n+1)).any p=false)) fun r:Int⊕Bool=>∃ s,r=.inl s/\(s=0↔d.answers.any p=false)):=fun hp=>by
      refine B8 (Ret.bind (Ret.chk (by omega) (Ret.next ⟨by dsimp only;omega,?_⟩)))
      dsimp only
      rw[N5 hlt,hp,Bool.or_false];exact hs
     refine Ret.condT (ltT hlt) (Ret.bind (Ret.bind (N8 hlt (Ret.bind ?_))))
     refine Ret.cond (fun c=>Ret.ok (Ret.condT rfl (Ret.ok ?_))) fun c=>Ret.cond (fun c2=>Ret.ok (Ret.condT rfl (Ret.ok ?_))) fun c2=>Ret.bind (Ret.chk (by omega) (Ret.ok ?_))
     . have c:decide (d.answers[n].dispute=x.id)=false:=by simpa using c
       refine go ?_
       show (_&&_)=false
       rw[c];rfl
     . have c2:=of_decide_eq_true c2
       refine go ?_
       show (_&&(inB _ _ _&&_))=false
       rw[show inB x.day (x.day+d.terms.answer) d.answers[n].day=false from decide_eq_false (by omega)]
       simp
     . have c:d.answers[n].dispute=x.id:=by simpa using c
       have c2:=of_decide_eq_false c2
       refine Ret.cond (fun c3=>Ret.ok (go ?_)) fun c3=>?_
       . have c3:=of_decide_eq_true c3
         show (_&&(inB _ _ _&&_))=false
         rw[show inB x.day (x.day+d.terms.answer) d.answers[n].day=false from decide_eq_false (by omega)]
         simp
       have c3:=of_decide_eq_false c3
       have hwin:win x (x.day+d.terms.answer) d.answers[n]=true:=Y8 (by omega)
       have hmem:d.answers[n]∈d.answers.filter fun a=>decide (a.dispute=x.id):=List.mem_filter.2 ⟨ham,decide_eq_true c⟩
       have hnot:¬ d.answers[n].day < (dec d x).day:=by
        by_cases c5:(dec d x).is_=5
        . rw[(hdec.is5 c5).2 _ hmem] at hwin;cases hwin
        . obtain⟨e1,_,_,e2⟩:=hdec.by_ c5
          have:=e2 _ hmem hwin
          unfold alt at this
          have:=of_decide_eq_false this
          rw[e1]
          show ¬ d.answers[n].day < (dec d x).by_.day
          omega
       refine Ret.condF (decide_eq_false hnot) (Ret.bind ?_)
       have hp:p d.answers[n]=decide (d.answers[n].day=(dec d x).day):=by
        show (decide _&&(_&&_))=_
        rw[decide_eq_true c,hwin];rfl
       refine Ret.cond (fun c4=>Ret.ok ?_) fun c4=>Ret.ok (Ret.bind (Ret.condF rfl (Ret.ok (Ret.ok (go (by rw[hp,c4]))))))
       refine Ret.bind (Ret.cond (fun c5=>Ret.ok (Ret.ok (B8 (Ret.bind (Ret.chk (by omega) (Ret.next ⟨by dsimp only;omega,?_⟩)))))) fun c5=>Ret.ok (Ret.ok (B8 (Ret.bind (Ret.chk (by omega) (Ret.next ⟨by dsimp only;omega,?_⟩))))))
       . dsimp only
         rw[N5 hlt,hp,c4,Bool.or_true]
         have:=hav.2.2.1
         simp;omega
       . have c5:=of_decide_eq_false c5
         dsimp only
         rw[N5 hlt,hp,c4,Bool.or_true]
         simp[c5]
   . rintro⟨_,s⟩ ⟨rfl,hs⟩
     dsimp only at hs
     rw[List.take_length] at hs
     exact Ret.condF (ltF (Nat.le_refl _)) (Ret.done ⟨s,rfl,hs⟩)
 . rintro _ ⟨s,rfl,hs⟩
   have key:s=0↔(dec d x).is_=5:=by
    rw[hs]
    constructor
    . intro h
      by_cases c5:(dec d x).is_=5
      . exact c5
      . obtain⟨e1,e2,e3,_⟩:=hdec.by_ c5
        obtain⟨e4,e5⟩:=List.mem_filter.1 e2
        have:=List.any_eq_false.1 h _ e4
        refine absurd ?_ this
        show (decide _&&(_&&decide _))=true
        rw[e5,e3,decide_eq_true (by rw[e1])];rfl
    . intro h
      rw[List.any_eq_false]
      intro a ha hp
      have hp:(decide (a.dispute=x.id)&&(win x (x.day+d.terms.answer) a&&decide (a.day=(dec d x).day)))=true:=hp
      rw[Bool.and_eq_true,Bool.and_eq_true] at hp
      rw[(hdec.is5 h).2 a (List.mem_filter.2 ⟨ha,hp.1⟩)] at hp
      cases hp.2.1
   refine B8 (Ret.bind (Ret.chk (by omega) (Ret.bind (Ret.chk (by omega) ?_))))
   have e1:decide (s=0)=decide ((dec d x).day=x.day+d.terms.answer+1):=by
    rw[Bool.eq_iff_iff,decide_eq_true_iff,decide_eq_true_iff,key]
    constructor
    . intro h;rw[(hdec.is5 h).1]
    . intro h
      by_cases c5:(dec d x).is_=5
      . exact c5
      . obtain⟨e1,_,e3,_⟩:=hdec.by_ c5
        have e3:=I3 e3
        rw[e1] at h
        have h:(dec d x).by_.day=_:=h
        omega
   rw[e1]
   refine Ret.condF (by simp) (Ret.bind (Ret.condT rfl (Ret.cond (fun _=>Ret.ok (Ret.ok rfl)) fun c=>Ret.ok (Ret.ok ?_))))
   have c:=of_decide_eq_false c
   rw[<-e1]
   have:wh d x day=(dec d x).is_:=by
    unfold wh at c ⊢
    split
    . rfl
    . rename_i h
      rw[if_neg h] at c
      split at c <;> omega
   rw[beq_iff_eq,Bool.eq_iff_iff,decide_eq_true_iff,decide_eq_true_iff,key,this]
end S
end Go.Proofs.YtgioiejbphljoaaGreatDoor
