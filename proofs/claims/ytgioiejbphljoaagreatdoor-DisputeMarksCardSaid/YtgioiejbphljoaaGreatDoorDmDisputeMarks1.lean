/-
  Part DisputeMarks 1 of the texts that the statement's proof stands on: what memory holds, how code is walked, what the functions reckon. In the order in which they build.
-/
import Derived.Test.YtgioiejbphljoaaGreatDoorDm10
set_option linter.unusedVariables false
set_option linter.unusedSectionVars false
set_option maxRecDepth 20000
set_option maxHeartbeats 1000000
set_option linter.unusedVariables false
namespace Go.Proofs.YtgioiejbphljoaaGreatDoor
open Go Go.Sx Go.Rx
namespace S
theorem AIV (h21:J9=some true) {d:Desk} (hin:InD d) {day which:Int} (hw:0<=which/\which<=255):W7 d day which=some true:=by
 refine Ret.eq ?_
 unfold W7
 rw[h21,bindS]
 refine Ret.bind (O1 (ALk hin) fun b hb=>?_)
 cases b with
 |false=>exact Ret.condT rfl (Ret.ok (Ret.condT rfl (Ret.ok rfl)))
 |true=>
 obtain⟨hv,hd0,hd1⟩:=hb rfl
 refine Ret.condF rfl (Ret.cond (fun _=>Ret.ok (Ret.condT rfl (Ret.ok rfl))) fun c0=>Ret.ok (Ret.condF rfl ?_))
 have c0:=of_decide_eq_false c0
 have hlx:=hv.x.len
 have hlr:=hv.r.len
 have ht:=hv.t
 refine Ret.bind (Ret.chk (by omega) (Ret.bind (Ret.remO hw.1 (by omega) (Ret.bind (AJc (Int.emod_nonneg _ (by omega)) (Int.emod_lt_of_pos _ (by omega)) fun r hri=>?_)))))
 have hr:r∈d.reports:=List.mem_of_getElem? hri
 rw[AON hv ⟨hd0,hd1⟩,bindS]
 by_cases hk:r.kind<=7
 rotate_left
 . have:U9 d.reports r.id=none:=by
    cases h:U9 d.reports r.id with
    |none=>rfl
    |some f=>
     obtain⟨h1,h2,h3⟩:=X7 h
     rw[hv.r.cons f h1 r hr h2] at h3
     exact absurd h3 hk
   rw[this]
   exact Ret.condT (decide_eq_true (by omega)) (Ret.bind (Ret.condT rfl (Ret.ok (Ret.ok rfl))))
 rw[AOE hv.r.cons hr hk]
 refine Ret.condF (decide_eq_false (by omega)) (Ret.condF rfl (Ret.bind ?_))
 refine D4 d.disputes.length (fun n (t:Bool×Bool×Int)=>t.2.2=n/\t.1=(d.disputes.take n).any (isO d r.id day)/\t.2.1=(d.disputes.take n).any (isS d r.id day)) ⟨rfl,rfl,rfl⟩ ?_ ?_
 . rintro n hlt ⟨o,s,_⟩ ⟨rfl,ho,hs⟩
   dsimp only at ho hs
   have hx:=List.getElem_mem hlt
   have hdi:=ACz hv hx
   refine Ret.condT (ltT hlt) (Ret.bind (Ret.bind (N8 hlt (Ret.cond (fun c=>?_) fun c=>?_))))
   . have c:decide (d.disputes[n].report=r.id)=false:=by simpa using c
     refine Ret.ok (B8 (Ret.bind (Ret.chk (by omega) (Ret.next ⟨by dsimp only;omega,?_,?_⟩))))
     . dsimp only;rw[N5 hlt,<-ho];unfold isO;rw[c,Bool.false_and,Bool.or_false]
     . dsimp only;rw[N5 hlt,<-hs];unfold isS;rw[c,Bool.false_and,Bool.or_false]
   . have c:decide (d.disputes[n].report=r.id)=true:=by simpa using c
     rw[AIQ hv hx ⟨hd0,hd1⟩,bindS]
     refine Ret.condF rfl (Ret.bind (Ret.val (a:=o||decide (wh d d.disputes[n] day=1)) (by cases o <;> rfl) (Ret.bind (Ret.val (a:=s||(decide (wh d d.disputes[n] day=2)&&decide (day - (dec d d.disputes[n]).day<=d.terms.mark))) ?_ (Ret.ok (B8 (Ret.bind (Ret.chk (by omega) (Ret.next ⟨by dsimp only;omega,?_,?_⟩)))))))))
     . cases s with
       |true=>rfl
       |false=>
        cases h2:decide (wh d d.disputes[n] day=2) with
        |false=>rfl
        |true=>
         have:=ht.2.1
         refine Ret.eq (Ret.condF rfl (Ret.condT rfl (Ret.bind (Ret.chk (by omega) (Ret.ok ?_)))))
         show _=decide _
         rw[Bool.eq_iff_iff,decide_eq_true_iff,decide_eq_true_iff];omega
     . dsimp only;rw[N5 hlt,<-ho];unfold isO;rw[c,Bool.true_and]
     . dsimp only;rw[N5 hlt,<-hs];unfold isS;rw[c,Bool.true_and]
 . rintro⟨o,s,_⟩ ⟨rfl,ho,hs⟩
   dsimp only at ho hs
   rw[List.take_length] at ho hs
   refine Ret.condF (ltF (Nat.le_refl _)) (Ret.done (B8 ?_))
   unfold AFw
   rw[<-ho,<-hs]
   cases o with
   |true=>exact Ret.condT rfl (Ret.bind (Ret.ok (Ret.ok rfl)))
   |false=>
    cases s with
    |true=>exact Ret.condF rfl (Ret.condT rfl (Ret.bind (Ret.ok (Ret.ok rfl))))
    |false=>exact Ret.condF rfl (Ret.condF rfl (Ret.bind (Ret.ok (Ret.ok rfl))))
end S
end Go.Proofs.YtgioiejbphljoaaGreatDoor
