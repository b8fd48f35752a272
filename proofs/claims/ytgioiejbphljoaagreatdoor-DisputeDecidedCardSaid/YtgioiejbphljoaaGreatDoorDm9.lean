/-
  Part 9 of the texts that the statement's proof stands on: what memory holds, how code is walked, what the functions reckon. In the order in which they build.
-/
import Derived.RangeFuncNested
import Derived.Test.YtgioiejbphljoaaGreatDoorDm8
set_option linter.unusedVariables false
set_option linter.unusedSectionVars false
set_option maxRecDepth 20000
set_option maxHeartbeats 1000000
set_option linter.unusedVariables false
namespace Go.Proofs.YtgioiejbphljoaaGreatDoor
open Go Go.Sx Go.Rx
namespace S
noncomputable def AQQ {α:Type} (l:List α) (id:α->Option Int) (right:α->Option Bool):Option Bool:=Option.bind (B9 (S:=(Int×(A3 Int Bool))) (R:=(Unit⊕Bool)) (fun (x16,x17)=>cond (decide (x16 < (l.length:Int))) (Option.bind (ixo l x16) fun y18=>Option.bind (α:=(Bool)) (Option.bind (right y18) fun y19=>cond ((!y19)) (some true) (Option.bind (id y18) fun y20=>some ((x17 y20).getD false))) ((fun x21=>cond (x21) (some (Sum.inr (Sum.inr false))) (Option.bind (id y18) fun y22=>Option.bind (chk .i64 (x16+1)) fun n23=>some (Sum.inl (n23,(B7 x17 y22 true))))))) (some (Sum.inr (Sum.inl ())))) ((0:Int),(fnone:(A3 Int Bool)))) ((Sum.elim (fun _=>some true) (fun r24=>some r24)))
theorem AVL {α:Type} {l:List α} {k:α->Int} (h:(l.map k).Nodup) {n:Nat} (hn:n < l.length):∀ x∈l.take n,k x≠k l[n]:=fun x hx=>by
 rw[List.Nodup,List.pairwise_map,List.pairwise_iff_getElem] at h
 obtain⟨i,hi,rfl⟩:=List.mem_take_iff_getElem.1 hx
 exact h i n (by omega) hn (by omega)
theorem ALt {α:Type} {l:List α} {id:α->Option Int} {right:α->Option Bool} {k:α->Int} (hl:l.length<=1000000) (h1:∀ x∈l,right x=some true) (h2:∀ x,id x=some (k x)) (hn:(l.map k).Nodup):AQQ l id right=some true:=by
 refine Ret.eq ?_
 unfold AQQ
 refine Ret.bind (D4 l.length (fun n (t:Int×A3 Int Bool)=>t.1=n/\∀ i,(∀ x∈l.take n,k x≠i)->t.2 i=none) ⟨rfl,fun i _=>rfl⟩ ?_ ?_)
 . rintro n hlt ⟨_,m⟩ ⟨rfl,hm⟩
   dsimp only at hm
   refine Ret.condT (ltT hlt) (Ret.bind (N8 hlt (Ret.bind (ABj (h1 _ (List.getElem_mem hlt)) (Ret.condF rfl (ABj (h2 _) (Ret.ok ?_)))))))
   rw[hm _ (AVL hn hlt)]
   refine Ret.condF rfl (ABj (h2 _) (Ret.bind (Ret.chk (by omega) (Ret.next ⟨by dsimp only;omega,fun i hi=>?_⟩))))
   dsimp only[B7]
   rw[if_neg (fun e=>hi l[n] ((F6 hlt).2 (.inr rfl)) e.symm)]
   exact hm i fun x hx=>hi x ((F6 hlt).2 (.inl hx))
 . rintro⟨_,m⟩ ⟨rfl,hm⟩
   exact Ret.condF (ltF (Nat.le_refl _)) (Ret.done (B8 (Ret.ok rfl)))
def Fc (d:Desk) (f:A3 Int Report):Prop:=∀ i,f i=U9 d.reports i
theorem AOL {l:List Report} (hc:AMn l) {i:Int} {r:Report}:U9 l i=some r↔r∈l/\r.kind<=7/\r.id=i:=by
 constructor
 . intro h
   obtain⟨h1,h2,h3⟩:=X7 h
   exact⟨h1,h3,h2⟩
 . rintro⟨h1,h2,rfl⟩
   exact AOE hc h1 h2
theorem AVN {d:Desk} (hr:VL d.reports):Ret (R6 d) (Fc d):=by
 have hl:=hr.len
 unfold R6
 refine Ret.bind (D4 d.reports.length (fun n (t:Int×A3 Int Report)=>t.1=n/\∀ i r,t.2 i=some r↔r∈d.reports.take n/\r.kind<=7/\r.id=i) ⟨rfl,fun i r=>by simp[fnone]⟩ ?_ ?_)
 . rintro n hlt ⟨_,m⟩ ⟨rfl,hm⟩
   dsimp only at hm
   refine Ret.condT (ltT hlt) (Ret.bind (N8 hlt (Ret.bind (Ret.cond (fun h=>?_) fun h=>?_))))
   . have h:=of_decide_eq_true h
     refine Ret.ok (Ret.bind (Ret.chk (by omega) (Ret.next ⟨by dsimp only;omega,fun i r=>?_⟩)))
     rw[F6 hlt]
     dsimp only[B7]
     by_cases e:i=d.reports[n].id
     . subst e
       rw[if_pos rfl]
       constructor
       . intro h;cases h;exact⟨.inr rfl,h,rfl⟩
       . rintro⟨h1|h1,h2,h3⟩
         . rw[hr.cons r (List.mem_of_mem_take h1) _ (List.getElem_mem hlt) h3]
         . rw[h1]
     . rw[if_neg e,hm]
       constructor
       . rintro⟨h1,h2⟩;exact⟨.inl h1,h2⟩
       . rintro⟨h1|rfl,h2,h3⟩
         . exact⟨h1,h2,h3⟩
         . exact absurd h3.symm e
   . have h:=of_decide_eq_false h
     refine Ret.ok (Ret.bind (Ret.chk (by omega) (Ret.next ⟨by dsimp only;omega,fun i r=>?_⟩)))
     rw[F6 hlt,hm]
     constructor
     . rintro⟨h1,h2⟩;exact⟨.inl h1,h2⟩
     . rintro⟨h1|rfl,h2,h3⟩
       . exact⟨h1,h2,h3⟩
       . exact absurd h2 h
 . rintro⟨_,m⟩ ⟨rfl,hm⟩
   dsimp only at hm
   rw[List.take_length] at hm
   refine Ret.condF (ltF (Nat.le_refl _)) (Ret.done (Ret.ok fun i=>?_))
   apply Option.ext
   intro r
   rw[hm,AOL hr.cons]
def An (d:Desk) (h:A3 Int (List Answer)):Prop:=∀ i,(h i).getD []=d.answers.filter fun a=>decide (a.dispute=i)
theorem ALu:∀ (l pre:List Answer) (h:A3 Int (List Answer)),(∀ i,(h i).getD []=pre.filter fun a=>decide (a.dispute=i))->pre.length+l.length<=1000000->∃ h',AIN l h=some h'/\∀ i,(h' i).getD []=(pre++l).filter fun a=>decide (a.dispute=i)
 |[],pre,h,hh,_=>⟨h,rfl,by simpa using hh⟩
 |a :: l,pre,h,hh,hl=>by
  have hlen:((h a.dispute).getD []).length<=pre.length:=by rw[hh];exact List.length_filter_le ..
  have hl':pre.length+l.length+1<=1000000:=by simpa[Nat.add_assoc] using hl
  have e:appo 48 ((h a.dispute).getD []) [a]=some ((h a.dispute).getD []++[a]):=ACM (by simp only[List.length_singleton];omega) (by simp only[List.length_singleton];omega)
  have hs:∀ i,(B7 h a.dispute ((h a.dispute).getD []++[a]) i).getD []=(pre++[a]).filter fun a=>decide (a.dispute=i):=fun i=>by
   dsimp only[B7]
   rw[List.filter_append]
   by_cases e:i=a.dispute
   . subst e
     rw[if_pos rfl]
     simp[hh]
   . rw[if_neg e,hh]
     have e2:¬ a.dispute=i:=fun h=>e h.symm
     simp[e2]
  obtain⟨h',e',hh'⟩:=ALu l (pre++[a]) (B7 h a.dispute ((h a.dispute).getD []++[a])) hs (by simp;omega)
  refine⟨h',?_,fun i=>by rw[hh',List.append_assoc];rfl⟩
  unfold AIN
  rw[e,bindS,e']
theorem AVO {D:Desk_99} (h:TV D.desk.terms):K7 D=some 0:=by
 obtain⟨t1,t2,t3⟩:=h
 unfold K7
 rw[d_in1,d_in2,Y8 t1,Y8 t2,Y8 t3]
 rfl
theorem AVP {D:Desk_99} (h:VL D.desk.reports):K8 D=some 0:=by
 unfold K8
 rw[AIM h];rfl
theorem AVQ {D:Desk_99} (h:Vd D.desk) (hf:Fc D.desk D.facts):K9 D=some 0:=by
 obtain⟨⟨t1,t2,t3⟩,hr,hx,_⟩:=h
 have hl:=hr.len
 have hlx:=hx.len
 refine Ret.eq ?_
 unfold K9
 refine Ret.bind (D4 D.desk.reports.length (fun n (t:Int×A3 Int Bool)=>t.1=n/\∀ i,(∀ x∈D.desk.reports.take n,x.id≠i)->t.2 i=none) ⟨rfl,fun i _=>rfl⟩ ?_ ?_)
 . rintro n hlt ⟨_,m⟩ ⟨rfl,hm⟩
   dsimp only at hm
   refine Ret.condT (ltT hlt) (Ret.bind (N8 hlt (Ret.bind (Ret.chk (by omega) (Ret.next ⟨by dsimp only;omega,fun i hi=>?_⟩)))))
   dsimp only[B7]
   rw[if_neg (fun e=>hi _ ((F6 hlt).2 (.inr rfl)) e.symm)]
   exact hm i fun x hx=>hi x ((F6 hlt).2 (.inl hx))
 rintro⟨_,m⟩ ⟨rfl,hm⟩
 dsimp only at hm
 rw[List.take_length] at hm
 refine Ret.condF (ltF (Nat.le_refl _)) (Ret.done (Ret.bind (Ret.condF (decide_eq_false (by omega)) ?_)))
 have hu:W0 D.desk.disputes (fun a16=>Q2 a16) (fun a17=>K5 a17 D m)=some true:=ALt (k:=(·.id)) (by omega) (fun x hxm=>?_) (fun _=>rfl) hx.nd
 . rw[hu]
   exact Ret.ok (Ret.ok rfl)
 . obtain⟨v1,v2,f,hfx,v3,v4⟩:=hx.v x hxm
   refine Ret.eq ?_
   unfold K5
   rw[hf,hfx]
   have v2:=hm x.id v2
   refine Ret.bind (Ret.condT rfl ?_)
   dsimp only[Option.getD_some]
   rw[d_in1,Y8 v1,bindS,v2]
   refine Ret.condT rfl (Ret.condT rfl (Ret.bind (Ret.chk (by omega) (Ret.bind (Ret.chk (by omega) ?_)))))
   rw[d_in1,Y8 (show _/\_ from ⟨v3,by omega⟩)]
   exact Ret.ok (Ret.ok rfl)
theorem AVR {D:Desk_99} (h:Vd D.desk) (hf:Fc D.desk D.facts):M3 D=some 0:=by
 obtain⟨⟨t1,t2,t3⟩,hr,hx,ha⟩:=h
 have hlx:=hx.len
 have hla:=ha.len
 have hu:W5 D.desk.answers (fun a4=>Q3 a4) (fun a5=>K6 a5 D)=some true:=ALt (k:=(·.id)) (by omega) (fun a ham=>?_) (fun _=>rfl) ha.nd
 . unfold M3
   rw[decide_eq_false (by omega),hu];rfl
 . obtain⟨v1,v2,v3,x,hxm,v4,v5,v6⟩:=ha.v a ham
   refine Ret.eq ?_
   unfold K6
   refine Ret.bind ?_
   refine (AET (s:=D.desk.disputes) (f:=fun a1=>M9 a1 a) (fun _ _=>rfl) (by omega) (fun h=>?_) fun k hk h hp=>?_:Ret (AGq _ _) _)
   . have:=of_decide_eq_false (h x hxm)
     exact absurd v4 this
   have h:=of_decide_eq_true h
   have hxk:D.desk.disputes[k]=x:=by
    have hnd:=hx.nd
    rw[List.Nodup,List.pairwise_map,List.pairwise_iff_getElem] at hnd
    obtain⟨j,hj,rfl⟩:=List.getElem_of_mem hxm
    rcases Nat.lt_trichotomy k j with e|e|e
    . exact absurd (h.trans v4.symm) (hnd k j hk hj e)
    . subst e;rfl
    . exact absurd (v4.trans h.symm) (hnd j k hj hk e)
   refine Ret.bind (Ret.condF (decide_eq_false (by omega)) ?_)
   have vab:0<=a.about/\a.about<=100000:=by
    by_cases e:a.says=2
    . obtain⟨_,_,f,hfx,_⟩:=hx.v x hxm
      exact (v6 e f hfx).1
    . have:=(v5 e).1;omega
   rw[d_in1,Y8 v1,bindS]
   refine Ret.condF rfl ?_
   rw[d_in2,Y8 v2,Y8 vab,bindS]
   refine Ret.ok (Ret.condF rfl (Ret.bind (N8 hk ?_)))
   rw[hxk]
   by_cases e:a.says=2
   . obtain⟨_,_,f,hfx,_⟩:=hx.v x hxm
     refine Ret.bind (Ret.condF (decide_eq_false (by omega)) (Ret.ok ?_))
     rw[decide_eq_false (show ¬ a.says=3 by omega)]
     refine Ret.condF rfl (Ret.condT (decide_eq_true e) ?_)
     rw[hf,hfx]
     obtain⟨w1,w2,w3⟩:=v6 e f hfx
     have hfm:=X7 hfx
     obtain⟨u1,u2,u3,u4,u5,u6,u7,u8,u9,u10,u11⟩:=hr.v f hfm.1
     rw[AIM (l:=[_]) ⟨by simp,fun r hr=>?_,fun a ha b hb _=>?_⟩,bindS]
     . exact Ret.ok rfl
     . rw[List.mem_singleton.1 hr]
       exact⟨u1,u2,u3,u4,u5,u6,w1,⟨w2,w3⟩,u9,u10,fun h=>by have:=hfm.2.2;dsimp only[Option.getD_some] at h;omega⟩
     . rw[List.mem_singleton.1 ha,List.mem_singleton.1 hb]
   . obtain⟨w1,w2⟩:=v5 e
     refine Ret.bind (Ret.val (a:=true) ?_ (Ret.condT rfl (Ret.bind (Ret.condT (decide_eq_true w1) (Ret.ok (Ret.ok (decide_eq_true w2)))))))
     by_cases e1:a.says=1
     . rw[decide_eq_true e1];rfl
     . rw[decide_eq_false e1,decide_eq_true (show a.says=3 by omega)];rfl
structure Dw (d:Desk) (D:Desk_99):Prop where
 d:D.desk=d
 f:Fc D.desk D.facts
 a:An D.desk D.answers
theorem ARZ {d:Desk} (h:Vd d):∃ D,O4 d=some (D,0)/\Dw d D:=by
 obtain⟨f,hf,hfc⟩:=AVN h.r
 have hla:=h.a.len
 obtain⟨h',e',hh'⟩:=ALu d.answers [] fnone (fun i=>rfl) (by simp;omega)
 refine⟨⟨d,f,h'⟩,?_,rfl,hfc,hh'⟩
 unfold O4
 rw[hf,bindS]
 have s1:=AVO (D:=⟨d,f,fnone⟩) h.t
 have s2:=AVP (D:=⟨d,f,fnone⟩) h.r
 have s3:=AVQ (D:=⟨d,f,fnone⟩) h hfc
 have s4:=AVR (D:=⟨d,f,fnone⟩) h hfc
 have:ABk ⟨d,f,fnone⟩ 0 4=some 0:=by
  show Option.bind (K7 _) _=_
  rw[s1,bindS,if_pos rfl]
  show Option.bind (K8 _) _=_
  rw[s2,bindS,if_pos rfl]
  show Option.bind (K9 _) _=_
  rw[s3,bindS,if_pos rfl]
  show Option.bind (M3 _) _=_
  rw[s4,bindS,if_pos rfl];rfl
 rw[this,bindS,if_pos rfl,e']
 rfl
theorem ACy {d:Desk} (h:Vd d) {day:Int} (hd:0<=day/\day<=100000):∃ D,H4 d day=some (D,0)/\Dw d D:=by
 obtain⟨D,h1,h2⟩:=ARZ h
 refine⟨D,?_,h2⟩
 unfold H4
 rw[h1,bindS,d_in1,Y8 hd]
 rfl
end S
end Go.Proofs.YtgioiejbphljoaaGreatDoor
set_option maxRecDepth 20000
set_option maxHeartbeats 1000000
set_option linter.unusedVariables false
namespace Go.Proofs.YtgioiejbphljoaaGreatDoor
open Go Go.Sx Go.Rx
namespace S
def Q4 (x y:Int):Int:=if x < y then -1 else if y < x then 1 else 0
theorem p_cmp {x y:Int}:D3 x y=some (Q4 x y):=by
 unfold D3 Y4 Q4
 by_cases h:x < y
 . simp[h]
 . by_cases h2:y < x
   . simp[h,h2]
   . simp[h,h2]
theorem p_Or {a b:Int}:Z6 [a,b]=some (if a=0 then b else a):=by
 refine Ret.eq ?_
 unfold Z6
 refine Ret.bind (Ret.loop (fun t:Int=>t=0\/t=1/\a=0\/t=2/\a=0/\b=0) (fun t=>2 - t.toNat) (.inl rfl) ?_)
 rintro _ (rfl|⟨rfl,rfl⟩|⟨rfl,rfl,rfl⟩)
 . refine Ret.condT rfl (Ret.bind (Ret.val (show ixo [a,b] 0=some a from rfl) ?_))
   by_cases c:a=0
   . rw[decide_eq_true c]
     exact Ret.condF rfl (Ret.bind (Ret.chk (by omega) (Ret.next ⟨.inr (.inl ⟨rfl,c⟩),by decide⟩)))
   . rw[decide_eq_false c]
     exact Ret.condT rfl (Ret.done (E2 (Ret.ok (by rw[if_neg c]))))
 . refine Ret.condT rfl (Ret.bind (Ret.val (show ixo [0,b] 1=some b from rfl) ?_))
   by_cases c:b=0
   . rw[decide_eq_true c]
     exact Ret.condF rfl (Ret.bind (Ret.chk (by omega) (Ret.next ⟨.inr (.inr ⟨rfl,rfl,c⟩),by decide⟩)))
   . rw[decide_eq_false c]
     exact Ret.condT rfl (Ret.done (E2 (Ret.ok (by rw[if_pos rfl]))))
 . exact Ret.condF rfl (Ret.done (B8 (Ret.ok (by simp))))
def alt (a b:Answer):Bool:=decide (a.day < b.day\/a.day=b.day/\a.id < b.id)
theorem p_first {a b:Answer}:J4 a b=some (alt a b):=by
 unfold J4
 rw[p_cmp,bindS,p_cmp,bindS,p_Or,bindS]
 congr 1
 unfold alt Q4
 rw[Bool.eq_iff_iff,decide_eq_true_iff,decide_eq_true_iff]
 split <;> split <;> (try split) <;> (try split) <;> omega
def win (x:Dispute) (last:Int) (a:Answer):Bool:=inB x.day last a.day
def AEY (x:Dispute) (last:Int) (v:Verdict) (a:Answer):Verdict:=if win x last a&&(decide (v.is_=5)||alt a v.by_) then ⟨a.day,a.says+1,a⟩ else v
def zeroA:Answer:=Answer.mk 0 0 0 0 0 0
def AM0 (x:Dispute) (A:Int) (l:List Answer):Verdict:=l.foldl (AEY x (x.day+A)) ⟨x.day+A+1,5,zeroA⟩
def dec (d:Desk) (x:Dispute):Verdict:=AM0 x d.terms.answer (d.answers.filter fun a=>decide (a.dispute=x.id))
theorem APh {s:Int} (h:1<=s/\s<=3):(AFs s).getD 0=s+1:=by
 have:s=1\/s=2\/s=3:=by omega
 rcases this with rfl|rfl|rfl <;> rfl
theorem AHn {α β:Type} {f:β->α->β} {b:β} {l:List α} {n:Nat} (h:n < l.length):(l.take (n+1)).foldl f b=f ((l.take n).foldl f b) l[n]:=by
 rw[AA0 h,List.foldl_append];rfl
theorem APi {d:Desk} {D:Desk_99} (hD:Dw d D) (hv:Vd d) {x:Dispute} (hx:x∈d.disputes):N2 D x=some (dec d x):=by
 have hxv:=hv.x.v x hx
 have ht:=hv.t.1
 obtain⟨_,_,f,hf,x1,x2⟩:=hxv
 have hfm:=(hv.r.v f (X7 hf).1).2.2.2.2.2.1
 have hal:=hv.a.len
 have hd:=hD.d
 refine Ret.eq ?_
 unfold N2
 rw[hD.a,hd]
 let aa:=d.answers.filter fun a=>decide (a.dispute=x.id)
 have hlen:aa.length<=40:=Nat.le_trans (List.length_filter_le ..) hal
 have has:∀ a∈aa,1<=a.says/\a.says<=3:=fun a ha=>(hv.a.v a (List.mem_filter.1 ha).1).2.2.1
 show Ret (Option.bind _ _) (·=AM0 x d.terms.answer aa)
 refine Ret.bind (Ret.chk (by omega) (Ret.bind (Ret.chk (by omega) (Ret.bind (D4 aa.length (fun n (t:Int×Int×Int×Int×Int×Int×Int×Int×Int)=>∃ v:Verdict,v=(aa.take n).foldl (AEY x (x.day+d.terms.answer)) ⟨x.day+d.terms.answer+1,5,zeroA⟩/\t=((n:Int),v.day,v.is_,v.by_.id,v.by_.dispute,v.by_.day,v.by_.says,v.by_.about,v.by_.cents)) ⟨_,rfl,rfl⟩ ?_ ?_)))))
 . rintro n hlt _ ⟨v,hvv,rfl⟩
   have hs:=has _ (List.getElem_mem hlt)
   refine Ret.condT (ltT hlt) (Ret.bind (Ret.val (a:=aa[n]) (AG9 (List.getElem?_eq_getElem hlt)) (Ret.bind ?_)))
   rw[d_in1,bindS]
   have key:∀ b:Bool,b=(win x (x.day+d.terms.answer) aa[n]&&(decide (v.is_=5)||alt aa[n] v.by_))->Ret (Option.bind (α:=(Int×Int×Int×Int×Int×Int×Int×Int)) (cond b (some (aa[n].day,((AFs aa[n].says).getD 0),aa[n].id,aa[n].dispute,aa[n].day,aa[n].says,aa[n].about,aa[n].cents)) (some (v.day,v.is_,v.by_.id,v.by_.dispute,v.by_.day,v.by_.says,v.by_.about,v.by_.cents))) ((fun (x52,x53,x54,x55,x56,x57,x58,x59)=>Option.bind (chk .i64 ((n:Int)+1)) fun n60=>some (Sum.inl (n60,x52,x53,x54,x55,x56,x57,x58,x59))))) (Nxt (fun (t:Int×Int×Int×Int×Int×Int×Int×Int×Int)=>∃ v:Verdict,v=(aa.take (n+1)).foldl (AEY x (x.day+d.terms.answer)) ⟨x.day+d.terms.answer+1,5,zeroA⟩/\t=(((n+1:Nat):Int),v.day,v.is_,v.by_.id,v.by_.dispute,v.by_.day,v.by_.says,v.by_.about,v.by_.cents)) (fun (r:Int×Int×Int×Int×Int×Int×Int×Int)=>Ret (some (Verdict.mk r.1 r.2.1 (Answer.mk r.2.2.1 r.2.2.2.1 r.2.2.2.2.1 r.2.2.2.2.2.1 r.2.2.2.2.2.2.1 r.2.2.2.2.2.2.2))) (·=AM0 x d.terms.answer aa))):=fun b hb=>by
    cases b with
    |true=>
     refine Ret.bind (Ret.condT rfl (Ret.ok (Ret.bind (Ret.chk (by omega) (Ret.next ⟨_,rfl,?_⟩)))))
     rw[AHn hlt,<-hvv]
     unfold AEY
     rw[if_pos hb.symm,APh hs]
     rfl
    |false=>
     refine Ret.bind (Ret.condF rfl (Ret.ok (Ret.bind (Ret.chk (by omega) (Ret.next ⟨_,rfl,?_⟩)))))
     rw[AHn hlt,<-hvv]
     unfold AEY
     rw[if_neg (by rw[<-hb];decide)]
     rfl
   refine Ret.cond (fun h1=>?_) fun h1=>Ret.ok (key _ (by rw[show win x (x.day+d.terms.answer) aa[n]=false from h1];rfl))
   have h1:win x (x.day+d.terms.answer) aa[n]=true:=h1
   refine Ret.cond (fun h2=>Ret.ok (key _ (by rw[h1,h2];rfl))) fun h2=>?_
   have e:(Answer.mk v.by_.id v.by_.dispute v.by_.day v.by_.says v.by_.about v.by_.cents)=v.by_:=rfl
   rw[e,p_first,bindS]
   exact Ret.ok (key _ (by rw[h1,h2];rfl))
 . rintro _ ⟨v,hvv,rfl⟩
   refine Ret.condF (ltF (Nat.le_refl _)) (Ret.done (Ret.ok ?_))
   rw[List.take_length] at hvv
   show _=List.foldl _ _ _
   rw[<-hvv]
structure DecL (x:Dispute) (A:Int) (l:List Answer) (v:Verdict):Prop where
 is5:v.is_=5->v=⟨x.day+A+1,5,zeroA⟩/\∀ a∈l,win x (x.day+A) a=false
 by_:v.is_≠5->v=⟨v.by_.day,v.by_.says+1,v.by_⟩/\v.by_∈l/\win x (x.day+A) v.by_=true/\∀ a∈l,win x (x.day+A) a=true->alt a v.by_=false
theorem ARa {a b c:Answer} (h1:alt a b=true) (h2:alt c b=false):alt c a=false:=by
 unfold alt at *
 rw[decide_eq_true_iff] at h1
 rw[decide_eq_false_iff_not] at *
 omega
theorem AWn {x:Dispute} {A:Int}:∀ (l:List Answer),(∀ a∈l,1<=a.says/\a.says<=3)->DecL x A l (AM0 x A l):=by
 have key:∀ (l p:List Answer) (v:Verdict),(∀ a∈l,1<=a.says/\a.says<=3)->DecL x A p v->DecL x A (p++l) (l.foldl (AEY x (x.day+A)) v):=by
  intro l
  induction l with
  |nil=>intro p v _ h;simpa using h
  |cons a l ih=>
   intro p v hs h
   have:p++a :: l=(p++[a])++l:=by simp
   rw[this]
   refine ih _ _ (fun b hb=>hs b (List.mem_cons_of_mem _ hb)) ?_
   have ha:=hs a (List.mem_cons_self ..)
   unfold AEY
   by_cases c:(win x (x.day+A) a&&(decide (v.is_=5)||alt a v.by_))=true
   . rw[if_pos c]
     rw[Bool.and_eq_true,Bool.or_eq_true] at c
     refine⟨fun h5=>?_,fun _=>⟨rfl,List.mem_append.2 (.inr (List.mem_singleton.2 rfl)),c.1,fun b hb hw=>?_⟩⟩
     . have h5:a.says+1=5:=h5
       omega
     . show alt b a=false
       rcases List.mem_append.1 hb with hb|hb
       . by_cases c5:v.is_=5
         . rw[(h.is5 c5).2 b hb] at hw;cases hw
         . rcases c.2 with c2|c2
           . exact absurd (of_decide_eq_true c2) c5
           . exact ARa c2 ((h.by_ c5).2.2.2 b hb hw)
       . rw[List.mem_singleton.1 hb]
         unfold alt
         exact decide_eq_false (by omega)
   . rw[if_neg c]
     refine⟨fun h5=>⟨(h.is5 h5).1,fun b hb=>?_⟩,fun h5=>⟨(h.by_ h5).1,List.mem_append.2 (.inl (h.by_ h5).2.1),(h.by_ h5).2.2.1,fun b hb hw=>?_⟩⟩
     . rcases List.mem_append.1 hb with hb|hb
       . exact (h.is5 h5).2 b hb
       . rw[List.mem_singleton.1 hb]
         rw[decide_eq_true h5,Bool.true_or,Bool.and_true] at c
         simpa using c
     . rcases List.mem_append.1 hb with hb|hb
       . exact (h.by_ h5).2.2.2 b hb hw
       . rw[List.mem_singleton.1 hb] at hw ⊢
         rw[hw,decide_eq_false h5,Bool.false_or,Bool.true_and] at c
         simpa using c
 intro l hl
 have:=key l [] ⟨x.day+A+1,5,zeroA⟩ hl ⟨fun _=>⟨rfl,fun a ha=>by cases ha⟩,fun h=>absurd rfl h⟩
 rw[List.nil_append] at this
 exact this
theorem AFP {d:Desk} (hv:Vd d) (x:Dispute):DecL x d.terms.answer (d.answers.filter fun a=>decide (a.dispute=x.id)) (dec d x):=AWn _ fun a ha=>(hv.a.v a (List.mem_filter.1 ha).1).2.2.1
theorem ALv {d:Desk} (hv:Vd d) {x:Dispute}:x.day<=(dec d x).day/\(dec d x).day<=x.day+d.terms.answer+1:=by
 have ht:=hv.t.1
 have h:=AFP hv x
 by_cases c:(dec d x).is_=5
 . rw[(h.is5 c).1]
   show _<=x.day+d.terms.answer+1/\x.day+d.terms.answer+1<=_
   omega
 . obtain⟨h1,_,h2,_⟩:=h.by_ c
   have h2:=I3 h2
   rw[h1]
   show _<=(dec d x).by_.day/\(dec d x).by_.day<=_
   omega
theorem ACz {d:Desk} (hv:Vd d) {x:Dispute} (hx:x∈d.disputes):0<=(dec d x).day/\(dec d x).day<=100000:=by
 obtain⟨_,_,f,hf,x1,x2⟩:=hv.x.v x hx
 have hfm:=(hv.r.v f (X7 hf).1).2.2.2.2.2.1
 have:=ALv hv (x:=x)
 omega
theorem AKl {d:Desk} (hv:Vd d) (x:Dispute):2<=(dec d x).is_/\(dec d x).is_<=5:=by
 by_cases c:(dec d x).is_=5
 . omega
 . obtain⟨h1,h2,_⟩:=(AFP hv x).by_ c
   have:=(hv.a.v _ (List.mem_filter.1 h2).1).2.2.1
   rw[h1]
   show 2<=(dec d x).by_.says+1/\(dec d x).by_.says+1<=5
   omega
def wh (d:Desk) (x:Dispute) (day:Int):Int:=if (dec d x).day<=day then (dec d x).is_ else if x.day<=day then 1 else 0
theorem AFv {d:Desk} {D:Desk_99} (hD:Dw d D) (hv:Vd d) {x:Dispute} (hx:x∈d.disputes) {day:Int}:E9 D x day=some (wh d x day,dec d x):=by
 unfold E9 wh
 rw[APi hD hv hx,bindS]
 by_cases c:(dec d x).day<=day
 . rw[decide_eq_true c,condT,if_pos c]
 . rw[decide_eq_false c,condF,if_neg c]
   by_cases c2:x.day<=day
   . rw[decide_eq_true c2,condT,if_pos c2]
   . rw[decide_eq_false c2,condF,if_neg c2]
theorem AOM {α:Type} {l:List α} {k:α->Int} (h:(l.map k).Nodup) {x:α} (hx:x∈l) {n:Nat} (hn:n < l.length) (he:k l[n]=k x):l[n]=x:=by
 rw[List.Nodup,List.pairwise_map,List.pairwise_iff_getElem] at h
 obtain⟨j,hj,rfl⟩:=List.getElem_of_mem hx
 rcases Nat.lt_trichotomy n j with e|e|e
 . exact absurd he (h n j hn hj e)
 . subst e;rfl
 . exact absurd he.symm (h j n hj hn e)
theorem AIQ {d:Desk} (hv:Vd d) {x:Dispute} (hx:x∈d.disputes) {day:Int} (hd:0<=day/\day<=100000):N4 d x.id day=some (wh d x day,(dec d x).day,0):=by
 obtain⟨D,h1,hD⟩:=ACy hv hd
 have hlx:=hv.x.len
 refine Ret.eq ?_
 unfold N4
 rw[h1,bindS]
 refine Ret.condF (by decide) (Ret.bind ?_)
 rw[hD.d]
 refine (AET (s:=d.disputes) (f:=fun a3=>Y1 a3 x.id) (fun _ _=>rfl) (by omega) (fun h=>?_) fun k hk h hp=>?_:Ret (AGq _ _) _)
 . exact absurd rfl (of_decide_eq_false (h x hx))
 . refine Ret.condF (decide_eq_false (by omega)) (Ret.bind (N8 hk ?_))
   rw[AOM hv.x.nd hx hk (of_decide_eq_true h),AFv hD hv hx]
   exact Ret.ok rfl
def isO (d:Desk) (report day:Int) (x:Dispute):Bool:=decide (x.report=report)&&decide (wh d x day=1)
def isS (d:Desk) (report day:Int) (x:Dispute):Bool:=decide (x.report=report)&&(decide (wh d x day=2)&&decide (day - (dec d x).day<=d.terms.mark))
def AFw (d:Desk) (report day:Int):Int:=if d.disputes.any (isO d report day) then 1 else if d.disputes.any (isS d report day) then 2 else 0
theorem N5 {α:Type} {l:List α} {p:α->Bool} {n:Nat} (h:n < l.length):(l.take (n+1)).any p=((l.take n).any p||p l[n]):=by
 rw[AA0 h,List.any_append];simp
theorem AON {d:Desk} (hv:Vd d) {report day:Int} (hd:0<=day/\day<=100000):U3 d report day=some (if (U9 d.reports report).isSome then (AFw d report day,0) else (0,6)):=by
 obtain⟨D,h1,hD⟩:=ACy hv hd
 have hlx:=hv.x.len
 refine Ret.eq ?_
 unfold U3
 rw[h1,bindS]
 refine Ret.condF (by decide) ?_
 rw[hD.f,hD.d]
 cases hf:U9 d.reports report with
 |none=>exact Ret.condT rfl (Ret.ok rfl)
 |some f=>
  refine Ret.condF rfl ?_
  refine Ret.bind (D4 d.disputes.length (fun n (t:Int×Int)=>t.2=n/\(d.disputes.take n).any (isO d report day)=false/\t.1=if (d.disputes.take n).any (isS d report day) then 2 else 0) ⟨rfl,rfl,rfl⟩ ?_ ?_)
  . rintro n hlt ⟨m,_⟩ ⟨rfl,ho,hm⟩
    dsimp only at hm
    have hx:=List.getElem_mem hlt
    refine Ret.condT (ltT hlt) (Ret.bind (Ret.bind (N8 hlt (Ret.cond (fun c=>?_) fun c=>?_))))
    . have c:decide (d.disputes[n].report=report)=false:=by simpa using c
      refine Ret.ok (B8 (Ret.bind (Ret.chk (by omega) (Ret.next ⟨by dsimp only;omega,?_,?_⟩))))
      . rw[N5 hlt,ho];unfold isO;rw[c];rfl
      . dsimp only;rw[N5 hlt,hm];unfold isS;rw[c,Bool.false_and,Bool.or_false]
    . have c:decide (d.disputes[n].report=report)=true:=by simpa using c
      rw[AFv hD hv hx,bindS]
      refine Ret.cond (fun c1=>?_) fun c1=>?_
      . refine Ret.ok (E2 (Ret.done (Ret.ok ?_)))
        have:d.disputes.any (isO d report day)=true:=List.any_eq_true.2 ⟨_,hx,by unfold isO;rw[c,c1];rfl⟩
        unfold AFw
        rw[if_pos this,of_decide_eq_true c1]
        rfl
      . refine Ret.bind ?_
        have key:∀ b:Bool,b=(decide (wh d d.disputes[n] day=2)&&decide (day - (dec d d.disputes[n]).day<=d.terms.mark))->Ret (Option.bind (α:=(Int)) (cond b (some (wh d d.disputes[n] day)) (some m)) fun x27=>some (Sum.inl x27:Int⊕Int)) fun a=>Ret (Sum.elim (fun x28=>Option.bind (chk .i64 ((n:Int)+1)) fun n29=>some (Sum.inl (x28,n29))) (fun x30=>some (Sum.inr x30)) a) (Nxt (fun (t:Int×Int)=>t.2=((n+1:Nat):Int)/\(d.disputes.take (n+1)).any (isO d report day)=false/\t.1=if (d.disputes.take (n+1)).any (isS d report day) then 2 else 0) fun a=>Ret (some (a,(0:Int))) (·=if (some f).isSome then (AFw d report day,0) else (0,6))):=fun b hb=>by
         have eo:(d.disputes.take (n+1)).any (isO d report day)=false:=by rw[N5 hlt,ho];unfold isO;rw[c,c1];rfl
         have es:(d.disputes.take (n+1)).any (isS d report day)=((d.disputes.take n).any (isS d report day)||b):=by rw[N5 hlt,hb];unfold isS;rw[c,Bool.true_and]
         cases b with
         |true=>
          refine Ret.bind (Ret.condT rfl (Ret.ok (Ret.ok (B8 (Ret.bind (Ret.chk (by omega) (Ret.next ⟨by dsimp only;omega,eo,?_⟩)))))))
          rw[es,Bool.or_true,if_pos rfl]
          symm at hb
          rw[Bool.and_eq_true] at hb
          exact of_decide_eq_true hb.1
         |false=>
          refine Ret.bind (Ret.condF rfl (Ret.ok (Ret.ok (B8 (Ret.bind (Ret.chk (by omega) (Ret.next ⟨by dsimp only;omega,eo,?_⟩)))))))
          rw[es,Bool.or_false]
          exact hm
        have hdi:=ACz hv hx
        refine Ret.cond (fun c2=>Ret.bind (Ret.chk (by omega) (Ret.ok (key _ ?_)))) fun c2=>Ret.ok (key _ ?_)
        . rw[c2,Bool.true_and]
        . rw[c2];rfl
  . rintro⟨m,_⟩ ⟨rfl,ho,hm⟩
    dsimp only at hm
    rw[List.take_length] at ho hm
    refine Ret.condF (ltF (Nat.le_refl _)) (Ret.done (Ret.ok ?_))
    rw[if_pos (show (some f).isSome=true from rfl)]
    unfold AFw
    rw[if_neg (by rw[ho];decide),hm]
end S
end Go.Proofs.YtgioiejbphljoaaGreatDoor
set_option maxRecDepth 20000
set_option maxHeartbeats 1000000
set_option linter.unusedVariables false
namespace Go.Proofs.YtgioiejbphljoaaGreatDoor
open Go Go.Sx Go.Rx
namespace S
noncomputable def AQR {α:Type} (D:Nat->α->Option Int) (a b:α) (a2_:List Nat):Option Int:=Option.bind (B9 (S:=(Int)) (R:=(Unit⊕Int)) (fun x7=>cond (decide (x7 < (a2_.length:Int))) (Option.bind (ixo a2_ x7) fun y8=>Option.bind (D y8 a) fun y9=>Option.bind (D y8 b) fun y10=>Option.bind (D3 y9 y10) fun r11=>cond ((!decide (r11=0))) (some (Sum.inr (Sum.inr r11))) (Option.bind (chk .i64 (x7+1)) fun n12=>some (Sum.inl n12))) (some (Sum.inr (Sum.inl ())))) (0:Int)) ((Sum.elim (fun _=>some (0:Int)) (fun r13=>some r13)))
def cf2 {α:Type} (k1 k2:α->Int) (a b:α):Int:=if Q4 (k1 a) (k1 b)=0 then Q4 (k2 a) (k2 b) else Q4 (k1 a) (k1 b)
theorem ALw {x y:Int}:Q4 x y < 0↔x < y:=by unfold Q4;split <;> (try split) <;> omega
theorem AKm {x y:Int}:Q4 x y=0↔x=y:=by unfold Q4;split <;> (try split) <;> omega
theorem ADv {α:Type} {k1 k2:α->Int} {a b:α}:cf2 k1 k2 a b < 0↔k1 a < k1 b\/k1 a=k1 b/\k2 a < k2 b:=by
 unfold cf2
 split
 . rename_i h
   rw[AKm] at h
   rw[ALw];omega
 . rename_i h
   rw[AKm] at h
   rw[ALw];omega
theorem AFx {α:Type} {D:Nat->α->Option Int} {k1 k2:α->Int} {i j:Nat} (h1:∀ y,D i y=some (k1 y)) (h2:∀ y,D j y=some (k2 y)) {a b:α}:AQR D a b [i,j]=some (cf2 k1 k2 a b):=by
 refine Ret.eq ?_
 unfold AQR
 refine Ret.bind (Ret.loop (fun t:Int=>t=0\/t=1/\Q4 (k1 a) (k1 b)=0\/t=2/\Q4 (k1 a) (k1 b)=0/\Q4 (k2 a) (k2 b)=0) (fun t=>2 - t.toNat) (.inl rfl) ?_)
 rintro _ (rfl|⟨rfl,e⟩|⟨rfl,e,e2⟩)
 . refine Ret.condT rfl (Ret.bind (Ret.val (show ixo [i,j] 0=some i from rfl) ?_))
   rw[h1,h1,bindS,bindS,p_cmp,bindS]
   by_cases c:Q4 (k1 a) (k1 b)=0
   . rw[decide_eq_true c]
     exact Ret.condF rfl (Ret.bind (Ret.chk (by omega) (Ret.next ⟨.inr (.inl ⟨rfl,c⟩),by decide⟩)))
   . rw[decide_eq_false c]
     exact Ret.condT rfl (Ret.done (E2 (Ret.ok (by unfold cf2;rw[if_neg c]))))
 . refine Ret.condT rfl (Ret.bind (Ret.val (show ixo [i,j] 1=some j from rfl) ?_))
   rw[h2,h2,bindS,bindS,p_cmp,bindS]
   by_cases c:Q4 (k2 a) (k2 b)=0
   . rw[decide_eq_true c]
     exact Ret.condF rfl (Ret.bind (Ret.chk (by omega) (Ret.next ⟨.inr (.inr ⟨rfl,e,c⟩),by decide⟩)))
   . rw[decide_eq_false c]
     exact Ret.condT rfl (Ret.done (E2 (Ret.ok (by unfold cf2;rw[if_pos e]))))
 . exact Ret.condF rfl (Ret.done (B8 (Ret.ok (by unfold cf2;rw[if_pos e,e2]))))
def le2 {α:Type} (k1 k2:α->Int) (a b:α):Prop:=k1 a < k1 b\/k1 a=k1 b/\k2 a<=k2 b
theorem AJF {α:Type} {x:List α} {cmp:α->α->Option Int} {k1 k2:α->Int} (hc:∀ a b,cmp a b=some (cf2 k1 k2 a b)) (one:∀ a b,a∈x->b∈x->k1 a=k1 b->k2 a=k2 b->a=b) (hl:x.length<=1000000):Ret (ACH x cmp) fun out=>out.Perm x/\out.Pairwise (le2 k1 k2):=by
 have hok:AKd x cmp (cf2 k1 k2):=by
  refine⟨fun a b _ _=>hc a b,⟨fun a=>?_,fun a b c h1 h2=>?_,fun a b c h1 h2=>?_⟩,fun a b ha hb h1 h2=>?_⟩
  . show decide (cf2 k1 k2 a.1 a.1 < 0)=false
    rw[decide_eq_false_iff_not,ADv];omega
  . have h1:=of_decide_eq_true h1
    have h2:=of_decide_eq_true h2
    refine decide_eq_true ?_
    rw[ADv] at *
    omega
  . have h1:=of_decide_eq_false h1
    have h2:=of_decide_eq_false h2
    refine decide_eq_false ?_
    rw[ADv] at *
    omega
  . rw[ADv] at h1 h2
    exact one a b ha hb (by omega) (by omega)
 have hex:x.length < 4611686018427387904/\∃ cf,AKd x cmp cf:=⟨by omega,_,hok⟩
 have hs:ACH x cmp=some (x.mergeSort fun a b=>!decide (hex.2.choose b a < 0)):=by
  unfold ACH
  rw[dif_pos hex]
 refine Ret.val hs ⟨List.mergeSort_perm _ _,?_⟩
 have hsp:=hex.2.choose_spec.1
 have hm:=List.map_mergeSort (r:=fun a b=>!decide (hex.2.choose b a < 0)) (s:=fun a b=>!decide (cf2 k1 k2 b a < 0)) (f:=id) (l:=x) fun a ha b hb=>by
  have h1:=hsp b a hb ha
  rw[hc] at h1
  rw[<-Option.some.inj h1];rfl
 simp only[List.map_id] at hm
 rw[hm]
 have hle:∀ a b:α,(!decide (cf2 k1 k2 b a < 0))=true↔le2 k1 k2 a b:=fun a b=>by
  rw[Bool.not_eq_true',decide_eq_false_iff_not,ADv]
  unfold le2;omega
 refine (List.pairwise_mergeSort (fun a b c h1 h2=>?_) (fun a b=>?_) x).imp fun h=>(hle _ _).1 h
 . rw[hle] at *;unfold le2 at *;omega
 . rw[Bool.or_eq_true,hle,hle];unfold le2;omega
theorem AEZ {α:Type} {k1 k2:α->Int} {l1 l2:List α} (hp:l1.Perm l2) (h1:l1.Pairwise (le2 k1 k2)) (h2:l2.Pairwise (le2 k1 k2)) (one:∀ a b,a∈l1->b∈l1->k1 a=k1 b->k2 a=k2 b->a=b):l1=l2:=by
 refine List.Perm.eq_of_pairwise (fun a b ha hb hab hba=>?_) h1 h2 hp
 unfold le2 at hab hba
 exact one a b ha (hp.mem_iff.2 hb) (by omega) (by omega)
theorem AAb {α:Type} {l:List α} {k:α->Int} (h:(l.map k).Nodup):∀ a b,a∈l->b∈l->k a=k b->a=b:=fun a b ha hb e=>by
 obtain⟨i,hi,rfl⟩:=List.getElem_of_mem ha
 exact AOM h hb hi e
def AKn (d:Desk) (day:Int) (out:List Int):Prop:=∃ m:List Dispute,m.Perm d.disputes/\m.Pairwise (le2 (·.day) (·.id))/\out=(m.filter fun y=>decide (wh d y day=1)).map (·.id)
theorem AQS {d:Desk} (hv:Vd d) {day:Int} (hd:0<=day/\day<=100000):Ret (Q5 d day) fun r=>r.2=0/\AKn d day r.1:=by
 obtain⟨D,h1,hD⟩:=ACy hv hd
 have hlx:=hv.x.len
 unfold Q5
 rw[h1,bindS]
 refine Ret.condF (by decide) ?_
 rw[hD.d]
 have hc:N6 d.disputes=some d.disputes:=by
  unfold N6
  have h2:appo 24 ([]:List Dispute) d.disputes=some d.disputes:=ACM (xs:=([]:List Dispute)) (by simp;omega) (by simp;omega)
  refine ANP (fun h=>?_) ?_
  . rw[h];rfl
  . show Option.bind (appo 24 ([]:List Dispute) d.disputes) (fun l7=>some l7)=some d.disputes
    rw[h2,bindS]
 rw[hc,bindS]
 have ho:=AJF (x:=d.disputes) (cmp:=fun a b=>I2 a b [60,61]) (k1:=(·.day)) (k2:=(·.id)) (fun a b=>AFx (D:=fd130.D) (fun _=>rfl) (fun _=>rfl)) (fun a b ha hb _ e=>AAb hv.x.nd a b ha hb e) (by omega)
 refine Ret.bind (Ret.bind (ho.mono fun m hm=>Ret.ok ?_))
 obtain⟨hp,hs⟩:=hm
 have hml:m.length=d.disputes.length:=hp.length_eq
 refine Ret.bind (D4 m.length (fun n (t:Int×List Int)=>t.1=n/\t.2=((m.take n).filter fun y=>decide (wh d y day=1)).map (·.id)) ⟨rfl,rfl⟩ ?_ ?_)
 . rintro n hlt ⟨_,o⟩ ⟨rfl,rfl⟩
   have hx:m[n]∈d.disputes:=hp.mem_iff.1 (List.getElem_mem hlt)
   refine Ret.condT (ltT hlt) (Ret.bind (N8 hlt ?_))
   rw[AFv hD hv hx,bindS]
   have hol:(((m.take n).filter fun y=>decide (wh d y day=1)).map (·.id)).length<=n:=by
    rw[List.length_map]
    exact Nat.le_trans (List.length_filter_le ..) (by rw[List.length_take];omega)
   refine Ret.bind (Ret.cond (fun c=>?_) fun c=>?_)
   . refine Ret.bind (Ret.appo (by simp only[List.length_singleton];omega) (by simp only[List.length_singleton];omega) (Ret.ok (Ret.bind (Ret.chk (by omega) (Ret.next ⟨by dsimp only;omega,?_⟩)))))
     dsimp only
     rw[AA0 hlt,List.filter_append,List.map_append]
     congr 1
     rw[List.filter_cons,if_pos c];rfl
   . refine Ret.ok (Ret.bind (Ret.chk (by omega) (Ret.next ⟨by dsimp only;omega,?_⟩)))
     dsimp only
     rw[AA0 hlt,List.filter_append,List.map_append,List.filter_cons,if_neg (by rw[c];decide)]
     simp
 . rintro⟨_,o⟩ ⟨rfl,rfl⟩
   refine Ret.condF (ltF (Nat.le_refl _)) (Ret.done (Ret.ok ⟨rfl,m,hp,hs,?_⟩))
   dsimp only
   rw[List.take_length]
theorem ARb {d:Desk} (hv:Vd d) {day:Int} {out:List Int} (h:AKn d day out) {x:Dispute} (hx:x∈d.disputes):x.id∈out↔wh d x day=1:=by
 obtain⟨m,hp,hs,rfl⟩:=h
 rw[List.mem_map]
 constructor
 . rintro⟨y,hy,e⟩
   obtain⟨h1,h2⟩:=List.mem_filter.1 hy
   rw[<-AAb hv.x.nd y x (hp.mem_iff.1 h1) hx e]
   exact of_decide_eq_true h2
 . intro h
   exact⟨x,List.mem_filter.2 ⟨hp.mem_iff.2 hx,decide_eq_true h⟩,rfl⟩
end S
end Go.Proofs.YtgioiejbphljoaaGreatDoor
set_option maxRecDepth 20000
set_option maxHeartbeats 4000000
namespace Go.Proofs.YtgioiejbphljoaaGreatDoor
open Go Go.Sx Go.Rx Go.RowKit
noncomputable def U4 (d:Desk_99) (x:Dispute) (v:Verdict) (l:List Report):Option (List Report):=Option.bind (α:=(Int×Int×Int)) (cond (decide (v.is_=3)) (some (v.by_.about,(8:Int),v.by_.cents)) (some ((0:Int),(9:Int),(0:Int)))) ((fun (x1,x2,x3)=>Option.bind (appo 64 l ([(Report.mk x.id (((d.facts x.report).getD (Report.mk 0 0 0 0 0 0 0 0)).source) (((d.facts x.report).getD (Report.mk 0 0 0 0 0 0 0 0)).account) v.day x1 x2 x3 (((d.facts x.report).getD (Report.mk 0 0 0 0 0 0 0 0)).id))])) fun l4=>some (l4)))
def AIw:An:=.nd (.x) (.nd (.x) (.nd (.nd (.x) (.jn [.norm ⟨[(.cell 10 4,.d (.int .i64)),(.cell 10 5,.d (.int .u8)),(.cell 10 6,.d (.int .i64))],[10,6,66]⟩] (.x))) (.x)))
noncomputable def AAj (d:Desk_99) (l:List Report):Option (List Report×Int):=Option.bind (chk .i64 ((d.desk.reports.length:Int)+(l.length:Int))) fun n1=>cond (decide (60 < n1)) (some (([]:(List Report)),(9:Int))) (Option.bind (G6 ([(78:Nat),(79:Nat)]) l) fun (_,m2)=>Option.bind (R7 ([d.desk.reports,m2])) fun r3=>some (r3,(0:Int)))
def AKo:An:=.x
end Go.Proofs.YtgioiejbphljoaaGreatDoor
set_option maxRecDepth 20000
set_option maxHeartbeats 4000000
namespace Go.Rx
open Go Go.Sx Go.RowKit
section
variable [Trk] [Sg] [Sf] {P:Program} [Se P] [Anch] {w0 w:World} {M:List Nat} {N:Nat} {ds:List Deferred}
theorem AM1 [Sl (P:=P)] {G:Gx} (hG:GxOk P G) (r:Option Nat) {n:Nat} (c:Code) (an:An) {sh:Sh} {σ:AS} {x:M7 sh.cs} {L:A7} {w:World} {A B:A4} {X:Nat->A4} {Z:List PanicEntry->A4} (h:exec G N (fun _=>(none:Option Unit)) c an (H2 sh) (fun _ _=>none) (fun _=>none) σ=some x) (hH:Holds (P:=P) w0 [] M σ L w)
 (hA:∀ L' w',EnvS (C8 c++C6 an) L L'->Holds (P:=P) w0 [] M (B6 (C8 c++C6 an) sh σ x) L' w'->A ds L' w'):CF r n P N c ds L w A B X Z:=
 ACs (H5 hG c an _ _ _ _ _ _ _ _ _ _ _ _ _ h hH (fun σ1 L1 w1 h1 hR hE1 hH1=>by
  obtain⟨S,ρ,γ,μ,ι,hS⟩:=hH1
  exact hA L1 w1 hE1 (R3 hS hR h1)) (fun i σ2 L2 w2 h2=>by cases h2) (fun r σ2 L2 w2 h2 h3 _ hH2=>by cases h2) PZ.no)
end
theorem AFy [Trk] [Sg] [Sf] {P:Program} [Se P] [Sl (P:=P)] [Sn P] (htk:¬ Trk.t) {G:Gx} (hG:GxOk P G) {f:Func} {cs:List Ck} {M:List Nat} {w:World} {r:H8 cs} (hn:Nat.ble cs.length 4=true) (hc:tnK cs=true) {D:Nat} (hD:w.heap.size<=D) {σ':AS} {L':A7} {w':World} (h1:U0 G cs f.results.toList σ'=some r) (hH:@Holds _ _ _ P _ (AHd D) _ w [] M σ' L' w'):FinM P f (fun e w'=>∃ vs,e=.returned (ABw vs)/\KsOk (P:=P) M (obK cs vs++M) w w' cs r vs/\Ext w w') [{ target:=.collected D,args:=#[] }] L' w':=by
 obtain⟨vs,h2,h3,h4,h5⟩:=@ALf _ _ _ P _ _ (AHd D) G hG _ _ _ _ _ _ _ _ hH h1
 obtain⟨S,ρ,γ,μ,ι,hS⟩:=hH
 have hQ:D∉mm S M/\w'.heap[D]?=some (.deferred (some [])):=by
  letI:=AHd D
  exact hS.anch.1
 have htn:Tn w' (w'.putObj D (.deferred none)):=⟨by simp,fun b o ho hcl=>by
  by_cases e:b=D
  . subst e
    rw[hQ.2] at ho;cases ho;cases hcl
  . exact (World.putObj_heap_other e).trans ho⟩
 have hx:Ext w (w'.putObj D (.deferred none)):=⟨h5.os,h5.tape,h5.output,Nat.le_trans h5.size (by simp),fun b hb hn=>(World.putObj_heap_other (by omega)).trans (h5.block b hb hn),fun h=>absurd h htk⟩
 have h6:=N1 (P:=P) (fn:=f) (R:=fun e w'=>∃ vs,e=.returned (ABw vs)/\KsOk (P:=P) M (obK cs vs++M) w w' cs r vs/\Ext w w') (by simp) (AllRs.tn htn h2) (by rw[h3];exact hn) ⟨vs,by rw[AER],KsOk.tn htn cs hc h4,hx⟩
 obtain⟨_,v,h7,h8⟩:=h6
 exact .inr ⟨D,_,rfl,run_takeDeferred hQ.2,v,fun a ha=>h7 { tmps:=a.tmps,defers:=[] } ⟨ha.size,rfl,ha.val⟩,h8⟩
end Go.Rx
namespace Go.Proofs.YtgioiejbphljoaaGreatDoor
open Go Go.Sx Go.Rx Go.RowKit
theorem ATH:AJg ReportE:=fun h=>ReportE_R.2 (ReportE_R.1 h)
def ABS (x:Dispute):List Value:=[.int .i64 x.id,.int .i64 x.report,.int .i64 x.day]
def ADY (v:Verdict):List Value:=[.int .i64 v.day,.int .u8 v.is_,.int .i64 v.by_.id,.int .i64 v.by_.dispute,.int .i64 v.by_.day,.int .u8 v.by_.says,.int .i64 v.by_.about,.int .i64 v.by_.cents]
noncomputable def AWo:Code:=match Tryz.f41.body with
 |some (.seq _ (.seq _ (.seq (.seq _ (.block _ c)) _)))=>c
 |_=>.skip
noncomputable def ATI:Code:=match AWo with
 |.rangeFunc _ _ _ b=>b
 |_=>.skip
noncomputable def ATJ:Code:=match Tryz.f41.body with
 |some (.seq _ (.seq _ (.seq _ c)))=>c
 |_=>.skip
def sB (d:Desk_99) (x:Dispute) (v:Verdict) (l:List Report):AS:=⟨(6,.ptr 6 0) :: [(2,.rp (.str 10 d) 0),(7,.rp (.str 2 x) 0),(8,.rp (.str 12 v) 0)],[(6,.row 24 [.own 66]),(66,.own false (.sl 45 (.st 1)) l)],[],[]⟩
def sP (d:Desk_99) (l:List Report):AS:=⟨(6,.ptr 6 0) :: [(2,.rp (.str 10 d) 0)],[(6,.row 24 [.own 66]),(66,.own false (.sl 45 (.st 1)) l)],[],[]⟩
def shB:Sh:=⟨[(.cell 6 0,.own (.sl 45 (.st 1)))],[6]⟩
def cs41:List Ck:=[.own (.sl 45 (.st 1)),.d (.int .i64)]
noncomputable def AM2:Gx:={ gxb with fs:=[(78,ctr78),(79,ctr79),(80,ctr80)],fm:=[(77,ctrm77)] }
theorem AIR:GxOk Tryz.prog AM2:=AFH ⟨⟨ok78,Tryz.call78⟩,⟨⟨ok79,Tryz.call79⟩,⟨⟨ok80,Tryz.call80⟩,trivial⟩⟩⟩ trivial ⟨⟨okm77,Tryz.call77⟩,trivial⟩
theorem ARc (d:Desk_99) (x:Dispute) (v:Verdict) (l:List Report):exec gxb 65 (fun _=>(none:Option Unit)) ATI AIw (H2 shB) (fun _ _=>none) (fun _=>none) (sB d x v l)=U4 d x v l:=by kernel_rfl
theorem ATK (d:Desk_99) (l:List Report):exec AM2 65 (U0 AM2 cs41 Tryz.f41.results.toList) ATJ AKo (U0 AM2 cs41 Tryz.f41.results.toList) (fun _ _=>none) some (sP d l)=AAj d l:=by kernel_rfl
def AWp (M:List Nat) (b6:Nat) (Lb:Sx.A7) (x:Dispute×Verdict) (L:Sx.A7) (W:World):Prop:=∃ b7 b8 u,L=(8,.pointer (some ⟨b8,0,none⟩)) :: (7,.pointer (some ⟨b7,0,none⟩)) :: (15,J5 (.st 12) x.2) :: (14,J5 (.st 2) x.1) :: Lb/\Row 53 W b7 (ABS x.1)/\Row 111 W b8 (ADY x.2)/\Row 24 W b6 [u]/\(b7∉ob u/\b7≠b6/\b7∉M)/\(b8∉ob u/\b8≠b6/\b8∉M)
theorem AGs {e:TypeId} {W W':World} {b:Nat} {cs:List Value} {row:Option Nat} (h:Row e W b cs) (hg:W.grownBy W' row) (hr:∀ r,row=some r->∃ o:Obj,W.heap[r]?=some o/\o.isCells=false):Row e W' b cs:=by
 have h:W.heap[b]?=_:=h
 refine (hg.block b (I9 h) fun e'=>?_).trans h
 obtain⟨o',g1,g2⟩:=hr b e'.symm
 rw[h] at g1;cases g1
 cases g2
theorem AIx [Anch] {w:World} {M:List Nat} {b6:Nat} {u:Value} {l:List Report} {L:Sx.A7} {W:World} {env:List (Nat×SV)} (e2:Hp w [] M (E7 ReportE 45 24 b6 u l) W) (l6:Sx.A5 L 6=some (.pointer (some ⟨b6,0,none⟩)))
 (hE:∀ t s,A1 env t=some s->∃ v,Sx.A5 L t=some v/\Ok (P:=Tryz.prog) (fun i=>if i=6 then .pointer (some ⟨b6,0,none⟩) else u) (A1 [(6,.row 24 [.own 66]),(66,.own false (.sl 45 (.st 1)) l)]) (mm (E7 ReportE 45 24 b6 u l) M) W s v) (hA:AnOk (P:=Tryz.prog) (mm (E7 ReportE 45 24 b6 u l) M) W) :
 Holds (P:=Tryz.prog) w [] M ⟨(6,.ptr 6 0) :: env,[(6,.row 24 [.own 66]),(66,.own false (.sl 45 (.st 1)) l)],[],[]⟩ L W:=by
 refine⟨E7 ReportE 45 24 b6 u l,fun i=>if i=6 then .pointer (some ⟨b6,0,none⟩) else u,fun i=>if i=6 then [u] else [],fun _=>[],fun i=>if i=6 then 1 else 0,e2,fun i a hi=>?_,fun i j a b hi hj e=>?_,fun i a hi=>?_,fun t s ht=>?_,hA⟩
 . rw[fnd_cons] at hi
   split at hi
   . rename_i e;subst e;cases hi;rfl
   rw[fnd_cons] at hi
   split at hi
   . rename_i e;subst e;cases hi;rfl
   cases hi
 . rw[fnd_cons] at hi hj
   split at hi <;> split at hj
   . rename_i e1 e2;rw[<-e1,<-e2]
   . rename_i e1 e2
     rw[fnd_cons] at hj
     split at hj
     . rename_i e3;subst e1 e3;cases e
     . cases hj
   . rename_i e1 e2
     rw[fnd_cons] at hi
     split at hi
     . rename_i e3;subst e2 e3;cases e
     . cases hi
   . rw[fnd_cons] at hi hj
     split at hi <;> split at hj
     . rename_i e3 e4;rw[<-e3,<-e4]
     . cases hj
     . cases hi
     . cases hi
 . rw[fnd_cons] at hi
   split at hi
   . rename_i e;subst e;cases hi
     exact⟨⟨b6,rfl⟩,u,[u],[],rfl,⟨rfl,Own.cells1 (e2.ownAt 0 rfl),Own.oneC (e2.ownAt 0 rfl)⟩,Own.cells1 (e2.ownAt 0 rfl),rfl⟩
   rw[fnd_cons] at hi
   split at hi
   . rename_i e;subst e;cases hi;trivial
   cases hi
 . rw[fnd_cons] at ht
   split at ht
   . rename_i e;subst e;cases ht;exact⟨_,l6,b6,rfl,rfl⟩
   . exact hE t s ht
noncomputable def E6 (d:Desk_99) (day:Int):Option (List Report×Int):=Option.bind (C5 d day) fun ys=>Option.bind (ABU (fun l (y:Dispute×Verdict)=>U4 d y.1 y.2 l) [] ys) fun l=>AAj d l
noncomputable def ctr41:Ctr:=⟨[.d (.st 10),.d (.int .i64)],cs41,fun a=>E6 a.1 a.2.1⟩
theorem ok41:Ctr.ok Tryz.prog 41 ctr41:=by
 refine⟨by decide,fun M w a vals r hM hg ha hr=>?_⟩
 obtain⟨d,day,_⟩:=a
 obtain⟨vd,_,rfl,hvd,⟨vk,_,rfl,hvk,rfl⟩⟩:=ha
 have hvd:OkD (P:=Tryz.prog) M w (.st 10) d vd:=hvd
 have hvk:OkD (P:=Tryz.prog) M w (.int .i64) day vk:=hvk
 have hr:E6 d day=some r:=hr
 unfold E6 at hr
 obtain⟨ys,hys,hr⟩:=Q7 hr
 obtain⟨l0,hl0,hr⟩:=Q7 hr
 obtain⟨ho1,ho2⟩:=AE2 hl0
 have hvd0:=hvd
 obtain⟨cs,h1,h3⟩:=hvd
 obtain rfl:vd=.agg (List.toArray cs):=h3.elim (fun h=>h.2) fun h=>by cases h.1
 have hncs:cs.length=8:=(enc (P:=Tryz.prog) (.st 10)).len h1
 refine ABa (l:=[.agg (List.toArray cs),vk]) Tryz.func41 rfl rfl rfl ?_
 have hI:=Hp.start (Mu:=[]) hM
 refine A6 ?_
 refine A9 ?_
 refine AAC hI rfl rfl rfl ?_
 intro b2 w2 hI2 x2
 have hC2:=hI2.freezeRow 0 rfl
 have hI2:=hI2.erase 0
 refine F5 rfl rfl ?_
 refine F5 rfl rfl ?_
 refine Reg.nil ?_
 refine A6 ?_
 refine A9 ?_
 refine ACY hI2 Tryz.zeroValue24 rfl rfl ?_
 intro b6 w3 hI3 x3
 refine Reg.nil ?_
 have hI3:Hp w [] M (E7 ReportE 45 24 b6 (.slice none 0 0) []) w3:=hI3.addNil ReportE 45
 have hx3:Adv M (mm (E7 ReportE 45 24 b6 (.slice none 0 0) []) M) w w3:=hI3.adv
 have hb6:w.heap.size<=b6:=((hI3.own _ (List.mem_of_getElem? (i:=1) rfl)).2 b6 (List.mem_singleton.2 rfl)).resolve_left (fun h=>by cases h)
 have hC3:RdC (mm (E7 ReportE 45 24 b6 (.slice none 0 0) []) M) w3 b2 0 cs:=(hC2.adv x3).adv (AB8 ReportE 45)
 refine A6 ?_
 refine A6 ?_
 refine A9 ?_
 refine AA3 rfl hC3.cells Tryz.isAgg99 hncs Tryz.sizeOf99 rfl ?_
 refine H7 rfl rfl ?_
 refine W8 rfl Tryz.call45 rfl ?_
 refine (ok45.2 (mm (E7 ReportE 45 24 b6 (.slice none 0 0) []) M) w3 (d,day,()) [.agg cs.toArray,vk] ys hI3.mlt (hg.adv hx3) ⟨_,_,rfl,OkD.adv hvd0 hx3,_,_,rfl,OkD.adv hvk hx3,rfl⟩ hys).mono ?_
 rintro _ w4 ⟨_,rfl,⟨v13,rfl,⟨⟨gf,lb,rfl,heg,hok,hit⟩,_⟩⟩,x4⟩
 refine⟨_,rfl,?_⟩
 refine Reg.nil ?_
 have hI4:=hI3.ext x4
 have hA34:=Adv.of_ext (M:=mm (E7 ReportE 45 24 b6 (.slice none 0 0) []) M) x4
 have hC4:=hC3.adv hA34
 have hd4:=OkD.adv hvd0 (hx3.trans hA34)
 have hg4:=hg.adv (hx3.trans hA34)
 have hseq:=hit (mm (E7 ReportE 45 24 b6 (.slice none 0 0) []) M) w4 (Adv.refl _ _) hI4.mlt {x // x∈ys} Subtype.val ys.attach (List.attach_map_subtype_val ys)
 generalize hLb:((13,ABw [Value.func (.func gf) #[] lb]) :: (12,vk) :: (11,Value.agg cs.toArray) :: (6,Value.pointer (some ⟨b6,0,none⟩)) :: (5,Value.int .i64 0) :: (4,Value.slice none 0 0) :: (2,Value.pointer (some ⟨b2,0,none⟩)) :: Q6 0 [Value.agg cs.toArray,vk])=Lb
 have lb2:Sx.A5 Lb 2=some (.pointer (some ⟨b2,0,none⟩)):=by rw[<-hLb];rfl
 have lb6:Sx.A5 Lb 6=some (.pointer (some ⟨b6,0,none⟩)):=by rw[<-hLb];rfl
 have lb13:Sx.A5 Lb 13=some (.func (.func gf) #[] lb):=by rw[<-hLb];rfl
 clear hLb
 have hcells:∀ x∈ys,okI (.st 2) x.1/\okI (.st 12) x.2:=hok
 let S0:=E7 ReportE 45 24 b6 (.slice none 0 0) []
 let I:List {x // x∈ys}->World->Prop:=fun pre W=>∃ l u,List.foldlM (fun l (y:Dispute×Verdict)=>U4 d y.1 y.2 l) [] (pre.map Subtype.val)=some l/\Hp w [] M (E7 ReportE 45 24 b6 u l) W/\Adv (mm S0 M) (mm (E7 ReportE 45 24 b6 u l) M) w4 W
 have hw4:w.heap.size<=w4.heap.size:=hI4.kp.size
 have hKI:∀ {u u':Value} {l l':List Report} {W W':World},Hp w [] M (E7 ReportE 45 24 b6 u l) W->Hp w [] M (E7 ReportE 45 24 b6 u' l') W'->Adv (mm S0 M) (mm (E7 ReportE 45 24 b6 u l) M) w4 W->Adv (mm (E7 ReportE 45 24 b6 u l) M) (mm (E7 ReportE 45 24 b6 u' l') M) W W'->KeepsFrom w4.heap.size W W'/\KI (mm S0 M) w4.heap.size W W':=fun {u u' l l' W W'} h h' hA hA'=>by
  obtain⟨_,k⟩:=h.kb h' hA'
  refine⟨⟨k.size,fun i o hB=>k.same i o (Nat.le_trans hw4 hB)⟩,hA'.kp.os,hA'.kp.tape,hA'.kp.output,hA'.kp.size,fun b hb hn=>?_⟩
  refine hA'.kp.block b (Nat.lt_of_lt_of_le hb hA.kp.size) fun hm=>?_
  exact (hA.new b hm).elim hn fun h=>by omega
 refine F9 ?_
 refine AMJ (val:=fun x:{x // x∈ys}=>J5 (.st 2) x.1.1) (val2:=fun x:{x // x∈ys}=>J5 (.st 12) x.1.2) (K:=KI (mm S0 M) w4.heap.size) (xs:=ys.attach) lb13 heg rfl rfl hseq (fun h k=>h.trans k) (fun W k o o' hk _ _ _=>KI.putObj hk) I (fun _ _=>False) ?_ (fun _ _ _ _ h _ _=>h.elim) ⟨[],.slice none 0 0,rfl,hI4,Adv.refl _ _⟩ (fun x L' W=>AWp M b6 Lb x.1 L' W) ?_ ?_ ?_ ?_ (fun _ _ _ _ _ h _=>h.elim)
 . rintro pre W W' row ⟨l,u,e1,e2,e3⟩ hgr hr
   exact⟨l,u,e1,e2.turnG ATH (fun h=>h) hgr (fun r e=>⟨Nat.le_trans hw4 (hr r e).1,(hr r e).2⟩),Adv.turn (fun h=>h) e3 hgr hr⟩
 . rintro x L' _ W W' row ⟨b7,b8,u,e1,e2,e3,e4,e5⟩ hgr hr
   exact⟨b7,b8,u,e1,AGs e2 hgr fun r e=>(hr r e).2,AGs e3 hgr fun r e=>(hr r e).2,AGs e4 hgr fun r e=>(hr r e).2,e5⟩
 . rintro k pre x W ⟨l,u,e1,e2,e3⟩
   refine AHA ?_
   refine AA6 rfl ?_
   refine ACY e2 Tryz.zeroValue53 rfl rfl ?_
   intro b7 w5 hI5 x5
   refine ABJ 0 (vs:=ABS x.1.1) hI5 rfl rfl rfl rfl Tryz.sizeOf53 rfl rfl (C7 rfl (C7 rfl (C7 rfl ACT))) ?_
   intro w6 hI6 x6
   have hI6:Hp w [] M (rowR 53 b7 (ABS x.1.1) :: E7 ReportE 45 24 b6 u l) w6:=hI6
   refine Reg.nil ?_
   refine AA6 rfl ?_
   refine ACY hI6 Tryz.zeroValue111 rfl rfl ?_
   intro b8 w7 hI7 x7
   refine ABJ 0 (vs:=ADY x.1.2) hI7 rfl rfl rfl rfl Tryz.sizeOf111 rfl rfl (C7 rfl (C7 rfl (C7 rfl (C7 rfl (C7 rfl (C7 rfl (C7 rfl (C7 rfl ACT)))))))) ?_
   intro w8 hI8 x8
   have hI8:Hp w [] M (rowR 111 b8 (ADY x.1.2) :: rowR 53 b7 (ABS x.1.1) :: E7 ReportE 45 24 b6 u l) w8:=hI8
   have hI9:Hp w [] M (E7 ReportE 45 24 b6 u l) w8:=(hI8.erase 0).erase 0
   have hA:Adv (mm (E7 ReportE 45 24 b6 u l) M) (mm (E7 ReportE 45 24 b6 u l) M) W w8:=x5.trans (x6.trans (x7.trans (x8.trans ((F3 (σ:=rowR 111 b8 (ADY x.1.2) :: rowR 53 b7 (ABS x.1.1) :: E7 ReportE 45 24 b6 u l) 0).trans (F3 (σ:=rowR 53 b7 (ABS x.1.1) :: E7 ReportE 45 24 b6 u l) 0)))))
   obtain⟨k1,k2⟩:=hKI e2 hI9 e3 hA
   refine Reg.nil ⟨rfl,k1,k2,⟨l,u,e1,hI9,e3.trans hA⟩,b7,b8,u,rfl,hI8.row 1 rfl,hI8.row 0 rfl,hI8.row 3 rfl,⟨?_,?_,?_⟩,?_,?_,?_⟩
   . exact fun hb=>hI8.dis 1 2 _ _ rfl rfl (by omega) b7 (List.mem_singleton.2 rfl) hb
   . exact fun e=>hI8.dis 1 3 _ _ rfl rfl (by omega) b7 (List.mem_singleton.2 rfl) (List.mem_singleton.2 e)
   . exact hI8.sepM _ (List.mem_of_getElem? (i:=1) rfl) b7 (List.mem_singleton.2 rfl)
   . exact fun hb=>hI8.dis 0 2 _ _ rfl rfl (by omega) b8 (List.mem_singleton.2 rfl) hb
   . exact fun e=>hI8.dis 0 3 _ _ rfl rfl (by omega) b8 (List.mem_singleton.2 rfl) (List.mem_singleton.2 e)
   . exact hI8.sepM _ (List.mem_of_getElem? (i:=0) rfl) b8 (List.mem_singleton.2 rfl)
 . rintro k pre x L' W ⟨l,u,e1,e2,e3⟩ ⟨b7,b8,u',rfl,r7,r8,r6,s7,s8⟩ hlt
   obtain rfl:u'=u:=by
    have e9:W.heap[b6]?=_:=e2.row 1 rfl
    have e8:W.heap[b6]?=_:=r6
    rw[e9] at e8
    have:=Option.some.inj e8
    injection this with h9
    simpa using h9.symm
   obtain⟨l',hb',hfold⟩:=ho2 (pre.map Subtype.val) x.1 l (by simpa using hlt) (fun y hy=>by obtain⟨z,_,rfl⟩:=List.mem_map.1 hy;exact z.2) x.2 e1
   have hmem:∀ b,b∈mm (E7 ReportE 45 24 b6 u' l) M->b∈ob u'\/b=b6\/b∈M:=fun b hb=>by
    simp only[mm,ownR,rowR,List.mem_append,List.mem_cons,List.not_mem_nil,or_false] at hb
    rcases hb with h1|h1|h1
    . exact .inl h1
    . exact .inr (.inl h1)
    . exact .inr (.inr h1)
   letI:Anch:=AUf (mm (E7 ReportE 45 24 b6 u' l) M) W
   have hst:Holds (P:=Tryz.prog) w [] M (sB d x.1.1 x.1.2 l) ((8,.pointer (some ⟨b8,0,none⟩)) :: (7,.pointer (some ⟨b7,0,none⟩)) :: (15,J5 (.st 12) x.1.2) :: (14,J5 (.st 2) x.1.1) :: Lb) W:=by
    refine AIx e2 lb6 (fun t s ht=>?_) ⟨Adv.refl _ _,hg4.adv e3⟩
    rw[fnd_cons] at ht
    split at ht
    . rename_i e;subst e;cases ht
      exact⟨_,lb2,b2,0,_,cs,rfl,hC4.adv e3,OkD.adv hd4 e3,rfl⟩
    rw[fnd_cons] at ht
    split at ht
    . rename_i e;subst e;cases ht
      exact⟨_,rfl,b7,0,_,ABS x.1.1,rfl,G5 (fun hb=>(hmem b7 hb).elim s7.1 fun h=>h.elim s7.2.1 s7.2.2) r7,ADs (.st 2) (hcells x.1 x.2).1,rfl⟩
    rw[fnd_cons] at ht
    split at ht
    . rename_i e;subst e;cases ht
      exact⟨_,rfl,b8,0,_,ADY x.1.2,rfl,G5 (fun hb=>(hmem b8 hb).elim s8.1 fun h=>h.elim s8.2.1 s8.2.2) r8,ADs (.st 12) (hcells x.1 x.2).2,rfl⟩
    cases ht
   refine AGm (AM1 AFu (some k) ATI AIw (sh:=shB) ((ARc d x.1.1 x.1.2 l).trans hb') hst fun L2 W2 hE2 hH2=>?_)
   obtain⟨S2,ρ2,γ2,μ2,ι2,hS2⟩:=hH2
   obtain⟨v6,l26,bb,hbb,rfl⟩:=hS2.env 6 (.ptr 6 0) rfl
   have hbb6:bb=b6:=by
    have:=(hE2 6 (by decide)).trans lb6
    rw[l26] at this
    injection this with h9
    injection h9 with h9
    simpa using h9
   subst hbb6
   obtain⟨bq,hbq,rq,oq,iq⟩:=hS2.rowAt (i:=6) (e:=24) (l:=[.own 10600]) rfl
   rw[hbb] at hbq;cases hbq
   obtain⟨q,eq1,oq1⟩:=ACS oq
   have oq1:q=[]:=oq1
   rw[oq1] at eq1
   rw[eq1] at iq
   have io:=hS2.res 10600 (.own false (.sl 45 (.st 1)) l') rfl
   have io:S2[ι2 10600]?=some (ownR [] ReportE 45 (ρ2 10600) l'):=io
   have hni:ι2 10600≠ι2 6:=fun e=>by
    have:=hS2.inj 10600 6 _ _ rfl rfl e
    cases this
   have hsel:sel S2 [ι2 10600,ι2 6]=E7 ReportE 45 24 bb (ρ2 10600) l':=by
    simp only[sel,nthR_eq,io,iq]
   have hHp:=hS2.hp.sel [ι2 10600,ι2 6] (by simp[ABZ,hni])
   rw[hsel] at hHp
   have hadv:Adv (mm (E7 ReportE 45 24 bb u' l) M) (mm (E7 ReportE 45 24 bb (ρ2 10600) l') M) W W2:=by
    have h1:Adv (mm (E7 ReportE 45 24 bb u' l) M) (mm S2 M) W W2:=hS2.anch.1
    have h2:=h1.trans (AHt (M:=M) (w:=W2) (σ:=S2) [ι2 10600,ι2 6])
    rw[hsel] at h2
    exact h2
   obtain⟨k1,k2⟩:=hKI e2 hHp e3 hadv
   exact⟨k1,k2,l',ρ2 10600,by rw[List.map_append];exact hfold,hHp,e3.trans hadv⟩
 . rintro D W hD ⟨l,u,e1,e2,e3⟩ hdef
   rw[List.attach_map_subtype_val,ho1] at e1
   cases e1
   have hDm:D∉mm (E7 ReportE 45 24 b6 u l0) M:=fun hb=>by
    simp only[mm,ownR,rowR,List.mem_append,List.mem_cons,List.not_mem_nil,or_false] at hb
    rcases hb with h1|h1|h1
    . obtain⟨o,h2,h3⟩:=(e2.ownAt 0 rfl).isC D h1
      rw[hdef] at h2;cases h2;cases h3
    . have h2:W.heap[b6]?=_:=e2.row 1 rfl
      rw[<-h1,hdef] at h2;cases h2
    . have:=hM D h1
      omega
   letI:Anch:=AHd D
   have hst:Holds (P:=Tryz.prog) w [] M (sP d l0) Lb W:=by
    refine AIx e2 lb6 (fun t s ht=>?_) ⟨⟨hDm,hdef⟩,hg4.adv e3⟩
    rw[fnd_cons] at ht
    split at ht
    . rename_i e;subst e;cases ht
      exact⟨_,lb2,b2,0,_,cs,rfl,hC4.adv e3,OkD.adv hd4 e3,rfl⟩
    cases ht
   have hDw:w.heap.size<=D:=Nat.le_trans hw4 hD
   exact AAI (n:=3) (ACs (H5 AIR ATJ AKo _ _ _ _ _ _ _ _ _ _ _ _ _ ((ATK d l0).trans hr) hst (fun σ2 L2 w2 h2 _ _ hH2=>AFy (fun h=>h) AIR (by decide) rfl hDw h2 hH2) (fun i σ2 L2 w2 h2=>by cases h2) (fun r' σ2 L2 w2 hp hk _ hH2=>by
    have hk:r'=r:=Option.some.inj hk
    subst hk
    exact AFy (fun h=>h) AIR (by decide) rfl hDw hp hH2) PZ.no))
end Go.Proofs.YtgioiejbphljoaaGreatDoor
set_option maxRecDepth 20000
set_option maxHeartbeats 4000000
namespace Go.Proofs.YtgioiejbphljoaaGreatDoor
open Go Go.Sx Go.Rx Go.RowKit
noncomputable def AB1 (d:Desk) (asked:List Asked) (day:Int):Option ((Desk_99×List Asked×List Report×Int)⊕(List Letter×Int)):=Option.bind (H4 d day) fun (r1,r2)=>cond ((!decide (r2=0))) (some (Sum.inr (([]:(List Letter)),r2))) (Option.bind (B9 (S:=(Int×Int)) (R:=(Unit⊕((List Letter)×Int))) (fun (x12,x13)=>cond (decide (x13 < (asked.length:Int))) (Option.bind (ixo asked x13) fun y14=>Option.bind (α:=(Bool)) (Option.bind (chk .i64 (x12+1)) fun n15=>Option.bind (D5 n15 (999999:Int) ([y14.id])) fun r16=>cond ((!r16)) (some true) (Option.bind (D5 (0:Int) (999999:Int) ([y14.who,y14.account])) fun r17=>cond ((!r17)) (some true) (Option.bind (D5 (0:Int) (100000:Int) ([y14.day])) fun r18=>some (!r18)))) ((fun x19=>cond (x19) (some (Sum.inr (Sum.inr (([]:(List Letter)),(53:Int))))) (Option.bind (chk .i64 (x13+1)) fun n20=>some (Sum.inl (y14.id,n20)))))) (some (Sum.inr (Sum.inl ())))) (((-1):Int),(0:Int))) ((Sum.elim (fun _=>cond (decide (40 < (asked.length:Int))) (some (Sum.inr (([]:(List Letter)),(53:Int)))) (Option.bind (E6 r1 day) fun (r21,r22)=>cond ((!decide (r22=0))) (some (Sum.inr (([]:(List Letter)),r22))) (some (Sum.inl (r1,asked,r21,day))))) (fun r23=>some (Sum.inr r23)))))
def ALx:An:=.nd (.x) (.nd (.x) (.nd (.x) (.nd (.x) (.nd (.nd (.x) (.lp ⟨[(.slot 10,.d (.int .i64)),(.slot 37,.d (.int .i64))],[8,4]⟩ [.exit 0 ⟨[],[8,4]⟩,.ret] (.nd (.x) (.nd (.x) (.nd (.nd (.x) (.nd (.nd (.jn [.norm ⟨[(.slot 63,.d .bool)],[12,8,4]⟩] (.x)) (.x)) (.x))) (.x)))))) (.x)))))
noncomputable def AAk (l:List Report) (y:Dispute) (v:Verdict):Option (Report×Bool):=Option.bind (R8 l v.day) fun r1=>some (((r1 y.report).getD (Report.mk 0 0 0 0 0 0 0 0)),((r1 y.report).isSome))
def AIS:An:=.x
noncomputable def AAL (x:Desk_99) (l:List Report) (y:Dispute) (v:Verdict) (now:Report) (is_:Bool) (a:Asked):Option (Bool⊕Unit):=Option.bind (α:=(Bool)) (cond ((!decide (a.account=(((x.facts y.report).getD (Report.mk 0 0 0 0 0 0 0 0)).account)))) (some true) (cond (decide (v.day<=a.day)) (some true) (Option.bind (chk .i64 (v.day - a.day)) fun n2=>some (decide (x.desk.terms.lately < n2))))) ((fun x3=>cond (x3) (some (Sum.inr ())) (Option.bind (R8 l a.day) fun r4=>Option.bind (α:=(Bool)) (cond ((r4 y.report).isSome) (cond (decide ((((r4 y.report).getD (Report.mk 0 0 0 0 0 0 0 0)).about)<=a.day)) (cond ((!is_)) (some true) (some (!decide (((r4 y.report).getD (Report.mk 0 0 0 0 0 0 0 0))=now)))) (some false)) (some false)) ((fun x5=>some (Sum.inl (x5)))))))
def AGt:An:=.nd (.nd (.jn [.norm ⟨[(.slot 126,.d .bool)],[]⟩] (.x)) (.x)) (.nd (.x) (.jn [.norm ⟨[(.slot 153,.d .bool)],[]⟩] (.x)))
noncomputable def J3 (l:List Letter):Option (List Letter×Int):=Option.bind (G7 ([(49:Nat),(50:Nat)]) l) fun (_,m1)=>some (m1,(0:Int))
def AKp:An:=.x
end Go.Proofs.YtgioiejbphljoaaGreatDoor
namespace Go.Rx
open Go Go.Sx Go.RowKit
def AKq:Nat->Code->An->Bool
 |0,.seq _ _,_=>true
 |n+1,.seq _ b,.nd _ r=>AKq n b r
 |_,_,_=>false
section
variable [Trk] [Sg] [Sf] {P:Program} [Se P] [Anch] {w0 w:World} {M:List Nat} {r:Option Nat} {n N:Nat} {ds:List Deferred}
theorem AKr [Sl (P:=P)] {G:Gx} (hG:GxOk P G):∀ (m:Nat) (c:Code) (an:An) {Y:Type} {KN:AS->Option Y} {KX:Nat->AS->Option Y} {σ:AS} {L:A7} {w:World} {z:Y} {A B:A4} {X:Nat->A4} {Z:List PanicEntry->A4},(∀ (L:A7) (w:World) (v:Value) (T t:Nat) (L2:A7) (ds:List Deferred),Nat.blt t pnc=true->(∀ u,u≠t->Sx.A5 L2 u=Sx.A5 L u)->X (ACh T t) ds ((t,v) :: L) w->Z [{ v:=.iface T v,recovered:=false }] ds L2 w)->AKq m c an=true->exec G N (fun _=>(none:Option Unit)) (M4 m c) an KN KX (fun _=>none) σ=some z->Holds (P:=P) w0 [] M σ L w ->
 (∀ σ' L' w',KN σ'=some z->EnvS (C8 (M4 m c)++C6 an) L L'->Holds (P:=P) w0 [] M σ' L' w'->CF r n P N (AJE m c) ds L' w' A B X Z) ->
 (∀ i σ' L' w',KX i σ'=some z->EnvS (C8 (M4 m c)++C6 an) L L'->Holds (P:=P) w0 [] M σ' L' w'->X i ds L' w')->CF r n P N c ds L w A B X Z
 |0,.seq a b,an,Y,KN,KX,σ,L,w,z,A,B,X,Z,hX,_,h,hH,hA,hE=>AKS (H5 hG a an _ _ _ _ _ _ _ _ _ _ _ _ _ h hH (fun σ1 L1 w1 h1 _ hE1 hH1=>hA σ1 L1 w1 h1 hE1 hH1) (fun i σ2 L2 w2 h2 _ hE2 hH2=>hE i σ2 L2 w2 h2 hE2 hH2) (fun r σ2 L2 w2 h2 h3 _ hH2=>by cases h2) ⟨fun T t L1 L2 w v ht hl hx=>hX L1 w v T t L2 ds ht hl hx,fun _ _ _ _ h=>h⟩)
 |m+1,.seq a b,.nd l q,Y,KN,KX,σ,L,w,z,A,B,X,Z,hX,hc,h,hH,hA,hE=>by
  have hc:AKq m b q=true:=hc
  have h:exec G N (fun _=>(none:Option Unit)) a l (fun σ'=>exec G N (fun _=>(none:Option Unit)) (M4 m b) q KN KX (fun _=>none) σ') KX (fun _=>none) σ=some z:=h
  have ha:∀ t∈C8 a++C6 l,t∈C8 (M4 (m+1) (.seq a b))++C6 (.nd l q):=fun t ht=>(List.mem_append.1 ht).elim (fun h=>List.mem_append_left _ (List.mem_append_left _ h)) fun h=>List.mem_append_right _ (AKV (.nd l q) t h)
  have hb:∀ t∈C8 (M4 m b)++C6 q,t∈C8 (M4 (m+1) (.seq a b))++C6 (.nd l q):=fun t ht=>(List.mem_append.1 ht).elim (fun h=>List.mem_append_left _ (List.mem_append_right _ h)) fun h=>List.mem_append_right _ (AKW (.nd l q) t h)
  refine AKS (H5 hG a l _ _ _ _ _ _ _ _ _ _ _ _ _ h hH (fun σ1 L1 w1 h1 _ hE1 hH1=>?_) (fun i σ2 L2 w2 h2 _ hE2 hH2=>hE i σ2 L2 w2 h2 (hE2.mono ha) hH2) (fun r σ2 L2 w2 h2 h3 _ hH2=>by cases h2) ⟨fun T t L1 L2 w v ht hl hx=>hX L1 w v T t L2 ds ht hl hx,fun _ _ _ _ h=>h⟩)
  exact AKr hG m b q hX hc h1 hH1 (fun σ2 L2 w2 h2 hE2 hH2=>hA σ2 L2 w2 h2 ((hE1.mono ha).trans (hE2.mono hb)) hH2) fun i σ2 L2 w2 h2 hE2 hH2=>hE i σ2 L2 w2 h2 ((hE1.mono ha).trans (hE2.mono hb)) hH2
 |m+1,.seq a b,.x,_,_,_,_,_,_,_,_,_,_,_,_,hc,_,_,_,_=>by cases hc
 |m+1,.seq a b,.jn _ _,_,_,_,_,_,_,_,_,_,_,_,_,hc,_,_,_,_=>by cases hc
 |m+1,.seq a b,.lp _ _ _,_,_,_,_,_,_,_,_,_,_,_,_,hc,_,_,_,_=>by cases hc
 |0,.skip,_,_,_,_,_,_,_,_,_,_,_,_,_,hc,_,_,_,_|0,.region _ _ _,_,_,_,_,_,_,_,_,_,_,_,_,_,hc,_,_,_,_|0,.cond _ _ _,_,_,_,_,_,_,_,_,_,_,_,_,_,hc,_,_,_,_|0,.loop _,_,_,_,_,_,_,_,_,_,_,_,_,_,hc,_,_,_,_|0,.exit _,_,_,_,_,_,_,_,_,_,_,_,_,_,hc,_,_,_,_|0,.ret,_,_,_,_,_,_,_,_,_,_,_,_,_,hc,_,_,_,_
 |0,.scope _,_,_,_,_,_,_,_,_,_,_,_,_,_,hc,_,_,_,_|0,.label _,_,_,_,_,_,_,_,_,_,_,_,_,_,hc,_,_,_,_|0,.goto _,_,_,_,_,_,_,_,_,_,_,_,_,_,hc,_,_,_,_|0,.refuse _,_,_,_,_,_,_,_,_,_,_,_,_,_,hc,_,_,_,_|0,.block _ _,_,_,_,_,_,_,_,_,_,_,_,_,_,hc,_,_,_,_|0,.rangeFunc _ _ _ _,_,_,_,_,_,_,_,_,_,_,_,_,_,hc,_,_,_,_
 |_+1,.skip,_,_,_,_,_,_,_,_,_,_,_,_,_,hc,_,_,_,_|_+1,.region _ _ _,_,_,_,_,_,_,_,_,_,_,_,_,_,hc,_,_,_,_|_+1,.cond _ _ _,_,_,_,_,_,_,_,_,_,_,_,_,_,hc,_,_,_,_|_+1,.loop _,_,_,_,_,_,_,_,_,_,_,_,_,_,hc,_,_,_,_|_+1,.exit _,_,_,_,_,_,_,_,_,_,_,_,_,_,hc,_,_,_,_|_+1,.ret,_,_,_,_,_,_,_,_,_,_,_,_,_,hc,_,_,_,_
 |_+1,.scope _,_,_,_,_,_,_,_,_,_,_,_,_,_,hc,_,_,_,_|_+1,.label _,_,_,_,_,_,_,_,_,_,_,_,_,_,hc,_,_,_,_|_+1,.goto _,_,_,_,_,_,_,_,_,_,_,_,_,_,hc,_,_,_,_|_+1,.refuse _,_,_,_,_,_,_,_,_,_,_,_,_,_,hc,_,_,_,_|_+1,.block _ _,_,_,_,_,_,_,_,_,_,_,_,_,_,hc,_,_,_,_|_+1,.rangeFunc _ _ _ _,_,_,_,_,_,_,_,_,_,_,_,_,_,hc,_,_,_,_=>by cases hc
end
end Go.Rx
namespace Go.Sx
open Go Go.RowKit
variable [Trk]
theorem AM3 (m:Nat) {P:Program} {N:Nat} {ds:List Deferred} {L:A7} {w:World} {A B:A4} {X:Nat->A4} {Z:List PanicEntry->A4} {g:Operand} {p p2:Nat} {assign body:Code} {gf:Nat} {lb:Array Value} {α:Type} {val val2:α->Value} {xs:List α} {K:World->World->Prop}
 (hg:ev L g=some (.func (.func gf) #[] lb)) (eg:∀ args w,(callFunc gf args).run P w=.ok (.enter gf args) w) (hp:Nat.blt p N=true) (hp2:Nat.blt p2 N=true)
 (hseq:SeqStopsK Fence.wide (m+1) P gf lb (fun x:α=>#[val x,val2 x]) K (fun ys=>ys=xs) (fun pre=>pre <+: xs) xs.length w)
 (hKt:∀ {A B C:World},K A B->K B C->K A C) (hKb:∀ (W:World) (l:Nat) (o o':Obj),w.heap.size<=l->W.heap[l]?=some o->o.isCells=false->o.isWalk=false->K W (W.putObj l o'))
 (I Ix:List α->World->Prop) (hI:OwnFrom w.heap.size I) (hIx:OwnFrom w.heap.size Ix) (h0:I [] w)
 (AL:α->A7->World->Prop) (hAL:∀ x L',OwnFrom w.heap.size fun (_:Unit) W=>AL x L' W)
 (hassign:∀ (l:Nat) (pre:List α) (x:α) (W:World),I pre W->CI l m P N assign [] ((p2,val2 x) :: (p,val x) :: L) W (fun ds' L' W'=>ds'=[]/\KeepsFrom w.heap.size W W'/\K W W'/\I pre W'/\AL x L' W') (fun _ _ _=>False) NoX (fun _ _ _ _=>False))
 (hbody:∀ (l:Nat) (pre:List α) (x:α) (L':A7) (W:World),w.heap.size<=l->(∃ r,W.heap[l]?=some (.loop r))->I pre W->AL x L' W->pre.length < xs.length ->
  CI l m P N body [] L' W (fun _ _ W'=>KeepsFrom w.heap.size W W'/\K W W'/\I (pre++[x]) W') (fun _ _ W'=>KeepsFrom w.heap.size W W'/\Ix (pre++[x]) W') NoX (fun _ _ _ _=>False))
 (hdone:∀ (D:Nat) (W:World),w.heap.size<=D->I xs W->W.heap[D]?=some (.deferred (some []))->A ({ target:=.collected D,args:=#[] } :: ds) L W)
 (hstop:∀ (D:Nat) (pre:List α) (W:World),w.heap.size<=D->pre <+: xs->Ix pre W->W.heap[D]?=some (.deferred (some []))->B ({ target:=.collected D,args:=#[] } :: ds) L W) :
 CW P N (.rangeFunc g #[p,p2] assign body) ds L w A B X Z:=by
 intro a ha
 refine (wpIn_wide (n:=m+2)).1 ?_
 refine wpIn_rangeFunc_ownH (F:=Fence.wide) (n:=m+2) rfl (by omega) (ha.eval hg) trivial eg hseq (fun h k=>hKt h k) hKb (Below.refl _ _) (fun x=>rfl) I (fun c pre W=>c=.ret/\Ix pre W) hI
  (fun c s W W' row hs hgr hr=>⟨hs.1,hIx s W W' row hs.2 hgr hr⟩) h0 (fun x a' W=>∃ L',Knows N [] L' a'/\AL x L' W) (fun x a' s W W' row hs hgr hr=>?_) ?_ ?_ ?_ ?_
 . obtain⟨L',h1,h2⟩:=hs
   exact⟨L',h1,hAL x L' () W W' row h2 hgr hr⟩
 . intro l pre x W K' hi hK
   have hk:Knows N [] ((p2,val2 x) :: (p,val x) :: L) { tmps:=(a.tmps.setIfInBounds p (val x)).setIfInBounds p2 (val2 x),defers:=[] }:=by
    have h1:=(show Knows N [] L { a with defers:=[] } from ⟨ha.size,rfl,ha.val⟩).put hp (val x)
    exact h1.put hp2 (val2 x)
   have hz:(Array.foldl (fun (t:Array Value) (x:Tmp×Value)=>match x with|(p,v)=>t.setIfInBounds p v) a.tmps (#[p,p2].zip #[val x,val2 x]))=(a.tmps.setIfInBounds p (val x)).setIfInBounds p2 (val2 x):=by simp
   rw[hz]
   refine wpIn_mono (hassign l pre x W hi _ hk) fun e a' W' hq=>?_
   cases e with
   |normal=>obtain⟨ds',L',h1,rfl,h3,h4,h5,h6⟩:=hq;exact hK a' W' h3 h4 h5 ⟨L',h1,h6⟩
   |ret=>obtain⟨_,_,_,h⟩:=hq;exact h.elim
   |exit i=>obtain⟨_,_,_,h⟩:=hq;exact h.elim
   |panic c=>obtain⟨_,_,_,h⟩:=hq;exact h.elim
   |goto l=>exact hq.elim
   |outgrown=>exact hq.elim
 . intro l pre x a' W hwl hrec hi hA hl
   obtain⟨L',h1,h2⟩:=hA
   refine wpIn_mono (hbody l pre x L' W hwl hrec hi h2 hl a' h1) fun e a' W' hq=>?_
   cases e with
   |normal=>obtain⟨ds',L',h1,h3⟩:=hq;exact h3
   |ret=>obtain⟨ds',L',h1,h3,h4⟩:=hq;exact⟨h3,rfl,h4⟩
   |exit i=>obtain⟨_,_,_,h⟩:=hq;exact h.elim
   |panic c=>obtain⟨_,_,_,h⟩:=hq;exact h.elim
   |goto l=>exact hq.elim
   |outgrown=>exact hq.elim
 . intro D ys W hD hy hi hw
   subst hy
   exact⟨_,L,⟨ha.size,by rw[ha.defers],ha.val⟩,hdone D W hD hi hw⟩
 . intro D c pre W hD hy hi hw
   obtain⟨rfl,hi⟩:=hi
   exact wpIn_ret ⟨_,L,⟨ha.size,by rw[ha.defers],ha.val⟩,hstop D pre W hD hy hi hw⟩
theorem AM4 (m:Nat) {l0:Nat} {P:Program} {N:Nat} {ds:List Deferred} {L:A7} {w:World} {A B:A4} {X:Nat->A4} {Z:List PanicEntry->A4} {g:Operand} {p p2:Nat} {assign body:Code} {gf:Nat} {lb:Array Value} {α:Type} {val val2:α->Value} {xs:List α} {K:World->World->Prop}
 (hrec0:∃ r,w.heap[l0]?=some (.loop r)) (hg:ev L g=some (.func (.func gf) #[] lb)) (eg:∀ args w,(callFunc gf args).run P w=.ok (.enter gf args) w) (hp:Nat.blt p N=true) (hp2:Nat.blt p2 N=true)
 (hseq:SeqStopsK Fence.wide (m+1) P gf lb (fun x:α=>#[val x,val2 x]) K (fun ys=>ys=xs) (fun pre=>pre <+: xs) xs.length w)
 (hKt:∀ {A B C:World},K A B->K B C->K A C) (hKb:∀ (W:World) (l:Nat) (o o':Obj),w.heap.size<=l->W.heap[l]?=some o->o.isCells=false->o.isWalk=false->K W (W.putObj l o'))
 (I Ix:List α->World->Prop) (hI:OwnFrom w.heap.size I) (hIx:OwnFrom w.heap.size Ix) (h0:I [] w)
 (AL:α->A7->World->Prop) (hAL:∀ x L',OwnFrom w.heap.size fun (_:Unit) W=>AL x L' W)
 (hassign:∀ (l:Nat) (pre:List α) (x:α) (W:World),I pre W->CI l m P N assign [] ((p2,val2 x) :: (p,val x) :: L) W (fun ds' L' W'=>ds'=[]/\KeepsFrom w.heap.size W W'/\K W W'/\I pre W'/\AL x L' W') (fun _ _ _=>False) NoX (fun _ _ _ _=>False))
 (hbody:∀ (l:Nat) (pre:List α) (x:α) (L':A7) (W:World),w.heap.size<=l->(∃ r,W.heap[l]?=some (.loop r))->I pre W->AL x L' W->pre.length < xs.length ->
  CI l m P N body [] L' W (fun _ _ W'=>KeepsFrom w.heap.size W W'/\K W W'/\I (pre++[x]) W') (fun _ _ W'=>KeepsFrom w.heap.size W W'/\Ix (pre++[x]) W') NoX (fun _ _ _ _=>False))
 (hdone:∀ (W:World),I xs W->A ds L W)
 (hno:∀ pre W,¬ Ix pre W) :
 CI l0 (m+2) P N (.rangeFunc g #[p,p2] assign body) ds L w A B X Z:=by
 intro a ha
 obtain⟨r0,hr0⟩:=hrec0
 refine wpIn_rangeFunc_ownN (F:=FW l0) (n:=m+2) (l₀:=l0) rfl hr0 (by omega) (ha.eval hg) trivial eg hseq (fun h k=>hKt h k) hKb (Below.refl _ _) (fun x=>rfl) I (fun c pre W=>c=.ret/\Ix pre W) hI
  (fun c s W W' row hs hgr hr=>⟨hs.1,hIx s W W' row hs.2 hgr hr⟩) h0 (fun x a' W=>∃ L',Knows N [] L' a'/\AL x L' W) (fun x a' s W W' row hs hgr hr=>?_) ?_ ?_ ?_ ?_
 . obtain⟨L',h1,h2⟩:=hs
   exact⟨L',h1,hAL x L' () W W' row h2 hgr hr⟩
 . intro l pre x W K' hi hK
   have hk:Knows N [] ((p2,val2 x) :: (p,val x) :: L) { tmps:=(a.tmps.setIfInBounds p (val x)).setIfInBounds p2 (val2 x),defers:=[] }:=by
    have h1:=(show Knows N [] L { a with defers:=[] } from ⟨ha.size,rfl,ha.val⟩).put hp (val x)
    exact h1.put hp2 (val2 x)
   have hz:(Array.foldl (fun (t:Array Value) (x:Tmp×Value)=>match x with|(p,v)=>t.setIfInBounds p v) a.tmps (#[p,p2].zip #[val x,val2 x]))=(a.tmps.setIfInBounds p (val x)).setIfInBounds p2 (val2 x):=by simp
   rw[hz]
   refine wpIn_mono (hassign l pre x W hi _ hk) fun e a' W' hq=>?_
   cases e with
   |normal=>obtain⟨ds',L',h1,rfl,h3,h4,h5,h6⟩:=hq;exact hK a' W' h3 h4 h5 ⟨L',h1,h6⟩
   |ret=>obtain⟨_,_,_,h⟩:=hq;exact h.elim
   |exit i=>obtain⟨_,_,_,h⟩:=hq;exact h.elim
   |panic c=>obtain⟨_,_,_,h⟩:=hq;exact h.elim
   |goto l=>exact hq.elim
   |outgrown=>exact hq.elim
 . intro l pre x a' W hwl hrec hi hA hl
   obtain⟨L',h1,h2⟩:=hA
   refine wpIn_mono (hbody l pre x L' W hwl hrec hi h2 hl a' h1) fun e a' W' hq=>?_
   cases e with
   |normal=>obtain⟨ds',L',h1,h3⟩:=hq;exact h3
   |ret=>obtain⟨ds',L',h1,h3,h4⟩:=hq;exact⟨h3,rfl,h4⟩
   |exit i=>obtain⟨_,_,_,h⟩:=hq;exact h.elim
   |panic c=>obtain⟨_,_,_,h⟩:=hq;exact h.elim
   |goto l=>exact hq.elim
   |outgrown=>exact hq.elim
 . intro ys W hy hi
   subst hy
   exact⟨_,L,ha,hdone W hi⟩
 . intro c pre W hy hi
   exact absurd hi.2 (hno _ _)
end Go.Sx
set_option maxRecDepth 20000
set_option maxHeartbeats 4000000
namespace Go.Proofs.YtgioiejbphljoaaGreatDoor
open Go Go.Sx Go.Rx Go.RowKit
theorem APj:Tryz.prog.cellsOf 116=2:=by kernel_rfl
theorem ATL:Tryz.prog.keyType 116=true:=by kernel_rfl
theorem ATM:Tryz.prog.cellsOf 3=1:=by kernel_rfl
def K116:Ky Tryz.prog 116 (Int×Int):=AR0 (show laidOutB Tryz.prog=true by kernel_rfl) (m:=2) (by omega) (of_decide_eq_true (by kernel_rfl)) (by kernel_rfl) (by rw[Tryz.underlying116]) (fun x=>.agg (List.toArray [.int .i64 x.1,.int .i64 x.2])) (fun x=>InK .i64 x.1/\InK .i64 x.2)
 (fun {x} h=>by
  exact AUF Tryz.underlying116 Tryz.underlying3 APj ATM ATL (of_decide_eq_true (by kernel_rfl)) h.1 h.2)
 (fun {a b} _ _ h=>by
  cases a;cases b;simp at h;simp[h])
abbrev MP (bd:Nat) (f:A3 (Int×Int) Int):List Res:=[mapO K116 (B3 .i64) false bd f]
theorem U5 {M':List Nat} {W W':World} {B:Nat} (h:Adv M' M' W W') (hb:∀ b∈M',b < B) (hB:B<=W.heap.size):KeepsFrom B W W'/\KI M' B W W':=
 ⟨⟨h.kp.size,fun k o hk ho _=>(h.kp.block k (I9 ho) fun hm=>by have:=hb k hm;omega).trans ho⟩,h.kp.os,h.kp.tape,h.kp.output,h.kp.size,fun b hb' hn=>h.kp.block b (Nat.lt_of_lt_of_le hb' hB) hn⟩
theorem AGu {M:List Nat} {W W':World} {b o:Nat} {cs:List Value} {row:Option Nat} (h:RdC M W b o cs) (hg:W.grownBy W' row) (hr:∀ r,row=some r->∃ o:Obj,W.heap[r]?=some o/\o.isCells=false):RdC M W' b o cs:=by
 obtain⟨htn,_⟩:=ADR (B:=0) hg fun r e=>⟨Nat.zero_le _,hr r e⟩
 exact⟨h.out,Nat.lt_of_lt_of_le h.lt htn.1,htn.cells h.cells⟩
structure D16 (M':List Nat) (W:World) (x:Desk_99) (al:List Asked) (l:List Report) (p8 p4 p13:Value) (b14 bd:Nat):Prop where
 g:GlOk (P:=Tryz.prog) M' W
 h8:Ok (P:=Tryz.prog) (fun _=>undef) (fun _=>none) M' W (.rp (.str 10 x) 0) p8
 h4:Ok (P:=Tryz.prog) (fun _=>undef) (fun _=>none) M' W (.rp (.dat (.sl (.st 5)) al) 0) p4
 h13:Ok (P:=Tryz.prog) (fun _=>undef) (fun _=>none) M' W (.rp (.dat (.sl (.st 1)) l) 0) p13
 h14:RdC M' W b14 0 [.map (some bd)]
theorem D16.adv {M':List Nat} {W W':World} {x:Desk_99} {al:List Asked} {l:List Report} {p8 p4 p13:Value} {b14 bd:Nat} (h:D16 M' W x al l p8 p4 p13 b14 bd) (ha:Adv M' M' W W'):D16 M' W' x al l p8 p4 p13 b14 bd:=
 ⟨h.g.adv ha,Ok.adv ha _ h.h8,Ok.adv ha _ h.h4,Ok.adv ha _ h.h13,h.h14.adv ha⟩
noncomputable def inB (x:Desk_99) (l:List Report) (y:Dispute) (v:Verdict) (now:Report) (is_:Bool) (f:A3 (Int×Int) Int) (a:Int×Asked):Option (A3 (Int×Int) Int):=Option.bind (AAL x l y v now is_ a.2) fun b=>some (match b with
 |.inl true=>B7 f (y.id,a.2.who) a.2.id
 |_=>f)
def AHo (a:Asked):List Value:=[.int .i64 a.id,.int .i64 a.who,.int .i64 a.account,.int .i64 a.day]
noncomputable def ATN:Code:=match Tryz.f16.body with
 |some (.seq _ (.seq _ (.seq _ (.seq _ (.seq _ (.seq _ (.seq _ (.seq _ (.seq _ (.seq (.seq _ (.block _ (.rangeFunc _ _ _ (.block _ c)))) _))))))))))=>c
 |_=>.skip
noncomputable def ATO:Code:=match ATN with
 |.seq _ (.seq _ (.block _ c))=>c
 |_=>.skip
noncomputable def AM5:Code:=match ATO with
 |.rangeFunc _ _ _ (.block _ c)=>c
 |_=>.skip
def APk (σ:AS):Option (Bool⊕Unit):=match A1 σ.env 153 with
 |some (.bool b)=>some (.inl b)
 |_=>none
def AM6 (x:Desk_99) (l:List Report) (y:Dispute) (v:Verdict) (now:Report) (is_:Bool) (a:Asked):List (Nat×SV):=[(8,.rp (.str 10 x) 0),(13,.rp (.dat (.sl (.st 1)) l) 0),(15,.rp (.str 2 y) 0),(16,.rp (.str 12 v) 0),(17,.rp (.str 1 now) 0),(18,.rp (.bool is_) 0),(20,.rp (.str 5 a) 0)]
noncomputable def APl:Gx:={ gxb with fs:=[(46,ctr46)] }
theorem ALy:GxOk Tryz.prog APl:=B1 ⟨⟨ok46,Tryz.call46⟩,trivial⟩
theorem ATP (x:Desk_99) (l:List Report) (y:Dispute) (v:Verdict) (now:Report) (is_:Bool) (a:Asked):exec APl 181 (fun _=>(none:Option Unit)) (M4 2 AM5) AGt APk (fun i _=>bif Nat.beq i 5 then some (.inr ()) else none) (fun _=>none) ⟨AM6 x l y v now is_ a,[],[],[]⟩=AAL x l y v now is_ a:=by kernel_rfl
def AWq (M':List Nat) (Lb:Sx.A7) (a:Int×Asked) (L:Sx.A7) (W:World):Prop:=∃ b20,L=(20,.pointer (some ⟨b20,0,none⟩)) :: (98,J5 (.st 5) a.2) :: (97,J5 (.int .i64) a.1) :: Lb/\RdC M' W b20 0 (AHo a.2)
theorem ARd {l0:Nat} {w wi:World} {M:List Nat} {bd b14:Nat} {x:Desk_99} {al:List Asked} {l:List Report} {y:Dispute} {v:Verdict} {now:Report} {is_:Bool} {p8 p4 p13 p15 p16 p17 p18 pb:Value} {f f':A3 (Int×Int) Int} {Li:Sx.A7} {ds:List Deferred} {A B:A4} {X:Nat->A4} {Z:List PanicEntry->A4}
 (hbd:bd < wi.heap.size) (hI:Hp w [] M (MP bd f) wi) (hrec:∃ r,wi.heap[l0]?=some (.loop r)) (hD:D16 (bd :: M) wi x al l p8 p4 p13 b14 bd)
 (h15:Ok (P:=Tryz.prog) (fun _=>undef) (fun _=>none) (bd :: M) wi (.rp (.str 2 y) 0) p15) (h16:Ok (P:=Tryz.prog) (fun _=>undef) (fun _=>none) (bd :: M) wi (.rp (.str 12 v) 0) p16) (h17:Ok (P:=Tryz.prog) (fun _=>undef) (fun _=>none) (bd :: M) wi (.rp (.str 1 now) 0) p17) (h18:Ok (P:=Tryz.prog) (fun _=>undef) (fun _=>none) (bd :: M) wi (.rp (.bool is_) 0) p18) (hpb:Ok (P:=Tryz.prog) (fun _=>undef) (fun _=>none) (bd :: M) wi (.rp (.dat (.sl (.st 5)) al) 0) pb) (hky:InK .i64 y.id)
 (l8:Sx.A5 Li 8=some p8) (l13:Sx.A5 Li 13=some p13) (l14:Sx.A5 Li 14=some (.pointer (some ⟨b14,0,none⟩))) (l15:Sx.A5 Li 15=some p15) (l16:Sx.A5 Li 16=some p16) (l17:Sx.A5 Li 17=some p17) (l18:Sx.A5 Li 18=some p18) (l96:Sx.A5 Li 96=some (.func (.func 85) #[] #[pb]))
 (hbs:∀ a∈bwN al al.length,ADQ [.int .i64,.st 5] a) (hr:ABU (inB x l y v now is_) f (bwN al al.length)=some f')
 (hA:∀ W,Hp w [] M (MP bd f') W->Adv (bd :: M) (bd :: M) wi W->A ds Li W):CI l0 3 Tryz.prog 181 ATO ds Li wi A B X Z:=by
 obtain⟨ho1,ho2⟩:=AE2 hr
 have hMlt:MLt (bd :: M) wi:=hI.mlt
 have hwi:w.heap.size<=wi.heap.size:=hI.kp.size
 let I:List {x // x∈bwN al al.length}->World->Prop:=fun pre W=>∃ g,List.foldlM (inB x l y v now is_) f (pre.map Subtype.val)=some g/\Hp w [] M (MP bd g) W/\Adv (bd :: M) (bd :: M) wi W
 refine AM4 1 (val:=fun a:{x // x∈bwN al al.length}=>J5 (.int .i64) a.1.1) (val2:=fun a=>J5 (.st 5) a.1.2) (K:=KI (bd :: M) wi.heap.size) (xs:=(bwN al al.length).attach) hrec l96 Tryz.call85 rfl rfl (AIP 2 hMlt hD.g hpb Subtype.val _ (List.attach_map_subtype_val _)) (fun h k=>h.trans k) (fun W k o o' hk _ _ _=>KI.putObj hk) I (fun _ _=>False) ?_ (fun _ _ _ _ h _ _=>h.elim) ⟨f,rfl,hI,Adv.refl _ _⟩ (fun a L' W=>AWq (bd :: M) Li a.1 L' W) ?_ ?_ ?_ ?_ (fun _ _ h=>h)
 . rintro pre W W' row ⟨g,e1,e2,e3⟩ hgr hr
   exact⟨g,e1,Hp.turn (fun h=>h) e3.kp.size hwi (AP4 hbd tn0) e2 hgr hr,Adv.turn (fun h=>h) e3 hgr hr⟩
 . rintro a L' _ W W' row ⟨b20,e1,e2⟩ hgr hr
   exact⟨b20,e1,AGu e2 hgr fun r e=>(hr r e).2⟩
 . rintro k pre a W ⟨g,e1,e2,e3⟩
   refine AA6 rfl ?_
   refine ACY e2 Tryz.zeroValue47 rfl rfl ?_
   intro b20 w5 hI5 x5
   refine ABJ 0 (vs:=AHo a.1.2) hI5 rfl rfl rfl rfl Tryz.sizeOf47 rfl rfl (C7 rfl (C7 rfl (C7 rfl (C7 rfl ACT)))) ?_
   intro w6 hI6 x6
   have hI6:Hp w [] M (rowR 47 b20 (AHo a.1.2) :: MP bd g) w6:=hI6
   have hA:Adv (bd :: M) (bd :: M) W w6:=x5.trans (x6.trans (F3 (σ:=rowR 47 b20 (AHo a.1.2) :: MP bd g) 0))
   obtain⟨k1,k2⟩:=U5 hA hMlt e3.kp.size
   exact Reg.nil ⟨rfl,k1,k2,⟨g,e1,hI6.erase 0,e3.trans hA⟩,b20,rfl,hI6.freezeRow 0 rfl⟩
 . rintro k pre a L' W hwl hrk ⟨g,e1,e2,e3⟩ ⟨b20,rfl,e5⟩ hlt
   obtain⟨g',hb',hfold⟩:=ho2 (pre.map Subtype.val) a.1 g (by simpa using hlt) (fun y hy=>by obtain⟨z,_,rfl⟩:=List.mem_map.1 hy;exact z.2) a.2 e1
   unfold inB at hb'
   obtain⟨z,hz,hb'⟩:=Q7 hb'
   have hb':=Option.some.inj hb'
   have hDW:=hD.adv e3
   have hMW:MLt (bd :: M) W:=e2.mlt
   have hok:okI (.st 5) a.1.2:=(hbs a.1 a.2).2
   have hst:Holds (P:=Tryz.prog) W [] (bd :: M) ⟨AM6 x l y v now is_ a.1.2,[],[],[]⟩ ((20,.pointer (some ⟨b20,0,none⟩)) :: (98,J5 (.st 5) a.1.2) :: (97,J5 (.int .i64) a.1.1) :: Li) W:=by
    refine Holds.start hMW (fun t s ht=>?_) ⟨trivial,hDW.g⟩
    unfold AM6 at ht
    rw[fnd_cons] at ht
    split at ht
    . rename_i e;subst e;cases ht;exact⟨_,l8,hDW.h8⟩
    rw[fnd_cons] at ht
    split at ht
    . rename_i e;subst e;cases ht;exact⟨_,l13,hDW.h13⟩
    rw[fnd_cons] at ht
    split at ht
    . rename_i e;subst e;cases ht;exact⟨_,l15,Ok.adv e3 _ h15⟩
    rw[fnd_cons] at ht
    split at ht
    . rename_i e;subst e;cases ht;exact⟨_,l16,Ok.adv e3 _ h16⟩
    rw[fnd_cons] at ht
    split at ht
    . rename_i e;subst e;cases ht;exact⟨_,l17,Ok.adv e3 _ h17⟩
    rw[fnd_cons] at ht
    split at ht
    . rename_i e;subst e;cases ht;exact⟨_,l18,Ok.adv e3 _ h18⟩
    rw[fnd_cons] at ht
    split at ht
    . rename_i e;subst e;cases ht;exact⟨_,rfl,b20,0,_,AHo a.1.2,rfl,e5,ADs (.st 5) hok,rfl⟩
    cases ht
   refine AD5 ?_
   refine AGm (l:=k) ?_
   refine AKr ALy 2 AM5 AGt (KN:=APk) (KX:=fun i _=>bif Nat.beq i 5 then some (.inr ()) else none) ?_ rfl ((ATP x l y v now is_ a.1.2).trans hz) hst (fun σ' L2 W2 hK hE2 hH2=>?_) (fun i σ' L2 W2 hK hE2 hH2=>?_)
   . exact fun L w v T t L2 ds ht hl hx=>((PZ.no (Z:=fun _ _ _ _=>False) (ds:=ds)).block (i:=5) rfl).z T t L L2 w v ht hl hx
   . have hx2:Ext W W2:=hH2.ends
     have hI2:Hp w [] M (MP bd g) W2:=e2.ext hx2
     have hA2:Adv (bd :: M) (bd :: M) W W2:=Adv.of_ext hx2
     have lk:∀ t,t∈[14,15,20]->Sx.A5 L2 t=Sx.A5 ((20,.pointer (some ⟨b20,0,none⟩)) :: (98,J5 (.st 5) a.1.2) :: (97,J5 (.int .i64) a.1.1) :: Li) t:=fun t ht=>hE2 t fun hm=>(by decide:∀ t∈[14,15,20],t∉C8 (M4 2 AM5)++C6 AGt) t ht hm
     obtain⟨b,hb,hzb⟩:∃ b,A1 σ'.env 153=some (.bool b)/\z=.inl b:=by
      unfold APk at hK
      split at hK
      . rename_i b hb;exact⟨b,hb,(Option.some.inj hK).symm⟩
      . cases hK
     subst hzb
     have l153:=hH2.slotB hb
     show CI k 1 Tryz.prog 181 (AJE 2 AM5) [] L2 W2 _ _ _ _
     refine AQm l153 (fun hbt=>?_) (fun hbf=>?_)
     . subst hbt
       subst hb'
       have hDW2:=hDW.adv hA2
       obtain⟨b15,o15,u15,vs15,rfl,c15,hu15,hc15⟩:=Ok.adv (e3.trans hA2) _ h15
       obtain⟨cs15,hR15,hcs15⟩:=hu15
       obtain rfl:vs15=[.int .i64 y.id,.int .i64 y.report,.int .i64 y.day]:=by
        obtain⟨rfl,_⟩:=(DisputeE_R (x:=y)).1 hR15
        rcases hcs15 with⟨_,rfl⟩|⟨h,_⟩
        . simpa[Value.cells] using hc15.symm
        . cases h
       refine AA6 rfl ?_
       refine V1 ((lk 14 (by decide)).trans l14) ((hDW2.h14).cells.at 0 rfl) Tryz.isAgg106 rfl ?_
       refine ABI ((lk 15 (by decide)).trans l15) Tryz.underlying53 rfl Tryz.sizeOf3 rfl ?_
       refine V1 rfl (c15.cells.at 0 rfl) Tryz.isAgg3 rfl ?_
       refine ABI (lk 20 (by decide)) Tryz.underlying47 rfl Tryz.sizeOf3 rfl ?_
       refine V1 rfl ((e5.adv hA2).cells.at 1 rfl) Tryz.isAgg3 rfl ?_
       refine AR1 Tryz.zeroValue116 rfl Tryz.underlying116 Tryz.sizeOf3 rfl rfl rfl rfl rfl ?_
       refine ABI (lk 20 (by decide)) Tryz.underlying47 rfl Tryz.sizeOf3 rfl ?_
       refine V1 rfl ((e5.adv hA2).cells.at 0 rfl) Tryz.isAgg3 rfl ?_
       obtain⟨ka,kb,_,_⟩:InK .i64 a.1.2.id/\InK .i64 a.1.2.who/\InK .i64 a.1.2.account/\InK .i64 a.1.2.day:=hok
       refine AMD (K:=K116) (E:=B3 .i64) (ag:=false) 0 hI2 rfl rfl (a:=(y.id,a.1.2.who)) rfl ⟨hky,kb⟩ rfl (z:=a.1.2.id) ⟨[_],⟨rfl,ka⟩,.inr ⟨rfl,rfl⟩⟩ Tryz.underlying106 ?_
       intro w9 hI9 x9
       have hI9:Hp w [] M (MP bd (B7 g (y.id,a.1.2.who) a.1.2.id)) w9:=hI9
       have hA9:Adv (bd :: M) (bd :: M) W w9:=hA2.trans x9
       obtain⟨k1,k2⟩:=U5 hA9 hMlt e3.kp.size
       exact Reg.nil ⟨k1,k2,_,by rw[List.map_append];exact hfold,hI9,e3.trans hA9⟩
     . subst hbf
       subst hb'
       obtain⟨k1,k2⟩:=U5 hA2 hMlt e3.kp.size
       exact AQl ⟨k1,k2,g,by rw[List.map_append];exact hfold,hI2,e3.trans hA2⟩
   . have hx2:Ext W W2:=hH2.ends
     have hA2:Adv (bd :: M) (bd :: M) W W2:=Adv.of_ext hx2
     cases hi:Nat.beq i 5 with
     |false=>
      have hK:(bif Nat.beq i 5 then some (Sum.inr ()) else none)=some z:=hK
      rw[hi] at hK;cases hK
     |true=>
      have hK:(bif Nat.beq i 5 then some (Sum.inr ()) else none)=some z:=hK
      rw[hi] at hK
      have hK:Sum.inr ()=z:=Option.some.inj hK
      subst hK
      subst hb'
      obtain rfl:=Nat.eq_of_beq_eq_true hi
      obtain⟨k1,k2⟩:=U5 hA2 hMlt e3.kp.size
      exact S6 ⟨k1,k2,g,by rw[List.map_append];exact hfold,e2.ext hx2,e3.trans hA2⟩
 . rintro W ⟨g,e1,e2,e3⟩
   rw[List.attach_map_subtype_val,ho1] at e1
   cases e1
   exact hA W e2 e3
end Go.Proofs.YtgioiejbphljoaaGreatDoor
set_option maxRecDepth 20000
set_option maxHeartbeats 4000000
namespace Go.Proofs.YtgioiejbphljoaaGreatDoor
open Go Go.Sx Go.Rx Go.RowKit
noncomputable def AGv (x:Desk_99) (al:List Asked) (l:List Report) (f:A3 (Int×Int) Int) (y:Dispute×Verdict):Option (A3 (Int×Int) Int):=Option.bind (AAk l y.1 y.2) fun n=>Option.bind (T4 al) fun bs=>ABU (inB x l y.1 y.2 n.1 n.2) f bs
noncomputable def APm:Code:=match ATN with
 |.seq c _=>c
 |_=>.skip
noncomputable def AWr:Code:=match Tryz.f16.body with
 |some (.seq _ (.seq _ (.seq _ (.seq _ (.seq _ (.seq _ (.seq _ (.seq _ (.seq _ (.seq (.seq _ (.block _ c)) _))))))))))=>c
 |_=>.skip
noncomputable def ATQ (σ:AS):Option (Report×Bool):=match A1 σ.env 17,A1 σ.env 18,A1 σ.res 17,A1 σ.res 18 with
 |some (.ptr 17 0),some (.ptr 18 0),some (.row 45 c),some (.row 4 [.bool b])=>match A8 (.agg c) with
  |[]=>match C1 (A1 σ.res) (.st 1) (.agg c) with
   |some r=>some (r,b)
   |none=>none
  |_=>none
 |_,_,_,_=>none
def AM7 (l:List Report) (y:Dispute) (v:Verdict):List (Nat×SV):=[(13,.rp (.dat (.sl (.st 1)) l) 0),(15,.rp (.str 2 y) 0),(16,.rp (.str 12 v) 0)]
theorem AVS (l:List Report) (y:Dispute) (v:Verdict):exec APl 181 (fun _=>(none:Option Unit)) APm AIS ATQ (fun _ _=>none) (fun _=>none) ⟨AM7 l y v,[],[],[]⟩=AAk l y v:=by kernel_rfl
def ALo (M':List Nat) (Lb:Sx.A7) (y:Dispute×Verdict) (L:Sx.A7) (W:World):Prop:=∃ b15 b16,L=(16,.pointer (some ⟨b16,0,none⟩)) :: (15,.pointer (some ⟨b15,0,none⟩)) :: (84,J5 (.st 12) y.2) :: (83,J5 (.st 2) y.1) :: Lb/\RdC M' W b15 0 (ABS y.1)/\RdC M' W b16 0 (ADY y.2)
theorem ARe {w wl:World} {M:List Nat} {bd b14:Nat} {x:Desk_99} {day:Int} {al:List Asked} {l:List Report} {p8 p4 p13 p1 p2:Value} {f f':A3 (Int×Int) Int} {ys:List (Dispute×Verdict)} {Lb:Sx.A7} {ds:List Deferred} {A B:A4} {X:Nat->A4} {Z:List PanicEntry->A4}
 (hbd:bd < wl.heap.size) (hI:Hp w [] M (MP bd f) wl) (hD:D16 (bd :: M) wl x al l p8 p4 p13 b14 bd) (h1:Ok (P:=Tryz.prog) (fun _=>undef) (fun _=>none) (bd :: M) wl (.rp (.str 10 x) 0) p1) (h2:Ok (P:=Tryz.prog) (fun _=>undef) (fun _=>none) (bd :: M) wl (.rp (.int .i64 day) 0) p2)
 (l4:Sx.A5 Lb 4=some p4) (l8:Sx.A5 Lb 8=some p8) (l13:Sx.A5 Lb 13=some p13) (l14:Sx.A5 Lb 14=some (.pointer (some ⟨b14,0,none⟩))) (l82:Sx.A5 Lb 82=some (.func (.func 84) #[] #[p1,p2]))
 (hys:AFM x day x.desk.disputes=some ys) (hok:∀ y∈ys,ADQ [.st 2,.st 12] y) (hr:ABU (AGv x al l) f ys=some f')
 (hA:∀ D W,wl.heap.size<=D->Hp w [] M (MP bd f') W->Adv (bd :: M) (bd :: M) wl W->W.heap[D]?=some (.deferred (some []))->A ({ target:=.collected D,args:=#[] } :: ds) Lb W):CW Tryz.prog 181 AWr ds Lb wl A B X Z:=by
 obtain⟨ho1,ho2⟩:=AE2 hr
 have hMlt:MLt (bd :: M) wl:=hI.mlt
 have hwl:w.heap.size<=wl.heap.size:=hI.kp.size
 let I:List {x // x∈ys}->World->Prop:=fun pre W=>∃ g,List.foldlM (AGv x al l) f (pre.map Subtype.val)=some g/\Hp w [] M (MP bd g) W/\Adv (bd :: M) (bd :: M) wl W
 refine AM3 3 (val:=fun a:{x // x∈ys}=>J5 (.st 2) a.1.1) (val2:=fun a=>J5 (.st 12) a.1.2) (K:=KI (bd :: M) wl.heap.size) (xs:=ys.attach) l82 Tryz.call84 rfl rfl (AEj 4 hMlt hD.g h1 h2 hys Subtype.val _ (List.attach_map_subtype_val _)) (fun h k=>h.trans k) (fun W k o o' hk _ _ _=>KI.putObj hk) I (fun _ _=>False) ?_ (fun _ _ _ _ h _ _=>h.elim) ⟨f,rfl,hI,Adv.refl _ _⟩ (fun a L' W=>ALo (bd :: M) Lb a.1 L' W) ?_ ?_ ?_ ?_ (fun _ _ _ _ _ h _=>h.elim)
 . rintro pre W W' row ⟨g,e1,e2,e3⟩ hgr hr
   exact⟨g,e1,Hp.turn (fun h=>h) e3.kp.size hwl (AP4 hbd tn0) e2 hgr hr,Adv.turn (fun h=>h) e3 hgr hr⟩
 . rintro a L' _ W W' row ⟨b15,b16,e1,e2,e3⟩ hgr hr
   exact⟨b15,b16,e1,AGu e2 hgr fun r e=>(hr r e).2,AGu e3 hgr fun r e=>(hr r e).2⟩
 . rintro k pre a W ⟨g,e1,e2,e3⟩
   refine AHA ?_
   refine AA6 rfl ?_
   refine ACY e2 Tryz.zeroValue53 rfl rfl ?_
   intro b15 w5 hI5 x5
   refine ABJ 0 (vs:=ABS a.1.1) hI5 rfl rfl rfl rfl Tryz.sizeOf53 rfl rfl (C7 rfl (C7 rfl (C7 rfl ACT))) ?_
   intro w6 hI6 x6
   have hI6:Hp w [] M (rowR 53 b15 (ABS a.1.1) :: MP bd g) w6:=hI6
   have hA6:Adv (bd :: M) (bd :: M) W w6:=x5.trans (x6.trans (F3 (σ:=rowR 53 b15 (ABS a.1.1) :: MP bd g) 0))
   have hC6:RdC (bd :: M) w6 b15 0 (ABS a.1.1):=hI6.freezeRow 0 rfl
   have hI6':Hp w [] M (MP bd g) w6:=hI6.erase 0
   refine Reg.nil ?_
   refine AA6 rfl ?_
   refine ACY hI6' Tryz.zeroValue111 rfl rfl ?_
   intro b16 w7 hI7 x7
   refine ABJ 0 (vs:=ADY a.1.2) hI7 rfl rfl rfl rfl Tryz.sizeOf111 rfl rfl (C7 rfl (C7 rfl (C7 rfl (C7 rfl (C7 rfl (C7 rfl (C7 rfl (C7 rfl ACT)))))))) ?_
   intro w8 hI8 x8
   have hI8:Hp w [] M (rowR 111 b16 (ADY a.1.2) :: MP bd g) w8:=hI8
   have hA8:Adv (bd :: M) (bd :: M) w6 w8:=x7.trans (x8.trans (F3 (σ:=rowR 111 b16 (ADY a.1.2) :: MP bd g) 0))
   have hA:=hA6.trans hA8
   obtain⟨k1,k2⟩:=U5 hA hMlt e3.kp.size
   exact Reg.nil ⟨rfl,k1,k2,⟨g,e1,hI8.erase 0,e3.trans hA⟩,b15,b16,rfl,hC6.adv hA8,hI8.freezeRow 0 rfl⟩
 . rintro k pre a L' W hwlk hrk ⟨g,e1,e2,e3⟩ ⟨b15,b16,rfl,e5,e6⟩ hlt
   obtain⟨g',hb',hfold⟩:=ho2 (pre.map Subtype.val) a.1 g (by simpa using hlt) (fun y hy=>by obtain⟨z,_,rfl⟩:=List.mem_map.1 hy;exact z.2) a.2 e1
   unfold AGv at hb'
   obtain⟨n,hn,hb'⟩:=Q7 hb'
   obtain⟨bs,hbs,hb'⟩:=Q7 hb'
   obtain⟨hbok,rfl⟩:(∀ y∈bwN al al.length,ADQ [.int .i64,.st 5] y)/\bwN al al.length=bs:=by
    unfold T4 at hbs
    split at hbs
    . rename_i h;exact⟨h,Option.some.inj hbs⟩
    . cases hbs
   have hDW:=hD.adv e3
   have hMW:MLt (bd :: M) W:=e2.mlt
   have hoka:=hok a.1 a.2
   have o15:Ok (P:=Tryz.prog) (fun _=>undef) (fun _=>none) (bd :: M) W (.rp (.str 2 a.1.1) 0) (.pointer (some ⟨b15,0,none⟩)):=⟨b15,0,_,ABS a.1.1,rfl,e5,ADs (.st 2) hoka.1,rfl⟩
   have o16:Ok (P:=Tryz.prog) (fun _=>undef) (fun _=>none) (bd :: M) W (.rp (.str 12 a.1.2) 0) (.pointer (some ⟨b16,0,none⟩)):=⟨b16,0,_,ADY a.1.2,rfl,e6,ADs (.st 12) hoka.2,rfl⟩
   have hst:Holds (P:=Tryz.prog) W [] (bd :: M) ⟨AM7 l a.1.1 a.1.2,[],[],[]⟩ ((16,.pointer (some ⟨b16,0,none⟩)) :: (15,.pointer (some ⟨b15,0,none⟩)) :: (84,J5 (.st 12) a.1.2) :: (83,J5 (.st 2) a.1.1) :: Lb) W:=by
    refine Holds.start hMW (fun t s ht=>?_) ⟨trivial,hDW.g⟩
    unfold AM7 at ht
    rw[fnd_cons] at ht
    split at ht
    . rename_i e;subst e;cases ht;exact⟨_,l13,hDW.h13⟩
    rw[fnd_cons] at ht
    split at ht
    . rename_i e;subst e;cases ht;exact⟨_,rfl,o15⟩
    rw[fnd_cons] at ht
    split at ht
    . rename_i e;subst e;cases ht;exact⟨_,rfl,o16⟩
    cases ht
   refine AD5 ?_
   refine AHA ?_
   refine AGm (l:=k) (H5 ALy APm AIS _ _ _ _ _ _ _ _ _ _ _ _ _ ((AVS l a.1.1 a.1.2).trans hn) hst (fun σ' L2 W2 hK _ hE2 hH2=>?_) (fun i σ2 L2 w2 h2=>by cases h2) (fun r σ2 L2 w2 h2 h3 _ hH2=>by cases h2) ((PZ.no (Z:=fun _ _ _ _=>False)).block (i:=3) rfl))
   obtain⟨S,ρ,γ,μ,ι,hS⟩:=hH2
   have hx2:Ext W W2:=hS.hp.kp
   obtain⟨c,b,r,h17,h18,q17,q18,hown,htd,rfl⟩:∃ c b r,A1 σ'.env 17=some (.ptr 17 0)/\A1 σ'.env 18=some (.ptr 18 0)/\A1 σ'.res 17=some (.row 45 c)/\A1 σ'.res 18=some (.row 4 [.bool b])/\A8 (.agg c)=[]/\C1 (A1 σ'.res) (.st 1) (.agg c)=some r/\n=(r,b):=by
    unfold ATQ at hK
    split at hK
    . rename_i c b g1 g2 g3 g4
      split at hK
      . rename_i g5
        split at hK
        . rename_i r g6
          exact⟨c,b,r,g1,g2,g3,g4,g5,g6,(Option.some.inj hK).symm⟩
        . cases hK
      . cases hK
    . cases hK
   obtain⟨v17,l17,b17,hb17,rfl⟩:=hS.env 17 (.ptr 17 0) h17
   obtain⟨v18,l18,b18,hb18,rfl⟩:=hS.env 18 (.ptr 18 0) h18
   obtain⟨b17',hb17',r17,o17,i17⟩:=hS.rowAt q17
   obtain⟨b18',hb18',r18,o18,i18⟩:=hS.rowAt q18
   rw[hb17] at hb17';cases hb17'
   rw[hb18] at hb18';cases hb18'
   have ok17:Ok (P:=Tryz.prog) (fun _=>undef) (fun _=>none) (bd :: M) W2 (.rp (.str 1 r) 0) (.pointer (some ⟨b17,0,none⟩)):=⟨b17,0,.agg (List.toArray (γ 17)),γ 17,rfl,G5 (hS.hp.sepM _ (List.mem_of_getElem? i17) b17 (List.mem_singleton.2 rfl)) r17,G9 (M:=mm S (bd :: M)) (fun b hb=>mem_mm.2 (.inr hb)) (.st 1) (.agg c) (fun i hi=>by rw[hown] at hi;cases hi) htd ⟨γ 17,rfl,o17⟩,rfl⟩
   have ok18:Ok (P:=Tryz.prog) (fun _=>undef) (fun _=>none) (bd :: M) W2 (.rp (.bool b) 0) (.pointer (some ⟨b18,0,none⟩)):=by
    obtain⟨u,cu,q,e9,hu,hcu,hq⟩:=o18
    have hu:u=.bool b:=hu
    have hq:q=[]:=hq
    subst hu hq
    have hcu:#[Value.bool b]=List.toArray cu:=hcu
    have:cu=[Value.bool b]:=by simpa using hcu.symm
    subst this
    have e9:γ 18=[.bool b]:=e9
    exact⟨b18,0,.bool b,[.bool b],rfl,e9▸G5 (hS.hp.sepM _ (List.mem_of_getElem? i18) b18 (List.mem_singleton.2 rfl)) r18,rfl,rfl⟩
   have lk:∀ t,t∈[4,8,13,14,15,16]->Sx.A5 L2 t=Sx.A5 ((16,.pointer (some ⟨b16,0,none⟩)) :: (15,.pointer (some ⟨b15,0,none⟩)) :: (84,J5 (.st 12) a.1.2) :: (83,J5 (.st 2) a.1.1) :: Lb) t:=fun t ht=>hE2 t fun hm=>(by decide:∀ t∈[4,8,13,14,15,16],t∉C8 APm++C6 AIS) t ht hm
   clear hE2 hK h17 h18 q17 q18 hown htd hb17 hb18 r17 r18 o17 o18 i17 i18 hS
   have hA2:Adv (bd :: M) (bd :: M) W W2:=Adv.of_ext hx2
   have hDW2:=hDW.adv hA2
   obtain⟨b4,o4,u4,vs4,hp4,c4,hu4,hc4⟩:=hDW2.h4
   obtain⟨sa4,n4,hsl4,_⟩:=(OkD.rds hu4.2).shape
   obtain rfl:vs4=[u4]:=by
    subst hsl4
    exact (congrArg Array.toList hc4).symm
   have l4':=(lk 4 (by decide)).trans (show _=some p4 from l4)
   rw[hp4] at l4'
   show CI k 3 Tryz.prog 181 _ [] L2 W2 _ _ _ _
   refine AHA ?_
   refine AA6 rfl ?_
   refine V1 l4' (c4.cells.at 0 rfl) Tryz.isAgg29 rfl ?_
   refine W8 rfl Tryz.call47 rfl ?_
   refine (C47 (hMW.ext hx2) hu4.2).mono ?_
   rintro _ W3 ⟨pb,rfl,hpb,x3⟩
   refine⟨_,rfl,?_⟩
   refine Reg.nil ?_
   refine AD5 ?_
   have hA3:Adv (bd :: M) (bd :: M) W2 W3:=Adv.of_ext x3
   have hA13:=hA2.trans hA3
   refine ARd (w:=w) (wi:=W3) (f:=g) (f':=g') (Nat.lt_of_lt_of_le (hMW bd (List.mem_cons_self ..)) hA13.kp.size) (e2.ext (hx2.trans x3)) ?_ (hDW2.adv hA3) (Ok.adv hA13 _ o15) (Ok.adv hA13 _ o16) (Ok.adv hA3 _ ok17) (Ok.adv hA3 _ ok18) hpb hoka.1.1 ((lk 8 (by decide)).trans l8) ((lk 13 (by decide)).trans l13) ((lk 14 (by decide)).trans l14) (lk 15 (by decide)) (lk 16 (by decide)) l17 l18 rfl hbok hb' fun W4 hI4 hA4=>?_
   . obtain⟨rk,hrk⟩:=hrk
     exact⟨rk,((hx2.trans x3).block k (I9 hrk) (by simp)).trans hrk⟩
   . have hA14:=hA13.trans hA4
     obtain⟨k1,k2⟩:=U5 hA14 hMlt e3.kp.size
     exact⟨k1,k2,g',by rw[List.map_append];exact hfold,hI4,e3.trans hA14⟩
 . rintro D W hDw ⟨g,e1,e2,e3⟩ hdef
   rw[List.attach_map_subtype_val,ho1] at e1
   cases e1
   exact hA D W hDw e2 e3 hdef
end Go.Proofs.YtgioiejbphljoaaGreatDoor
set_option maxRecDepth 20000
set_option maxHeartbeats 4000000
namespace Go.Proofs.YtgioiejbphljoaaGreatDoor
open Go Go.Sx Go.Rx Go.RowKit
noncomputable def AEa (ls:List Letter) (y:(Int×Int)×Int):Option (List Letter):=appo 24 ls [Letter.mk y.1.1 y.1.2 y.2]
noncomputable def ATR:Code:=match Tryz.f16.body with
 |some (.seq _ (.seq _ (.seq _ (.seq _ (.seq _ (.seq _ (.seq _ (.seq _ (.seq _ (.seq _ c))))))))))=>c
 |_=>.skip
noncomputable def AWs:Code:=match ATR with
 |.seq _ (.seq c _)=>c
 |_=>.skip
noncomputable def ATS:Code:=match ATR with
 |.seq _ (.seq _ c)=>c
 |_=>.skip
def Dok (D:Nat) (M:List Nat) (W:World):Prop:=D∉M/\W.heap[D]?=some (.deferred (some []))
theorem Dok.adv {D:Nat} {M M':List Nat} {W W':World} (h:Dok D M W) (k:Adv M M' W W'):Dok D M' W':=by
 have hlt:D < W.heap.size:=I9 h.2
 exact⟨fun hm=>(k.new D hm).elim h.1 fun h1=>by omega,(k.kp.block D hlt h.1).trans h.2⟩
theorem ATT {w wt:World} {M:List Nat} {D bd b14:Nat} {f:A3 (Int×Int) Int} {Lb:Sx.A7} {ds:List Deferred} {A B:A4} {X:Nat->A4} {Z:List PanicEntry->A4} {z:List Letter×Int}
 (hI:Hp w [] M [ownR [] LetterE 70 (.slice none 0 0) []] wt) (hm:RdF K116 (B3 .i64) false M wt (.map (some bd)) f) (h14:RdC M wt b14 0 [.map (some bd)]) (hDk:Dok D M wt) (hz:AAR f (fun xs=>Option.bind (List.foldlM AEa [] xs) J3)=some z) (l14:Sx.A5 Lb 14=some (.pointer (some ⟨b14,0,none⟩))) (l23:Sx.A5 Lb 23=some (.slice none 0 0))
 (hA:∀ L' W v ls,J3 ls=some z->Hp w [] M [ownR [] LetterE 70 v ls] W->Sx.A5 L' 23=some v->Adv M (mm [ownR [] LetterE 70 v ls] M) wt W->Dok D (mm [ownR [] LetterE 70 v ls] M) W->A ds L' W):CW Tryz.prog 181 AWs ds Lb wt A B X Z:=by
 have hm':RdF K116 (B3 .i64) false (mm [ownR [] LetterE 70 (.slice none 0 0) ([]:List Letter)] M) wt (.map (some bd)) f:=hm
 refine A6 ?_
 refine A9 ?_
 refine V1 l14 (h14.cells.at 0 rfl) Tryz.isAgg106 rfl ?_
 refine ARx hI hm' rfl Tryz.underlying106 rfl ?_
 intro r b c es xs w1 hX hL hI1 hA1
 refine Reg.nil ?_
 obtain⟨Bd,hBd,hall⟩:=AJa hz hL
 subst hBd
 have hA1':Adv M (mm (T2 r b c es xs none xs :: [ownR [] LetterE 70 (.slice none 0 0) ([]:List Letter)]) M) wt w1:=hA1
 refine F9 ?_
 refine ABH (ι:=A7×Value×List Letter×List ((Int×Int)×Int)×List ((Int×Int)×Int)) (fun q=>q.1) (fun q W=>(Sx.A5 q.1 163=some (.pointer (some ⟨r,0,none⟩))/\Sx.A5 q.1 23=some q.2.1)/\(q.2.2.2.1++q.2.2.2.2).Perm xs/\List.foldlM AEa [] q.2.2.2.1=some q.2.2.1/\Hp w [] M [T2 r b c es xs none q.2.2.2.2,ownR [] LetterE 70 q.2.1 q.2.2.1] W/\RdX K116 (B3 .i64) false (mm [T2 r b c es xs none q.2.2.2.2,ownR [] LetterE 70 q.2.1 q.2.2.1] M) W b es c xs/\Adv M (mm [T2 r b c es xs none q.2.2.2.2,ownR [] LetterE 70 q.2.1 q.2.2.1] M) wt W) (fun q=>q.2.2.2.2.length) ((163,.pointer (some ⟨r,0,none⟩)) :: (162,.map (some bd)) :: Lb,.slice none 0 0,[],[],xs) ⟨⟨rfl,l23⟩,List.Perm.refl _,rfl,hI1,hX.adv hA1,hA1'⟩ (Sub.refl _) ?_
 rintro⟨L1,v,ls,d,l⟩ W1 ⟨⟨k1,k2⟩,k3,k4,k5,k6,k7⟩
 dsimp only at k1 k2 k3 k4 k5 k6 k7 ⊢
 refine A6 ?_
 refine A9 ?_
 refine ARy 0 k5 k6 rfl k1 rfl (fun hl=>?_) (fun y l' k v' W2 hp hI2 hA2=>?_)
 . refine AGD (vs:=[.bool false]) rfl rfl rfl ?_
   refine Reg.nil ?_
   refine A6 ?_
   refine ABG rfl ?_
   refine ABF (S6 ?_)
   subst hl
   obtain⟨s,hs1,hs2⟩:=hall d (by simpa using k3)
   rw[k4] at hs1
   cases hs1
   have hA7:Adv M (mm [ownR [] LetterE 70 v ls] M) wt W1:=k7.trans (F3 (σ:=[T2 r b c es xs none ([]:List ((Int×Int)×Int)),ownR [] LetterE 70 v ls]) 0)
   exact hA _ W1 v ls hs2 (k5.erase 0) k2 hA7 (hDk.adv hA7)
 . refine AGD (vs:=[.bool true,k,v']) rfl rfl rfl ?_
   refine Reg.nil ?_
   refine A6 ?_
   refine ACU rfl ?_
   refine O3 ?_
   refine F9 ?_
   refine A6 ?_
   refine A9 ?_
   have hX2:=k6.adv hA2
   refine ARz 0 hI2 hX2 rfl k1 rfl fun v2 hok hv2=>?_
   obtain⟨hka,hkb⟩:InK .i64 y.1.1/\InK .i64 y.1.2:=hok
   obtain⟨rfl,hkc⟩:v2=.int .i64 y.2/\InK .i64 y.2:=by
    obtain⟨cs,⟨h1,h2⟩,⟨h3,_⟩|⟨_,h3⟩⟩:=hv2
    . cases h3
    . rw[h1] at h3;exact⟨(List.singleton_inj.1 h3).symm,h2⟩
   refine AGD (vs:=[K116.val y.1,.int .i64 y.2]) rfl rfl rfl ?_
   refine AGD (vs:=[K116.val y.1,.int .i64 y.2]) rfl rfl rfl ?_
   refine ACY hI2 Tryz.zeroValue116 rfl rfl ?_
   intro b24 w5 hI5 x5
   refine ABJ 0 (vs:=[.int .i64 y.1.1,.int .i64 y.1.2]) hI5 rfl rfl rfl rfl Tryz.sizeOf116 rfl rfl (C7 rfl (C7 rfl ACT)) ?_
   intro w6 hI6 x6
   have hI6:Hp w [] M (rowR 116 b24 [.int .i64 y.1.1,.int .i64 y.1.2] :: [T2 r b c es xs (some y) l',ownR [] LetterE 70 v ls]) w6:=hI6
   refine F5 rfl rfl ?_
   refine Reg.nil ?_
   refine A9 ?_
   have hC24:RdC [] w6 b24 0 ([y.1.1,y.1.2].map (Value.int .i64)):=G5 (fun h=>by cases h) (hI6.row 0 rfl)
   obtain⟨s0,hs0,_⟩:=hall (d++(y :: l')) (((List.Perm.refl d).append hp.symm).trans k3)
   rw[List.foldlM_append,k4] at hs0
   simp only[Option.bind_eq_bind,Option.bind_some,List.foldlM_cons] at hs0
   obtain⟨ls',hls',hs0⟩:=Q7 hs0
   obtain⟨hbl,hls2⟩:=ACX hls'
   refine H7 k2 rfl ?_
   refine AP0 (i:=0) (z:=y.1.1) hC24 rfl rfl rfl Tryz.underlying116 rfl Tryz.sizeOf3 rfl fun hc0=>?_
   refine V1 rfl (hc0.cells.at 0 rfl) Tryz.isAgg3 rfl ?_
   refine AP0 (i:=1) (z:=y.1.2) hC24 rfl rfl rfl Tryz.underlying116 rfl Tryz.sizeOf3 rfl fun hc1=>?_
   refine V1 rfl (hc1.cells.at 0 rfl) Tryz.isAgg3 rfl ?_
   refine H7 rfl rfl ?_
   refine ARt [(0,1),(1,1),(2,1)] Tryz.zeroValue70 rfl Tryz.underlying70 (fun _=>by simp[Tryz.sizeOf3]) rfl (Cls.cons rfl (Cls.cons rfl (Cls.cons rfl Cls.nil))) rfl rfl ?_
   refine AJP (E:=LetterE) (xs:=[Letter.mk y.1.1 y.1.2 y.2]) rsl37 hI6 rfl rfl (Cls.cons rfl Cls.nil) (Chs.cons (LetterE_R.2 ⟨rfl,hka,hkb,hkc⟩) Chs.nil) rfl rfl ?_
   intro v8 w8 hI8 x8
   have hf9:=hI8.freeze 0 rfl
   have hI9:=hI8.erase 0
   refine AFV 2 rsl37 hI9 rfl rfl rfl hf9 hbl rfl ?_
   intro v10 w10 hI10 x10
   refine F5 rfl rfl ?_
   have hIa:Hp w [] M [T2 r b c es xs (some y) l',ownR [] LetterE 70 v10 ls'] w10:=by rw[hls2];exact hI10.erase 0
   have hIb:Hp w [] M [T2 r b c es xs none l',ownR [] LetterE 70 v10 ls'] w10:=hIa.upd 0 rfl (Kp.refl _ _) (fun b hb=>.inl hb) rfl fun M' hM'=>by
    obtain⟨seen,q1,q2,_⟩:=hIa.get 0 rfl
    exact⟨seen,q1,q2,fun _ h=>by cases h⟩
   have hAb:Adv (mm [T2 r b c es xs none l,ownR [] LetterE 70 v ls] M) (mm [T2 r b c es xs none l',ownR [] LetterE 70 v10 ls'] M) W1 w10:=by
    have h1:=hA2.trans (x5.trans (x6.trans (x8.trans ((F3 (σ:=ownR [] LetterE 70 v8 [Letter.mk y.1.1 y.1.2 y.2] :: rowR 116 b24 [.int .i64 y.1.1,.int .i64 y.1.2] :: [T2 r b c es xs (some y) l',ownR [] LetterE 70 v ls]) 0).trans (x10.trans (F3 (σ:=rowR 116 b24 [.int .i64 y.1.1,.int .i64 y.1.2] :: [T2 r b c es xs (some y) l',ownR [] LetterE 70 v10 (ls++[Letter.mk y.1.1 y.1.2 y.2])]) 0))))))
    rw[hls2]
    exact h1
   refine Reg.nil ⟨rfl,(_,v10,ls',d++[y],l'),?_,Sub.refl _,?_⟩
   . refine⟨⟨k1,rfl⟩,?_,?_,hIb,k6.adv hAb,k7.trans hAb⟩
     . rw[List.append_assoc];exact ((List.Perm.refl d).append hp.symm).trans k3
     . rw[List.foldlM_append,k4]
       simp only[Option.bind_eq_bind,Option.bind_some,List.foldlM_cons,hls',List.foldlM_nil]
       rfl
   . have:=hp.length_eq
     simp at this
     dsimp only
     omega
end Go.Proofs.YtgioiejbphljoaaGreatDoor
set_option maxRecDepth 20000
set_option maxHeartbeats 4000000
namespace Go.Rx
open Go Go.Sx Go.RowKit
theorem HS.rdsM [Trk] [Sg] [Sf] {P:Program} [Se P] [Anch] {w0 w:World} {M:List Nat} {σ:AS} {L:A7} {S:List Res} {ρ:Nat->Value} {γ:Nat->List Value} {μ:Nat->List Nat} {ι:Nat->Nat} (h:HS (P:=P) w0 [] M σ L w S ρ γ μ ι) (I:List Nat):Rds (P:=P) ρ (A1 σ.res) M w I:=fun i _ p c x hr=>by
 have h1:=h.res i _ hr
 have hm:=List.mem_of_getElem? h1
 have h2:=h.hp.all _ hm
 have h3:=h.hp.sepM _ hm
 have h4:=h.row i _ hr
 cases c with
 |sl e t=>
  have h2:Sx.Own (enc (P:=P) t) e 0 (mm S M) w (ρ i) x:=h2
  have h5:=(h2.mon fun b hb=>.inr (mem_mm.2 (.inr hb))).rd fun b hb=>h3 b (by
   show b∈(F4 (P:=P) _ (ρ i) (.sl e t) x).fp
   rw[Z4];exact hb)
  exact⟨[ρ i],⟨_,rfl,h5⟩,.inr ⟨rfl,rfl⟩⟩
 |mp m k v=>
  obtain⟨b,hb⟩:=h4
  have h2:(mapRes (P:=P) (bif p then μ i else []) m k v (blk (ρ i)) x).holds (mm S M) w:=h2
  have h3:∀ b'∈(mapRes (P:=P) (bif p then μ i else []) m k v (blk (ρ i)) x).fp,b'∉M:=h3
  rw[hb] at h2 h3 ⊢
  unfold mapRes at h2 h3
  cases hK:Se.ky (P:=P) m k with
  |none=>rw[hK] at h2;exact h2.elim
  |some K=>
   rw[hK] at h2 h3
   obtain⟨es,c,xs,g1,g2,g3,g4⟩:=h2
   exact⟨[_],⟨_,K,rfl,hK,b,rfl,h3 b (List.mem_singleton.2 rfl),es,c,xs,g1,g2,g3.mon fun b hb=>.inl (mem_mm.2 (.inr hb)),g4⟩,.inr ⟨rfl,rfl⟩⟩
end Go.Rx
namespace Go.Proofs.YtgioiejbphljoaaGreatDoor
open Go Go.Sx Go.Rx Go.RowKit
noncomputable def c16:Code:=match Tryz.f16.body with
 |some c=>c
 |none=>.skip
noncomputable def KNp (σ:AS):Option ((Desk_99×List Asked×List Report×Int)⊕(List Letter×Int)):=match A1 σ.env 4,A1 σ.env 8,A1 σ.env 13,A1 σ.env 2,A1 σ.res 4,A1 σ.res 8,A1 σ.res 13 with
 |some (.ptr 4 0),some (.ptr 8 0),some (.ptr 13 0),some (.int .i64 k),some (.row 29 [s4]),some (.row 99 c8),some (.row 24 [s13])=>match C1 (A1 σ.res) (.st 10) (.agg c8),C1 (A1 σ.res) (.sl (.st 5)) s4,C1 (A1 σ.res) (.sl (.st 1)) s13 with
  |some x,some a,some l=>some (.inl (x,a,l,k))
  |_,_,_=>none
 |_,_,_,_,_,_,_=>none
def cs16:List Ck:=[.own (.sl 70 (.st 6)),.d (.int .i64)]
noncomputable def AM8:Gx:={ gxb with fs:=[(40,ctr40),(41,ctr41),(44,ctr44)] }
theorem ALz:GxOk Tryz.prog AM8:=B1 ⟨⟨ok40,Tryz.call40⟩,⟨⟨ok41,Tryz.call41⟩,⟨⟨ok44,Tryz.call44⟩,trivial⟩⟩⟩
noncomputable def AJG:Gx:={ gxb with fs:=[(49,ctr49),(50,ctr50)],fm:=[(48,ctrm48)] }
theorem AGw:GxOk Tryz.prog AJG:=AFH ⟨⟨ok49,Tryz.call49⟩,⟨⟨ok50,Tryz.call50⟩,trivial⟩⟩ trivial ⟨⟨okm48,Tryz.call48⟩,trivial⟩
theorem AVT (d:Desk) (asked:List Asked) (day:Int):V7 AM8 181 (U0 AM8 cs16 Tryz.f16.results.toList) (M4 7 c16) ALx KNp (fun r=>some (.inr r)) ⟨[(0,.str 4 d),(1,.dat (.sl (.st 5)) asked),(2,.int .i64 day)],[],[],[]⟩=AB1 d asked day:=by kernel_rfl
theorem ATU (l:List Letter):exec AJG 181 (U0 AJG cs16 Tryz.f16.results.toList) ATS AKp (U0 AJG cs16 Tryz.f16.results.toList) (fun _ _=>none) some ⟨[(23,.own 23)],[(23,.own false (.sl 70 (.st 6)) l)],[],[]⟩=J3 l:=by kernel_rfl
noncomputable def H0 (d:Desk) (asked:List Asked) (day:Int):Option (List Letter×Int):=Option.bind (AB1 d asked day) fun z=>Sum.elim (fun q=>Option.bind (C5 q.1 q.2.2.2) fun ys=>Option.bind (ABU (AGv q.1 q.2.1 q.2.2.1) fnone ys) fun f=>AAR f fun xs=>Option.bind (List.foldlM AEa [] xs) J3) (fun r=>some r) z
noncomputable def ctr16:Ctr:=⟨[.d (.st 4),.d (.sl (.st 5)),.d (.int .i64)],cs16,fun a=>H0 a.1 a.2.1 a.2.2.1⟩
theorem ok16:Ctr.ok Tryz.prog 16 ctr16:=by
 refine⟨by decide,fun M w a vals r hM hg ha hr=>?_⟩
 obtain⟨d,asked,day,_⟩:=a
 obtain⟨vd,_,rfl,hvd,⟨va,_,rfl,hva,⟨vk,_,rfl,hvk,rfl⟩⟩⟩:=ha
 have hvd:OkD (P:=Tryz.prog) M w (.st 4) d vd:=hvd
 have hva:OkD (P:=Tryz.prog) M w (.sl (.st 5)) asked va:=hva
 have hvk:OkD (P:=Tryz.prog) M w (.int .i64) day vk:=hvk
 have hr:H0 d asked day=some r:=hr
 unfold H0 at hr
 obtain⟨z,hz,hr⟩:=Q7 hr
 have h0:Holds (P:=Tryz.prog) w [] M ⟨[(0,.str 4 d),(1,.dat (.sl (.st 5)) asked),(2,.int .i64 day)],[],[],[]⟩ [(0,vd),(1,va),(2,vk)] w:=by
  refine Holds.start hM (fun t s ht=>?_) ⟨trivial,hg⟩
  rw[fnd_cons] at ht
  split at ht
  . rename_i e;subst e;cases ht;exact⟨vd,rfl,hvd⟩
  rw[fnd_cons] at ht
  split at ht
  . rename_i e;subst e;cases ht;exact⟨va,rfl,rfl,hva⟩
  rw[fnd_cons] at ht
  split at ht
  . rename_i e;subst e;cases ht;exact⟨vk,rfl,D8 (.int .i64) hvk⟩
  . cases ht
 refine ABa (l:=[vd,va,vk]) (fn:=Tryz.f16) Tryz.func16 rfl rfl rfl ?_
 refine ACx (P:=Tryz.prog) (pr:=U0 AM8 cs16 Tryz.f16.results.toList) ALz 7 c16 ALx (by decide) ((AVT d asked day).trans hz) h0 (fun σ' L' w1 hK hE hH=>?_) (fun r' σ' L' w' hp hk hH=>?_)
 rotate_left
 . have hk:Sum.inr r'=z:=Option.some.inj hk
   subst hk
   have hr:some r'=some r:=hr
   cases hr
   exact FinM.of (AKj ALz (by decide) hp hH)
 clear hE h0
 obtain⟨S,ρ,γ,μ,ι,hS⟩:=hH
 obtain⟨c8,s4,s13,x,al,l,k,g4,g8,g13,g2,r4,r8,r13,t8,t4,t13,rfl⟩:∃ c8 s4 s13 x al l k,A1 σ'.env 4=some (.ptr 4 0)/\A1 σ'.env 8=some (.ptr 8 0)/\A1 σ'.env 13=some (.ptr 13 0)/\A1 σ'.env 2=some (.int .i64 k)/\A1 σ'.res 4=some (.row 29 [s4])/\A1 σ'.res 8=some (.row 99 c8)/\A1 σ'.res 13=some (.row 24 [s13])/\C1 (A1 σ'.res) (.st 10) (.agg c8)=some x/\C1 (A1 σ'.res) (.sl (.st 5)) s4=some al/\C1 (A1 σ'.res) (.sl (.st 1)) s13=some l/\z=.inl (x,al,l,k):=by
  unfold KNp at hK
  split at hK
  . rename_i k s4 c8 s13 q1 q2 q3 q4 q5 q6 q7
    split at hK
    . rename_i x a l q8 q9 q10
      exact⟨c8,s4,s13,x,a,l,k,q1,q2,q3,q4,q5,q6,q7,q8,q9,q10,(Option.some.inj hK).symm⟩
    . cases hK
  . cases hK
 have hr:(Option.bind (C5 x k) fun ys=>Option.bind (ABU (AGv x al l) fnone ys) fun f=>AAR f fun xs=>Option.bind (List.foldlM AEa [] xs) J3)=some r:=hr
 obtain⟨ys,hys,hr⟩:=Q7 hr
 obtain⟨f,hf,hr⟩:=Q7 hr
 obtain⟨hok,hdec⟩:(∀ y∈ys,ADQ [.st 2,.st 12] y)/\AFM x k x.desk.disputes=some ys:=by
  unfold C5 at hys
  obtain⟨ys',h1,h2⟩:=Q7 hys
  split at h2
  . rename_i h3;cases h2;exact⟨h3,h1⟩
  . cases h2
 obtain⟨v4,l4,b4,hb4,rfl⟩:=hS.env 4 (.ptr 4 0) g4
 obtain⟨v8,l8,b8,hb8,rfl⟩:=hS.env 8 (.ptr 8 0) g8
 obtain⟨v13,l13,b13,hb13,rfl⟩:=hS.env 13 (.ptr 13 0) g13
 obtain⟨v2,l2,rfl,hkk⟩:=hS.env 2 (.int .i64 k) g2
 obtain⟨b4',e4,row4,o4,i4⟩:=hS.rowAt r4
 obtain⟨b8',e8,row8,o8,i8⟩:=hS.rowAt r8
 obtain⟨b13',e13,row13,o13,i13⟩:=hS.rowAt r13
 rw[hb4] at e4;cases e4
 rw[hb8] at e8;cases e8
 rw[hb13] at e13;cases e13
 have memM:∀ b∈M,b∈mm S M:=fun b hb=>mem_mm.2 (.inr hb)
 have one:∀ {s:SV} {vs:List Value} {t:Ty} {y:List (den t)},OkL (P:=Tryz.prog) ρ (A1 σ'.res) (mm S M) w1 [s] vs->C1 (A1 σ'.res) (.sl t) s=some y->∃ u,vs=[u]/\OkD (P:=Tryz.prog) M w1 (.sl t) y u/\u.cells=List.toArray vs:=fun {s vs t y} h ht=>by
  obtain⟨u,c,q,rfl,hu,hc,hq⟩:=h
  have hq:q=[]:=hq
  subst hq
  have hd:=G9 (M:=mm S M) memM (.sl t) s (hS.rdsM _) ht hu
  obtain⟨sa,n,hsl,_⟩:=(OkD.rds hd).shape
  have:c=[u]:=by
   subst hsl
   exact (congrArg Array.toList hc).symm
  subst this
  exact⟨u,rfl,hd,hc⟩
 have d8:Ok (P:=Tryz.prog) (fun _=>undef) (fun _=>none) M w1 (.rp (.str 10 x) 0) (.pointer (some ⟨b8,0,none⟩)):=⟨b8,0,.agg (List.toArray (γ 8)),γ 8,rfl,G5 (hS.hp.sepM _ (List.mem_of_getElem? i8) b8 (List.mem_singleton.2 rfl)) row8,G9 (M:=mm S M) memM (.st 10) (.agg c8) (hS.rdsM _) t8 ⟨γ 8,rfl,o8⟩,rfl⟩
 obtain⟨u4,eu4,du4,cu4⟩:=one o4 t4
 obtain⟨u13,eu13,du13,cu13⟩:=one o13 t13
 have d4:Ok (P:=Tryz.prog) (fun _=>undef) (fun _=>none) M w1 (.rp (.dat (.sl (.st 5)) al) 0) (.pointer (some ⟨b4,0,none⟩)):=⟨b4,0,u4,γ 4,rfl,G5 (hS.hp.sepM _ (List.mem_of_getElem? i4) b4 (List.mem_singleton.2 rfl)) row4,⟨rfl,du4⟩,cu4⟩
 have d13:Ok (P:=Tryz.prog) (fun _=>undef) (fun _=>none) M w1 (.rp (.dat (.sl (.st 1)) l) 0) (.pointer (some ⟨b13,0,none⟩)):=⟨b13,0,u13,γ 13,rfl,G5 (hS.hp.sepM _ (List.mem_of_getElem? i13) b13 (List.mem_singleton.2 rfl)) row13,⟨rfl,du13⟩,cu13⟩
 have hI1:Hp w [] M [] w1:=hS.hp.sel [] rfl
 have hg1:GlOk (P:=Tryz.prog) M w1:=hS.anch.2.adv (Adv.drop memM)
 clear one hK hS g4 g8 g13 g2 r4 r8 r13 t8 t4 t13 row4 row8 row13 o4 o8 o13 i4 i8 i13 hb4 hb8 hb13 eu4 eu13 cu4 cu13
 refine A6 ?_
 refine A9 ?_
 refine APz K116 (B3 .i64) false hI1 rfl ?_
 intro bd w2 hI2 x2
 refine ACY hI2 Tryz.zeroValue106 rfl rfl ?_
 intro b14 w3 hI3 x3
 refine ABJ 0 (vs:=[.map (some bd)]) hI3 rfl rfl rfl rfl Tryz.sizeOf106 rfl rfl (C7 rfl ACT) ?_
 intro w4 hI4 x4
 have hI4:Hp w [] M (rowR 106 b14 [.map (some bd)] :: MP bd fnone) w4:=hI4
 refine Reg.nil ?_
 have h14:RdC (bd :: M) w4 b14 0 [.map (some bd)]:=hI4.freezeRow 0 rfl
 have hI5:Hp w [] M (MP bd fnone) w4:=hI4.erase 0
 have hA5:Adv M (bd :: M) w1 w4:=x2.trans (x3.trans (x4.trans (F3 (σ:=rowR 106 b14 [.map (some bd)] :: MP bd fnone) 0)))
 have hD5:D16 (bd :: M) w4 x al l (.pointer (some ⟨b8,0,none⟩)) (.pointer (some ⟨b4,0,none⟩)) (.pointer (some ⟨b13,0,none⟩)) b14 bd:=⟨hg1.adv hA5,Ok.adv hA5 _ d8,Ok.adv hA5 _ d4,Ok.adv hA5 _ d13,h14⟩
 have hx8:=hD5.h8
 obtain⟨b8',o8,u8,vs8,hp8,c8',hu8,hc8⟩:=hx8
 obtain⟨cs8,hR8,hcs8⟩:=hu8
 obtain rfl:u8=.agg (List.toArray cs8):=hcs8.elim (fun h=>h.2) fun h=>by cases h.1
 obtain rfl:cs8=vs8:=congrArg Array.toList hc8
 cases hp8
 refine A6 ?_
 refine A6 ?_
 refine A9 ?_
 refine AA3 l8 c8'.cells Tryz.isAgg99 ((enc (P:=Tryz.prog) (.st 10)).len hR8) Tryz.sizeOf99 rfl ?_
 refine H7 l2 rfl ?_
 refine W8 rfl Tryz.call45 rfl ?_
 refine (C45 hI5.mlt ⟨cs8,hR8,.inl ⟨rfl,rfl⟩⟩ hkk).mono ?_
 rintro _ w5 ⟨p1,p2,rfl,hp1,hp2,x5⟩
 refine⟨_,rfl,?_⟩
 refine Reg.nil ?_
 refine F9 ?_
 have hA6:Adv (bd :: M) (bd :: M) w4 w5:=Adv.of_ext x5
 refine ARe (w:=w) (wl:=w5) (f:=fnone) (f':=f) (Nat.lt_of_lt_of_le (hI5.mlt bd (List.mem_cons_self ..)) x5.size) (hI5.ext x5) (hD5.adv hA6) hp1 hp2 l4 l8 l13 rfl rfl hdec hok hf fun D W hDw hI7 hA7 hdef=>?_
 refine A6 ?_
 refine A9 ?_
 refine F5 rfl rfl ?_
 refine Reg.nil ?_
 have hDwM:w.heap.size<=D:=Nat.le_trans (Nat.le_trans hI5.kp.size x5.size) hDw
 have hDk:Dok D M W:=⟨fun hm=>by have:=hM D hm;omega,hdef⟩
 have h14W:RdC M W b14 0 [.map (some bd)]:=(h14.adv (hA6.trans hA7)).adv (Adv.drop fun b hb=>List.mem_cons_of_mem _ hb)
 have hm:=hI7.freezeM 0 rfl
 have hI8:Hp w [] M [ownR [] LetterE 70 (.slice none 0 0) []] W:=(hI7.erase 0).addNil LetterE 70
 have hg8:GlOk (P:=Tryz.prog) M W:=(hg1.adv (hA5.trans (hA6.trans hA7))).adv (Adv.drop fun b hb=>List.mem_cons_of_mem _ hb)
 refine A6 ?_
 refine ATT (f:=f) hI8 hm h14W hDk hr rfl rfl fun L9 W9 v9 ls hls hI9 l23 hA9 hDk9=>?_
 letI:Anch:=AHd D
 have hst:Holds (P:=Tryz.prog) w [] M ⟨[(23,.own 23)],[(23,.own false (.sl 70 (.st 6)) ls)],[],[]⟩ L9 W9:=by
  refine⟨[ownR [] LetterE 70 v9 ls],fun _=>v9,fun _=>[],fun _=>[],fun _=>0,hI9,fun i a hi=>?_,fun i j a b hi hj _=>?_,fun i a hi=>?_,fun t s ht=>?_,hDk9,hg8.adv hA9⟩
  . rw[fnd_cons] at hi
    split at hi
    . rename_i e;subst e;cases hi;rfl
    . cases hi
  . rw[fnd_cons] at hi hj
    split at hi <;> split at hj
    . rename_i e1 e2;rw[<-e1,<-e2]
    . cases hj
    . cases hi
    . cases hi
  . rw[fnd_cons] at hi
    split at hi
    . rename_i e;subst e;cases hi;trivial
    . cases hi
  . rw[fnd_cons] at ht
    split at ht
    . rename_i e;subst e;cases ht;exact⟨v9,l23,rfl,Own.cells1 (hI9.ownAt 0 rfl),Own.oneC (hI9.ownAt 0 rfl)⟩
    . cases ht
 exact AAI (n:=3) (ACs (H5 AGw ATS AKp _ _ _ _ _ _ _ _ _ _ _ _ _ ((ATU ls).trans hls) hst (fun σ2 L2 w2 h2 _ _ hH2=>AFy (fun h=>h) AGw (by decide) rfl hDwM h2 hH2) (fun i σ2 L2 w2 h2=>by cases h2) (fun r' σ2 L2 w2 hp hk _ hH2=>by
  have hk:r'=r:=Option.some.inj hk
  subst hk
  exact AFy (fun h=>h) AGw (by decide) rfl hDwM hp hH2) PZ.no))
end Go.Proofs.YtgioiejbphljoaaGreatDoor
set_option maxRecDepth 20000
set_option maxHeartbeats 4000000
namespace Go.Proofs.YtgioiejbphljoaaGreatDoor
open Go Go.Sx Go.Rx Go.RowKit
noncomputable def P5 (d:Desk) (day:Int):Option ((List Report)×Int):=Option.bind (H4 d day) fun (r1,r2)=>cond ((!decide (r2=0))) (some (([]:(List Report)),r2)) (Option.bind (E6 r1 day) fun (r3,r4)=>some (r3,r4))
def AWt:An:=.x
noncomputable def ctr14:Ctr:=⟨[.d (.st 4),.d (.int .i64)],[.own (.sl 45 (.st 1)),.d (.int .i64)],fun a=>P5 a.1 a.2.1⟩
theorem ok14:Ctr.ok Tryz.prog 14 ctr14:=B0 (G:={ gxb with fs:=[(40,ctr40),(41,ctr41)] }) (an:=AWt) (B1 ⟨⟨ok40,Tryz.call40⟩,⟨⟨ok41,Tryz.call41⟩,trivial⟩⟩) Tryz.func14 rfl rfl rfl rfl (fun a=>by kernel_rfl)
end Go.Proofs.YtgioiejbphljoaaGreatDoor
set_option maxRecDepth 20000
namespace Go.Proofs.YtgioiejbphljoaaGreatDoor
open Go Go.Sx Go.Rx Go.RowKit
noncomputable def D0:Desk:=Desk.mk (Terms.mk 30 100 60) ([(Report.mk 1 70 5 12 10 3 500 0),(Report.mk 2 70 5 22 20 5 40 0),(Report.mk 3 70 5 26 25 6 500 0)]) ([(Dispute.mk 51 1 40),(Dispute.mk 52 2 41),(Dispute.mk 53 3 42)]) ([(Answer.mk 1 51 50 2 10 450),(Answer.mk 2 52 72 3 0 0),(Answer.mk 3 53 60 1 0 0),(Answer.mk 4 53 61 3 0 0)])
noncomputable def A0:List Asked:=[(Asked.mk 5 900 5 15),(Asked.mk 6 900 5 45),(Asked.mk 7 901 5 55),(Asked.mk 8 902 6 45)]
noncomputable def l33:List Report:=D0.reports++[Report.mk 51 70 5 50 10 8 450 1,Report.mk 52 70 5 72 0 9 0 2]
def AKs:Prop:=∃ l x due,P5 D0 72=some (l,0)/\H0 D0 A0 72=some (x,0)/\Q5 D0 45=some (due,0)/\AAK 51 49 1 50=some true/\AAK 52 72 5 72=some true/\AAK 53 90 2 60=some true/\O5 3 160 2=some true/\O5 3 161 0=some true/\O5 3 50 1=some true /\
 P7 l l33=some true/\P8 x [Letter.mk 51 900 5,Letter.mk 52 900 6,Letter.mk 52 901 7]=some true/\V9 due [51,52,53]=some true
open Classical in
noncomputable def J9:Option Bool:=if AKs then some true else none
noncomputable def ctr21:Ctr:=⟨[],[.d .bool],fun _=>J9⟩
end Go.Proofs.YtgioiejbphljoaaGreatDoor
set_option maxRecDepth 20000
set_option maxHeartbeats 1000000
namespace Go.Proofs.YtgioiejbphljoaaGreatDoor
open Go Go.Sx Go.Rx Go.RowKit
theorem AL0:GxOk Tryz.prog gxb:=B1 trivial
theorem C33 {M:List Nat} {w:World} (hM:MLt M w) (hg:GlOk (P:=Tryz.prog) M w):Calls Tryz.prog 33 #[] w fun e w'=>∃ vr vx va,e=.returned (.agg (List.toArray [.int .i64 30,.int .i64 100,.int .i64 60,vr,vx,va]))/\Sx.Own (enc (P:=Tryz.prog) (.st 1)) 45 0 (ob vr++M) w' vr D0.reports/\(∀ b∈ob vr,w.heap.size<=b)/\Ext w w':=by
 have h0:Holds (P:=Tryz.prog) w [] M ⟨[],[],[],[]⟩ (Q6 0 []) w:=Holds.start hM (fun t s ht=>by cases ht) ⟨trivial,hg⟩
 refine ABa (l:=[]) (fn:=Tryz.f33) Tryz.func33 rfl rfl rfl ?_
 refine A6 ?_
 refine AA1 AL0 (by exact rfl) h0 fun L1 w1 hE1 h1=>?_
 refine A6 ?_
 refine AA1 AL0 (by exact rfl) h1 fun L2 w2 hE2 h2=>?_
 have h3:=AEW (env':=[(0,.ptr 0 0)]) (res':=[(14,.own false (.sl 60 (.st 3)) D0.answers),(9,.own false (.sl 53 (.st 2)) D0.disputes),(5,.own false (.sl 45 (.st 1)) D0.reports),(0,.row 28 [.int .i64 30,.int .i64 100,.int .i64 60,.own 5,.own 9,.own 14])]) h2 ⟨rfl,trivial⟩ fun _=>rfl
 clear h1 h2
 obtain⟨S,ρ,γ,μ,ι,hS⟩:=h3
 obtain⟨v0,l0,bb0,hb0,rfl⟩:=hS.env 0 (.ptr 0 0) rfl
 obtain⟨b0,e0,r0,o0,i0⟩:=hS.rowAt (i:=0) (e:=28) (l:=[.int .i64 30,.int .i64 100,.int .i64 60,.own 5,.own 9,.own 14]) rfl
 rw[hb0] at e0;cases e0
 obtain⟨qa,g4,k0,oa⟩:=AAJ o0
 obtain⟨qb,ea,k1,ob⟩:=AAJ oa
 obtain⟨qc,eb,k2,oc⟩:=AAJ ob
 obtain⟨qd,ec,od⟩:=ACS oc
 obtain⟨qe,ed,oe⟩:=ACS od
 obtain⟨qf,ee,of⟩:=ACS oe
 have of:qf=[]:=of
 rw[of] at ee
 rw[ee] at ed
 rw[ed] at ec
 rw[ec] at eb
 rw[eb] at ea
 rw[ea] at g4
 rw[g4] at r0
 have i5:=hS.res 5 (.own false (.sl 45 (.st 1)) D0.reports) rfl
 refine I8 ?_
 have ho:=AJq (P:=Tryz.prog) (c:=.sl 45 (.st 1)) (x:=D0.reports) (v:=ρ 5) hS.hp (ι 5) i5
 exact FinM.of (N1 (rs:=[.cell 0 28]) (vs:=[_]) rfl (.cons (.agg l0 r0.rd.cells Tryz.isAgg28 rfl Tryz.sizeOf28) .nil) rfl ⟨ρ 5,ρ 9,ρ 14,rfl,ho.1,ho.2,hS.hp.kp⟩)
noncomputable def AKt:Gx:={ gxb with fs:=[(14,ctr14),(16,ctr16),(18,ctr18),(19,ctr19),(24,ctr24),(31,ctr31),(32,ctr32),(33,ctr33),(37,ctr37),(54,ctr54)] }
theorem H6:GxOk Tryz.prog AKt:=B1 ⟨⟨ok14,Tryz.call14⟩,⟨⟨ok16,Tryz.call16⟩,⟨⟨ok18,Tryz.call18⟩,⟨⟨ok19,Tryz.call19⟩,⟨⟨ok24,Tryz.call24⟩,⟨⟨ok31,Tryz.call31⟩,⟨⟨ok32,Tryz.call32⟩,⟨⟨ok33,Tryz.call33⟩,⟨⟨ok37,Tryz.call37⟩,⟨⟨ok54,Tryz.call54⟩,trivial⟩⟩⟩⟩⟩⟩⟩⟩⟩⟩
def AM9:Code->Nat->List Oper
 |.region _ o _,0=>o.toList
 |.seq a _,0=>AM9 a 0
 |.seq _ b,n+1=>AM9 b n
 |_,_=>[]
noncomputable def c21:Code:=match Tryz.f21.body with
 |some c=>c
 |none=>.skip
noncomputable def o21:List Oper:=AM9 c21 4
theorem G8 [Trk] [Sg] [Sf] {P:Program} [Se P] [Sl (P:=P)] [Anch] {w0 w:World} {Mu M:List Nat} {L:A7} {G:Gx} {N:Nat} {ds:List Deferred} {A B:A4} {X:Nat->A4} {Z:List PanicEntry->A4} {all l:List Oper} {σ σ':AS} {Y:Type} {o:Option Y} {x:Y} {K:Y->Option AS} (hG:GxOk P G) (n:Nat) (hH:Holds (P:=P) w0 Mu M σ L w) (hb:o=some x) (h:C4 G N all some (l.take n) σ=Option.bind o K) (hk:K x=some σ') (hA:∀ L' w',EnvS (C2 (l.take n)) L L'->Holds (P:=P) w0 Mu M σ' L' w'->Reg P N (List.toArray all) .seq (l.drop n) ds L' w' A B X Z):Reg P N (List.toArray all) .seq l ds L w A B X Z:=by
 have:=Holds.ops (P:=P) (A:=A) (B:=B) (X:=X) (Z:=Z) (ds:=ds) (l:=l.take n) (rest:=l.drop n) hG (by rw[h,hb];exact hk) hH hA
 rwa [List.take_append_drop] at this
noncomputable def r33:List Report:=[Report.mk 51 70 5 50 10 8 450 1,Report.mk 52 70 5 72 0 9 0 2]
noncomputable def s33 (σ:AS) (l:List Report):AS:=apps (some 50) ([.del 49 (.dat (.sl (.st 1)) r33)]++[.hnd 46 (.own false (.sl 45 (.st 1)) l),.put (.own 46)]) { σ with env:=(43,.bool true) :: σ.env }
theorem AVU {M:List Nat} {w0 w:World} {L:A7} {σ:AS} (_:Holds (P:=Tryz.prog) w0 [] M σ L w) (e:C4 AKt Tryz.f21.ntmps o21 some (List.take 1 (List.drop 27 o21)) σ=AD9 AKt 50 (A1 σ.res) (fun l=>some (apps (some 50) l { σ with env:=(43,.bool true) :: σ.env })) .append [.own 46,.own 49] [24,24])
 (e2:AD9 AKt 50 (A1 σ.res) (fun l=>some (apps (some 50) l { σ with env:=(43,.bool true) :: σ.env })) .append [.own 46,.own 49] [24,24]=AMN 50 (A1 σ.res) (fun l=>some (apps (some 50) l { σ with env:=(43,.bool true) :: σ.env })) 45 (.st 1) 64 [.del 49 (.dat (.sl (.st 1)) r33)] [49] r33 (.own 46)) (e3:A1 σ.res 46=some (AR.own false (.sl 45 (.st 1)) D0.reports)) :
 C4 AKt Tryz.f21.ntmps o21 some (List.take 1 (List.drop 27 o21)) σ=Option.bind (appo 64 D0.reports r33) fun l=>some (s33 σ l):=by
 rw[e,e2]
 unfold AMN
 dsimp only
 rw[e3]
 kernel_rfl
theorem ALA [Trk] [Sg] [Sf] {P:Program} [Se P] [Anch] {w0 w:World} {Mu M:List Nat} {L:A7} {σ:AS} {env':List (Nat×SV)} {res':List (Nat×AR)} (h:Holds (P:=P) w0 Mu M σ L w) (hE:AllE σ.env env') (hr:σ.res=res'):Holds (P:=P) w0 Mu M ⟨env',res',[],[]⟩ L w:=AEW h hE fun j=>by rw[hr]
theorem ok21:Ctr.ok Tryz.prog 21 ctr21:=by
 refine⟨by decide,fun M w a vals r hM hg ha hr=>?_⟩
 have ha:vals=[]:=ha
 subst ha
 have hr:J9=some r:=hr
 unfold J9 at hr
 by_cases hA:AKs
 rotate_left
 . rw[if_neg hA] at hr;cases hr
 rw[if_pos hA] at hr
 cases hr
 obtain⟨l,x,due,a1,a2,a3,b1,b2,b3,b4,b5,b6,e1,e2,e3⟩:=hA
 have h0:Holds (P:=Tryz.prog) w [] M ⟨[],[],[],[]⟩ (Q6 0 []) w:=Holds.start hM (fun t s ht=>by cases ht) ⟨trivial,hg⟩
 refine ABa (l:=[]) (fn:=Tryz.f21) Tryz.func21 rfl rfl rfl ?_
 refine A6 ?_
 refine AA1 H6 (by exact rfl) h0 fun L1 w1 hE1 h1=>?_
 refine A6 ?_
 refine ABE H6 h1 a1 (by exact rfl) (by exact rfl) fun L2 w2 hE2 h2=>?_
 refine A6 ?_
 refine ABE H6 h2 a2 (by exact rfl) (by exact rfl) fun L3 w3 hE3 h3=>?_
 refine A6 ?_
 refine ABE H6 h3 a3 (by exact rfl) (by exact rfl) fun L4 w4 hE4 h4=>?_
 refine A6 ?_
 refine A9 ?_
 show Reg Tryz.prog _ (List.toArray o21) .seq o21 _ _ _ _ _ _ _
 refine G8 H6 2 h4 b1 (by exact rfl) (by exact rfl) fun L5 w5 hE5 h5=>?_
 refine G8 H6 3 h5 b2 (by exact rfl) (by exact rfl) fun L6 w6 hE6 h6=>?_
 refine G8 H6 3 h6 b3 (by exact rfl) (by exact rfl) fun L7 w7 hE7 h7=>?_
 refine G8 H6 3 h7 b4 (by exact rfl) (by exact rfl) fun L8 w8 hE8 h8=>?_
 refine G8 H6 3 h8 b5 (by exact rfl) (by exact rfl) fun L9 w9 hE9 h9=>?_
 refine G8 H6 3 h9 b6 (by exact rfl) (by exact rfl) fun L10 w10 hE10 h10=>?_
 refine G8 H6 5 h10 (o:=some ()) (x:=()) (K:=fun _=>_) rfl (by exact rfl) (by exact rfl) fun L11 w11 hE11 h11=>?_
 have hg43:=h11.slotB (t:=43) (b:=true) rfl
 obtain⟨S,ρ,γ,μ,ι,hS⟩:=h11
 refine Reg.take (j:=20) (t:=43) rfl hg43 ?_
 refine W8 (xs:=[]) (vs:=[]) rfl Tryz.call33 rfl ?_
 refine (C33 (M:=mm S M) hS.hp.mlt hS.anch.2).mono fun e w12 h=>?_
 obtain⟨vr,vx,va,rfl,hown,hnew,hext⟩:=h
 refine⟨_,rfl,?_⟩
 refine Reg.take (j:=20) (t:=43) rfl hg43 ?_
 refine ARn (cs:=[.int .i64 30,.int .i64 100,.int .i64 60,vr,vx,va]) rfl Tryz.underlying28 rfl Tryz.isAgg24 rfl rfl ?_
 obtain⟨q1,q2⟩:=AH8 (d:=none) hS hext (i:=46) (c:=.sl 45 (.st 1)) (x:=D0.reports) (v:=vr) ⟨trivial,hown,hnew⟩
 have h12:Holds (P:=Tryz.prog) w [] M _ _ w12:=⟨_,_,_,_,_,q1.put (d:=46) (s:=.own 46) (v:=vr) (q2 _)⟩
 have h13:=h12.toL (L2:=(46,vr) :: (45,.agg (List.toArray [.int .i64 30,.int .i64 100,.int .i64 60,vr,vx,va])) :: L11) (fun t s ht=>by
  have n45:¬ 45=t:=fun e=>by
   subst e
   cases (show none=some s from ht)
  by_cases e46:46=t
  . rw[look_cons,if_pos e46,look_cons,if_pos e46]
  . rw[look_cons,if_neg e46,look_cons,if_neg n45,look_cons,if_neg e46])
 have happ:appo 64 D0.reports r33=some l33:=ACM (by decide) (by decide)
 refine G8 H6 3 h13 (o:=some ()) (x:=()) (K:=fun _=>_) rfl (by exact rfl) (by exact rfl) fun L13 w13 hE13 h14=>?_
 refine G8 H6 1 h14 happ (AVU h14 (by exact rfl) (by exact rfl) (by exact rfl)) rfl fun L14 w14 hE14 h15=>?_
 have h16:=ALA (env':=[(43,.bool true),(44,.own 9),(50,.own 46),(3,.own 15),(4,.int .i64 0),(5,.own 20),(6,.int .i64 0)]) (res':=[(46,.own false (.sl 45 (.st 1)) l33),(20,.own false (.sl 3 (.int .i64)) due),(15,.own false (.sl 70 (.st 6)) x),(9,.own false (.sl 45 (.st 1)) l)]) h15 ⟨by kernel_rfl,by kernel_rfl,by kernel_rfl,by kernel_rfl,by kernel_rfl,by kernel_rfl,by kernel_rfl,trivial⟩ (by kernel_rfl)
 clear h1 h2 h3 h4 h5 h6 h7 h8 h9 h10 h12 h13 h14 h15 q1 q2
 refine G8 H6 1 h16 e1 (by exact rfl) (by exact rfl) fun L17 w17 hE17 h17=>?_
 refine G8 H6 12 h17 e2 (by exact rfl) (by exact rfl) fun L18 w18 hE18 h18=>?_
 refine G8 H6 9 h18 e3 (by exact rfl) (by exact rfl) fun L19 w19 hE19 h19=>?_
 refine G8 H6 2 h19 (o:=some ()) (x:=()) (K:=fun _=>_) rfl (by exact rfl) (by exact rfl) fun L20 w20 hE20 h20=>?_
 refine Reg.nil ?_
 refine I8 ?_
 exact FinM.of (AKj H6 (cs:=[.d .bool]) rfl (by exact rfl) h20)
end Go.Proofs.YtgioiejbphljoaaGreatDoor
set_option maxRecDepth 20000
set_option maxHeartbeats 4000000
namespace Go.Proofs.YtgioiejbphljoaaGreatDoor
open Go Go.Sx Go.Rx Go.RowKit
noncomputable def S9 (d:Desk) (day:Int) (which:Int):Option Bool:=Option.bind (J9) fun r1=>Option.bind (α:=(Bool)) (Option.bind (X4 d day) fun r3=>cond ((!r3)) (some true) (cond (decide ((d.disputes.length:Int)=0)) (some true) (some (!r1)))) ((fun x4=>cond (x4) (some r1) (Option.bind (chk .i64 which) fun n5=>Option.bind (remO n5 (d.disputes.length:Int)) fun n6=>Option.bind (ixo d.disputes n6) fun y7=>Option.bind (N4 d y7.id day) fun (r8,r9,r10)=>Option.bind (Q5 d day) fun (r11,r12)=>Option.bind (α:=(Bool)) (cond ((!decide (r10=0))) (some true) (cond ((!decide (r12=0))) (some true) (cond (decide (r9 < y7.day)) (some true) (Option.bind (chk .i64 (y7.day+d.terms.answer)) fun n15=>Option.bind (chk .i64 (n15+1)) fun n16=>some (decide (n16 < r9)))))) ((fun x17=>cond (x17) (some false) (Option.bind (B9 (S:=(Bool×Int)) (R:=(Bool)) (fun (x23,x24)=>cond (decide (x24 < (r11.length:Int))) (Option.bind (ixo r11 x24) fun y25=>Option.bind (α:=(Bool)) (cond (x23) (some true) (some (decide (y25=y7.id)))) ((fun x26=>Option.bind (chk .i64 (x24+1)) fun n27=>some (Sum.inl (x26,n27))))) (some (Sum.inr x23))) (false,(0:Int))) ((fun x28=>Option.bind (α:=(Bool)) (cond ((!(x28==(decide (r8=1))))) (some true) (cond ((!((decide (r8=0))==(decide (day < y7.day))))) (some true) (cond ((!((decide (1 < r8))==(decide (r9<=day))))) (some true) (some (decide (5 < r8)))))) ((fun x29=>cond (x29) (some false) (Option.bind (B9 (S:=(Int×Int)) (R:=((Int)⊕Bool)) (fun (x46,x47)=>cond (decide (x46 < (d.answers.length:Int))) (Option.bind (α:=((Int)⊕Bool)) (Option.bind (ixo d.answers x46) fun y48=>Option.bind (α:=(Bool)) (cond ((!decide (y48.dispute=y7.id))) (some true) (cond (decide (y48.day < y7.day)) (some true) (Option.bind (chk .i64 (y7.day+d.terms.answer)) fun n49=>some (decide (n49 < y48.day))))) ((fun x50=>cond (x50) (some (Sum.inl x47)) (cond (decide (y48.day < r9)) (some (Sum.inr false)) (Option.bind (α:=(Bool)) (cond (decide (y48.day=r9)) (some (decide (x47=0))) (some false)) ((fun x51=>Option.bind (α:=(Int)) (cond (x51) (some y48.says) (some x47)) ((fun x52=>some (Sum.inl x52)))))))))) ((Sum.elim (fun x53=>Option.bind (chk .i64 (x46+1)) fun n54=>some (Sum.inl (n54,x53))) (fun r55=>some (Sum.inr (Sum.inr r55)))))) (some (Sum.inr (Sum.inl x47)))) ((0:Int),(0:Int))) ((Sum.elim (fun x56=>Option.bind (chk .i64 (y7.day+d.terms.answer)) fun n57=>Option.bind (chk .i64 (n57+1)) fun n58=>cond ((!((decide (x56=0))==(decide (r9=n58))))) (some false) (Option.bind (α:=(Bool)) (cond (r1) (cond (decide (r8<=1)) (some true) (some ((decide (x56=0))==(decide (r8=5))))) (some false)) ((fun x59=>some x59)))) (fun r60=>some r60))))))))))))))
def an4:An:=.nd (.x) (.nd (.x) (.nd (.nd (.jn [.norm ⟨[(.slot 34,.d .bool)],[3]⟩] (.x)) (.x)) (.nd (.x) (.nd (.x) (.nd (.x) (.nd (.nd (.jn [.norm ⟨[(.slot 83,.d .bool)],[58,8,3]⟩] (.x)) (.x)) (.nd (.x) (.nd (.nd (.x) (.lp ⟨[(.slot 14,.d .bool),(.slot 86,.d (.int .i64))],[58,8,3]⟩ [.exit 0 ⟨[(.slot 14,.d .bool)],[8,3]⟩] (.nd (.x) (.nd (.x) (.nd (.nd (.x) (.jn [.norm ⟨[(.slot 14,.d .bool)],[58,8,3]⟩] (.x))) (.x)))))) (.nd (.nd (.jn [.norm ⟨[(.slot 122,.d .bool)],[8,3]⟩] (.x)) (.x)) (.nd (.x) (.nd (.nd (.x) (.lp ⟨[(.slot 126,.d (.int .i64)),(.slot 17,.d (.int .u8))],[8,3]⟩ [.exit 2 ⟨[(.slot 17,.d (.int .u8))],[8,3]⟩,.ret] (.nd (.x) (.nd (.x) (.nd (.jn [.norm ⟨[(.slot 17,.d (.int .u8))],[8,3]⟩,.ret] (.nd (.x) (.nd (.nd (.jn [.norm ⟨[(.slot 152,.d .bool)],[19,8,3]⟩] (.x)) (.x)) (.nd (.x) (.nd (.jn [.norm ⟨[(.slot 164,.d .bool)],[19,8,3]⟩] (.x)) (.jn [.norm ⟨[(.slot 17,.d (.int .u8))],[8,3]⟩] (.x))))))) (.x)))))) (.nd (.x) (.nd (.jn [.norm ⟨[(.slot 6,.d .bool)],[]⟩] (.x)) (.x))))))))))))))
noncomputable def AWu:Ctr:=⟨[.d (.st 4),.d (.int .i64),.d (.int .u8)],[.d .bool],fun a=>S9 a.1 a.2.1 a.2.2.1⟩
theorem ok4:Ctr.ok Tryz.prog 4 AWu:=B0 (G:={ gxb with fs:=[(21,ctr21),(22,ctr22),(23,ctr23),(24,ctr24)] }) (an:=an4) (B1 ⟨⟨ok21,Tryz.call21⟩,⟨⟨ok22,Tryz.call22⟩,⟨⟨ok23,Tryz.call23⟩,⟨⟨ok24,Tryz.call24⟩,trivial⟩⟩⟩⟩) Tryz.func4 rfl rfl rfl rfl (fun a=>by kernel_rfl)
noncomputable def W7 (d:Desk) (day:Int) (which:Int):Option Bool:=Option.bind (J9) fun r1=>Option.bind (α:=(Bool)) (Option.bind (X4 d day) fun r3=>cond ((!r3)) (some true) (cond (decide ((d.reports.length:Int)=0)) (some true) (some (!r1)))) ((fun x4=>cond (x4) (some r1) (Option.bind (chk .i64 which) fun n5=>Option.bind (remO n5 (d.reports.length:Int)) fun n6=>Option.bind (ixo d.reports n6) fun y7=>Option.bind (U3 d y7.id day) fun (r8,r9)=>cond (decide (7 < y7.kind)) (Option.bind (α:=(Bool)) (cond (r1) (some (decide (r9=6))) (some false)) ((fun x10=>some x10))) (cond ((!decide (r9=0))) (some false) (Option.bind (B9 (S:=(Bool×Bool×Int)) (R:=((Bool×Bool)⊕Bool)) (fun (x33,x34,x35)=>cond (decide (x35 < (d.disputes.length:Int))) (Option.bind (α:=((Bool×Bool)⊕Bool)) (Option.bind (ixo d.disputes x35) fun y36=>cond ((!decide (y36.report=y7.id))) (some (Sum.inl (x33,x34))) (Option.bind (N4 d y36.id day) fun (r37,r38,r39)=>cond ((!decide (r39=0))) (some (Sum.inr false)) (Option.bind (α:=(Bool)) (cond (x33) (some true) (some (decide (r37=1)))) ((fun x40=>Option.bind (α:=(Bool)) (cond (x34) (some true) (cond (decide (r37=2)) (Option.bind (chk .i64 (r38+d.terms.mark)) fun n41=>some (decide (day<=n41))) (some false))) ((fun x42=>some (Sum.inl (x40,x42))))))))) ((Sum.elim (fun (x43,x44)=>Option.bind (chk .i64 (x35+1)) fun n45=>some (Sum.inl (x43,x44,n45))) (fun r46=>some (Sum.inr (Sum.inr r46)))))) (some (Sum.inr (Sum.inl (x33,x34))))) (false,false,(0:Int))) ((Sum.elim (fun (x47,x48)=>cond (decide (r8=1)) (Option.bind (α:=(Bool)) (cond (r1) (some x47) (some false)) ((fun x49=>some x49))) (cond (decide (r8=2)) (Option.bind (α:=(Bool)) (cond (r1) (cond (x48) (some (!x47)) (some false)) (some false)) ((fun x50=>some x50))) (Option.bind (α:=(Bool)) (cond (r1) (cond (decide (r8=0)) (cond ((!x47)) (some (!x48)) (some false)) (some false)) (some false)) ((fun x51=>some x51))))) (fun r52=>some r52))))))))
def an7:An:=.nd (.x) (.nd (.x) (.nd (.nd (.jn [.norm ⟨[(.slot 32,.d .bool)],[3]⟩] (.x)) (.x)) (.nd (.x) (.nd (.x) (.nd (.nd (.x) (.nd (.nd (.jn [.norm ⟨[(.slot 6,.d .bool)],[]⟩] (.x)) (.x)) (.x))) (.nd (.x) (.nd (.x) (.nd (.nd (.x) (.lp ⟨[(.slot 11,.d .bool),(.slot 12,.d .bool),(.slot 65,.d (.int .i64))],[8,3]⟩ [.exit 0 ⟨[(.slot 11,.d .bool),(.slot 12,.d .bool)],[]⟩,.ret] (.nd (.x) (.nd (.x) (.nd (.jn [.norm ⟨[(.slot 11,.d .bool),(.slot 12,.d .bool)],[8,3]⟩,.ret] (.nd (.x) (.nd (.x) (.nd (.x) (.nd (.x) (.nd (.jn [.norm ⟨[(.slot 11,.d .bool)],[8,3]⟩] (.x)) (.jn [.norm ⟨[(.slot 12,.d .bool)],[8,3]⟩] (.x)))))))) (.x)))))) (.nd (.nd (.x) (.nd (.x) (.nd (.nd (.jn [.norm ⟨[(.slot 6,.d .bool)],[]⟩] (.x)) (.x)) (.nd (.x) (.nd (.nd (.jn [.norm ⟨[(.slot 6,.d .bool)],[]⟩] (.x)) (.x)) (.x)))))) (.nd (.jn [.norm ⟨[(.slot 6,.d .bool)],[]⟩] (.x)) (.x)))))))))))
noncomputable def AWv:Ctr:=⟨[.d (.st 4),.d (.int .i64),.d (.int .u8)],[.d .bool],fun a=>W7 a.1 a.2.1 a.2.2.1⟩
theorem ok7:Ctr.ok Tryz.prog 7 AWv:=B0 (G:={ gxb with fs:=[(21,ctr21),(22,ctr22),(23,ctr23),(28,ctr28)] }) (an:=an7) (B1 ⟨⟨ok21,Tryz.call21⟩,⟨⟨ok22,Tryz.call22⟩,⟨⟨ok23,Tryz.call23⟩,⟨⟨ok28,Tryz.call28⟩,trivial⟩⟩⟩⟩) Tryz.func7 rfl rfl rfl rfl (fun a=>by kernel_rfl)
end Go.Proofs.YtgioiejbphljoaaGreatDoor
set_option maxRecDepth 20000
set_option maxHeartbeats 1000000
set_option linter.unusedVariables false
namespace Go.Proofs.YtgioiejbphljoaaGreatDoor
open Go Go.Sx Go.Rx
namespace S
def Aim (K:List Report) (r o:Report):Prop:=o∈K/\o.id=r.of_/\o.source=r.source/\o.account=r.account
def Wd (K:List Report) (i:Int) (r:Report):Prop:=r∈K/\r.kind=9/\r.of_=i/\∃ o,Aim K r o/\o.kind≠9
def Least (p:Report->Prop) (l:List Report):Option Int->Prop
 |none=>∀ r∈l,¬ p r
 |some z=>∃ r∈l,p r/\r.id=z/\∀ s∈l,p s->z<=s.id
def Latest (p:Report->Prop) (l:List Report):Option Report->Prop
 |none=>∀ r∈l,¬ p r
 |some r=>r∈l/\p r/\∀ s∈l,p s->s.made < r.made\/s.made=r.made/\s.id<=r.id
def WdR (K:List Report) (i:Int) (z:Option Int):Prop:=Least (Wd K i) K z
def Co (K:List Report) (o r:Report):Prop:=r.kind=8/\Aim K r o/\(0<=r.cents/\r.cents<=most o.kind)/\WdR K r.id none
structure Ok (K:List Report):Prop where
 v:∀ r∈K,V r
 nd:(K.map (·.id)).Nodup
 len:K.length<=60
theorem Ok.one {K:List Report} (h:Ok K) {a b:Report} (ha:a∈K) (hb:b∈K) (e:a.id=b.id):a=b:=by
 exact AAb h.nd a b ha hb e
theorem Least.uniq {p:Report->Prop} {l:List Report} {a b:Option Int} (h1:Least p l a) (h2:Least p l b):a=b:=by
 cases a with
 |none=>
  cases b with
  |none=>rfl
  |some y=>obtain⟨r,hr,hp,_⟩:=h2;exact absurd hp (h1 r hr)
 |some x=>
  cases b with
  |none=>obtain⟨r,hr,hp,_⟩:=h1;exact absurd hp (h2 r hr)
  |some y=>
   obtain⟨r,hr,hp,rfl,hx⟩:=h1
   obtain⟨s,hs,hq,rfl,hy⟩:=h2
   have:=hx s hs hq
   have:=hy r hr hp
   rw[show r.id=s.id by omega]
theorem Least.congr {p q:Report->Prop} {l l':List Report} {a:Option Int} (h:Least p l a) (e:∀ r,r∈l/\p r↔r∈l'/\q r):Least q l' a:=by
 cases a with
 |none=>
  intro r hr hq
  obtain⟨h1,h2⟩:=(e r).2 ⟨hr,hq⟩
  exact h r h1 h2
 |some x=>
  obtain⟨r,hr,hp,hx,hm⟩:=h
  obtain⟨h1,h2⟩:=(e r).1 ⟨hr,hp⟩
  exact⟨r,h1,h2,hx,fun s hs hq=>by
   obtain⟨h3,h4⟩:=(e s).2 ⟨hs,hq⟩
   exact hm s h3 h4⟩
theorem Latest.congr {p q:Report->Prop} {l l':List Report} {a:Option Report} (h:Latest p l a) (e:∀ r,r∈l/\p r↔r∈l'/\q r):Latest q l' a:=by
 cases a with
 |none=>
  intro r hr hq
  obtain⟨h1,h2⟩:=(e r).2 ⟨hr,hq⟩
  exact h r h1 h2
 |some x=>
  obtain⟨hr,hp,hm⟩:=h
  obtain⟨h1,h2⟩:=(e x).1 ⟨hr,hp⟩
  exact⟨h1,h2,fun s hs hq=>by
   obtain⟨h3,h4⟩:=(e s).2 ⟨hs,hq⟩
   exact hm s h3 h4⟩
theorem Latest.uniq {K:List Report} (hK:Ok K) {p:Report->Prop} {a b:Option Report} (h1:Latest p K a) (h2:Latest p K b):a=b:=by
 cases a with
 |none=>
  cases b with
  |none=>rfl
  |some y=>exact absurd h2.2.1 (h1 y h2.1)
 |some x=>
  cases b with
  |none=>exact absurd h1.2.1 (h2 x h1.1)
  |some y=>
   obtain⟨hx,px,mx⟩:=h1
   obtain⟨hy,py,my⟩:=h2
   have:=mx y hy py
   have:=my x hx px
   rw[hK.one hx hy (by omega)]
theorem Least.push {p:Report->Prop} {l:List Report} {z:Option Int} (h:Least p l z) (x:Report):(¬ p x->Least p (l++[x]) z)/\(p x->(z=none\/∃ y,z=some y/\x.id < y)->Least p (l++[x]) (some x.id))/\(p x->∀ y,z=some y->y<=x.id->Least p (l++[x]) z):=by
 have mem:∀ s,s∈l++[x]↔s∈l\/s=x:=fun s=>by simp
 refine⟨fun hx=>?_,fun hx hz=>?_,fun hx y hy hle=>?_⟩
 . cases z with
   |none=>
    intro r hr
    rcases (mem r).1 hr with h1|rfl
    . exact h r h1
    . exact hx
   |some y=>
    obtain⟨r,hr,hp,he,hm⟩:=h
    exact⟨r,(mem r).2 (.inl hr),hp,he,fun s hs hq=>by
     rcases (mem s).1 hs with h1|rfl
     . exact hm s h1 hq
     . exact absurd hq hx⟩
 . refine⟨x,(mem x).2 (.inr rfl),hx,rfl,fun s hs hq=>?_⟩
   rcases (mem s).1 hs with h1|rfl
   . rcases hz with rfl|⟨y,rfl,hlt⟩
     . exact absurd hq (h s h1)
     . obtain⟨r,hr,hp,he,hm⟩:=h
       have:=hm s h1 hq
       omega
   . exact Int.le_refl _
 . subst hy
   obtain⟨r,hr,hp,he,hm⟩:=h
   exact⟨r,(mem r).2 (.inl hr),hp,he,fun s hs hq=>by
    rcases (mem s).1 hs with h1|rfl
    . exact hm s h1 hq
    . exact hle⟩
theorem Latest.push {p:Report->Prop} {l:List Report} {z:Option Report} (h:Latest p l z) (x:Report):(¬ p x->Latest p (l++[x]) z)/\(p x->(z=none\/∃ y,z=some y/\(y.made < x.made\/y.made=x.made/\y.id < x.id))->Latest p (l++[x]) (some x))/\(p x->∀ y,z=some y->¬ (y.made < x.made\/y.made=x.made/\y.id < x.id)->Latest p (l++[x]) z):=by
 have mem:∀ s,s∈l++[x]↔s∈l\/s=x:=fun s=>by simp
 refine⟨fun hx=>?_,fun hx hz=>?_,fun hx y hy hle=>?_⟩
 . cases z with
   |none=>
    intro r hr
    rcases (mem r).1 hr with h1|rfl
    . exact h r h1
    . exact hx
   |some y=>
    obtain⟨hr,hp,hm⟩:=h
    exact⟨(mem y).2 (.inl hr),hp,fun s hs hq=>by
     rcases (mem s).1 hs with h1|rfl
     . exact hm s h1 hq
     . exact absurd hq hx⟩
 . refine⟨(mem x).2 (.inr rfl),hx,fun s hs hq=>?_⟩
   rcases (mem s).1 hs with h1|rfl
   . rcases hz with rfl|⟨y,rfl,hlt⟩
     . exact absurd hq (h s h1)
     . have:=h.2.2 s h1 hq
       omega
   . omega
 . subst hy
   obtain⟨hr,hp,hm⟩:=h
   exact⟨(mem y).2 (.inl hr),hp,fun s hs hq=>by
    rcases (mem s).1 hs with h1|rfl
    . exact hm s h1 hq
    . omega⟩
def knS:List Report->Int->List Report
 |[],_=>[]
 |r :: l,k=>if r.made<=k/\r∉knS l k then r :: knS l k else knS l k
theorem kn_mem:∀ {l:List Report} {k:Int} {r:Report},r∈knS l k↔r∈l/\r.made<=k
 |[],k,r=>by simp[knS]
 |x :: l,k,r=>by
  unfold knS
  split
  . rename_i h
    rw[List.mem_cons,List.mem_cons,kn_mem]
    constructor
    . rintro (rfl|h1)
      . exact⟨.inl rfl,h.1⟩
      . exact⟨.inr h1.1,h1.2⟩
    . rintro⟨rfl|h1,h2⟩
      . exact .inl rfl
      . exact .inr ⟨h1,h2⟩
  . rename_i h
    rw[List.mem_cons,kn_mem]
    constructor
    . rintro⟨h1,h2⟩;exact⟨.inr h1,h2⟩
    . rintro⟨rfl|h1,h2⟩
      . exact kn_mem.1 (Classical.byContradiction fun h3=>h ⟨h2,h3⟩)
      . exact⟨h1,h2⟩
theorem kn_nd:∀ {l:List Report} {k:Int},(knS l k).Nodup
 |[],k=>List.nodup_nil
 |x :: l,k=>by
  unfold knS
  split
  . rename_i h
    exact List.nodup_cons.2 ⟨h.2,kn_nd⟩
  . exact kn_nd
theorem AOP:∀ {l:List Report} {k:Int},(knS l k).length<=l.length
 |[],k=>Nat.le_refl _
 |x :: l,k=>by
  unfold knS
  have:=AOP (l:=l) (k:=k)
  split
  . simp only[List.length_cons];omega
  . simp only[List.length_cons];omega
theorem AFz {l:List Report} (h:VL l) (k:Int):Ok (knS l k):=by
 refine⟨fun r hr=>h.v r (kn_mem.1 hr).1,?_,Nat.le_trans AOP h.len⟩
 rw[List.Nodup,List.pairwise_map]
 exact List.Pairwise.imp_of_mem (fun {a b} ha hb hne e=>hne (h.cons a (kn_mem.1 ha).1 b (kn_mem.1 hb).1 e)) kn_nd
def Rep (K:List Report) (m:A3 Int Report):Prop:=∀ i r,m i=some r↔r∈K/\r.id=i
theorem ABn {S β:Type} {f:S->β->Option S} (I:List β->S->Prop):∀ (l pre:List β) (s:S),I pre s->(∀ pre x s,x∈l->I pre s->∃ s',f s x=some s'/\I (pre++[x]) s')->∃ s',l.foldlM f s=some s'/\I (pre++l) s'
 |[],pre,s,h,_=>⟨s,rfl,by simpa using h⟩
 |x :: l,pre,s,h,hs=>by
  obtain⟨s1,h1,h2⟩:=hs pre x s (List.mem_cons_self ..) h
  obtain⟨s2,h3,h4⟩:=ABn I l (pre++[x]) s1 h2 fun pre y s hy=>hs pre y s (List.mem_cons_of_mem _ hy)
  refine⟨s2,?_,by simpa using h4⟩
  rw[List.foldlM_cons,h1];exact h3
theorem Rep.lists {K:List Report} (hK:Ok K) {m:A3 Int Report} (h:Rep K m):Lists m (K.map fun r=>(r.id,r)):=by
 refine⟨?_,fun a y=>?_⟩
 . rw[List.map_map];exact hK.nd
 . rw[h,List.mem_map]
   constructor
   . rintro⟨r,hr,e⟩;cases e;exact⟨hr,rfl⟩
   . rintro⟨hr,rfl⟩;exact⟨y,hr,rfl⟩
theorem Rep.mem {K:List Report} {m:A3 Int Report} (h:Rep K m) {l:List (Int×Report)} (hl:Lists m l) (r:Report):r∈l.map (·.2)↔r∈K:=by
 rw[List.mem_map]
 constructor
 . rintro⟨⟨a,y⟩,hy,rfl⟩
   exact ((h a y).1 ((hl.2 a y).1 hy)).1
 . intro hr
   exact⟨(r.id,r),(hl.2 _ _).2 ((h _ _).2 ⟨hr,rfl⟩),rfl⟩
theorem AHp {S κ α R:Type} {f:S->κ×α->Option S} {m:A3 κ α} {l0:List (κ×α)} (h0:Lists m l0) {s0:S} (Spec:S->Prop) (hall:∀ l,Lists m l->∃ s,l.foldlM f s0=some s/\Spec s) (uniq:∀ s s',Spec s->Spec s'->s=s') {K:S->Option R} {Q:R->Prop} (h:∀ s,Spec s->Ret (K s) Q):Ret (AAR m fun l=>Option.bind (l.foldlM f s0) K) Q:=by
 obtain⟨r,hr,hs⟩:=hall _ h0
 obtain⟨a,ha,hq⟩:=h r hs
 refine⟨a,AHw h0 fun l hl=>?_,hq⟩
 obtain⟨s,h1,h2⟩:=hall l hl
 rw[h1,bindS,uniq s r h2 hs,ha]
theorem ATW {m:A3 Int Report} {r:Report} (h:m r.of_=none):E3 (Store.mk m) r=some (Report.mk 0 0 0 0 0 0 0 0,false):=by
 unfold E3
 simp[h]
theorem ATX {m:A3 Int Report} {r o:Report} (h:m r.of_=some o):E3 (Store.mk m) r=some (o,decide (o.source=r.source/\o.account=r.account)):=by
 unfold E3
 by_cases c1:o.source=r.source
 . simp[h,c1]
   rw[<-c1]
 . simp[h,c1]
section
variable {K:List Report} (hK:Ok K) {m:A3 Int Report} (hm:Rep K m)
include hK hm
theorem AQT {r:Report} {Q:Report×Bool->Prop} (h1:∀ o,Aim K r o->Q (o,true)) (h2:∀ o',(∀ o,¬ Aim K r o)->Q (o',false)):Ret (E3 (Store.mk m) r) Q:=by
 rcases hq:m r.of_ with _|o
 . rw[ATW hq]
   refine Ret.ok (h2 _ fun o ha=>?_)
   rw[(hm _ o).2 ⟨ha.1,ha.2.1⟩] at hq;cases hq
 . obtain⟨ho,he⟩:=(hm _ o).1 hq
   rw[ATX hq]
   by_cases c:o.source=r.source/\o.account=r.account
   . rw[decide_eq_true c];exact Ret.ok (h1 o ⟨ho,he,c.1,c.2⟩)
   . rw[decide_eq_false c]
     exact Ret.ok (h2 _ fun o' ha=>c (by rw[<-hK.one ha.1 ho (by rw[ha.2.1,he])];exact⟨ha.2.2.1,ha.2.2.2⟩))
end
def Co' (K:List Report) (i:Int) (r:Report):Prop:=∃ o∈K,o.id=i/\o.kind<=7/\WdR K i none/\Co K o r
structure Dk (K:List Report) (d:Desk_139):Prop where
 reports:Rep K d.store.reports
 gone:∀ i,WdR K i (d.gone i)
 fixed:∀ i,∃ z:Option Report,d.fixed i=z.map (·.id)/\Latest (Co' K i) K z
theorem ATY {l:List Report} (hv:VL l) {known:Int} {Q:Desk_139->Prop} (h:∀ d,Dk (knS l known) d->Q d):Ret (U1 l known) Q:=by
 have hK:Ok (knS l known):=AFz hv known
 have hC:=hv.cons
 have hl:=hv.len
 generalize hKe:knS l known=K at h hK
 unfold U1
 refine Ret.bind (D4 l.length (fun n (t:Int×A3 Int Report)=>t.1=n/\∀ i r,t.2 i=some r↔(r∈l.take n/\r.made<=known)/\r.id=i) ⟨rfl,fun i r=>by simp[fnone]⟩ ?_ ?_)
 . rintro n hlt ⟨_,m⟩ ⟨rfl,hm⟩
   dsimp only at hm
   refine Ret.condT (ltT hlt) (Ret.bind (N8 hlt (Ret.bind (Ret.cond (fun c=>?_) fun c=>?_))))
   . have c:=of_decide_eq_true c
     refine Ret.ok (Ret.bind (Ret.chk (by omega) (Ret.next ⟨by dsimp only;omega,fun i r=>?_⟩)))
     rw[F6 hlt]
     show B7 m l[n].id l[n] i=some r↔_
     unfold B7
     by_cases e:i=l[n].id
     . subst e
       simp only[if_true]
       constructor
       . intro h9
         have:=Option.some.inj h9
         exact⟨⟨.inr this.symm,by rw[<-this];exact c⟩,by rw[<-this]⟩
       . rintro⟨⟨h9|h9,h8⟩,h7⟩
         . rw[hC r (List.mem_of_mem_take h9) l[n] (List.getElem_mem hlt) h7]
         . rw[h9]
     . simp only[e,if_false]
       rw[hm]
       constructor
       . rintro⟨⟨h9,h8⟩,h7⟩;exact⟨⟨.inl h9,h8⟩,h7⟩
       . rintro⟨⟨h9|h9,h8⟩,h7⟩
         . exact⟨⟨h9,h8⟩,h7⟩
         . exact absurd (by rw[<-h7,h9]) e
   . have c:=of_decide_eq_false c
     refine Ret.ok (Ret.bind (Ret.chk (by omega) (Ret.next ⟨by dsimp only;omega,fun i r=>?_⟩)))
     rw[F6 hlt]
     dsimp only
     rw[hm]
     constructor
     . rintro⟨⟨h9,h8⟩,h7⟩;exact⟨⟨.inl h9,h8⟩,h7⟩
     . rintro⟨⟨h9|h9,h8⟩,h7⟩
       . exact⟨⟨h9,h8⟩,h7⟩
       . exact absurd (h9▸h8) c
 rintro⟨_,m⟩ ⟨rfl,hm⟩
 dsimp only at hm
 rw[List.take_length] at hm
 refine Ret.condF (ltF (Nat.le_refl _)) (Ret.done ?_)
 have hm:Rep K m:=fun i r=>by rw[hm,<-hKe,kn_mem]
 have hl0:=hm.lists hK
 have mem1:∀ {lx:List (Int×Report)},Lists m lx->∀ x∈lx,x.2∈K:=fun hlx x hx=>(hm.mem hlx x.2).1 (List.mem_map.2 ⟨x,hx,rfl⟩)
 refine AHp hl0 (fun s:A3 Int Int=>∀ i,WdR K i (s i)) (fun lx hlx=>?_) (fun s s' hs hs'=>funext fun i=>(hs i).uniq (hs' i)) fun g hg=>?_
 . refine Exists.imp (fun s (h:_/\_)=>⟨h.1,fun i=>(h.2 i).congr fun r=>by rw[List.nil_append,hm.mem hlx]⟩) (ABn (fun (pre:List (Int×Report)) (s:A3 Int Int)=>∀ i,Least (Wd K i) (pre.map (·.2)) (s i)) lx [] (fnone:A3 Int Int) (fun i r hr=>by simp at hr) (fun pre x s hx hI=>?_))
   . obtain⟨xk,r⟩:=x
     have hr:r∈K:=mem1 hlx _ hx
     have no:(∀ i,¬ Wd K i r)->∀ i,Least (Wd K i) ((pre++[(xk,r)]).map (·.2)) (s i):=fun hn i=>by rw[List.map_append];exact ((hI i).push r).1 (hn i)
     show Ret _ fun s':A3 Int Int=>∀ i,Least (Wd K i) ((pre++[(xk,r)]).map (·.2)) (s' i)
     refine Ret.bind (AQT hK hm (fun o ha=>?_) fun o' hna=>?_)
     . dsimp only
       by_cases c1:r.kind=9
       . rw[decide_eq_true c1]
         by_cases c2:o.kind=9
         . rw[decide_eq_true c2]
           refine Ret.bind (Ret.condT rfl (Ret.condT rfl (Ret.ok (Ret.bind (Ret.condF rfl (Ret.ok (Ret.ok (no fun i hw=>?_))))))))
           obtain⟨_,_,h3,o2,ha2,h9⟩:=hw
           exact h9 (by rw[hK.one ha2.1 ha.1 (by rw[ha2.2.1,ha.2.1])];exact c2)
         . rw[decide_eq_false c2]
           have hw:Wd K o.id r:=⟨hr,c1,ha.2.1.symm,o,ha,c2⟩
           have oth:∀ i,i≠o.id->¬ Wd K i r:=fun i hi hw=>hi (by rw[ha.2.1,hw.2.2.1])
           refine Ret.bind (Ret.condT rfl (Ret.condT rfl (Ret.ok (Ret.bind (Ret.condT rfl (Ret.bind ?_))))))
           have put:(s o.id=none\/∃ y,s o.id=some y/\r.id < y)->∀ i,Least (Wd K i) ((pre++[(xk,r)]).map (·.2)) (B7 s o.id r.id i):=fun hz i=>by
            rw[List.map_append]
            unfold B7
            by_cases e:i=o.id
            . subst e;rw[if_pos rfl];exact ((hI _).push r).2.1 hw hz
            . rw[if_neg e];exact ((hI i).push r).1 (oth i e)
           cases hz:s o.id with
           |none=>exact Ret.condT rfl (Ret.ok (Ret.bind (Ret.condT rfl (Ret.ok (Ret.ok (Ret.ok (put (.inl hz))))))))
           |some y=>
            refine Ret.condF rfl (Ret.ok ?_)
            by_cases c3:r.id < y
            . rw[decide_eq_true (show r.id < (some y).getD 0 from c3)]
              exact Ret.bind (Ret.condT rfl (Ret.ok (Ret.ok (Ret.ok (put (.inr ⟨y,hz,c3⟩))))))
            . rw[decide_eq_false (show ¬ r.id < (some y).getD 0 from c3)]
              refine Ret.bind (Ret.condF rfl (Ret.ok (Ret.ok (Ret.ok fun i=>?_))))
              rw[List.map_append]
              by_cases e:i=o.id
              . subst e;exact ((hI _).push r).2.2 hw y hz (by omega)
              . exact ((hI i).push r).1 (oth i e)
       . rw[decide_eq_false c1]
         exact Ret.bind (Ret.condF rfl (Ret.ok (Ret.bind (Ret.condF rfl (Ret.ok (Ret.ok (no fun i hw=>c1 hw.2.1)))))))
     . dsimp only
       have hn:∀ i,¬ Wd K i r:=fun i hw=>by
        obtain⟨_,_,_,o2,ha2,_⟩:=hw
        exact hna o2 ha2
       refine Ret.bind (Ret.cond (fun _=>Ret.condF rfl (Ret.ok ?_)) fun _=>Ret.ok ?_) <;> exact Ret.bind (Ret.condF rfl (Ret.ok (Ret.ok (no hn))))
 refine AHp hl0 (fun s:A3 Int Int=>∀ i,∃ z:Option Report,s i=z.map (·.id)/\Latest (Co' K i) K z) (fun lx hlx=>?_) (fun s s' hs hs'=>funext fun i=>?_) fun f hf=>?_
 . refine Exists.imp (fun s (h:_/\_)=>⟨h.1,fun i=>(by
    obtain⟨z,hz,hz2⟩:=h.2.2 i
    exact⟨z,hz,hz2.congr fun r=>by rw[List.nil_append,hm.mem hlx]⟩)⟩) (ABn (fun (pre:List (Int×Report)) (s:A3 Int Int)=>(∀ x∈pre,x.2∈K)/\∀ i,∃ z:Option Report,s i=z.map (·.id)/\Latest (Co' K i) (pre.map (·.2)) z) lx [] (fnone:A3 Int Int) ⟨(fun x hx=>by simp at hx),fun i=>⟨none,rfl,fun r hr=>by simp at hr⟩⟩ (fun pre x s hx hI=>?_))
   . obtain⟨xk,r⟩:=x
     have hr:r∈K:=mem1 hlx _ hx
     obtain⟨hpre,hI⟩:=hI
     have hpre':∀ x∈pre++[(xk,r)],x.2∈K:=fun x hx=>by
      rcases List.mem_append.1 hx with h9|h9
      . exact hpre x h9
      . have:x=(xk,r):=by simpa using h9
        rw[this];exact hr
     have no:(∀ i,¬ Co' K i r)->(∀ x∈pre++[(xk,r)],x.2∈K)/\∀ i,∃ z:Option Report,s i=z.map (·.id)/\Latest (Co' K i) ((pre++[(xk,r)]).map (·.2)) z:=fun hn=>⟨hpre',fun i=>by
      obtain⟨z,hz,hz2⟩:=hI i
      rw[List.map_append]
      exact⟨z,hz,(hz2.push r).1 (hn i)⟩⟩
     show Ret _ fun s':A3 Int Int=>(∀ x∈pre++[(xk,r)],x.2∈K)/\∀ i,∃ z:Option Report,s' i=z.map (·.id)/\Latest (Co' K i) ((pre++[(xk,r)]).map (·.2)) z
     refine Ret.bind (AQT hK hm (fun o ha=>?_) fun o' hna=>?_)
     . dsimp only
       have hov:=hK.v o ha.1
       have one:∀ {i o2},o2∈K->o2.id=i->Co K o2 r->o2=o:=fun h1 _ h3=>hK.one h1 ha.1 (by rw[h3.2.1.2.1,ha.2.1])
       by_cases c1:r.kind=8
       . rw[decide_eq_true c1]
         refine Ret.bind (Ret.condF rfl (Ret.condF rfl ?_))
         unfold J1
         refine Ret.bind (Ret.ok ?_)
         by_cases c2:o.kind<=7
         . refine Ret.condF (by simp;exact c2) ?_
           rw[AOC hov.1,AIK (by simp),bindS]
           by_cases c3:0<=r.cents/\r.cents<=most o.kind
           . refine Ret.condF (by simp[inB,c3]) ?_
             unfold P6
             refine Ret.bind (Ret.ok ?_)
             dsimp only
             have gs:∀ i,(g i).isSome=true↔¬ WdR K i none:=fun i=>by
              cases hq:g i with
              |none=>simp;have:=hg i;rw[hq] at this;exact this
              |some y=>simp;intro h9;have:=(hg i).uniq h9;rw[hq] at this;cases this
             by_cases c4:(g r.id).isSome=true
             . rw[c4]
               exact Ret.condT rfl (Ret.ok (Ret.condT rfl (Ret.ok (no fun i hc=>by
                obtain⟨o2,_,_,_,_,h5⟩:=hc
                exact (gs r.id).1 c4 h5.2.2.2))))
             . have c4':(g r.id).isSome=false:=by simpa using c4
               rw[c4']
               refine Ret.condF rfl (Ret.bind (Ret.ok ?_))
               by_cases c5:(g o.id).isSome=true
               . rw[c5]
                 exact Ret.ok (Ret.condT rfl (Ret.ok (no fun i hc=>by
                  obtain⟨o2,h1,h2,_,h4,h5⟩:=hc
                  have:=one h1 h2 h5
                  subst this
                  exact (gs o2.id).1 c5 (h2▸h4))))
               . have c5':(g o.id).isSome=false:=by simpa using c5
                 rw[c5']
                 refine Ret.ok (Ret.condF rfl ?_)
                 have w1:WdR K r.id none:=Classical.byContradiction fun h9=>c4 ((gs r.id).2 h9)
                 have w2:WdR K o.id none:=Classical.byContradiction fun h9=>c5 ((gs o.id).2 h9)
                 have hc:Co' K o.id r:=⟨o,ha.1,rfl,c2,w2,c1,ha,c3,w1⟩
                 have oth:∀ i,i≠o.id->¬ Co' K i r:=fun i hi hc=>by
                  obtain⟨o2,h1,h2,_,_,h5⟩:=hc
                  exact hi (by rw[<-h2,one h1 h2 h5])
                 obtain⟨z,hz,hz2⟩:=hI o.id
                 have put:(z=none\/∃ y,z=some y/\(y.made < r.made\/y.made=r.made/\y.id < r.id))->(∀ x∈pre++[(xk,r)],x.2∈K)/\∀ i,∃ z:Option Report,(B7 s o.id r.id) i=z.map (·.id)/\Latest (Co' K i) ((pre++[(xk,r)]).map (·.2)) z:=fun h9=>⟨hpre',fun i=>by
                  rw[List.map_append]
                  unfold B7
                  by_cases e:i=o.id
                  . subst e;rw[if_pos rfl];exact⟨some r,rfl,(hz2.push r).2.1 hc h9⟩
                  . rw[if_neg e]
                    obtain⟨z',hz',hz2'⟩:=hI i
                    exact⟨z',hz',(hz2'.push r).1 (oth i e)⟩⟩
                 have keep:∀ y,z=some y->¬ (y.made < r.made\/y.made=r.made/\y.id < r.id)->(∀ x∈pre++[(xk,r)],x.2∈K)/\∀ i,∃ z:Option Report,s i=z.map (·.id)/\Latest (Co' K i) ((pre++[(xk,r)]).map (·.2)) z:=fun y hy h9=>⟨hpre',fun i=>by
                  rw[List.map_append]
                  by_cases e:i=o.id
                  . subst e;exact⟨z,hz,(hz2.push r).2.2 hc y hy h9⟩
                  . obtain⟨z',hz',hz2'⟩:=hI i
                    exact⟨z',hz',(hz2'.push r).1 (oth i e)⟩⟩
                 refine Ret.bind ?_
                 rw[hz]
                 cases z with
                 |none=>exact Ret.condT rfl (Ret.ok (Ret.bind (Ret.condT rfl (Ret.ok (Ret.ok (put (.inl rfl)))))))
                 |some y=>
                  have hyK:y∈K:=by
                   obtain⟨q,hq,hq2⟩:=List.mem_map.1 hz2.1
                   rw[<-hq2];exact hpre q hq
                  have hmy:m y.id=some y:=(hm _ _).2 ⟨hyK,rfl⟩
                  refine Ret.condF rfl (Ret.bind (Ret.val p_cmp (Ret.bind (Ret.val p_cmp (Ret.bind (Ret.val p_Or ?_))))))
                  have hyid:((some y).map (·.id)).getD 0=y.id:=rfl
                  rw[hyid,hmy]
                  simp only[Option.getD_some]
                  have bd:∀ a b:Int,-1<=Q4 a b/\Q4 a b<=1:=fun a b=>by unfold Q4;split <;> (try split) <;> omega
                  have b1:=bd y.made r.made
                  have b2:=bd y.id r.id
                  refine Ret.ok ?_
                  have key:decide ((if Q4 y.made r.made=0 then Q4 y.id r.id else Q4 y.made r.made) < 0)=decide (y.made < r.made\/y.made=r.made/\y.id < r.id):=by
                   rw[decide_eq_decide]
                   unfold Q4
                   by_cases h1:y.made < r.made
                   . simp[h1]
                   . by_cases h2:r.made < y.made
                     . simp[h1,h2];omega
                     . have:y.made=r.made:=by omega
                       simp[this]
                       by_cases h3:y.id < r.id
                       . simp[h3]
                       . simp[h3];split <;> omega
                  rw[key]
                  by_cases c6:y.made < r.made\/y.made=r.made/\y.id < r.id
                  . rw[decide_eq_true c6]
                    exact Ret.bind (Ret.condT rfl (Ret.ok (Ret.ok (put (.inr ⟨y,rfl,c6⟩)))))
                  . rw[decide_eq_false c6]
                    exact Ret.bind (Ret.condF rfl (Ret.ok (Ret.ok (keep y rfl c6))))
           . have hx:([r.cents].all (inB 0 (most o.kind)))=false:=by simp only[List.all_cons,List.all_nil,Bool.and_true,inB];exact decide_eq_false c3
             rw[hx]
             exact Ret.condT rfl (Ret.ok (Ret.condT rfl (Ret.ok (no fun i hc=>by
              obtain⟨o2,h1,h2,_,_,h5⟩:=hc
              rw[one h1 h2 h5] at h5
              exact c3 h5.2.2.1))))
         . refine Ret.condT (by simp;omega) (Ret.ok (Ret.condT rfl (Ret.ok (no fun i hc=>?_))))
           obtain⟨o2,h1,h2,h3,_,h5⟩:=hc
           rw[one h1 h2 h5] at h3
           exact c2 h3
       . rw[decide_eq_false c1]
         exact Ret.bind (Ret.condT rfl (Ret.ok (Ret.condT rfl (Ret.ok (no fun i hc=>by
          obtain⟨o2,_,_,_,_,h5⟩:=hc
          exact c1 h5.1)))))
     . dsimp only
       have hn:∀ i,¬ Co' K i r:=fun i hc=>by
        obtain⟨o2,_,_,_,_,h5⟩:=hc
        exact hna o2 h5.2.1
       refine Ret.bind (Ret.cond (fun _=>Ret.ok ?_) fun _=>Ret.condT rfl (Ret.ok ?_)) <;> exact Ret.condT rfl (Ret.ok (no hn))
 . obtain⟨z,hz,hz2⟩:=hs i
   obtain⟨z',hz',hz2'⟩:=hs' i
   rw[hz,hz',Latest.uniq hK hz2 hz2']
 . exact Ret.ok (h _ ⟨hm,hg,hf⟩)
end S
end Go.Proofs.YtgioiejbphljoaaGreatDoor
