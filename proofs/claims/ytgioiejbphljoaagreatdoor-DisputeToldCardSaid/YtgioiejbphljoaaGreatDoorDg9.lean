/-
  Part 9 of the texts that the statement's proof stands on: what memory holds, how code is walked, what the functions reckon. In the order in which they build.
-/
import Derived.RangeFuncNested
import Derived.Test.YtgioiejbphljoaaGreatDoorDg8
set_option linter.unusedVariables false
set_option linter.unusedSectionVars false
set_option maxRecDepth 20000
set_option maxHeartbeats 1000000
set_option linter.unusedVariables false
namespace Go.Proofs.YtgioiejbphljoaaGreatDoor
open Go Go.Sx Go.Rx
namespace S
noncomputable def AQs {α:Type} (l:List α) (id:α->Option Int) (right:α->Option Bool):Option Bool:=Option.bind (B6 (S:=(Int×(A3 Int Bool))) (R:=(Unit⊕Bool)) (fun (x16,x17)=>cond (decide (x16 < (l.length:Int))) (Option.bind (ixo l x16) fun y18=>Option.bind (α:=(Bool)) (Option.bind (right y18) fun y19=>cond ((!y19)) (some true) (Option.bind (id y18) fun y20=>some ((x17 y20).getD false))) ((fun x21=>cond (x21) (some (Sum.inr (Sum.inr false))) (Option.bind (id y18) fun y22=>Option.bind (chk .i64 (x16+1)) fun n23=>some (Sum.inl (n23,(B5 x17 y22 true))))))) (some (Sum.inr (Sum.inl ())))) ((0:Int),(fnone:(A3 Int Bool)))) ((Sum.elim (fun _=>some true) (fun r24=>some r24)))
theorem AQt {α:Type} {l:List α} {k:α->Int} (h:(l.map k).Nodup) {n:Nat} (hn:n < l.length):∀ x∈l.take n,k x≠k l[n]:=fun x hx=>by
 rw[List.Nodup,List.pairwise_map,List.pairwise_iff_getElem] at h
 obtain⟨i,hi,rfl⟩:=List.mem_take_iff_getElem.1 hx
 exact h i n (by omega) hn (by omega)
theorem AMO {α:Type} {l:List α} {id:α->Option Int} {right:α->Option Bool} {k:α->Int} (hl:l.length<=1000000) (h1:∀ x∈l,right x=some true) (h2:∀ x,id x=some (k x)) (hn:(l.map k).Nodup):AQs l id right=some true:=by
 refine Ret.eq ?_
 unfold AQs
 refine Ret.bind (C2 l.length (fun n (t:Int×A3 Int Bool)=>t.1=n/\∀ i,(∀ x∈l.take n,k x≠i)->t.2 i=none) ⟨rfl,fun i _=>rfl⟩ ?_ ?_)
 . rintro n hlt ⟨_,m⟩ ⟨rfl,hm⟩
   dsimp only at hm
   refine Ret.condT (V7 hlt) (Ret.bind (K2 hlt (Ret.bind (AB0 (h1 _ (List.getElem_mem hlt)) (Ret.condF rfl (AB0 (h2 _) (Ret.ok ?_)))))))
   rw[hm _ (AQt hn hlt)]
   refine Ret.condF rfl (AB0 (h2 _) (Ret.bind (Ret.chk (by omega) (Ret.next ⟨by dsimp only;omega,fun i hi=>?_⟩))))
   dsimp only[B5]
   rw[if_neg (fun e=>hi l[n] ((E7 hlt).2 (.inr rfl)) e.symm)]
   exact hm i fun x hx=>hi x ((E7 hlt).2 (.inl hx))
 . rintro⟨_,m⟩ ⟨rfl,hm⟩
   exact Ret.condF (Y6 (Nat.le_refl _)) (Ret.done (B8 (Ret.ok rfl)))
def Fc (d:Desk) (f:A3 Int Report):Prop:=∀ i,f i=Z9 d.reports i
theorem AOo {l:List Report} (hc:AId l) {i:Int} {r:Report}:Z9 l i=some r↔r∈l/\r.kind<=7/\r.id=i:=by
 constructor
 . intro h
   obtain⟨h1,h2,h3⟩:=V1 h
   exact⟨h1,h3,h2⟩
 . rintro⟨h1,h2,rfl⟩
   exact ATf hc h1 h2
theorem AVr {d:Desk} (hr:VL d.reports):Ret (T2 d) (Fc d):=by
 have hl:=hr.len
 unfold T2
 refine Ret.bind (C2 d.reports.length (fun n (t:Int×A3 Int Report)=>t.1=n/\∀ i r,t.2 i=some r↔r∈d.reports.take n/\r.kind<=7/\r.id=i) ⟨rfl,fun i r=>by simp[fnone]⟩ ?_ ?_)
 . rintro n hlt ⟨_,m⟩ ⟨rfl,hm⟩
   dsimp only at hm
   refine Ret.condT (V7 hlt) (Ret.bind (K2 hlt (Ret.bind (Ret.cond (fun h=>?_) fun h=>?_))))
   . have h:=of_decide_eq_true h
     refine Ret.ok (Ret.bind (Ret.chk (by omega) (Ret.next ⟨by dsimp only;omega,fun i r=>?_⟩)))
     rw[E7 hlt]
     dsimp only[B5]
     by_cases e:i=d.reports[n].id
     . subst e
       rw[if_pos rfl]
       constructor
       . intro h;cases h;exact⟨.inr rfl,h,rfl⟩
       . rintro⟨h1|h1,h2,h3⟩
         . rw[hr.cons r (List.mem_of_mem_take h1) _ (List.getElem_mem hlt) h3]
         . rw[h1]
     . rw[if_neg e,hm]
       constructor
       . rintro⟨h1,h2⟩;exact⟨.inl h1,h2⟩
       . rintro⟨h1|rfl,h2,h3⟩
         . exact⟨h1,h2,h3⟩
         . exact absurd h3.symm e
   . have h:=of_decide_eq_false h
     refine Ret.ok (Ret.bind (Ret.chk (by omega) (Ret.next ⟨by dsimp only;omega,fun i r=>?_⟩)))
     rw[E7 hlt,hm]
     constructor
     . rintro⟨h1,h2⟩;exact⟨.inl h1,h2⟩
     . rintro⟨h1|rfl,h2,h3⟩
       . exact⟨h1,h2,h3⟩
       . exact absurd h2 h
 . rintro⟨_,m⟩ ⟨rfl,hm⟩
   dsimp only at hm
   rw[List.take_length] at hm
   refine Ret.condF (Y6 (Nat.le_refl _)) (Ret.done (Ret.ok fun i=>?_))
   apply Option.ext
   intro r
   rw[hm,AOo hr.cons]
def An (d:Desk) (h:A3 Int (List Answer)):Prop:=∀ i,(h i).getD []=d.answers.filter fun a=>decide (a.dispute=i)
theorem AMP:∀ (l pre:List Answer) (h:A3 Int (List Answer)),(∀ i,(h i).getD []=pre.filter fun a=>decide (a.dispute=i))->pre.length+l.length<=1000000->∃ h',AIe l h=some h'/\∀ i,(h' i).getD []=(pre++l).filter fun a=>decide (a.dispute=i)
 |[],pre,h,hh,_=>⟨h,rfl,by simpa using hh⟩
 |a :: l,pre,h,hh,hl=>by
  have hlen:((h a.dispute).getD []).length<=pre.length:=by rw[hh];exact List.length_filter_le ..
  have hl':pre.length+l.length+1<=1000000:=by simpa[Nat.add_assoc] using hl
  have e:appo 48 ((h a.dispute).getD []) [a]=some ((h a.dispute).getD []++[a]):=ACf (by simp only[List.length_singleton];omega) (by simp only[List.length_singleton];omega)
  have hs:∀ i,(B5 h a.dispute ((h a.dispute).getD []++[a]) i).getD []=(pre++[a]).filter fun a=>decide (a.dispute=i):=fun i=>by
   dsimp only[B5]
   rw[List.filter_append]
   by_cases e:i=a.dispute
   . subst e
     rw[if_pos rfl]
     simp[hh]
   . rw[if_neg e,hh]
     have e2:¬ a.dispute=i:=fun h=>e h.symm
     simp[e2]
  obtain⟨h',e',hh'⟩:=AMP l (pre++[a]) (B5 h a.dispute ((h a.dispute).getD []++[a])) hs (by simp;omega)
  refine⟨h',?_,fun i=>by rw[hh',List.append_assoc];rfl⟩
  unfold AIe
  rw[e,bindS,e']
theorem AVs {D:Desk_99} (h:TV D.desk.terms):N0 D=some 0:=by
 obtain⟨t1,t2,t3⟩:=h
 unfold N0
 rw[d_in1,d_in2,AAW t1,AAW t2,AAW t3]
 rfl
theorem AVt {D:Desk_99} (h:VL D.desk.reports):N1 D=some 0:=by
 unfold N1
 rw[AD8 h];rfl
theorem AVu {D:Desk_99} (h:Vd D.desk) (hf:Fc D.desk D.facts):N2 D=some 0:=by
 obtain⟨⟨t1,t2,t3⟩,hr,hx,_⟩:=h
 have hl:=hr.len
 have hlx:=hx.len
 refine Ret.eq ?_
 unfold N2
 refine Ret.bind (C2 D.desk.reports.length (fun n (t:Int×A3 Int Bool)=>t.1=n/\∀ i,(∀ x∈D.desk.reports.take n,x.id≠i)->t.2 i=none) ⟨rfl,fun i _=>rfl⟩ ?_ ?_)
 . rintro n hlt ⟨_,m⟩ ⟨rfl,hm⟩
   dsimp only at hm
   refine Ret.condT (V7 hlt) (Ret.bind (K2 hlt (Ret.bind (Ret.chk (by omega) (Ret.next ⟨by dsimp only;omega,fun i hi=>?_⟩)))))
   dsimp only[B5]
   rw[if_neg (fun e=>hi _ ((E7 hlt).2 (.inr rfl)) e.symm)]
   exact hm i fun x hx=>hi x ((E7 hlt).2 (.inl hx))
 rintro⟨_,m⟩ ⟨rfl,hm⟩
 dsimp only at hm
 rw[List.take_length] at hm
 refine Ret.condF (Y6 (Nat.le_refl _)) (Ret.done (Ret.bind (Ret.condF (decide_eq_false (by omega)) ?_)))
 have hu:X4 D.desk.disputes (fun a16=>Q8 a16) (fun a17=>M8 a17 D m)=some true:=AMO (k:=(·.id)) (by omega) (fun x hxm=>?_) (fun _=>rfl) hx.nd
 . rw[hu]
   exact Ret.ok (Ret.ok rfl)
 . obtain⟨v1,v2,f,hfx,v3,v4⟩:=hx.v x hxm
   refine Ret.eq ?_
   unfold M8
   rw[hf,hfx]
   have v2:=hm x.id v2
   refine Ret.bind (Ret.condT rfl ?_)
   dsimp only[Option.getD_some]
   rw[d_in1,AAW v1,bindS,v2]
   refine Ret.condT rfl (Ret.condT rfl (Ret.bind (Ret.chk (by omega) (Ret.bind (Ret.chk (by omega) ?_)))))
   rw[d_in1,AAW (show _/\_ from ⟨v3,by omega⟩)]
   exact Ret.ok (Ret.ok rfl)
theorem AVv {D:Desk_99} (h:Vd D.desk) (hf:Fc D.desk D.facts):N3 D=some 0:=by
 obtain⟨⟨t1,t2,t3⟩,hr,hx,ha⟩:=h
 have hlx:=hx.len
 have hla:=ha.len
 have hu:X5 D.desk.answers (fun a4=>Q9 a4) (fun a5=>M9 a5 D)=some true:=AMO (k:=(·.id)) (by omega) (fun a ham=>?_) (fun _=>rfl) ha.nd
 . unfold N3
   rw[decide_eq_false (by omega),hu];rfl
 . obtain⟨v1,v2,v3,x,hxm,v4,v5,v6⟩:=ha.v a ham
   refine Ret.eq ?_
   unfold M9
   refine Ret.bind ?_
   refine (AEl (s:=D.desk.disputes) (f:=fun a1=>N9 a1 a) (fun _ _=>rfl) (by omega) (fun h=>?_) fun k hk h hp=>?_:Ret (AG9 _ _) _)
   . have:=of_decide_eq_false (h x hxm)
     exact absurd v4 this
   have h:=of_decide_eq_true h
   have hxk:D.desk.disputes[k]=x:=by
    have hnd:=hx.nd
    rw[List.Nodup,List.pairwise_map,List.pairwise_iff_getElem] at hnd
    obtain⟨j,hj,rfl⟩:=List.getElem_of_mem hxm
    rcases Nat.lt_trichotomy k j with e|e|e
    . exact absurd (h.trans v4.symm) (hnd k j hk hj e)
    . subst e;rfl
    . exact absurd (v4.trans h.symm) (hnd j k hj hk e)
   refine Ret.bind (Ret.condF (decide_eq_false (by omega)) ?_)
   have vab:0<=a.about/\a.about<=100000:=by
    by_cases e:a.says=2
    . obtain⟨_,_,f,hfx,_⟩:=hx.v x hxm
      exact (v6 e f hfx).1
    . have:=(v5 e).1;omega
   rw[d_in1,AAW v1,bindS]
   refine Ret.condF rfl ?_
   rw[d_in2,AAW v2,AAW vab,bindS]
   refine Ret.ok (Ret.condF rfl (Ret.bind (K2 hk ?_)))
   rw[hxk]
   by_cases e:a.says=2
   . obtain⟨_,_,f,hfx,_⟩:=hx.v x hxm
     refine Ret.bind (Ret.condF (decide_eq_false (by omega)) (Ret.ok ?_))
     rw[decide_eq_false (show ¬ a.says=3 by omega)]
     refine Ret.condF rfl (Ret.condT (decide_eq_true e) ?_)
     rw[hf,hfx]
     obtain⟨w1,w2,w3⟩:=v6 e f hfx
     have hfm:=V1 hfx
     obtain⟨u1,u2,u3,u4,u5,u6,u7,u8,u9,u10,u11⟩:=hr.v f hfm.1
     rw[AD8 (l:=[_]) ⟨by simp,fun r hr=>?_,fun a ha b hb _=>?_⟩,bindS]
     . exact Ret.ok rfl
     . rw[List.mem_singleton.1 hr]
       exact⟨u1,u2,u3,u4,u5,u6,w1,⟨w2,w3⟩,u9,u10,fun h=>by have:=hfm.2.2;dsimp only[Option.getD_some] at h;omega⟩
     . rw[List.mem_singleton.1 ha,List.mem_singleton.1 hb]
   . obtain⟨w1,w2⟩:=v5 e
     refine Ret.bind (Ret.val (a:=true) ?_ (Ret.condT rfl (Ret.bind (Ret.condT (decide_eq_true w1) (Ret.ok (Ret.ok (decide_eq_true w2)))))))
     by_cases e1:a.says=1
     . rw[decide_eq_true e1];rfl
     . rw[decide_eq_false e1,decide_eq_true (show a.says=3 by omega)];rfl
structure Dw (d:Desk) (D:Desk_99):Prop where
 d:D.desk=d
 f:Fc D.desk D.facts
 a:An D.desk D.answers
theorem AR0 {d:Desk} (h:Vd d):∃ D,P0 d=some (D,0)/\Dw d D:=by
 obtain⟨f,hf,hfc⟩:=AVr h.r
 have hla:=h.a.len
 obtain⟨h',e',hh'⟩:=AMP d.answers [] fnone (fun i=>rfl) (by simp;omega)
 refine⟨⟨d,f,h'⟩,?_,rfl,hfc,hh'⟩
 unfold P0
 rw[hf,bindS]
 have s1:=AVs (D:=⟨d,f,fnone⟩) h.t
 have s2:=AVt (D:=⟨d,f,fnone⟩) h.r
 have s3:=AVu (D:=⟨d,f,fnone⟩) h hfc
 have s4:=AVv (D:=⟨d,f,fnone⟩) h hfc
 have:AB1 ⟨d,f,fnone⟩ 0 4=some 0:=by
  show Option.bind (N0 _) _=_
  rw[s1,bindS,if_pos rfl]
  show Option.bind (N1 _) _=_
  rw[s2,bindS,if_pos rfl]
  show Option.bind (N2 _) _=_
  rw[s3,bindS,if_pos rfl]
  show Option.bind (N3 _) _=_
  rw[s4,bindS,if_pos rfl];rfl
 rw[this,bindS,if_pos rfl,e']
 rfl
theorem ADH {d:Desk} (h:Vd d) {day:Int} (hd:0<=day/\day<=100000):∃ D,I0 d day=some (D,0)/\Dw d D:=by
 obtain⟨D,h1,h2⟩:=AR0 h
 refine⟨D,?_,h2⟩
 unfold I0
 rw[h1,bindS,d_in1,AAW hd]
 rfl
end S
end Go.Proofs.YtgioiejbphljoaaGreatDoor
set_option maxRecDepth 20000
set_option maxHeartbeats 1000000
set_option linter.unusedVariables false
namespace Go.Proofs.YtgioiejbphljoaaGreatDoor
open Go Go.Sx Go.Rx
namespace S
def R0 (x y:Int):Int:=if x < y then -1 else if y < x then 1 else 0
theorem p_cmp {x y:Int}:D5 x y=some (R0 x y):=by
 unfold D5 Z5 R0
 by_cases h:x < y
 . simp[h]
 . by_cases h2:y < x
   . simp[h,h2]
   . simp[h,h2]
theorem p_Or {a b:Int}:AAH [a,b]=some (if a=0 then b else a):=by
 refine Ret.eq ?_
 unfold AAH
 refine Ret.bind (Ret.loop (fun t:Int=>t=0\/t=1/\a=0\/t=2/\a=0/\b=0) (fun t=>2 - t.toNat) (.inl rfl) ?_)
 rintro _ (rfl|⟨rfl,rfl⟩|⟨rfl,rfl,rfl⟩)
 . refine Ret.condT rfl (Ret.bind (Ret.val (show ixo [a,b] 0=some a from rfl) ?_))
   by_cases c:a=0
   . rw[decide_eq_true c]
     exact Ret.condF rfl (Ret.bind (Ret.chk (by omega) (Ret.next ⟨.inr (.inl ⟨rfl,c⟩),by decide⟩)))
   . rw[decide_eq_false c]
     exact Ret.condT rfl (Ret.done (D6 (Ret.ok (by rw[if_neg c]))))
 . refine Ret.condT rfl (Ret.bind (Ret.val (show ixo [0,b] 1=some b from rfl) ?_))
   by_cases c:b=0
   . rw[decide_eq_true c]
     exact Ret.condF rfl (Ret.bind (Ret.chk (by omega) (Ret.next ⟨.inr (.inr ⟨rfl,rfl,c⟩),by decide⟩)))
   . rw[decide_eq_false c]
     exact Ret.condT rfl (Ret.done (D6 (Ret.ok (by rw[if_pos rfl]))))
 . exact Ret.condF rfl (Ret.done (B8 (Ret.ok (by simp))))
def alt (a b:Answer):Bool:=decide (a.day < b.day\/a.day=b.day/\a.id < b.id)
theorem p_first {a b:Answer}:K5 a b=some (alt a b):=by
 unfold K5
 rw[p_cmp,bindS,p_cmp,bindS,p_Or,bindS]
 congr 1
 unfold alt R0
 rw[Bool.eq_iff_iff,decide_eq_true_iff,decide_eq_true_iff]
 split <;> split <;> (try split) <;> (try split) <;> omega
def win (x:Dispute) (last:Int) (a:Answer):Bool:=inB x.day last a.day
def AEq (x:Dispute) (last:Int) (v:Verdict) (a:Answer):Verdict:=if win x last a&&(decide (v.is_=5)||alt a v.by_) then ⟨a.day,a.says+1,a⟩ else v
def zeroA:Answer:=Answer.mk 0 0 0 0 0 0
def ANX (x:Dispute) (A:Int) (l:List Answer):Verdict:=l.foldl (AEq x (x.day+A)) ⟨x.day+A+1,5,zeroA⟩
def dec (d:Desk) (x:Dispute):Verdict:=ANX x d.terms.answer (d.answers.filter fun a=>decide (a.dispute=x.id))
theorem AQA {s:Int} (h:1<=s/\s<=3):(AGE s).getD 0=s+1:=by
 have:s=1\/s=2\/s=3:=by omega
 rcases this with rfl|rfl|rfl <;> rfl
theorem AEr {α β:Type} {f:β->α->β} {b:β} {l:List α} {n:Nat} (h:n < l.length):(l.take (n+1)).foldl f b=f ((l.take n).foldl f b) l[n]:=by
 rw[AAK h,List.foldl_append];rfl
theorem AQB {d:Desk} {D:Desk_99} (hD:Dw d D) (hv:Vd d) {x:Dispute} (hx:x∈d.disputes):O2 D x=some (dec d x):=by
 have hxv:=hv.x.v x hx
 have ht:=hv.t.1
 obtain⟨_,_,f,hf,x1,x2⟩:=hxv
 have hfm:=(hv.r.v f (V1 hf).1).2.2.2.2.2.1
 have hal:=hv.a.len
 have hd:=hD.d
 refine Ret.eq ?_
 unfold O2
 rw[hD.a,hd]
 let aa:=d.answers.filter fun a=>decide (a.dispute=x.id)
 have hlen:aa.length<=40:=Nat.le_trans (List.length_filter_le ..) hal
 have has:∀ a∈aa,1<=a.says/\a.says<=3:=fun a ha=>(hv.a.v a (List.mem_filter.1 ha).1).2.2.1
 show Ret (Option.bind _ _) (·=ANX x d.terms.answer aa)
 refine Ret.bind (Ret.chk (by omega) (Ret.bind (Ret.chk (by omega) (Ret.bind (C2 aa.length (fun n (t:Int×Int×Int×Int×Int×Int×Int×Int×Int)=>∃ v:Verdict,v=(aa.take n).foldl (AEq x (x.day+d.terms.answer)) ⟨x.day+d.terms.answer+1,5,zeroA⟩/\t=((n:Int),v.day,v.is_,v.by_.id,v.by_.dispute,v.by_.day,v.by_.says,v.by_.about,v.by_.cents)) ⟨_,rfl,rfl⟩ ?_ ?_)))))
 . rintro n hlt _ ⟨v,hvv,rfl⟩
   have hs:=has _ (List.getElem_mem hlt)
   refine Ret.condT (V7 hlt) (Ret.bind (Ret.val (a:=aa[n]) (AFH (List.getElem?_eq_getElem hlt)) (Ret.bind ?_)))
   rw[d_in1,bindS]
   have key:∀ b:Bool,b=(win x (x.day+d.terms.answer) aa[n]&&(decide (v.is_=5)||alt aa[n] v.by_))->Ret (Option.bind (α:=(Int×Int×Int×Int×Int×Int×Int×Int)) (cond b (some (aa[n].day,((AGE aa[n].says).getD 0),aa[n].id,aa[n].dispute,aa[n].day,aa[n].says,aa[n].about,aa[n].cents)) (some (v.day,v.is_,v.by_.id,v.by_.dispute,v.by_.day,v.by_.says,v.by_.about,v.by_.cents))) ((fun (x52,x53,x54,x55,x56,x57,x58,x59)=>Option.bind (chk .i64 ((n:Int)+1)) fun n60=>some (Sum.inl (n60,x52,x53,x54,x55,x56,x57,x58,x59))))) (Nxt (fun (t:Int×Int×Int×Int×Int×Int×Int×Int×Int)=>∃ v:Verdict,v=(aa.take (n+1)).foldl (AEq x (x.day+d.terms.answer)) ⟨x.day+d.terms.answer+1,5,zeroA⟩/\t=(((n+1:Nat):Int),v.day,v.is_,v.by_.id,v.by_.dispute,v.by_.day,v.by_.says,v.by_.about,v.by_.cents)) (fun (r:Int×Int×Int×Int×Int×Int×Int×Int)=>Ret (some (Verdict.mk r.1 r.2.1 (Answer.mk r.2.2.1 r.2.2.2.1 r.2.2.2.2.1 r.2.2.2.2.2.1 r.2.2.2.2.2.2.1 r.2.2.2.2.2.2.2))) (·=ANX x d.terms.answer aa))):=fun b hb=>by
    cases b with
    |true=>
     refine Ret.bind (Ret.condT rfl (Ret.ok (Ret.bind (Ret.chk (by omega) (Ret.next ⟨_,rfl,?_⟩)))))
     rw[AEr hlt,<-hvv]
     unfold AEq
     rw[if_pos hb.symm,AQA hs]
     rfl
    |false=>
     refine Ret.bind (Ret.condF rfl (Ret.ok (Ret.bind (Ret.chk (by omega) (Ret.next ⟨_,rfl,?_⟩)))))
     rw[AEr hlt,<-hvv]
     unfold AEq
     rw[if_neg (by rw[<-hb];decide)]
     rfl
   refine Ret.cond (fun h1=>?_) fun h1=>Ret.ok (key _ (by rw[show win x (x.day+d.terms.answer) aa[n]=false from h1];rfl))
   have h1:win x (x.day+d.terms.answer) aa[n]=true:=h1
   refine Ret.cond (fun h2=>Ret.ok (key _ (by rw[h1,h2];rfl))) fun h2=>?_
   have e:(Answer.mk v.by_.id v.by_.dispute v.by_.day v.by_.says v.by_.about v.by_.cents)=v.by_:=rfl
   rw[e,p_first,bindS]
   exact Ret.ok (key _ (by rw[h1,h2];rfl))
 . rintro _ ⟨v,hvv,rfl⟩
   refine Ret.condF (Y6 (Nat.le_refl _)) (Ret.done (Ret.ok ?_))
   rw[List.take_length] at hvv
   show _=List.foldl _ _ _
   rw[<-hvv]
structure DecL (x:Dispute) (A:Int) (l:List Answer) (v:Verdict):Prop where
 is5:v.is_=5->v=⟨x.day+A+1,5,zeroA⟩/\∀ a∈l,win x (x.day+A) a=false
 by_:v.is_≠5->v=⟨v.by_.day,v.by_.says+1,v.by_⟩/\v.by_∈l/\win x (x.day+A) v.by_=true/\∀ a∈l,win x (x.day+A) a=true->alt a v.by_=false
theorem AR1 {a b c:Answer} (h1:alt a b=true) (h2:alt c b=false):alt c a=false:=by
 unfold alt at *
 rw[decide_eq_true_iff] at h1
 rw[decide_eq_false_iff_not] at *
 omega
theorem AXK {x:Dispute} {A:Int}:∀ (l:List Answer),(∀ a∈l,1<=a.says/\a.says<=3)->DecL x A l (ANX x A l):=by
 have key:∀ (l p:List Answer) (v:Verdict),(∀ a∈l,1<=a.says/\a.says<=3)->DecL x A p v->DecL x A (p++l) (l.foldl (AEq x (x.day+A)) v):=by
  intro l
  induction l with
  |nil=>intro p v _ h;simpa using h
  |cons a l ih=>
   intro p v hs h
   have:p++a :: l=(p++[a])++l:=by simp
   rw[this]
   refine ih _ _ (fun b hb=>hs b (List.mem_cons_of_mem _ hb)) ?_
   have ha:=hs a (List.mem_cons_self ..)
   unfold AEq
   by_cases c:(win x (x.day+A) a&&(decide (v.is_=5)||alt a v.by_))=true
   . rw[if_pos c]
     rw[Bool.and_eq_true,Bool.or_eq_true] at c
     refine⟨fun h5=>?_,fun _=>⟨rfl,List.mem_append.2 (.inr (List.mem_singleton.2 rfl)),c.1,fun b hb hw=>?_⟩⟩
     . have h5:a.says+1=5:=h5
       omega
     . show alt b a=false
       rcases List.mem_append.1 hb with hb|hb
       . by_cases c5:v.is_=5
         . rw[(h.is5 c5).2 b hb] at hw;cases hw
         . rcases c.2 with c2|c2
           . exact absurd (of_decide_eq_true c2) c5
           . exact AR1 c2 ((h.by_ c5).2.2.2 b hb hw)
       . rw[List.mem_singleton.1 hb]
         unfold alt
         exact decide_eq_false (by omega)
   . rw[if_neg c]
     refine⟨fun h5=>⟨(h.is5 h5).1,fun b hb=>?_⟩,fun h5=>⟨(h.by_ h5).1,List.mem_append.2 (.inl (h.by_ h5).2.1),(h.by_ h5).2.2.1,fun b hb hw=>?_⟩⟩
     . rcases List.mem_append.1 hb with hb|hb
       . exact (h.is5 h5).2 b hb
       . rw[List.mem_singleton.1 hb]
         rw[decide_eq_true h5,Bool.true_or,Bool.and_true] at c
         simpa using c
     . rcases List.mem_append.1 hb with hb|hb
       . exact (h.by_ h5).2.2.2 b hb hw
       . rw[List.mem_singleton.1 hb] at hw ⊢
         rw[hw,decide_eq_false h5,Bool.false_or,Bool.true_and] at c
         simpa using c
 intro l hl
 have:=key l [] ⟨x.day+A+1,5,zeroA⟩ hl ⟨fun _=>⟨rfl,fun a ha=>by cases ha⟩,fun h=>absurd rfl h⟩
 rw[List.nil_append] at this
 exact this
theorem AFj {d:Desk} (hv:Vd d) (x:Dispute):DecL x d.terms.answer (d.answers.filter fun a=>decide (a.dispute=x.id)) (dec d x):=AXK _ fun a ha=>(hv.a.v a (List.mem_filter.1 ha).1).2.2.1
theorem AMQ {d:Desk} (hv:Vd d) {x:Dispute}:x.day<=(dec d x).day/\(dec d x).day<=x.day+d.terms.answer+1:=by
 have ht:=hv.t.1
 have h:=AFj hv x
 by_cases c:(dec d x).is_=5
 . rw[(h.is5 c).1]
   show _<=x.day+d.terms.answer+1/\x.day+d.terms.answer+1<=_
   omega
 . obtain⟨h1,_,h2,_⟩:=h.by_ c
   have h2:=G3 h2
   rw[h1]
   show _<=(dec d x).by_.day/\(dec d x).by_.day<=_
   omega
theorem AEA {d:Desk} (hv:Vd d) {x:Dispute} (hx:x∈d.disputes):0<=(dec d x).day/\(dec d x).day<=100000:=by
 obtain⟨_,_,f,hf,x1,x2⟩:=hv.x.v x hx
 have hfm:=(hv.r.v f (V1 hf).1).2.2.2.2.2.1
 have:=AMQ hv (x:=x)
 omega
theorem AK8 {d:Desk} (hv:Vd d) (x:Dispute):2<=(dec d x).is_/\(dec d x).is_<=5:=by
 by_cases c:(dec d x).is_=5
 . omega
 . obtain⟨h1,h2,_⟩:=(AFj hv x).by_ c
   have:=(hv.a.v _ (List.mem_filter.1 h2).1).2.2.1
   rw[h1]
   show 2<=(dec d x).by_.says+1/\(dec d x).by_.says+1<=5
   omega
def wh (d:Desk) (x:Dispute) (day:Int):Int:=if (dec d x).day<=day then (dec d x).is_ else if x.day<=day then 1 else 0
theorem AGH {d:Desk} {D:Desk_99} (hD:Dw d D) (hv:Vd d) {x:Dispute} (hx:x∈d.disputes) {day:Int}:F4 D x day=some (wh d x day,dec d x):=by
 unfold F4 wh
 rw[AQB hD hv hx,bindS]
 by_cases c:(dec d x).day<=day
 . rw[decide_eq_true c,condT,if_pos c]
 . rw[decide_eq_false c,condF,if_neg c]
   by_cases c2:x.day<=day
   . rw[decide_eq_true c2,condT,if_pos c2]
   . rw[decide_eq_false c2,condF,if_neg c2]
theorem AOp {α:Type} {l:List α} {k:α->Int} (h:(l.map k).Nodup) {x:α} (hx:x∈l) {n:Nat} (hn:n < l.length) (he:k l[n]=k x):l[n]=x:=by
 rw[List.Nodup,List.pairwise_map,List.pairwise_iff_getElem] at h
 obtain⟨j,hj,rfl⟩:=List.getElem_of_mem hx
 rcases Nat.lt_trichotomy n j with e|e|e
 . exact absurd he (h n j hn hj e)
 . subst e;rfl
 . exact absurd he.symm (h j n hj hn e)
theorem AGI {d:Desk} (hv:Vd d) {x:Dispute} (hx:x∈d.disputes) {day:Int} (hd:0<=day/\day<=100000):I1 d x.id day=some (wh d x day,(dec d x).day,0):=by
 obtain⟨D,h1,hD⟩:=ADH hv hd
 have hlx:=hv.x.len
 refine Ret.eq ?_
 unfold I1
 rw[h1,bindS]
 refine Ret.condF (by decide) (Ret.bind ?_)
 rw[hD.d]
 refine (AEl (s:=d.disputes) (f:=fun a3=>Z1 a3 x.id) (fun _ _=>rfl) (by omega) (fun h=>?_) fun k hk h hp=>?_:Ret (AG9 _ _) _)
 . exact absurd rfl (of_decide_eq_false (h x hx))
 . refine Ret.condF (decide_eq_false (by omega)) (Ret.bind (K2 hk ?_))
   rw[AOp hv.x.nd hx hk (of_decide_eq_true h),AGH hD hv hx]
   exact Ret.ok rfl
def isO (d:Desk) (report day:Int) (x:Dispute):Bool:=decide (x.report=report)&&decide (wh d x day=1)
def isS (d:Desk) (report day:Int) (x:Dispute):Bool:=decide (x.report=report)&&(decide (wh d x day=2)&&decide (day - (dec d x).day<=d.terms.mark))
def AH5 (d:Desk) (report day:Int):Int:=if d.disputes.any (isO d report day) then 1 else if d.disputes.any (isS d report day) then 2 else 0
theorem AEs {α:Type} {l:List α} {p:α->Bool} {n:Nat} (h:n < l.length):(l.take (n+1)).any p=((l.take n).any p||p l[n]):=by
 rw[AAK h,List.any_append];simp
theorem ATm {d:Desk} (hv:Vd d) {report day:Int} (hd:0<=day/\day<=100000):AAZ d report day=some (if (Z9 d.reports report).isSome then (AH5 d report day,0) else (0,6)):=by
 obtain⟨D,h1,hD⟩:=ADH hv hd
 have hlx:=hv.x.len
 refine Ret.eq ?_
 unfold AAZ
 rw[h1,bindS]
 refine Ret.condF (by decide) ?_
 rw[hD.f,hD.d]
 cases hf:Z9 d.reports report with
 |none=>exact Ret.condT rfl (Ret.ok rfl)
 |some f=>
  refine Ret.condF rfl ?_
  refine Ret.bind (C2 d.disputes.length (fun n (t:Int×Int)=>t.2=n/\(d.disputes.take n).any (isO d report day)=false/\t.1=if (d.disputes.take n).any (isS d report day) then 2 else 0) ⟨rfl,rfl,rfl⟩ ?_ ?_)
  . rintro n hlt ⟨m,_⟩ ⟨rfl,ho,hm⟩
    dsimp only at hm
    have hx:=List.getElem_mem hlt
    refine Ret.condT (V7 hlt) (Ret.bind (Ret.bind (K2 hlt (Ret.cond (fun c=>?_) fun c=>?_))))
    . have c:decide (d.disputes[n].report=report)=false:=by simpa using c
      refine Ret.ok (B8 (Ret.bind (Ret.chk (by omega) (Ret.next ⟨by dsimp only;omega,?_,?_⟩))))
      . rw[AEs hlt,ho];unfold isO;rw[c];rfl
      . dsimp only;rw[AEs hlt,hm];unfold isS;rw[c,Bool.false_and,Bool.or_false]
    . have c:decide (d.disputes[n].report=report)=true:=by simpa using c
      rw[AGH hD hv hx,bindS]
      refine Ret.cond (fun c1=>?_) fun c1=>?_
      . refine Ret.ok (D6 (Ret.done (Ret.ok ?_)))
        have:d.disputes.any (isO d report day)=true:=List.any_eq_true.2 ⟨_,hx,by unfold isO;rw[c,c1];rfl⟩
        unfold AH5
        rw[if_pos this,of_decide_eq_true c1]
        rfl
      . refine Ret.bind ?_
        have key:∀ b:Bool,b=(decide (wh d d.disputes[n] day=2)&&decide (day - (dec d d.disputes[n]).day<=d.terms.mark))->Ret (Option.bind (α:=(Int)) (cond b (some (wh d d.disputes[n] day)) (some m)) fun x27=>some (Sum.inl x27:Int⊕Int)) fun a=>Ret (Sum.elim (fun x28=>Option.bind (chk .i64 ((n:Int)+1)) fun n29=>some (Sum.inl (x28,n29))) (fun x30=>some (Sum.inr x30)) a) (Nxt (fun (t:Int×Int)=>t.2=((n+1:Nat):Int)/\(d.disputes.take (n+1)).any (isO d report day)=false/\t.1=if (d.disputes.take (n+1)).any (isS d report day) then 2 else 0) fun a=>Ret (some (a,(0:Int))) (·=if (some f).isSome then (AH5 d report day,0) else (0,6))):=fun b hb=>by
         have eo:(d.disputes.take (n+1)).any (isO d report day)=false:=by rw[AEs hlt,ho];unfold isO;rw[c,c1];rfl
         have es:(d.disputes.take (n+1)).any (isS d report day)=((d.disputes.take n).any (isS d report day)||b):=by rw[AEs hlt,hb];unfold isS;rw[c,Bool.true_and]
         cases b with
         |true=>
          refine Ret.bind (Ret.condT rfl (Ret.ok (Ret.ok (B8 (Ret.bind (Ret.chk (by omega) (Ret.next ⟨by dsimp only;omega,eo,?_⟩)))))))
          rw[es,Bool.or_true,if_pos rfl]
          symm at hb
          rw[Bool.and_eq_true] at hb
          exact of_decide_eq_true hb.1
         |false=>
          refine Ret.bind (Ret.condF rfl (Ret.ok (Ret.ok (B8 (Ret.bind (Ret.chk (by omega) (Ret.next ⟨by dsimp only;omega,eo,?_⟩)))))))
          rw[es,Bool.or_false]
          exact hm
        have hdi:=AEA hv hx
        refine Ret.cond (fun c2=>Ret.bind (Ret.chk (by omega) (Ret.ok (key _ ?_)))) fun c2=>Ret.ok (key _ ?_)
        . rw[c2,Bool.true_and]
        . rw[c2];rfl
  . rintro⟨m,_⟩ ⟨rfl,ho,hm⟩
    dsimp only at hm
    rw[List.take_length] at ho hm
    refine Ret.condF (Y6 (Nat.le_refl _)) (Ret.done (Ret.ok ?_))
    rw[if_pos (show (some f).isSome=true from rfl)]
    unfold AH5
    rw[if_neg (by rw[ho];decide),hm]
end S
end Go.Proofs.YtgioiejbphljoaaGreatDoor
set_option maxRecDepth 20000
set_option maxHeartbeats 1000000
set_option linter.unusedVariables false
namespace Go.Proofs.YtgioiejbphljoaaGreatDoor
open Go Go.Sx Go.Rx
namespace S
noncomputable def AQu {α:Type} (D:Nat->α->Option Int) (a b:α) (a2_:List Nat):Option Int:=Option.bind (B6 (S:=(Int)) (R:=(Unit⊕Int)) (fun x7=>cond (decide (x7 < (a2_.length:Int))) (Option.bind (ixo a2_ x7) fun y8=>Option.bind (D y8 a) fun y9=>Option.bind (D y8 b) fun y10=>Option.bind (D5 y9 y10) fun r11=>cond ((!decide (r11=0))) (some (Sum.inr (Sum.inr r11))) (Option.bind (chk .i64 (x7+1)) fun n12=>some (Sum.inl n12))) (some (Sum.inr (Sum.inl ())))) (0:Int)) ((Sum.elim (fun _=>some (0:Int)) (fun r13=>some r13)))
def cf2 {α:Type} (k1 k2:α->Int) (a b:α):Int:=if R0 (k1 a) (k1 b)=0 then R0 (k2 a) (k2 b) else R0 (k1 a) (k1 b)
theorem AMR {x y:Int}:R0 x y < 0↔x < y:=by unfold R0;split <;> (try split) <;> omega
theorem ALA {x y:Int}:R0 x y=0↔x=y:=by unfold R0;split <;> (try split) <;> omega
theorem AEB {α:Type} {k1 k2:α->Int} {a b:α}:cf2 k1 k2 a b < 0↔k1 a < k1 b\/k1 a=k1 b/\k2 a < k2 b:=by
 unfold cf2
 split
 . rename_i h
   rw[ALA] at h
   rw[AMR];omega
 . rename_i h
   rw[ALA] at h
   rw[AMR];omega
theorem AGJ {α:Type} {D:Nat->α->Option Int} {k1 k2:α->Int} {i j:Nat} (h1:∀ y,D i y=some (k1 y)) (h2:∀ y,D j y=some (k2 y)) {a b:α}:AQu D a b [i,j]=some (cf2 k1 k2 a b):=by
 refine Ret.eq ?_
 unfold AQu
 refine Ret.bind (Ret.loop (fun t:Int=>t=0\/t=1/\R0 (k1 a) (k1 b)=0\/t=2/\R0 (k1 a) (k1 b)=0/\R0 (k2 a) (k2 b)=0) (fun t=>2 - t.toNat) (.inl rfl) ?_)
 rintro _ (rfl|⟨rfl,e⟩|⟨rfl,e,e2⟩)
 . refine Ret.condT rfl (Ret.bind (Ret.val (show ixo [i,j] 0=some i from rfl) ?_))
   rw[h1,h1,bindS,bindS,p_cmp,bindS]
   by_cases c:R0 (k1 a) (k1 b)=0
   . rw[decide_eq_true c]
     exact Ret.condF rfl (Ret.bind (Ret.chk (by omega) (Ret.next ⟨.inr (.inl ⟨rfl,c⟩),by decide⟩)))
   . rw[decide_eq_false c]
     exact Ret.condT rfl (Ret.done (D6 (Ret.ok (by unfold cf2;rw[if_neg c]))))
 . refine Ret.condT rfl (Ret.bind (Ret.val (show ixo [i,j] 1=some j from rfl) ?_))
   rw[h2,h2,bindS,bindS,p_cmp,bindS]
   by_cases c:R0 (k2 a) (k2 b)=0
   . rw[decide_eq_true c]
     exact Ret.condF rfl (Ret.bind (Ret.chk (by omega) (Ret.next ⟨.inr (.inr ⟨rfl,e,c⟩),by decide⟩)))
   . rw[decide_eq_false c]
     exact Ret.condT rfl (Ret.done (D6 (Ret.ok (by unfold cf2;rw[if_pos e]))))
 . exact Ret.condF rfl (Ret.done (B8 (Ret.ok (by unfold cf2;rw[if_pos e,e2]))))
def le2 {α:Type} (k1 k2:α->Int) (a b:α):Prop:=k1 a < k1 b\/k1 a=k1 b/\k2 a<=k2 b
theorem AJd {α:Type} {x:List α} {cmp:α->α->Option Int} {k1 k2:α->Int} (hc:∀ a b,cmp a b=some (cf2 k1 k2 a b)) (one:∀ a b,a∈x->b∈x->k1 a=k1 b->k2 a=k2 b->a=b) (hl:x.length<=1000000):Ret (ACa x cmp) fun out=>out.Perm x/\out.Pairwise (le2 k1 k2):=by
 have hok:AK0 x cmp (cf2 k1 k2):=by
  refine⟨fun a b _ _=>hc a b,⟨fun a=>?_,fun a b c h1 h2=>?_,fun a b c h1 h2=>?_⟩,fun a b ha hb h1 h2=>?_⟩
  . show decide (cf2 k1 k2 a.1 a.1 < 0)=false
    rw[decide_eq_false_iff_not,AEB];omega
  . have h1:=of_decide_eq_true h1
    have h2:=of_decide_eq_true h2
    refine decide_eq_true ?_
    rw[AEB] at *
    omega
  . have h1:=of_decide_eq_false h1
    have h2:=of_decide_eq_false h2
    refine decide_eq_false ?_
    rw[AEB] at *
    omega
  . rw[AEB] at h1 h2
    exact one a b ha hb (by omega) (by omega)
 have hex:x.length < 4611686018427387904/\∃ cf,AK0 x cmp cf:=⟨by omega,_,hok⟩
 have hs:ACa x cmp=some (x.mergeSort fun a b=>!decide (hex.2.choose b a < 0)):=by
  unfold ACa
  rw[dif_pos hex]
 refine Ret.val hs ⟨List.mergeSort_perm _ _,?_⟩
 have hsp:=hex.2.choose_spec.1
 have hm:=List.map_mergeSort (r:=fun a b=>!decide (hex.2.choose b a < 0)) (s:=fun a b=>!decide (cf2 k1 k2 b a < 0)) (f:=id) (l:=x) fun a ha b hb=>by
  have h1:=hsp b a hb ha
  rw[hc] at h1
  rw[<-Option.some.inj h1];rfl
 simp only[List.map_id] at hm
 rw[hm]
 have hle:∀ a b:α,(!decide (cf2 k1 k2 b a < 0))=true↔le2 k1 k2 a b:=fun a b=>by
  rw[Bool.not_eq_true',decide_eq_false_iff_not,AEB]
  unfold le2;omega
 refine (List.pairwise_mergeSort (fun a b c h1 h2=>?_) (fun a b=>?_) x).imp fun h=>(hle _ _).1 h
 . rw[hle] at *;unfold le2 at *;omega
 . rw[Bool.or_eq_true,hle,hle];unfold le2;omega
theorem AEt {α:Type} {k1 k2:α->Int} {l1 l2:List α} (hp:l1.Perm l2) (h1:l1.Pairwise (le2 k1 k2)) (h2:l2.Pairwise (le2 k1 k2)) (one:∀ a b,a∈l1->b∈l1->k1 a=k1 b->k2 a=k2 b->a=b):l1=l2:=by
 refine List.Perm.eq_of_pairwise (fun a b ha hb hab hba=>?_) h1 h2 hp
 unfold le2 at hab hba
 exact one a b ha (hp.mem_iff.2 hb) (by omega) (by omega)
theorem AAL {α:Type} {l:List α} {k:α->Int} (h:(l.map k).Nodup):∀ a b,a∈l->b∈l->k a=k b->a=b:=fun a b ha hb e=>by
 obtain⟨i,hi,rfl⟩:=List.getElem_of_mem ha
 exact AOp h hb hi e
def ANY (d:Desk) (day:Int) (out:List Int):Prop:=∃ m:List Dispute,m.Perm d.disputes/\m.Pairwise (le2 (·.day) (·.id))/\out=(m.filter fun y=>decide (wh d y day=1)).map (·.id)
theorem AVw {d:Desk} (hv:Vd d) {day:Int} (hd:0<=day/\day<=100000):Ret (R4 d day) fun r=>r.2=0/\ANY d day r.1:=by
 obtain⟨D,h1,hD⟩:=ADH hv hd
 have hlx:=hv.x.len
 unfold R4
 rw[h1,bindS]
 refine Ret.condF (by decide) ?_
 rw[hD.d]
 have hc:O3 d.disputes=some d.disputes:=by
  unfold O3
  have h2:appo 24 ([]:List Dispute) d.disputes=some d.disputes:=ACf (xs:=([]:List Dispute)) (by simp;omega) (by simp;omega)
  refine ANt (fun h=>?_) ?_
  . rw[h];rfl
  . show Option.bind (appo 24 ([]:List Dispute) d.disputes) (fun l7=>some l7)=some d.disputes
    rw[h2,bindS]
 rw[hc,bindS]
 have ho:=AJd (x:=d.disputes) (cmp:=fun a b=>I9 a b [60,61]) (k1:=(·.day)) (k2:=(·.id)) (fun a b=>AGJ (D:=fd130.D) (fun _=>rfl) (fun _=>rfl)) (fun a b ha hb _ e=>AAL hv.x.nd a b ha hb e) (by omega)
 refine Ret.bind (Ret.bind (ho.mono fun m hm=>Ret.ok ?_))
 obtain⟨hp,hs⟩:=hm
 have hml:m.length=d.disputes.length:=hp.length_eq
 refine Ret.bind (C2 m.length (fun n (t:Int×List Int)=>t.1=n/\t.2=((m.take n).filter fun y=>decide (wh d y day=1)).map (·.id)) ⟨rfl,rfl⟩ ?_ ?_)
 . rintro n hlt ⟨_,o⟩ ⟨rfl,rfl⟩
   have hx:m[n]∈d.disputes:=hp.mem_iff.1 (List.getElem_mem hlt)
   refine Ret.condT (V7 hlt) (Ret.bind (K2 hlt ?_))
   rw[AGH hD hv hx,bindS]
   have hol:(((m.take n).filter fun y=>decide (wh d y day=1)).map (·.id)).length<=n:=by
    rw[List.length_map]
    exact Nat.le_trans (List.length_filter_le ..) (by rw[List.length_take];omega)
   refine Ret.bind (Ret.cond (fun c=>?_) fun c=>?_)
   . refine Ret.bind (Ret.appo (by simp only[List.length_singleton];omega) (by simp only[List.length_singleton];omega) (Ret.ok (Ret.bind (Ret.chk (by omega) (Ret.next ⟨by dsimp only;omega,?_⟩)))))
     dsimp only
     rw[AAK hlt,List.filter_append,List.map_append]
     congr 1
     rw[List.filter_cons,if_pos c];rfl
   . refine Ret.ok (Ret.bind (Ret.chk (by omega) (Ret.next ⟨by dsimp only;omega,?_⟩)))
     dsimp only
     rw[AAK hlt,List.filter_append,List.map_append,List.filter_cons,if_neg (by rw[c];decide)]
     simp
 . rintro⟨_,o⟩ ⟨rfl,rfl⟩
   refine Ret.condF (Y6 (Nat.le_refl _)) (Ret.done (Ret.ok ⟨rfl,m,hp,hs,?_⟩))
   dsimp only
   rw[List.take_length]
end S
end Go.Proofs.YtgioiejbphljoaaGreatDoor
set_option maxRecDepth 20000
set_option maxHeartbeats 1000000
set_option linter.unusedVariables false
namespace Go.Proofs.YtgioiejbphljoaaGreatDoor
open Go Go.Sx Go.Rx
namespace S
def Aim (K:List Report) (r o:Report):Prop:=o∈K/\o.id=r.of_/\o.source=r.source/\o.account=r.account
def Wd (K:List Report) (i:Int) (r:Report):Prop:=r∈K/\r.kind=9/\r.of_=i/\∃ o,Aim K r o/\o.kind≠9
def Least (p:Report->Prop) (l:List Report):Option Int->Prop
 |none=>∀ r∈l,¬ p r
 |some z=>∃ r∈l,p r/\r.id=z/\∀ s∈l,p s->z<=s.id
def Latest (p:Report->Prop) (l:List Report):Option Report->Prop
 |none=>∀ r∈l,¬ p r
 |some r=>r∈l/\p r/\∀ s∈l,p s->s.made < r.made\/s.made=r.made/\s.id<=r.id
def WdR (K:List Report) (i:Int) (z:Option Int):Prop:=Least (Wd K i) K z
def Co (K:List Report) (o r:Report):Prop:=r.kind=8/\Aim K r o/\(0<=r.cents/\r.cents<=most o.kind)/\WdR K r.id none
structure Ok (K:List Report):Prop where
 v:∀ r∈K,V r
 nd:(K.map (·.id)).Nodup
 len:K.length<=60
theorem Ok.one {K:List Report} (h:Ok K) {a b:Report} (ha:a∈K) (hb:b∈K) (e:a.id=b.id):a=b:=by
 exact AAL h.nd a b ha hb e
theorem Least.uniq {p:Report->Prop} {l:List Report} {a b:Option Int} (h1:Least p l a) (h2:Least p l b):a=b:=by
 cases a with
 |none=>
  cases b with
  |none=>rfl
  |some y=>obtain⟨r,hr,hp,_⟩:=h2;exact absurd hp (h1 r hr)
 |some x=>
  cases b with
  |none=>obtain⟨r,hr,hp,_⟩:=h1;exact absurd hp (h2 r hr)
  |some y=>
   obtain⟨r,hr,hp,rfl,hx⟩:=h1
   obtain⟨s,hs,hq,rfl,hy⟩:=h2
   have:=hx s hs hq
   have:=hy r hr hp
   rw[show r.id=s.id by omega]
theorem Least.congr {p q:Report->Prop} {l l':List Report} {a:Option Int} (h:Least p l a) (e:∀ r,r∈l/\p r↔r∈l'/\q r):Least q l' a:=by
 cases a with
 |none=>
  intro r hr hq
  obtain⟨h1,h2⟩:=(e r).2 ⟨hr,hq⟩
  exact h r h1 h2
 |some x=>
  obtain⟨r,hr,hp,hx,hm⟩:=h
  obtain⟨h1,h2⟩:=(e r).1 ⟨hr,hp⟩
  exact⟨r,h1,h2,hx,fun s hs hq=>by
   obtain⟨h3,h4⟩:=(e s).2 ⟨hs,hq⟩
   exact hm s h3 h4⟩
theorem Latest.congr {p q:Report->Prop} {l l':List Report} {a:Option Report} (h:Latest p l a) (e:∀ r,r∈l/\p r↔r∈l'/\q r):Latest q l' a:=by
 cases a with
 |none=>
  intro r hr hq
  obtain⟨h1,h2⟩:=(e r).2 ⟨hr,hq⟩
  exact h r h1 h2
 |some x=>
  obtain⟨hr,hp,hm⟩:=h
  obtain⟨h1,h2⟩:=(e x).1 ⟨hr,hp⟩
  exact⟨h1,h2,fun s hs hq=>by
   obtain⟨h3,h4⟩:=(e s).2 ⟨hs,hq⟩
   exact hm s h3 h4⟩
theorem Latest.uniq {K:List Report} (hK:Ok K) {p:Report->Prop} {a b:Option Report} (h1:Latest p K a) (h2:Latest p K b):a=b:=by
 cases a with
 |none=>
  cases b with
  |none=>rfl
  |some y=>exact absurd h2.2.1 (h1 y h2.1)
 |some x=>
  cases b with
  |none=>exact absurd h1.2.1 (h2 x h1.1)
  |some y=>
   obtain⟨hx,px,mx⟩:=h1
   obtain⟨hy,py,my⟩:=h2
   have:=mx y hy py
   have:=my x hx px
   rw[hK.one hx hy (by omega)]
theorem Least.push {p:Report->Prop} {l:List Report} {z:Option Int} (h:Least p l z) (x:Report):(¬ p x->Least p (l++[x]) z)/\(p x->(z=none\/∃ y,z=some y/\x.id < y)->Least p (l++[x]) (some x.id))/\(p x->∀ y,z=some y->y<=x.id->Least p (l++[x]) z):=by
 have mem:∀ s,s∈l++[x]↔s∈l\/s=x:=fun s=>by simp
 refine⟨fun hx=>?_,fun hx hz=>?_,fun hx y hy hle=>?_⟩
 . cases z with
   |none=>
    intro r hr
    rcases (mem r).1 hr with h1|rfl
    . exact h r h1
    . exact hx
   |some y=>
    obtain⟨r,hr,hp,he,hm⟩:=h
    exact⟨r,(mem r).2 (.inl hr),hp,he,fun s hs hq=>by
     rcases (mem s).1 hs with h1|rfl
     . exact hm s h1 hq
     . exact absurd hq hx⟩
 . refine⟨x,(mem x).2 (.inr rfl),hx,rfl,fun s hs hq=>?_⟩
   rcases (mem s).1 hs with h1|rfl
   . rcases hz with rfl|⟨y,rfl,hlt⟩
     . exact absurd hq (h s h1)
     . obtain⟨r,hr,hp,he,hm⟩:=h
       have:=hm s h1 hq
       omega
   . exact Int.le_refl _
 . subst hy
   obtain⟨r,hr,hp,he,hm⟩:=h
   exact⟨r,(mem r).2 (.inl hr),hp,he,fun s hs hq=>by
    rcases (mem s).1 hs with h1|rfl
    . exact hm s h1 hq
    . exact hle⟩
theorem Latest.push {p:Report->Prop} {l:List Report} {z:Option Report} (h:Latest p l z) (x:Report):(¬ p x->Latest p (l++[x]) z)/\(p x->(z=none\/∃ y,z=some y/\(y.made < x.made\/y.made=x.made/\y.id < x.id))->Latest p (l++[x]) (some x))/\(p x->∀ y,z=some y->¬ (y.made < x.made\/y.made=x.made/\y.id < x.id)->Latest p (l++[x]) z):=by
 have mem:∀ s,s∈l++[x]↔s∈l\/s=x:=fun s=>by simp
 refine⟨fun hx=>?_,fun hx hz=>?_,fun hx y hy hle=>?_⟩
 . cases z with
   |none=>
    intro r hr
    rcases (mem r).1 hr with h1|rfl
    . exact h r h1
    . exact hx
   |some y=>
    obtain⟨hr,hp,hm⟩:=h
    exact⟨(mem y).2 (.inl hr),hp,fun s hs hq=>by
     rcases (mem s).1 hs with h1|rfl
     . exact hm s h1 hq
     . exact absurd hq hx⟩
 . refine⟨(mem x).2 (.inr rfl),hx,fun s hs hq=>?_⟩
   rcases (mem s).1 hs with h1|rfl
   . rcases hz with rfl|⟨y,rfl,hlt⟩
     . exact absurd hq (h s h1)
     . have:=h.2.2 s h1 hq
       omega
   . omega
 . subst hy
   obtain⟨hr,hp,hm⟩:=h
   exact⟨(mem y).2 (.inl hr),hp,fun s hs hq=>by
    rcases (mem s).1 hs with h1|rfl
    . exact hm s h1 hq
    . omega⟩
def D7:List Report->Int->List Report
 |[],_=>[]
 |r :: l,k=>if r.made<=k/\r∉D7 l k then r :: D7 l k else D7 l k
theorem kn_mem:∀ {l:List Report} {k:Int} {r:Report},r∈D7 l k↔r∈l/\r.made<=k
 |[],k,r=>by simp[D7]
 |x :: l,k,r=>by
  unfold D7
  split
  . rename_i h
    rw[List.mem_cons,List.mem_cons,kn_mem]
    constructor
    . rintro (rfl|h1)
      . exact⟨.inl rfl,h.1⟩
      . exact⟨.inr h1.1,h1.2⟩
    . rintro⟨rfl|h1,h2⟩
      . exact .inl rfl
      . exact .inr ⟨h1,h2⟩
  . rename_i h
    rw[List.mem_cons,kn_mem]
    constructor
    . rintro⟨h1,h2⟩;exact⟨.inr h1,h2⟩
    . rintro⟨rfl|h1,h2⟩
      . exact kn_mem.1 (Classical.byContradiction fun h3=>h ⟨h2,h3⟩)
      . exact⟨h1,h2⟩
theorem kn_nd:∀ {l:List Report} {k:Int},(D7 l k).Nodup
 |[],k=>List.nodup_nil
 |x :: l,k=>by
  unfold D7
  split
  . rename_i h
    exact List.nodup_cons.2 ⟨h.2,kn_nd⟩
  . exact kn_nd
theorem AOq:∀ {l:List Report} {k:Int},(D7 l k).length<=l.length
 |[],k=>Nat.le_refl _
 |x :: l,k=>by
  unfold D7
  have:=AOq (l:=l) (k:=k)
  split
  . simp only[List.length_cons];omega
  . simp only[List.length_cons];omega
theorem X7 {l:List Report} (h:VL l) (k:Int):Ok (D7 l k):=by
 refine⟨fun r hr=>h.v r (kn_mem.1 hr).1,?_,Nat.le_trans AOq h.len⟩
 rw[List.Nodup,List.pairwise_map]
 exact List.Pairwise.imp_of_mem (fun {a b} ha hb hne e=>hne (h.cons a (kn_mem.1 ha).1 b (kn_mem.1 hb).1 e)) kn_nd
def Rep (K:List Report) (m:A3 Int Report):Prop:=∀ i r,m i=some r↔r∈K/\r.id=i
theorem AB5 {S β:Type} {f:S->β->Option S} (I:List β->S->Prop):∀ (l pre:List β) (s:S),I pre s->(∀ pre x s,x∈l->I pre s->∃ s',f s x=some s'/\I (pre++[x]) s')->∃ s',l.foldlM f s=some s'/\I (pre++l) s'
 |[],pre,s,h,_=>⟨s,rfl,by simpa using h⟩
 |x :: l,pre,s,h,hs=>by
  obtain⟨s1,h1,h2⟩:=hs pre x s (List.mem_cons_self ..) h
  obtain⟨s2,h3,h4⟩:=AB5 I l (pre++[x]) s1 h2 fun pre y s hy=>hs pre y s (List.mem_cons_of_mem _ hy)
  refine⟨s2,?_,by simpa using h4⟩
  rw[List.foldlM_cons,h1];exact h3
theorem Rep.lists {K:List Report} (hK:Ok K) {m:A3 Int Report} (h:Rep K m):Lists m (K.map fun r=>(r.id,r)):=by
 refine⟨?_,fun a y=>?_⟩
 . rw[List.map_map];exact hK.nd
 . rw[h,List.mem_map]
   constructor
   . rintro⟨r,hr,e⟩;cases e;exact⟨hr,rfl⟩
   . rintro⟨hr,rfl⟩;exact⟨y,hr,rfl⟩
theorem Rep.mem {K:List Report} {m:A3 Int Report} (h:Rep K m) {l:List (Int×Report)} (hl:Lists m l) (r:Report):r∈l.map (·.2)↔r∈K:=by
 rw[List.mem_map]
 constructor
 . rintro⟨⟨a,y⟩,hy,rfl⟩
   exact ((h a y).1 ((hl.2 a y).1 hy)).1
 . intro hr
   exact⟨(r.id,r),(hl.2 _ _).2 ((h _ _).2 ⟨hr,rfl⟩),rfl⟩
theorem AH7 {S κ α R:Type} {f:S->κ×α->Option S} {m:A3 κ α} {l0:List (κ×α)} (h0:Lists m l0) {s0:S} (Spec:S->Prop) (hall:∀ l,Lists m l->∃ s,l.foldlM f s0=some s/\Spec s) (uniq:∀ s s',Spec s->Spec s'->s=s') {K:S->Option R} {Q:R->Prop} (h:∀ s,Spec s->Ret (K s) Q):Ret (AAg m fun l=>Option.bind (l.foldlM f s0) K) Q:=by
 obtain⟨r,hr,hs⟩:=hall _ h0
 obtain⟨a,ha,hq⟩:=h r hs
 refine⟨a,AIE h0 fun l hl=>?_,hq⟩
 obtain⟨s,h1,h2⟩:=hall l hl
 rw[h1,bindS,uniq s r h2 hs,ha]
theorem ATn {m:A3 Int Report} {r:Report} (h:m r.of_=none):E4 (Store.mk m) r=some (Report.mk 0 0 0 0 0 0 0 0,false):=by
 unfold E4
 simp[h]
theorem ATo {m:A3 Int Report} {r o:Report} (h:m r.of_=some o):E4 (Store.mk m) r=some (o,decide (o.source=r.source/\o.account=r.account)):=by
 unfold E4
 by_cases c1:o.source=r.source
 . simp[h,c1]
   rw[<-c1]
 . simp[h,c1]
section
variable {K:List Report} (hK:Ok K) {m:A3 Int Report} (hm:Rep K m)
include hK hm
theorem AJe {r:Report} {Q:Report×Bool->Prop} (h1:∀ o,Aim K r o->Q (o,true)) (h2:∀ o',(∀ o,¬ Aim K r o)->Q (o',false)):Ret (E4 (Store.mk m) r) Q:=by
 rcases hq:m r.of_ with _|o
 . rw[ATn hq]
   refine Ret.ok (h2 _ fun o ha=>?_)
   rw[(hm _ o).2 ⟨ha.1,ha.2.1⟩] at hq;cases hq
 . obtain⟨ho,he⟩:=(hm _ o).1 hq
   rw[ATo hq]
   by_cases c:o.source=r.source/\o.account=r.account
   . rw[decide_eq_true c];exact Ret.ok (h1 o ⟨ho,he,c.1,c.2⟩)
   . rw[decide_eq_false c]
     exact Ret.ok (h2 _ fun o' ha=>c (by rw[<-hK.one ha.1 ho (by rw[ha.2.1,he])];exact⟨ha.2.2.1,ha.2.2.2⟩))
end
def Co' (K:List Report) (i:Int) (r:Report):Prop:=∃ o∈K,o.id=i/\o.kind<=7/\WdR K i none/\Co K o r
structure Dk (K:List Report) (d:Desk_139):Prop where
 reports:Rep K d.store.reports
 gone:∀ i,WdR K i (d.gone i)
 fixed:∀ i,∃ z:Option Report,d.fixed i=z.map (·.id)/\Latest (Co' K i) K z
theorem ALC {l:List Report} (hv:VL l) {known:Int} {Q:Desk_139->Prop} (h:∀ d,Dk (D7 l known) d->Q d):Ret (O9 l known) Q:=by
 have hK:Ok (D7 l known):=X7 hv known
 have hC:=hv.cons
 have hl:=hv.len
 generalize hKe:D7 l known=K at h hK
 unfold O9
 refine Ret.bind (C2 l.length (fun n (t:Int×A3 Int Report)=>t.1=n/\∀ i r,t.2 i=some r↔(r∈l.take n/\r.made<=known)/\r.id=i) ⟨rfl,fun i r=>by simp[fnone]⟩ ?_ ?_)
 . rintro n hlt ⟨_,m⟩ ⟨rfl,hm⟩
   dsimp only at hm
   refine Ret.condT (V7 hlt) (Ret.bind (K2 hlt (Ret.bind (Ret.cond (fun c=>?_) fun c=>?_))))
   . have c:=of_decide_eq_true c
     refine Ret.ok (Ret.bind (Ret.chk (by omega) (Ret.next ⟨by dsimp only;omega,fun i r=>?_⟩)))
     rw[E7 hlt]
     show B5 m l[n].id l[n] i=some r↔_
     unfold B5
     by_cases e:i=l[n].id
     . subst e
       simp only[if_true]
       constructor
       . intro h9
         have:=Option.some.inj h9
         exact⟨⟨.inr this.symm,by rw[<-this];exact c⟩,by rw[<-this]⟩
       . rintro⟨⟨h9|h9,h8⟩,h7⟩
         . rw[hC r (List.mem_of_mem_take h9) l[n] (List.getElem_mem hlt) h7]
         . rw[h9]
     . simp only[e,if_false]
       rw[hm]
       constructor
       . rintro⟨⟨h9,h8⟩,h7⟩;exact⟨⟨.inl h9,h8⟩,h7⟩
       . rintro⟨⟨h9|h9,h8⟩,h7⟩
         . exact⟨⟨h9,h8⟩,h7⟩
         . exact absurd (by rw[<-h7,h9]) e
   . have c:=of_decide_eq_false c
     refine Ret.ok (Ret.bind (Ret.chk (by omega) (Ret.next ⟨by dsimp only;omega,fun i r=>?_⟩)))
     rw[E7 hlt]
     dsimp only
     rw[hm]
     constructor
     . rintro⟨⟨h9,h8⟩,h7⟩;exact⟨⟨.inl h9,h8⟩,h7⟩
     . rintro⟨⟨h9|h9,h8⟩,h7⟩
       . exact⟨⟨h9,h8⟩,h7⟩
       . exact absurd (h9▸h8) c
 rintro⟨_,m⟩ ⟨rfl,hm⟩
 dsimp only at hm
 rw[List.take_length] at hm
 refine Ret.condF (Y6 (Nat.le_refl _)) (Ret.done ?_)
 have hm:Rep K m:=fun i r=>by rw[hm,<-hKe,kn_mem]
 have hl0:=hm.lists hK
 have mem1:∀ {lx:List (Int×Report)},Lists m lx->∀ x∈lx,x.2∈K:=fun hlx x hx=>(hm.mem hlx x.2).1 (List.mem_map.2 ⟨x,hx,rfl⟩)
 refine AH7 hl0 (fun s:A3 Int Int=>∀ i,WdR K i (s i)) (fun lx hlx=>?_) (fun s s' hs hs'=>funext fun i=>(hs i).uniq (hs' i)) fun g hg=>?_
 . refine Exists.imp (fun s (h:_/\_)=>⟨h.1,fun i=>(h.2 i).congr fun r=>by rw[List.nil_append,hm.mem hlx]⟩) (AB5 (fun (pre:List (Int×Report)) (s:A3 Int Int)=>∀ i,Least (Wd K i) (pre.map (·.2)) (s i)) lx [] (fnone:A3 Int Int) (fun i r hr=>by simp at hr) (fun pre x s hx hI=>?_))
   . obtain⟨xk,r⟩:=x
     have hr:r∈K:=mem1 hlx _ hx
     have no:(∀ i,¬ Wd K i r)->∀ i,Least (Wd K i) ((pre++[(xk,r)]).map (·.2)) (s i):=fun hn i=>by rw[List.map_append];exact ((hI i).push r).1 (hn i)
     show Ret _ fun s':A3 Int Int=>∀ i,Least (Wd K i) ((pre++[(xk,r)]).map (·.2)) (s' i)
     refine Ret.bind (AJe hK hm (fun o ha=>?_) fun o' hna=>?_)
     . dsimp only
       by_cases c1:r.kind=9
       . rw[decide_eq_true c1]
         by_cases c2:o.kind=9
         . rw[decide_eq_true c2]
           refine Ret.bind (Ret.condT rfl (Ret.condT rfl (Ret.ok (Ret.bind (Ret.condF rfl (Ret.ok (Ret.ok (no fun i hw=>?_))))))))
           obtain⟨_,_,h3,o2,ha2,h9⟩:=hw
           exact h9 (by rw[hK.one ha2.1 ha.1 (by rw[ha2.2.1,ha.2.1])];exact c2)
         . rw[decide_eq_false c2]
           have hw:Wd K o.id r:=⟨hr,c1,ha.2.1.symm,o,ha,c2⟩
           have oth:∀ i,i≠o.id->¬ Wd K i r:=fun i hi hw=>hi (by rw[ha.2.1,hw.2.2.1])
           refine Ret.bind (Ret.condT rfl (Ret.condT rfl (Ret.ok (Ret.bind (Ret.condT rfl (Ret.bind ?_))))))
           have put:(s o.id=none\/∃ y,s o.id=some y/\r.id < y)->∀ i,Least (Wd K i) ((pre++[(xk,r)]).map (·.2)) (B5 s o.id r.id i):=fun hz i=>by
            rw[List.map_append]
            unfold B5
            by_cases e:i=o.id
            . subst e;rw[if_pos rfl];exact ((hI _).push r).2.1 hw hz
            . rw[if_neg e];exact ((hI i).push r).1 (oth i e)
           cases hz:s o.id with
           |none=>exact Ret.condT rfl (Ret.ok (Ret.bind (Ret.condT rfl (Ret.ok (Ret.ok (Ret.ok (put (.inl hz))))))))
           |some y=>
            refine Ret.condF rfl (Ret.ok ?_)
            by_cases c3:r.id < y
            . rw[decide_eq_true (show r.id < (some y).getD 0 from c3)]
              exact Ret.bind (Ret.condT rfl (Ret.ok (Ret.ok (Ret.ok (put (.inr ⟨y,hz,c3⟩))))))
            . rw[decide_eq_false (show ¬ r.id < (some y).getD 0 from c3)]
              refine Ret.bind (Ret.condF rfl (Ret.ok (Ret.ok (Ret.ok fun i=>?_))))
              rw[List.map_append]
              by_cases e:i=o.id
              . subst e;exact ((hI _).push r).2.2 hw y hz (by omega)
              . exact ((hI i).push r).1 (oth i e)
       . rw[decide_eq_false c1]
         exact Ret.bind (Ret.condF rfl (Ret.ok (Ret.bind (Ret.condF rfl (Ret.ok (Ret.ok (no fun i hw=>c1 hw.2.1)))))))
     . dsimp only
       have hn:∀ i,¬ Wd K i r:=fun i hw=>by
        obtain⟨_,_,_,o2,ha2,_⟩:=hw
        exact hna o2 ha2
       refine Ret.bind (Ret.cond (fun _=>Ret.condF rfl (Ret.ok ?_)) fun _=>Ret.ok ?_) <;> exact Ret.bind (Ret.condF rfl (Ret.ok (Ret.ok (no hn))))
 refine AH7 hl0 (fun s:A3 Int Int=>∀ i,∃ z:Option Report,s i=z.map (·.id)/\Latest (Co' K i) K z) (fun lx hlx=>?_) (fun s s' hs hs'=>funext fun i=>?_) fun f hf=>?_
 . refine Exists.imp (fun s (h:_/\_)=>⟨h.1,fun i=>(by
    obtain⟨z,hz,hz2⟩:=h.2.2 i
    exact⟨z,hz,hz2.congr fun r=>by rw[List.nil_append,hm.mem hlx]⟩)⟩) (AB5 (fun (pre:List (Int×Report)) (s:A3 Int Int)=>(∀ x∈pre,x.2∈K)/\∀ i,∃ z:Option Report,s i=z.map (·.id)/\Latest (Co' K i) (pre.map (·.2)) z) lx [] (fnone:A3 Int Int) ⟨(fun x hx=>by simp at hx),fun i=>⟨none,rfl,fun r hr=>by simp at hr⟩⟩ (fun pre x s hx hI=>?_))
   . obtain⟨xk,r⟩:=x
     have hr:r∈K:=mem1 hlx _ hx
     obtain⟨hpre,hI⟩:=hI
     have hpre':∀ x∈pre++[(xk,r)],x.2∈K:=fun x hx=>by
      rcases List.mem_append.1 hx with h9|h9
      . exact hpre x h9
      . have:x=(xk,r):=by simpa using h9
        rw[this];exact hr
     have no:(∀ i,¬ Co' K i r)->(∀ x∈pre++[(xk,r)],x.2∈K)/\∀ i,∃ z:Option Report,s i=z.map (·.id)/\Latest (Co' K i) ((pre++[(xk,r)]).map (·.2)) z:=fun hn=>⟨hpre',fun i=>by
      obtain⟨z,hz,hz2⟩:=hI i
      rw[List.map_append]
      exact⟨z,hz,(hz2.push r).1 (hn i)⟩⟩
     show Ret _ fun s':A3 Int Int=>(∀ x∈pre++[(xk,r)],x.2∈K)/\∀ i,∃ z:Option Report,s' i=z.map (·.id)/\Latest (Co' K i) ((pre++[(xk,r)]).map (·.2)) z
     refine Ret.bind (AJe hK hm (fun o ha=>?_) fun o' hna=>?_)
     . dsimp only
       have hov:=hK.v o ha.1
       have one:∀ {i o2},o2∈K->o2.id=i->Co K o2 r->o2=o:=fun h1 _ h3=>hK.one h1 ha.1 (by rw[h3.2.1.2.1,ha.2.1])
       by_cases c1:r.kind=8
       . rw[decide_eq_true c1]
         refine Ret.bind (Ret.condF rfl (Ret.condF rfl ?_))
         unfold D4
         refine Ret.bind (Ret.ok ?_)
         by_cases c2:o.kind<=7
         . refine Ret.condF (by simp;exact c2) ?_
           rw[AOg hov.1,AFd (by simp),bindS]
           by_cases c3:0<=r.cents/\r.cents<=most o.kind
           . refine Ret.condF (by simp[inB,c3]) ?_
             unfold Q2
             refine Ret.bind (Ret.ok ?_)
             dsimp only
             have gs:∀ i,(g i).isSome=true↔¬ WdR K i none:=fun i=>by
              cases hq:g i with
              |none=>simp;have:=hg i;rw[hq] at this;exact this
              |some y=>simp;intro h9;have:=(hg i).uniq h9;rw[hq] at this;cases this
             by_cases c4:(g r.id).isSome=true
             . rw[c4]
               exact Ret.condT rfl (Ret.ok (Ret.condT rfl (Ret.ok (no fun i hc=>by
                obtain⟨o2,_,_,_,_,h5⟩:=hc
                exact (gs r.id).1 c4 h5.2.2.2))))
             . have c4':(g r.id).isSome=false:=by simpa using c4
               rw[c4']
               refine Ret.condF rfl (Ret.bind (Ret.ok ?_))
               by_cases c5:(g o.id).isSome=true
               . rw[c5]
                 exact Ret.ok (Ret.condT rfl (Ret.ok (no fun i hc=>by
                  obtain⟨o2,h1,h2,_,h4,h5⟩:=hc
                  have:=one h1 h2 h5
                  subst this
                  exact (gs o2.id).1 c5 (h2▸h4))))
               . have c5':(g o.id).isSome=false:=by simpa using c5
                 rw[c5']
                 refine Ret.ok (Ret.condF rfl ?_)
                 have w1:WdR K r.id none:=Classical.byContradiction fun h9=>c4 ((gs r.id).2 h9)
                 have w2:WdR K o.id none:=Classical.byContradiction fun h9=>c5 ((gs o.id).2 h9)
                 have hc:Co' K o.id r:=⟨o,ha.1,rfl,c2,w2,c1,ha,c3,w1⟩
                 have oth:∀ i,i≠o.id->¬ Co' K i r:=fun i hi hc=>by
                  obtain⟨o2,h1,h2,_,_,h5⟩:=hc
                  exact hi (by rw[<-h2,one h1 h2 h5])
                 obtain⟨z,hz,hz2⟩:=hI o.id
                 have put:(z=none\/∃ y,z=some y/\(y.made < r.made\/y.made=r.made/\y.id < r.id))->(∀ x∈pre++[(xk,r)],x.2∈K)/\∀ i,∃ z:Option Report,(B5 s o.id r.id) i=z.map (·.id)/\Latest (Co' K i) ((pre++[(xk,r)]).map (·.2)) z:=fun h9=>⟨hpre',fun i=>by
                  rw[List.map_append]
                  unfold B5
                  by_cases e:i=o.id
                  . subst e;rw[if_pos rfl];exact⟨some r,rfl,(hz2.push r).2.1 hc h9⟩
                  . rw[if_neg e]
                    obtain⟨z',hz',hz2'⟩:=hI i
                    exact⟨z',hz',(hz2'.push r).1 (oth i e)⟩⟩
                 have keep:∀ y,z=some y->¬ (y.made < r.made\/y.made=r.made/\y.id < r.id)->(∀ x∈pre++[(xk,r)],x.2∈K)/\∀ i,∃ z:Option Report,s i=z.map (·.id)/\Latest (Co' K i) ((pre++[(xk,r)]).map (·.2)) z:=fun y hy h9=>⟨hpre',fun i=>by
                  rw[List.map_append]
                  by_cases e:i=o.id
                  . subst e;exact⟨z,hz,(hz2.push r).2.2 hc y hy h9⟩
                  . obtain⟨z',hz',hz2'⟩:=hI i
                    exact⟨z',hz',(hz2'.push r).1 (oth i e)⟩⟩
                 refine Ret.bind ?_
                 rw[hz]
                 cases z with
                 |none=>exact Ret.condT rfl (Ret.ok (Ret.bind (Ret.condT rfl (Ret.ok (Ret.ok (put (.inl rfl)))))))
                 |some y=>
                  have hyK:y∈K:=by
                   obtain⟨q,hq,hq2⟩:=List.mem_map.1 hz2.1
                   rw[<-hq2];exact hpre q hq
                  have hmy:m y.id=some y:=(hm _ _).2 ⟨hyK,rfl⟩
                  refine Ret.condF rfl (Ret.bind (Ret.val p_cmp (Ret.bind (Ret.val p_cmp (Ret.bind (Ret.val p_Or ?_))))))
                  have hyid:((some y).map (·.id)).getD 0=y.id:=rfl
                  rw[hyid,hmy]
                  simp only[Option.getD_some]
                  have bd:∀ a b:Int,-1<=R0 a b/\R0 a b<=1:=fun a b=>by unfold R0;split <;> (try split) <;> omega
                  have b1:=bd y.made r.made
                  have b2:=bd y.id r.id
                  refine Ret.ok ?_
                  have key:decide ((if R0 y.made r.made=0 then R0 y.id r.id else R0 y.made r.made) < 0)=decide (y.made < r.made\/y.made=r.made/\y.id < r.id):=by
                   rw[decide_eq_decide]
                   unfold R0
                   by_cases h1:y.made < r.made
                   . simp[h1]
                   . by_cases h2:r.made < y.made
                     . simp[h1,h2];omega
                     . have:y.made=r.made:=by omega
                       simp[this]
                       by_cases h3:y.id < r.id
                       . simp[h3]
                       . simp[h3];split <;> omega
                  rw[key]
                  by_cases c6:y.made < r.made\/y.made=r.made/\y.id < r.id
                  . rw[decide_eq_true c6]
                    exact Ret.bind (Ret.condT rfl (Ret.ok (Ret.ok (put (.inr ⟨y,rfl,c6⟩)))))
                  . rw[decide_eq_false c6]
                    exact Ret.bind (Ret.condF rfl (Ret.ok (Ret.ok (keep y rfl c6))))
           . have hx:([r.cents].all (inB 0 (most o.kind)))=false:=by simp only[List.all_cons,List.all_nil,Bool.and_true,inB];exact decide_eq_false c3
             rw[hx]
             exact Ret.condT rfl (Ret.ok (Ret.condT rfl (Ret.ok (no fun i hc=>by
              obtain⟨o2,h1,h2,_,_,h5⟩:=hc
              rw[one h1 h2 h5] at h5
              exact c3 h5.2.2.1))))
         . refine Ret.condT (by simp;omega) (Ret.ok (Ret.condT rfl (Ret.ok (no fun i hc=>?_))))
           obtain⟨o2,h1,h2,h3,_,h5⟩:=hc
           rw[one h1 h2 h5] at h3
           exact c2 h3
       . rw[decide_eq_false c1]
         exact Ret.bind (Ret.condT rfl (Ret.ok (Ret.condT rfl (Ret.ok (no fun i hc=>by
          obtain⟨o2,_,_,_,_,h5⟩:=hc
          exact c1 h5.1)))))
     . dsimp only
       have hn:∀ i,¬ Co' K i r:=fun i hc=>by
        obtain⟨o2,_,_,_,_,h5⟩:=hc
        exact hna o2 h5.2.1
       refine Ret.bind (Ret.cond (fun _=>Ret.ok ?_) fun _=>Ret.condT rfl (Ret.ok ?_)) <;> exact Ret.condT rfl (Ret.ok (no hn))
 . obtain⟨z,hz,hz2⟩:=hs i
   obtain⟨z',hz',hz2'⟩:=hs' i
   rw[hz,hz',Latest.uniq hK hz2 hz2']
 . exact Ret.ok (h _ ⟨hm,hg,hf⟩)
end S
end Go.Proofs.YtgioiejbphljoaaGreatDoor
set_option maxRecDepth 20000
set_option maxHeartbeats 1000000
set_option linter.unusedVariables false
namespace Go.Proofs.YtgioiejbphljoaaGreatDoor
open Go Go.Sx Go.Rx
namespace S
def ANZ (r o:Report):Bool:=decide (o.id=r.of_/\o.source=r.source/\o.account=r.account)
def wdB (K:List Report) (i:Int) (r:Report):Bool:=decide (r.kind=9/\r.of_=i)&&K.any fun o=>ANZ r o&&decide (o.kind≠9)
def H4 (K:List Report) (i:Int):Bool:=K.any (wdB K i)
def coB (K:List Report) (o r:Report):Bool:=decide (r.kind=8/\0<=r.cents/\r.cents<=most o.kind)&&(ANZ r o&&!H4 K r.id)
def ALD (K:List Report) (o:Report) (z:Option Report) (r:Report):Option Report:=if coB K o r then match z with
 |none=>some r
 |some y=>if y.made < r.made\/y.made=r.made/\y.id < r.id then some r else some y else z
def AA4 (K:List Report) (o:Report):Option Report:=K.foldl (ALD K o) none
def fix (K:List Report) (o:Report):Report:=match AA4 K o with
 |none=>o
 |some c=>Report.mk o.id o.source o.account o.made c.about o.kind c.cents o.of_
def T (K:List Report):List Report:=(K.filter fun o=>decide (o.kind<=7)&&!H4 K o.id).map (fix K)
theorem AIh {K:List Report} {i:Int} {r:Report} (hr:r∈K):wdB K i r=true↔Wd K i r:=by
 unfold wdB Wd Aim ANZ
 rw[Bool.and_eq_true,decide_eq_true_iff,List.any_eq_true]
 constructor
 . rintro⟨⟨h1,h2⟩,o,h3,h4⟩
   rw[Bool.and_eq_true,decide_eq_true_iff,decide_eq_true_iff] at h4
   exact⟨hr,h1,h2,o,⟨h3,h4.1⟩,h4.2⟩
 . rintro⟨_,h1,h2,o,⟨h3,h4⟩,h5⟩
   exact⟨⟨h1,h2⟩,o,h3,by rw[Bool.and_eq_true,decide_eq_true_iff,decide_eq_true_iff];exact⟨h4,h5⟩⟩
theorem gone_iff {K:List Report} {i:Int}:H4 K i=false↔WdR K i none:=by
 unfold H4 WdR Least
 rw[List.any_eq_false]
 constructor
 . intro h r hr hw;exact h r hr ((AIh hr).2 hw)
 . intro h r hr hw;exact h r hr ((AIh hr).1 hw)
theorem AMT {K:List Report} {o r:Report} (ho:o∈K):coB K o r=true↔Co K o r:=by
 unfold coB Co Aim ANZ
 rw[Bool.and_eq_true,Bool.and_eq_true,decide_eq_true_iff,decide_eq_true_iff,Bool.not_eq_true',gone_iff]
 constructor
 . rintro⟨⟨h1,h2⟩,h3,h4⟩;exact⟨h1,⟨ho,h3⟩,h2,h4⟩
 . rintro⟨h1,⟨_,h3⟩,h2,h4⟩;exact⟨⟨h1,h2⟩,h3,h4⟩
theorem ABn {K:List Report} {o:Report} (ho:o∈K):Latest (Co K o) K (AA4 K o):=by
 have key:∀ (l p:List Report) (z:Option Report),Latest (Co K o) p z->Latest (Co K o) (p++l) (l.foldl (ALD K o) z):=by
  intro l
  induction l with
  |nil=>intro p z h;simpa using h
  |cons r l ih=>
   intro p z h
   have:p++r :: l=(p++[r])++l:=by simp
   rw[this]
   refine ih _ _ ?_
   obtain⟨p1,p2,p3⟩:=h.push r
   unfold ALD
   by_cases c:coB K o r=true
   . rw[if_pos c]
     have c:=(AMT ho).1 c
     cases z with
     |none=>exact p2 c (.inl rfl)
     |some y=>
      dsimp only
      split
      . rename_i h9;exact p2 c (.inr ⟨y,rfl,h9⟩)
      . rename_i h9;exact p3 c y rfl h9
   . rw[if_neg c]
     exact p1 fun h9=>c ((AMT ho).2 h9)
 have:=key K [] none (fun r hr=>by cases hr)
 rw[List.nil_append] at this
 exact this
theorem AB6 {K:List Report} (o:Report):(fix K o).id=o.id:=by
 unfold fix;split <;> rfl
theorem T_mem {K:List Report} {r:Report}:r∈T K↔∃ o∈K,o.kind<=7/\WdR K o.id none/\r=fix K o:=by
 unfold T
 rw[List.mem_map]
 constructor
 . rintro⟨o,ho,rfl⟩
   rw[List.mem_filter,Bool.and_eq_true,decide_eq_true_iff,Bool.not_eq_true',gone_iff] at ho
   exact⟨o,ho.1,ho.2.1,ho.2.2,rfl⟩
 . rintro⟨o,h1,h2,h3,rfl⟩
   exact⟨o,List.mem_filter.2 ⟨h1,by rw[Bool.and_eq_true,decide_eq_true_iff,Bool.not_eq_true',gone_iff];exact⟨h2,h3⟩⟩,rfl⟩
theorem ALE {K:List Report} (hK:Ok K):((T K).map (·.id)).Nodup:=by
 unfold T
 rw[List.map_map]
 have:(fun r:Report=>r.id) ∘ fix K=fun r=>r.id:=funext fun o=>AB6 o
 rw[this]
 exact (List.Sublist.map _ List.filter_sublist).nodup hK.nd
theorem AJf {K:List Report} (hK:Ok K):(T K).length<=60:=by
 unfold T
 rw[List.length_map]
 exact Nat.le_trans (List.length_filter_le _ _) hK.len
theorem AIi {K:List Report} (hK:Ok K) {o:Report} (ho:o∈K) {z:Option Report} (h:Latest (Co K o) K z):AA4 K o=z:=Latest.uniq hK (ABn ho) h
def cv (d:Desk_139) (o:Report):Report:=match d.fixed o.id with
 |none=>o
 |some j=>Report.mk o.id o.source o.account o.made ((d.store.reports j).getD (Report.mk 0 0 0 0 0 0 0 0)).about o.kind ((d.store.reports j).getD (Report.mk 0 0 0 0 0 0 0 0)).cents o.of_
theorem AQw {α:Type} {p q:Prop} [Decidable p] [Decidable q] (h:p↔q) {a b:α}:(if p then a else b)=if q then a else b:=by
 by_cases c:p
 . rw[if_pos c,if_pos (h.1 c)]
 . rw[if_neg c,if_neg fun c'=>c (h.2 c')]
theorem AOr {α β:Type} {f:α->β} {l:List α} (h:(l.map f).Nodup):l.Nodup:=(List.pairwise_map.1 h).imp fun h e=>h (congrArg f e)
theorem ALF:∀ (l:List (Int×Report)) (pre:List Report),pre.length+l.length<=1000000->List.foldlM (m:=Option) (s:=((List Report))) (α:=Int×Report) (fun x37 (k38,v39)=>Option.bind (appo 64 x37 ([v39])) fun l40=>some l40) pre l=some (pre++l.map (·.2))
 |[],pre,_=>by simp
 |x :: l,pre,h=>by
  rw[List.length_cons] at h
  obtain⟨k,v⟩:=x
  rw[List.foldlM_cons]
  dsimp only
  rw[ACf (by simp;omega) (by simp;omega)]
  show List.foldlM _ (pre++[v]) l=_
  rw[ALF l (pre++[v]) (by simp;omega)]
  simp
section
variable {K:List Report} (hK:Ok K) {d:Desk_139} (hd:Dk K d)
include hK hd
theorem AQx {i:Int}:d.gone i=none↔WdR K i none:=by
 constructor
 . intro h;have:=hd.gone i;rwa [h] at this
 . intro h;exact (hd.gone i).uniq h
theorem AOs {o:Report} (ho:o∈K) (h7:o.kind<=7) (hw:WdR K o.id none) (r:Report):Co' K o.id r↔Co K o r:=by
 constructor
 . rintro⟨o2,h1,h2,_,_,h5⟩
   rwa [<-hK.one h1 ho h2]
 . intro h;exact⟨o,ho,rfl,h7,hw,h⟩
theorem AQC {o:Report} (ho:o∈K) (h7:o.kind<=7) (hw:WdR K o.id none):∃ z:Option Report,d.fixed o.id=z.map (·.id)/\Latest (Co K o) K z:=by
 obtain⟨z,h1,h2⟩:=hd.fixed o.id
 exact⟨z,h1,h2.congr fun r=>and_congr_right fun _=>AOs hK hd ho h7 hw r⟩
theorem AOt {o:Report} (ho:o∈K) (h7:o.kind<=7) (hw:WdR K o.id none):cv d o=fix K o:=by
 obtain⟨z,h1,h2⟩:=AQC hK hd ho h7 hw
 unfold cv fix
 rw[AIi hK ho h2,h1]
 cases z with
 |none=>rfl
 |some c=>
  have hc:c∈K:=h2.1
  simp only[Option.map_some,(hd.reports c.id c).2 ⟨hc,rfl⟩,Option.getD_some]
theorem AVx:Lists d.gone ((K.filter fun o=>(d.gone o.id).isSome).map fun o=>(o.id,(d.gone o.id).getD 0)):=by
 refine⟨?_,fun a y=>?_⟩
 . rw[List.map_map]
   exact (List.Sublist.map _ List.filter_sublist).nodup hK.nd
 . rw[List.mem_map]
   constructor
   . rintro⟨o,ho,e⟩
     rw[List.mem_filter] at ho
     obtain⟨z,hz⟩:=Option.isSome_iff_exists.1 ho.2
     cases e
     rw[hz];rfl
   . intro h
     have:=hd.gone a
     rw[h] at this
     obtain⟨r,_,⟨_,_,h3,o,ha,_⟩,_⟩:=this
     have e:o.id=a:=by rw[ha.2.1,h3]
     refine⟨o,List.mem_filter.2 ⟨ha.1,by rw[e,h];rfl⟩,by rw[e,h];rfl⟩
open Classical in
theorem AR2 {Q:List Report->Prop} (h:∀ out,out.Perm (T K)->out.Pairwise (le2 (·.about) (·.id))->Q out):Ret (M3 d) Q:=by
 have hl0:=hd.reports.lists hK
 have hKl:=hK.len
 unfold M3
 refine Ret.bind ?_
 unfold Z2
 refine AH7 hl0 (fun s:A3 Int Report=>∀ i r',s i=some r'↔∃ o∈K,o.id=i/\o.kind<=7/\r'=cv d o) (fun lx hlx=>?_) (fun s s' hs hs'=>funext fun i=>Option.ext fun r'=>(hs i r').trans (hs' i r').symm) fun m1 hm1=>?_
 . refine Exists.imp (fun s (h:_/\_)=>⟨h.1,fun i r'=>(h.2.2 i r').trans (by
    constructor
    . rintro⟨o,ho,h9⟩;exact⟨o,by rwa [List.nil_append,hd.reports.mem hlx] at ho,h9⟩
    . rintro⟨o,ho,h9⟩;exact⟨o,by rwa [List.nil_append,hd.reports.mem hlx],h9⟩)⟩) (AB5 (fun (pre:List (Int×Report)) (s:A3 Int Report)=>(∀ x∈pre,x.2∈K)/\∀ i r',s i=some r'↔∃ o∈pre.map (·.2),o.id=i/\o.kind<=7/\r'=cv d o) lx [] (fnone:A3 Int Report) ⟨(fun x hx=>by simp at hx),fun i r'=>by simp[fnone]⟩ (fun pre x s hx hI=>?_))
   obtain⟨xk,o⟩:=x
   obtain⟨ho,hok⟩:=(hd.reports xk o).1 ((hlx.2 _ _).1 hx)
   subst hok
   obtain⟨hpre,hI⟩:=hI
   have hpre':∀ x∈pre++[(o.id,o)],x.2∈K:=fun x hx=>by
    rcases List.mem_append.1 hx with h9|h9
    . exact hpre x h9
    . have:x=(o.id,o):=by simpa using h9
      rw[this];exact ho
   show Ret _ fun s':A3 Int Report=>(∀ x∈pre++[(o.id,o)],x.2∈K)/\∀ i r',s' i=some r'↔∃ o'∈(pre++[(o.id,o)]).map (·.2),o'.id=i/\o'.kind<=7/\r'=cv d o'
   have fin:∀ a c,cv d o=Report.mk o.id o.source o.account o.made a o.kind c o.of_->Ret (Option.bind (D4 (Report.mk o.id o.source o.account o.made a o.kind c o.of_)) fun r19=>Option.bind (α:=((A3 Int Report))) (cond (r19) (some (B5 s o.id (Report.mk o.id o.source o.account o.made a o.kind c o.of_))) (some s)) ((fun x20=>some x20))) fun s':A3 Int Report=>(∀ x∈pre++[(o.id,o)],x.2∈K)/\∀ i r',s' i=some r'↔∃ o'∈(pre++[(o.id,o)]).map (·.2),o'.id=i/\o'.kind<=7/\r'=cv d o':=fun a c e=>by
    rw[<-e]
    refine Ret.bind (Ret.val (show D4 (cv d o)=some (decide (o.kind<=7)) by rw[e];rfl) (Ret.bind (Ret.cond (fun h1=>Ret.ok (Ret.ok ⟨hpre',fun i r'=>?_⟩)) fun h1=>Ret.ok (Ret.ok ⟨hpre',fun i r'=>?_⟩))))
    . have h1:=of_decide_eq_true h1
      rw[List.map_append]
      unfold B5
      by_cases ei:i=o.id
      . subst ei
        rw[if_pos rfl]
        constructor
        . intro h9
          exact⟨o,List.mem_append.2 (.inr (by simp)),rfl,h1,(Option.some.inj h9).symm⟩
        . rintro⟨o',h2,h3,h4,h5⟩
          have:o'=o:=by
           rcases List.mem_append.1 h2 with h9|h9
           . obtain⟨x,hx1,rfl⟩:=List.mem_map.1 h9
             exact hK.one (hpre x hx1) ho h3
           . simpa using h9
          rw[h5,this]
      . rw[if_neg ei,hI]
        constructor
        . rintro⟨o',h2,h3⟩;exact⟨o',List.mem_append.2 (.inl h2),h3⟩
        . rintro⟨o',h2,h3⟩
          rcases List.mem_append.1 h2 with h9|h9
          . exact⟨o',h9,h3⟩
          . have:o'=o:=by simpa using h9
            exact absurd (by rw[<-h3.1,this]) ei
    . have h1:=of_decide_eq_false h1
      rw[List.map_append,hI]
      constructor
      . rintro⟨o',h2,h3⟩;exact⟨o',List.mem_append.2 (.inl h2),h3⟩
      . rintro⟨o',h2,h3⟩
        rcases List.mem_append.1 h2 with h9|h9
        . exact⟨o',h9,h3⟩
        . have:o'=o:=by simpa using h9
          exact absurd (this▸h3.2.1) h1
   have e1:cv d o=Report.mk o.id o.source o.account o.made (if (d.fixed o.id).isSome then ((d.store.reports ((d.fixed o.id).getD 0)).getD (Report.mk 0 0 0 0 0 0 0 0)).about else o.about) o.kind (if (d.fixed o.id).isSome then ((d.store.reports ((d.fixed o.id).getD 0)).getD (Report.mk 0 0 0 0 0 0 0 0)).cents else o.cents) o.of_:=by
    unfold cv
    cases d.fixed o.id with
    |none=>rfl
    |some j=>rfl
   refine Ret.bind ?_
   cases hf:d.fixed o.id with
   |none=>
    rw[hf] at e1
    exact Ret.condF rfl (Ret.ok (fin _ _ e1))
   |some j=>
    rw[hf] at e1
    exact Ret.condT rfl (Ret.ok (fin _ _ e1))
 refine AH7 (AVx hK hd) (fun s:A3 Int Report=>∀ i,s i=if (d.gone i).isSome then none else m1 i) (fun lx hlx=>?_) (fun s s' hs hs'=>funext fun i=>(hs i).trans (hs' i).symm) fun m2 hm2=>?_
 . classical
   refine Exists.imp (fun s (h:_/\_)=>⟨h.1,fun i=>(h.2 i).trans (AQw ?_)⟩) (AB5 (fun (pre:List (Int×Int)) (s:A3 Int Report)=>∀ i,s i=if ∃ y,(i,y)∈pre then none else m1 i) lx [] m1 (fun i=>by simp) (fun pre x s hx hI=>⟨_,rfl,fun i=>?_⟩))
   . unfold AAB
     by_cases e:i=x.1
     . rw[if_pos e,if_pos ⟨x.2,List.mem_append.2 (.inr (by rw[e];simp))⟩]
     . rw[if_neg e,hI]
       refine AQw (exists_congr fun y=>?_)
       rw[List.mem_append]
       constructor
       . exact .inl
       . rintro (h9|h9)
         . exact h9
         . have:(i,y)=x:=by simpa using h9
           exact absurd (by rw[<-this]) e
   . rw[List.nil_append,Option.isSome_iff_exists]
     exact exists_congr fun y=>hlx.2 i y
 have hlT:Lists m2 ((T K).map fun r=>(r.id,r)):=by
  refine⟨by rw[List.map_map];exact ALE hK,fun a y=>?_⟩
  rw[hm2,List.mem_map]
  constructor
  . rintro⟨r,hr,e⟩
    cases e
    obtain⟨o,ho,h7,hw,rfl⟩:=T_mem.1 hr
    rw[AB6,(AQx hK hd).2 hw]
    exact (hm1 _ _).2 ⟨o,ho,rfl,h7,(AOt hK hd ho h7 hw).symm⟩
  . intro h1
    split at h1
    . cases h1
    rename_i h2
    obtain⟨o,ho,rfl,h7,rfl⟩:=(hm1 _ _).1 h1
    have hw:WdR K o.id none:=(AQx hK hd).1 (by simpa using h2)
    rw[AOt hK hd ho h7 hw]
    exact⟨fix K o,T_mem.2 ⟨o,ho,h7,hw,rfl⟩,by rw[AB6]⟩
 have hper:∀ l,Lists m2 l->(l.map (·.2)).Perm (T K):=fun l hl=>by
  have:l.Perm ((T K).map fun r=>(r.id,r)):=by
   refine (List.perm_ext_iff_of_nodup ?_ ?_).2 fun p=>?_
   . exact AOr hl.1
   . exact AOr hlT.1
   . obtain⟨a,y⟩:=p
     exact (hl.2 a y).trans (hlT.2 a y).symm
  have:=this.map (·.2)
  rwa [List.map_map,show ((fun p:Int×Report=>p.2) ∘ fun r:Report=>(r.id,r))=id from rfl,List.map_id] at this
 have one:∀ {l:List Report},l.Perm (T K)->∀ a b,a∈l->b∈l->a.about=b.about->a.id=b.id->a=b:=fun hp a b ha hb _ e=>AAL (ALE hK) a b (hp.mem_iff.1 ha) (hp.mem_iff.1 hb) e
 have hone:∀ l,Lists m2 l->Ret (Option.bind (List.foldlM (m:=Option) (s:=((List Report))) (α:=Int×Report) (fun x37 (k38,v39)=>Option.bind (appo 64 x37 ([v39])) fun l40=>some l40) ([]:(List Report)) l) fun x42=>Option.bind (F0 ([(107:Nat),(108:Nat)]) x42) fun (_,m43)=>some (m43,(m43.length:Int),(0:Int))) fun z=>(z.1.Perm (T K)/\z.1.Pairwise (le2 (·.about) (·.id)))/\z=(z.1,(z.1.length:Int),(0:Int)):=fun l hl=>by
  have hp:=hper l hl
  have hlen:=hp.length_eq
  have:=AJf hK
  rw[List.length_map] at hlen
  rw[ALF l [] (by simp;omega),List.nil_append,bindS]
  have ho:=AJd (x:=l.map (·.2)) (cmp:=fun a b=>J5 a b [107,108]) (k1:=(·.about)) (k2:=(·.id)) (fun a b=>AGJ (D:=fd160.D) (fun _=>rfl) (fun _=>rfl)) (one hp) (by rw[List.length_map];omega)
  exact Ret.bind (Ret.bind (ho.mono fun m hm=>Ret.ok (Ret.ok ⟨⟨hm.1.trans hp,hm.2⟩,rfl⟩)))
 obtain⟨z,h1,⟨h2,h3⟩,h4⟩:=hone _ hlT
 refine⟨z,AIE hlT fun l hl=>?_,?_⟩
 . obtain⟨z',h5,⟨h6,h7⟩,h8⟩:=hone l hl
   rw[h5,h4,h8,AEt (h6.trans h2.symm) h7 h3 (one h6)]
 . rw[h4]
   exact Ret.condT (by simp) (Ret.ok (h _ h2 h3))
theorem AOu (hin:∀ r∈K,InR r) {Q:List Report->Prop} (h:∀ out,out.Perm (T K)->out.Pairwise (le2 (·.about) (·.id))->Q out):Ret (F3 d) Q:=by
 unfold F3
 refine Ret.bind (AR2 hK hd fun out h1 h2=>?_)
 have hlen:=h1.length_eq
 have:=AJf hK
 rw[if_pos]
 . exact Ret.ok (h out h1 h2)
 refine⟨by omega,fun r hr=>?_⟩
 obtain⟨o,ho,h7,hw,rfl⟩:=T_mem.1 (h1.mem_iff.1 hr)
 have hz:=ABn (K:=K) ho
 unfold fix
 have h1:=hin o ho
 cases hb:AA4 K o with
 |none=>exact h1
 |some c=>
  rw[hb] at hz
  have h2:=hin c hz.1
  exact⟨h1.1,h1.2.1,h1.2.2.1,h1.2.2.2.1,h2.2.2.2.2.1,h1.2.2.2.2.2.1,h2.2.2.2.2.2.2.1,h1.2.2.2.2.2.2.2⟩
end
theorem AXL {r:Report} (h:V r):InR r:=by
 obtain⟨c1,c2,c3,c4,c5,c6,c7,c8,_⟩:=h
 have hm:most r.kind<=1000000000000:=by unfold most;split <;> (try split) <;> omega
 exact⟨InK.i64.2 (by omega),InK.i64.2 (by omega),InK.i64.2 (by omega),InK.i64.2 (by omega),InK.i64.2 (by omega),InK.u8.2 (by omega),InK.i64.2 (by omega),InK.i64.2 (by omega)⟩
structure St (l:List Report) (known:Int) (out:List Report):Prop where
 perm:out.Perm (T (D7 l known))
 ord:out.Pairwise (le2 (·.about) (·.id))
theorem ABR {l:List Report} (h:VL l) {known:Int} (hk:0<=known/\known<=100000):Ret (E1 l known) fun z=>z.2=0/\St l known z.1:=by
 unfold E1 T8
 rw[AD8 h]
 refine Ret.bind ?_
 rw[bindS]
 refine Ret.condF (by decide) ?_
 rw[AFd (by simp),bindS,show ([known].all (inB 0 100000))=true by simp[inB,hk]]
 refine Ret.condF rfl (Ret.ok (B8 (Ret.bind (ALC h fun D hD=>?_))))
 exact Ret.bind (AOu (X7 h known) hD (fun r hr=>AXL ((X7 h known).v r hr)) fun out h1 h2=>Ret.ok ⟨rfl,h1,h2⟩)
end S
end Go.Proofs.YtgioiejbphljoaaGreatDoor
set_option maxRecDepth 20000
set_option maxHeartbeats 4000000
namespace Go.Proofs.YtgioiejbphljoaaGreatDoor
open Go Go.Sx Go.Rx Go.RowKit
noncomputable def V2 (d:Desk_99) (x:Dispute) (v:Verdict) (l:List Report):Option (List Report):=Option.bind (α:=(Int×Int×Int)) (cond (decide (v.is_=3)) (some (v.by_.about,(8:Int),v.by_.cents)) (some ((0:Int),(9:Int),(0:Int)))) ((fun (x1,x2,x3)=>Option.bind (appo 64 l ([(Report.mk x.id (((d.facts x.report).getD (Report.mk 0 0 0 0 0 0 0 0)).source) (((d.facts x.report).getD (Report.mk 0 0 0 0 0 0 0 0)).account) v.day x1 x2 x3 (((d.facts x.report).getD (Report.mk 0 0 0 0 0 0 0 0)).id))])) fun l4=>some (l4)))
def AJG:An:=.nd (.x) (.nd (.x) (.nd (.nd (.x) (.jn [.norm ⟨[(.cell 10 4,.d (.int .i64)),(.cell 10 5,.d (.int .u8)),(.cell 10 6,.d (.int .i64))],[10,6,66]⟩] (.x))) (.x)))
noncomputable def AAw (d:Desk_99) (l:List Report):Option (List Report×Int):=Option.bind (chk .i64 ((d.desk.reports.length:Int)+(l.length:Int))) fun n1=>cond (decide (60 < n1)) (some (([]:(List Report)),(9:Int))) (Option.bind (H2 ([(78:Nat),(79:Nat)]) l) fun (_,m2)=>Option.bind (T3 ([d.desk.reports,m2])) fun r3=>some (r3,(0:Int)))
def ALG:An:=.x
end Go.Proofs.YtgioiejbphljoaaGreatDoor
set_option maxRecDepth 20000
set_option maxHeartbeats 4000000
namespace Go.Rx
open Go Go.Sx Go.RowKit
section
variable [Trk] [Sg] [Sf] {P:Program} [Se P] [Anch] {w0 w:World} {M:List Nat} {N:Nat} {ds:List Deferred}
theorem ANa [Sl (P:=P)] {G:Gx} (hG:GxOk P G) (r:Option Nat) {n:Nat} (c:Code) (an:An) {sh:Sh} {σ:AS} {x:N6 sh.cs} {L:A7} {w:World} {A B:A4} {X:Nat->A4} {Z:List PanicEntry->A4} (h:exec G N (fun _=>(none:Option Unit)) c an (H8 sh) (fun _ _=>none) (fun _=>none) σ=some x) (hH:Holds (P:=P) w0 [] M σ L w)
 (hA:∀ L' w',EnvS (D3 c++C8 an) L L'->Holds (P:=P) w0 [] M (B9 (D3 c++C8 an) sh σ x) L' w'->A ds L' w'):CF r n P N c ds L w A B X Z:=
 ADB (I2 hG c an _ _ _ _ _ _ _ _ _ _ _ _ _ h hH (fun σ1 L1 w1 h1 hR hE1 hH1=>by
  obtain⟨S,ρ,γ,μ,ι,hS⟩:=hH1
  exact hA L1 w1 hE1 (S7 hS hR h1)) (fun i σ2 L2 w2 h2=>by cases h2) (fun r σ2 L2 w2 h2 h3 _ hH2=>by cases h2) PZ.no)
end
theorem AGK [Trk] [Sg] [Sf] {P:Program} [Se P] [Sl (P:=P)] [Sn P] (htk:¬ Trk.t) {G:Gx} (hG:GxOk P G) {f:Func} {cs:List Ck} {M:List Nat} {w:World} {r:I5 cs} (hn:Nat.ble cs.length 4=true) (hc:tnK cs=true) {D:Nat} (hD:w.heap.size<=D) {σ':AS} {L':A7} {w':World} (h1:U9 G cs f.results.toList σ'=some r) (hH:@Holds _ _ _ P _ (AHv D) _ w [] M σ' L' w'):FinM P f (fun e w'=>∃ vs,e=.returned (ACF vs)/\KsOk (P:=P) M (obK cs vs++M) w w' cs r vs/\Ext w w') [{ target:=.collected D,args:=#[] }] L' w':=by
 obtain⟨vs,h2,h3,h4,h5⟩:=@AL9 _ _ _ P _ _ (AHv D) G hG _ _ _ _ _ _ _ _ hH h1
 obtain⟨S,ρ,γ,μ,ι,hS⟩:=hH
 have hQ:D∉mm S M/\w'.heap[D]?=some (.deferred (some [])):=by
  letI:=AHv D
  exact hS.anch.1
 have htn:Tn w' (w'.putObj D (.deferred none)):=⟨by simp,fun b o ho hcl=>by
  by_cases e:b=D
  . subst e
    rw[hQ.2] at ho;cases ho;cases hcl
  . exact (World.putObj_heap_other e).trans ho⟩
 have hx:Ext w (w'.putObj D (.deferred none)):=⟨h5.os,h5.tape,h5.output,Nat.le_trans h5.size (by simp),fun b hb hn=>(World.putObj_heap_other (by omega)).trans (h5.block b hb hn),fun h=>absurd h htk⟩
 have h6:=O1 (P:=P) (fn:=f) (R:=fun e w'=>∃ vs,e=.returned (ACF vs)/\KsOk (P:=P) M (obK cs vs++M) w w' cs r vs/\Ext w w') (by simp) (AllRs.tn htn h2) (by rw[h3];exact hn) ⟨vs,by rw[AEj],KsOk.tn htn cs hc h4,hx⟩
 obtain⟨_,v,h7,h8⟩:=h6
 exact .inr ⟨D,_,rfl,run_takeDeferred hQ.2,v,fun a ha=>h7 { tmps:=a.tmps,defers:=[] } ⟨ha.size,rfl,ha.val⟩,h8⟩
end Go.Rx
namespace Go.Proofs.YtgioiejbphljoaaGreatDoor
open Go Go.Sx Go.Rx Go.RowKit
theorem ATq:AJ3 ReportE:=fun h=>ReportE_R.2 (ReportE_R.1 h)
def ABg (x:Dispute):List Value:=[.int .i64 x.id,.int .i64 x.report,.int .i64 x.day]
def ADn (v:Verdict):List Value:=[.int .i64 v.day,.int .u8 v.is_,.int .i64 v.by_.id,.int .i64 v.by_.dispute,.int .i64 v.by_.day,.int .u8 v.by_.says,.int .i64 v.by_.about,.int .i64 v.by_.cents]
noncomputable def AXM:Code:=match Tryz.f41.body with
 |some (.seq _ (.seq _ (.seq (.seq _ (.block _ c)) _)))=>c
 |_=>.skip
noncomputable def ATr:Code:=match AXM with
 |.rangeFunc _ _ _ b=>b
 |_=>.skip
noncomputable def ATs:Code:=match Tryz.f41.body with
 |some (.seq _ (.seq _ (.seq _ c)))=>c
 |_=>.skip
def sB (d:Desk_99) (x:Dispute) (v:Verdict) (l:List Report):AS:=⟨(6,.ptr 6 0) :: [(2,.rp (.str 10 d) 0),(7,.rp (.str 2 x) 0),(8,.rp (.str 12 v) 0)],[(6,.row 24 [.own 66]),(66,.own false (.sl 45 (.st 1)) l)],[],[]⟩
def sP (d:Desk_99) (l:List Report):AS:=⟨(6,.ptr 6 0) :: [(2,.rp (.str 10 d) 0)],[(6,.row 24 [.own 66]),(66,.own false (.sl 45 (.st 1)) l)],[],[]⟩
def shB:Sh:=⟨[(.cell 6 0,.own (.sl 45 (.st 1)))],[6]⟩
def cs41:List Ck:=[.own (.sl 45 (.st 1)),.d (.int .i64)]
noncomputable def ANb:Gx:={ gxb with fs:=[(78,ctr78),(79,ctr79),(80,ctr80)],fm:=[(77,ctrm77)] }
theorem AIj:GxOk Tryz.prog ANb:=AFb ⟨⟨ok78,Tryz.call78⟩,⟨⟨ok79,Tryz.call79⟩,⟨⟨ok80,Tryz.call80⟩,trivial⟩⟩⟩ trivial ⟨⟨okm77,Tryz.call77⟩,trivial⟩
theorem AR3 (d:Desk_99) (x:Dispute) (v:Verdict) (l:List Report):exec gxb 65 (fun _=>(none:Option Unit)) ATr AJG (H8 shB) (fun _ _=>none) (fun _=>none) (sB d x v l)=V2 d x v l:=by kernel_rfl
theorem ATt (d:Desk_99) (l:List Report):exec ANb 65 (U9 ANb cs41 Tryz.f41.results.toList) ATs ALG (U9 ANb cs41 Tryz.f41.results.toList) (fun _ _=>none) some (sP d l)=AAw d l:=by kernel_rfl
def AXN (M:List Nat) (b6:Nat) (Lb:Sx.A7) (x:Dispute×Verdict) (L:Sx.A7) (W:World):Prop:=∃ b7 b8 u,L=(8,.pointer (some ⟨b8,0,none⟩)) :: (7,.pointer (some ⟨b7,0,none⟩)) :: (15,K7 (.st 12) x.2) :: (14,K7 (.st 2) x.1) :: Lb/\Row 53 W b7 (ABg x.1)/\Row 111 W b8 (ADn x.2)/\Row 24 W b6 [u]/\(b7∉ob u/\b7≠b6/\b7∉M)/\(b8∉ob u/\b8≠b6/\b8∉M)
theorem AHB {e:TypeId} {W W':World} {b:Nat} {cs:List Value} {row:Option Nat} (h:Row e W b cs) (hg:W.grownBy W' row) (hr:∀ r,row=some r->∃ o:Obj,W.heap[r]?=some o/\o.isCells=false):Row e W' b cs:=by
 have h:W.heap[b]?=_:=h
 refine (hg.block b (J8 h) fun e'=>?_).trans h
 obtain⟨o',g1,g2⟩:=hr b e'.symm
 rw[h] at g1;cases g1
 cases g2
theorem AJH [Anch] {w:World} {M:List Nat} {b6:Nat} {u:Value} {l:List Report} {L:Sx.A7} {W:World} {env:List (Nat×SV)} (e2:Hp w [] M (F2 ReportE 45 24 b6 u l) W) (l6:Sx.A5 L 6=some (.pointer (some ⟨b6,0,none⟩)))
 (hE:∀ t s,A1 env t=some s->∃ v,Sx.A5 L t=some v/\Ok (P:=Tryz.prog) (fun i=>if i=6 then .pointer (some ⟨b6,0,none⟩) else u) (A1 [(6,.row 24 [.own 66]),(66,.own false (.sl 45 (.st 1)) l)]) (mm (F2 ReportE 45 24 b6 u l) M) W s v) (hA:AnOk (P:=Tryz.prog) (mm (F2 ReportE 45 24 b6 u l) M) W) :
 Holds (P:=Tryz.prog) w [] M ⟨(6,.ptr 6 0) :: env,[(6,.row 24 [.own 66]),(66,.own false (.sl 45 (.st 1)) l)],[],[]⟩ L W:=by
 refine⟨F2 ReportE 45 24 b6 u l,fun i=>if i=6 then .pointer (some ⟨b6,0,none⟩) else u,fun i=>if i=6 then [u] else [],fun _=>[],fun i=>if i=6 then 1 else 0,e2,fun i a hi=>?_,fun i j a b hi hj e=>?_,fun i a hi=>?_,fun t s ht=>?_,hA⟩
 . rw[fnd_cons] at hi
   split at hi
   . rename_i e;subst e;cases hi;rfl
   rw[fnd_cons] at hi
   split at hi
   . rename_i e;subst e;cases hi;rfl
   cases hi
 . rw[fnd_cons] at hi hj
   split at hi <;> split at hj
   . rename_i e1 e2;rw[<-e1,<-e2]
   . rename_i e1 e2
     rw[fnd_cons] at hj
     split at hj
     . rename_i e3;subst e1 e3;cases e
     . cases hj
   . rename_i e1 e2
     rw[fnd_cons] at hi
     split at hi
     . rename_i e3;subst e2 e3;cases e
     . cases hi
   . rw[fnd_cons] at hi hj
     split at hi <;> split at hj
     . rename_i e3 e4;rw[<-e3,<-e4]
     . cases hj
     . cases hi
     . cases hi
 . rw[fnd_cons] at hi
   split at hi
   . rename_i e;subst e;cases hi
     exact⟨⟨b6,rfl⟩,u,[u],[],rfl,⟨rfl,Own.cells1 (e2.ownAt 0 rfl),Own.oneC (e2.ownAt 0 rfl)⟩,Own.cells1 (e2.ownAt 0 rfl),rfl⟩
   rw[fnd_cons] at hi
   split at hi
   . rename_i e;subst e;cases hi;trivial
   cases hi
 . rw[fnd_cons] at ht
   split at ht
   . rename_i e;subst e;cases ht;exact⟨_,l6,b6,rfl,rfl⟩
   . exact hE t s ht
noncomputable def F1 (d:Desk_99) (day:Int):Option (List Report×Int):=Option.bind (C7 d day) fun ys=>Option.bind (ABi (fun l (y:Dispute×Verdict)=>V2 d y.1 y.2 l) [] ys) fun l=>AAw d l
noncomputable def ctr41:Ctr:=⟨[.d (.st 10),.d (.int .i64)],cs41,fun a=>F1 a.1 a.2.1⟩
theorem ok41:Ctr.ok Tryz.prog 41 ctr41:=by
 refine⟨by decide,fun M w a vals r hM hg ha hr=>?_⟩
 obtain⟨d,day,_⟩:=a
 obtain⟨vd,_,rfl,hvd,⟨vk,_,rfl,hvk,rfl⟩⟩:=ha
 have hvd:OkD (P:=Tryz.prog) M w (.st 10) d vd:=hvd
 have hvk:OkD (P:=Tryz.prog) M w (.int .i64) day vk:=hvk
 have hr:F1 d day=some r:=hr
 unfold F1 at hr
 obtain⟨ys,hys,hr⟩:=R6 hr
 obtain⟨l0,hl0,hr⟩:=R6 hr
 obtain⟨ho1,ho2⟩:=AFM hl0
 have hvd0:=hvd
 obtain⟨cs,h1,h3⟩:=hvd
 obtain rfl:vd=.agg (List.toArray cs):=h3.elim (fun h=>h.2) fun h=>by cases h.1
 have hncs:cs.length=8:=(enc (P:=Tryz.prog) (.st 10)).len h1
 refine ABr (l:=[.agg (List.toArray cs),vk]) Tryz.func41 rfl rfl rfl ?_
 have hI:=Hp.start (Mu:=[]) hM
 refine A6 ?_
 refine A9 ?_
 refine AAP hI rfl rfl rfl ?_
 intro b2 w2 hI2 x2
 have hC2:=hI2.freezeRow 0 rfl
 have hI2:=hI2.erase 0
 refine G2 rfl rfl ?_
 refine G2 rfl rfl ?_
 refine Reg.nil ?_
 refine A6 ?_
 refine A9 ?_
 refine ACr hI2 Tryz.zeroValue24 rfl rfl ?_
 intro b6 w3 hI3 x3
 refine Reg.nil ?_
 have hI3:Hp w [] M (F2 ReportE 45 24 b6 (.slice none 0 0) []) w3:=hI3.addNil ReportE 45
 have hx3:Adv M (mm (F2 ReportE 45 24 b6 (.slice none 0 0) []) M) w w3:=hI3.adv
 have hb6:w.heap.size<=b6:=((hI3.own _ (List.mem_of_getElem? (i:=1) rfl)).2 b6 (List.mem_singleton.2 rfl)).resolve_left (fun h=>by cases h)
 have hC3:RdC (mm (F2 ReportE 45 24 b6 (.slice none 0 0) []) M) w3 b2 0 cs:=(hC2.adv x3).adv (ACR ReportE 45)
 refine A6 ?_
 refine A6 ?_
 refine A9 ?_
 refine ABF rfl hC3.cells Tryz.isAgg99 hncs Tryz.sizeOf99 rfl ?_
 refine I4 rfl rfl ?_
 refine Y2 rfl Tryz.call45 rfl ?_
 refine (ok45.2 (mm (F2 ReportE 45 24 b6 (.slice none 0 0) []) M) w3 (d,day,()) [.agg cs.toArray,vk] ys hI3.mlt (hg.adv hx3) ⟨_,_,rfl,OkD.adv hvd0 hx3,_,_,rfl,OkD.adv hvk hx3,rfl⟩ hys).mono ?_
 rintro _ w4 ⟨_,rfl,⟨v13,rfl,⟨⟨gf,lb,rfl,heg,hok,hit⟩,_⟩⟩,x4⟩
 refine⟨_,rfl,?_⟩
 refine Reg.nil ?_
 have hI4:=hI3.ext x4
 have hA34:=Adv.of_ext (M:=mm (F2 ReportE 45 24 b6 (.slice none 0 0) []) M) x4
 have hC4:=hC3.adv hA34
 have hd4:=OkD.adv hvd0 (hx3.trans hA34)
 have hg4:=hg.adv (hx3.trans hA34)
 have hseq:=hit (mm (F2 ReportE 45 24 b6 (.slice none 0 0) []) M) w4 (Adv.refl _ _) hI4.mlt {x // x∈ys} Subtype.val ys.attach (List.attach_map_subtype_val ys)
 generalize hLb:((13,ACF [Value.func (.func gf) #[] lb]) :: (12,vk) :: (11,Value.agg cs.toArray) :: (6,Value.pointer (some ⟨b6,0,none⟩)) :: (5,Value.int .i64 0) :: (4,Value.slice none 0 0) :: (2,Value.pointer (some ⟨b2,0,none⟩)) :: R5 0 [Value.agg cs.toArray,vk])=Lb
 have lb2:Sx.A5 Lb 2=some (.pointer (some ⟨b2,0,none⟩)):=by rw[<-hLb];rfl
 have lb6:Sx.A5 Lb 6=some (.pointer (some ⟨b6,0,none⟩)):=by rw[<-hLb];rfl
 have lb13:Sx.A5 Lb 13=some (.func (.func gf) #[] lb):=by rw[<-hLb];rfl
 clear hLb
 have hcells:∀ x∈ys,okI (.st 2) x.1/\okI (.st 12) x.2:=hok
 let S0:=F2 ReportE 45 24 b6 (.slice none 0 0) []
 let I:List {x // x∈ys}->World->Prop:=fun pre W=>∃ l u,List.foldlM (fun l (y:Dispute×Verdict)=>V2 d y.1 y.2 l) [] (pre.map Subtype.val)=some l/\Hp w [] M (F2 ReportE 45 24 b6 u l) W/\Adv (mm S0 M) (mm (F2 ReportE 45 24 b6 u l) M) w4 W
 have hw4:w.heap.size<=w4.heap.size:=hI4.kp.size
 have hKI:∀ {u u':Value} {l l':List Report} {W W':World},Hp w [] M (F2 ReportE 45 24 b6 u l) W->Hp w [] M (F2 ReportE 45 24 b6 u' l') W'->Adv (mm S0 M) (mm (F2 ReportE 45 24 b6 u l) M) w4 W->Adv (mm (F2 ReportE 45 24 b6 u l) M) (mm (F2 ReportE 45 24 b6 u' l') M) W W'->KeepsFrom w4.heap.size W W'/\KI (mm S0 M) w4.heap.size W W':=fun {u u' l l' W W'} h h' hA hA'=>by
  obtain⟨_,k⟩:=h.kb h' hA'
  refine⟨⟨k.size,fun i o hB=>k.same i o (Nat.le_trans hw4 hB)⟩,hA'.kp.os,hA'.kp.tape,hA'.kp.output,hA'.kp.size,fun b hb hn=>?_⟩
  refine hA'.kp.block b (Nat.lt_of_lt_of_le hb hA.kp.size) fun hm=>?_
  exact (hA.new b hm).elim hn fun h=>by omega
 refine G6 ?_
 refine AMr (val:=fun x:{x // x∈ys}=>K7 (.st 2) x.1.1) (val2:=fun x:{x // x∈ys}=>K7 (.st 12) x.1.2) (K:=KI (mm S0 M) w4.heap.size) (xs:=ys.attach) lb13 heg rfl rfl hseq (fun h k=>h.trans k) (fun W k o o' hk _ _ _=>KI.putObj hk) I (fun _ _=>False) ?_ (fun _ _ _ _ h _ _=>h.elim) ⟨[],.slice none 0 0,rfl,hI4,Adv.refl _ _⟩ (fun x L' W=>AXN M b6 Lb x.1 L' W) ?_ ?_ ?_ ?_ (fun _ _ _ _ _ h _=>h.elim)
 . rintro pre W W' row ⟨l,u,e1,e2,e3⟩ hgr hr
   exact⟨l,u,e1,e2.turnG ATq (fun h=>h) hgr (fun r e=>⟨Nat.le_trans hw4 (hr r e).1,(hr r e).2⟩),Adv.turn (fun h=>h) e3 hgr hr⟩
 . rintro x L' _ W W' row ⟨b7,b8,u,e1,e2,e3,e4,e5⟩ hgr hr
   exact⟨b7,b8,u,e1,AHB e2 hgr fun r e=>(hr r e).2,AHB e3 hgr fun r e=>(hr r e).2,AHB e4 hgr fun r e=>(hr r e).2,e5⟩
 . rintro k pre x W ⟨l,u,e1,e2,e3⟩
   refine AHS ?_
   refine ABI rfl ?_
   refine ACr e2 Tryz.zeroValue53 rfl rfl ?_
   intro b7 w5 hI5 x5
   refine ABX 0 (vs:=ABg x.1.1) hI5 rfl rfl rfl rfl Tryz.sizeOf53 rfl rfl (C9 rfl (C9 rfl (C9 rfl ACm))) ?_
   intro w6 hI6 x6
   have hI6:Hp w [] M (rowR 53 b7 (ABg x.1.1) :: F2 ReportE 45 24 b6 u l) w6:=hI6
   refine Reg.nil ?_
   refine ABI rfl ?_
   refine ACr hI6 Tryz.zeroValue111 rfl rfl ?_
   intro b8 w7 hI7 x7
   refine ABX 0 (vs:=ADn x.1.2) hI7 rfl rfl rfl rfl Tryz.sizeOf111 rfl rfl (C9 rfl (C9 rfl (C9 rfl (C9 rfl (C9 rfl (C9 rfl (C9 rfl (C9 rfl ACm)))))))) ?_
   intro w8 hI8 x8
   have hI8:Hp w [] M (rowR 111 b8 (ADn x.1.2) :: rowR 53 b7 (ABg x.1.1) :: F2 ReportE 45 24 b6 u l) w8:=hI8
   have hI9:Hp w [] M (F2 ReportE 45 24 b6 u l) w8:=(hI8.erase 0).erase 0
   have hA:Adv (mm (F2 ReportE 45 24 b6 u l) M) (mm (F2 ReportE 45 24 b6 u l) M) W w8:=x5.trans (x6.trans (x7.trans (x8.trans ((F9 (σ:=rowR 111 b8 (ADn x.1.2) :: rowR 53 b7 (ABg x.1.1) :: F2 ReportE 45 24 b6 u l) 0).trans (F9 (σ:=rowR 53 b7 (ABg x.1.1) :: F2 ReportE 45 24 b6 u l) 0)))))
   obtain⟨k1,k2⟩:=hKI e2 hI9 e3 hA
   refine Reg.nil ⟨rfl,k1,k2,⟨l,u,e1,hI9,e3.trans hA⟩,b7,b8,u,rfl,hI8.row 1 rfl,hI8.row 0 rfl,hI8.row 3 rfl,⟨?_,?_,?_⟩,?_,?_,?_⟩
   . exact fun hb=>hI8.dis 1 2 _ _ rfl rfl (by omega) b7 (List.mem_singleton.2 rfl) hb
   . exact fun e=>hI8.dis 1 3 _ _ rfl rfl (by omega) b7 (List.mem_singleton.2 rfl) (List.mem_singleton.2 e)
   . exact hI8.sepM _ (List.mem_of_getElem? (i:=1) rfl) b7 (List.mem_singleton.2 rfl)
   . exact fun hb=>hI8.dis 0 2 _ _ rfl rfl (by omega) b8 (List.mem_singleton.2 rfl) hb
   . exact fun e=>hI8.dis 0 3 _ _ rfl rfl (by omega) b8 (List.mem_singleton.2 rfl) (List.mem_singleton.2 e)
   . exact hI8.sepM _ (List.mem_of_getElem? (i:=0) rfl) b8 (List.mem_singleton.2 rfl)
 . rintro k pre x L' W ⟨l,u,e1,e2,e3⟩ ⟨b7,b8,u',rfl,r7,r8,r6,s7,s8⟩ hlt
   obtain rfl:u'=u:=by
    have e9:W.heap[b6]?=_:=e2.row 1 rfl
    have e8:W.heap[b6]?=_:=r6
    rw[e9] at e8
    have:=Option.some.inj e8
    injection this with h9
    simpa using h9.symm
   obtain⟨l',hb',hfold⟩:=ho2 (pre.map Subtype.val) x.1 l (by simpa using hlt) (fun y hy=>by obtain⟨z,_,rfl⟩:=List.mem_map.1 hy;exact z.2) x.2 e1
   have hmem:∀ b,b∈mm (F2 ReportE 45 24 b6 u' l) M->b∈ob u'\/b=b6\/b∈M:=fun b hb=>by
    simp only[mm,ownR,rowR,List.mem_append,List.mem_cons,List.not_mem_nil,or_false] at hb
    rcases hb with h1|h1|h1
    . exact .inl h1
    . exact .inr (.inl h1)
    . exact .inr (.inr h1)
   letI:Anch:=AVB (mm (F2 ReportE 45 24 b6 u' l) M) W
   have hst:Holds (P:=Tryz.prog) w [] M (sB d x.1.1 x.1.2 l) ((8,.pointer (some ⟨b8,0,none⟩)) :: (7,.pointer (some ⟨b7,0,none⟩)) :: (15,K7 (.st 12) x.1.2) :: (14,K7 (.st 2) x.1.1) :: Lb) W:=by
    refine AJH e2 lb6 (fun t s ht=>?_) ⟨Adv.refl _ _,hg4.adv e3⟩
    rw[fnd_cons] at ht
    split at ht
    . rename_i e;subst e;cases ht
      exact⟨_,lb2,b2,0,_,cs,rfl,hC4.adv e3,OkD.adv hd4 e3,rfl⟩
    rw[fnd_cons] at ht
    split at ht
    . rename_i e;subst e;cases ht
      exact⟨_,rfl,b7,0,_,ABg x.1.1,rfl,H1 (fun hb=>(hmem b7 hb).elim s7.1 fun h=>h.elim s7.2.1 s7.2.2) r7,AD7 (.st 2) (hcells x.1 x.2).1,rfl⟩
    rw[fnd_cons] at ht
    split at ht
    . rename_i e;subst e;cases ht
      exact⟨_,rfl,b8,0,_,ADn x.1.2,rfl,H1 (fun hb=>(hmem b8 hb).elim s8.1 fun h=>h.elim s8.2.1 s8.2.2) r8,AD7 (.st 12) (hcells x.1 x.2).2,rfl⟩
    cases ht
   refine AG5 (ANa AGG (some k) ATr AJG (sh:=shB) ((AR3 d x.1.1 x.1.2 l).trans hb') hst fun L2 W2 hE2 hH2=>?_)
   obtain⟨S2,ρ2,γ2,μ2,ι2,hS2⟩:=hH2
   obtain⟨v6,l26,bb,hbb,rfl⟩:=hS2.env 6 (.ptr 6 0) rfl
   have hbb6:bb=b6:=by
    have:=(hE2 6 (by decide)).trans lb6
    rw[l26] at this
    injection this with h9
    injection h9 with h9
    simpa using h9
   subst hbb6
   obtain⟨bq,hbq,rq,oq,iq⟩:=hS2.rowAt (i:=6) (e:=24) (l:=[.own 10600]) rfl
   rw[hbb] at hbq;cases hbq
   obtain⟨q,eq1,oq1⟩:=ACl oq
   have oq1:q=[]:=oq1
   rw[oq1] at eq1
   rw[eq1] at iq
   have io:=hS2.res 10600 (.own false (.sl 45 (.st 1)) l') rfl
   have io:S2[ι2 10600]?=some (ownR [] ReportE 45 (ρ2 10600) l'):=io
   have hni:ι2 10600≠ι2 6:=fun e=>by
    have:=hS2.inj 10600 6 _ _ rfl rfl e
    cases this
   have hsel:sel S2 [ι2 10600,ι2 6]=F2 ReportE 45 24 bb (ρ2 10600) l':=by
    simp only[sel,nthR_eq,io,iq]
   have hHp:=hS2.hp.sel [ι2 10600,ι2 6] (by simp[ABq,hni])
   rw[hsel] at hHp
   have hadv:Adv (mm (F2 ReportE 45 24 bb u' l) M) (mm (F2 ReportE 45 24 bb (ρ2 10600) l') M) W W2:=by
    have h1:Adv (mm (F2 ReportE 45 24 bb u' l) M) (mm S2 M) W W2:=hS2.anch.1
    have h2:=h1.trans (AIB (M:=M) (w:=W2) (σ:=S2) [ι2 10600,ι2 6])
    rw[hsel] at h2
    exact h2
   obtain⟨k1,k2⟩:=hKI e2 hHp e3 hadv
   exact⟨k1,k2,l',ρ2 10600,by rw[List.map_append];exact hfold,hHp,e3.trans hadv⟩
 . rintro D W hD ⟨l,u,e1,e2,e3⟩ hdef
   rw[List.attach_map_subtype_val,ho1] at e1
   cases e1
   have hDm:D∉mm (F2 ReportE 45 24 b6 u l0) M:=fun hb=>by
    simp only[mm,ownR,rowR,List.mem_append,List.mem_cons,List.not_mem_nil,or_false] at hb
    rcases hb with h1|h1|h1
    . obtain⟨o,h2,h3⟩:=(e2.ownAt 0 rfl).isC D h1
      rw[hdef] at h2;cases h2;cases h3
    . have h2:W.heap[b6]?=_:=e2.row 1 rfl
      rw[<-h1,hdef] at h2;cases h2
    . have:=hM D h1
      omega
   letI:Anch:=AHv D
   have hst:Holds (P:=Tryz.prog) w [] M (sP d l0) Lb W:=by
    refine AJH e2 lb6 (fun t s ht=>?_) ⟨⟨hDm,hdef⟩,hg4.adv e3⟩
    rw[fnd_cons] at ht
    split at ht
    . rename_i e;subst e;cases ht
      exact⟨_,lb2,b2,0,_,cs,rfl,hC4.adv e3,OkD.adv hd4 e3,rfl⟩
    cases ht
   have hDw:w.heap.size<=D:=Nat.le_trans hw4 hD
   exact AAV (n:=3) (ADB (I2 AIj ATs ALG _ _ _ _ _ _ _ _ _ _ _ _ _ ((ATt d l0).trans hr) hst (fun σ2 L2 w2 h2 _ _ hH2=>AGK (fun h=>h) AIj (by decide) rfl hDw h2 hH2) (fun i σ2 L2 w2 h2=>by cases h2) (fun r' σ2 L2 w2 hp hk _ hH2=>by
    have hk:r'=r:=Option.some.inj hk
    subst hk
    exact AGK (fun h=>h) AIj (by decide) rfl hDw hp hH2) PZ.no))
end Go.Proofs.YtgioiejbphljoaaGreatDoor
set_option maxRecDepth 20000
set_option maxHeartbeats 4000000
namespace Go.Proofs.YtgioiejbphljoaaGreatDoor
open Go Go.Sx Go.Rx Go.RowKit
noncomputable def ACK (d:Desk) (asked:List Asked) (day:Int):Option ((Desk_99×List Asked×List Report×Int)⊕(List Letter×Int)):=Option.bind (I0 d day) fun (r1,r2)=>cond ((!decide (r2=0))) (some (Sum.inr (([]:(List Letter)),r2))) (Option.bind (B6 (S:=(Int×Int)) (R:=(Unit⊕((List Letter)×Int))) (fun (x12,x13)=>cond (decide (x13 < (asked.length:Int))) (Option.bind (ixo asked x13) fun y14=>Option.bind (α:=(Bool)) (Option.bind (chk .i64 (x12+1)) fun n15=>Option.bind (D8 n15 (999999:Int) ([y14.id])) fun r16=>cond ((!r16)) (some true) (Option.bind (D8 (0:Int) (999999:Int) ([y14.who,y14.account])) fun r17=>cond ((!r17)) (some true) (Option.bind (D8 (0:Int) (100000:Int) ([y14.day])) fun r18=>some (!r18)))) ((fun x19=>cond (x19) (some (Sum.inr (Sum.inr (([]:(List Letter)),(53:Int))))) (Option.bind (chk .i64 (x13+1)) fun n20=>some (Sum.inl (y14.id,n20)))))) (some (Sum.inr (Sum.inl ())))) (((-1):Int),(0:Int))) ((Sum.elim (fun _=>cond (decide (40 < (asked.length:Int))) (some (Sum.inr (([]:(List Letter)),(53:Int)))) (Option.bind (F1 r1 day) fun (r21,r22)=>cond ((!decide (r22=0))) (some (Sum.inr (([]:(List Letter)),r22))) (some (Sum.inl (r1,asked,r21,day))))) (fun r23=>some (Sum.inr r23)))))
def AMU:An:=.nd (.x) (.nd (.x) (.nd (.x) (.nd (.x) (.nd (.nd (.x) (.lp ⟨[(.slot 10,.d (.int .i64)),(.slot 37,.d (.int .i64))],[8,4]⟩ [.exit 0 ⟨[],[8,4]⟩,.ret] (.nd (.x) (.nd (.x) (.nd (.nd (.x) (.nd (.nd (.jn [.norm ⟨[(.slot 63,.d .bool)],[12,8,4]⟩] (.x)) (.x)) (.x))) (.x)))))) (.x)))))
noncomputable def AAx (l:List Report) (y:Dispute) (v:Verdict):Option (Report×Bool):=Option.bind (T4 l v.day) fun r1=>some (((r1 y.report).getD (Report.mk 0 0 0 0 0 0 0 0)),((r1 y.report).isSome))
def AIk:An:=.x
noncomputable def AAa (x:Desk_99) (l:List Report) (y:Dispute) (v:Verdict) (now:Report) (is_:Bool) (a:Asked):Option (Bool⊕Unit):=Option.bind (α:=(Bool)) (cond ((!decide (a.account=(((x.facts y.report).getD (Report.mk 0 0 0 0 0 0 0 0)).account)))) (some true) (cond (decide (v.day<=a.day)) (some true) (Option.bind (chk .i64 (v.day - a.day)) fun n2=>some (decide (x.desk.terms.lately < n2))))) ((fun x3=>cond (x3) (some (Sum.inr ())) (Option.bind (T4 l a.day) fun r4=>Option.bind (α:=(Bool)) (cond ((r4 y.report).isSome) (cond (decide ((((r4 y.report).getD (Report.mk 0 0 0 0 0 0 0 0)).about)<=a.day)) (cond ((!is_)) (some true) (some (!decide (((r4 y.report).getD (Report.mk 0 0 0 0 0 0 0 0))=now)))) (some false)) (some false)) ((fun x5=>some (Sum.inl (x5)))))))
def AHC:An:=.nd (.nd (.jn [.norm ⟨[(.slot 126,.d .bool)],[]⟩] (.x)) (.x)) (.nd (.x) (.jn [.norm ⟨[(.slot 153,.d .bool)],[]⟩] (.x)))
noncomputable def K4 (l:List Letter):Option (List Letter×Int):=Option.bind (H3 ([(49:Nat),(50:Nat)]) l) fun (_,m1)=>some (m1,(0:Int))
def ALH:An:=.x
end Go.Proofs.YtgioiejbphljoaaGreatDoor
namespace Go.Rx
open Go Go.Sx Go.RowKit
def ALI:Nat->Code->An->Bool
 |0,.seq _ _,_=>true
 |n+1,.seq _ b,.nd _ r=>ALI n b r
 |_,_,_=>false
section
variable [Trk] [Sg] [Sf] {P:Program} [Se P] [Anch] {w0 w:World} {M:List Nat} {r:Option Nat} {n N:Nat} {ds:List Deferred}
theorem ALJ [Sl (P:=P)] {G:Gx} (hG:GxOk P G):∀ (m:Nat) (c:Code) (an:An) {Y:Type} {KN:AS->Option Y} {KX:Nat->AS->Option Y} {σ:AS} {L:A7} {w:World} {z:Y} {A B:A4} {X:Nat->A4} {Z:List PanicEntry->A4},(∀ (L:A7) (w:World) (v:Value) (T t:Nat) (L2:A7) (ds:List Deferred),Nat.blt t pnc=true->(∀ u,u≠t->Sx.A5 L2 u=Sx.A5 L u)->X (AC0 T t) ds ((t,v) :: L) w->Z [{ v:=.iface T v,recovered:=false }] ds L2 w)->ALI m c an=true->exec G N (fun _=>(none:Option Unit)) (N4 m c) an KN KX (fun _=>none) σ=some z->Holds (P:=P) w0 [] M σ L w ->
 (∀ σ' L' w',KN σ'=some z->EnvS (D3 (N4 m c)++C8 an) L L'->Holds (P:=P) w0 [] M σ' L' w'->CF r n P N (AJc m c) ds L' w' A B X Z) ->
 (∀ i σ' L' w',KX i σ'=some z->EnvS (D3 (N4 m c)++C8 an) L L'->Holds (P:=P) w0 [] M σ' L' w'->X i ds L' w')->CF r n P N c ds L w A B X Z
 |0,.seq a b,an,Y,KN,KX,σ,L,w,z,A,B,X,Z,hX,_,h,hH,hA,hE=>AKp (I2 hG a an _ _ _ _ _ _ _ _ _ _ _ _ _ h hH (fun σ1 L1 w1 h1 _ hE1 hH1=>hA σ1 L1 w1 h1 hE1 hH1) (fun i σ2 L2 w2 h2 _ hE2 hH2=>hE i σ2 L2 w2 h2 hE2 hH2) (fun r σ2 L2 w2 h2 h3 _ hH2=>by cases h2) ⟨fun T t L1 L2 w v ht hl hx=>hX L1 w v T t L2 ds ht hl hx,fun _ _ _ _ h=>h⟩)
 |m+1,.seq a b,.nd l q,Y,KN,KX,σ,L,w,z,A,B,X,Z,hX,hc,h,hH,hA,hE=>by
  have hc:ALI m b q=true:=hc
  have h:exec G N (fun _=>(none:Option Unit)) a l (fun σ'=>exec G N (fun _=>(none:Option Unit)) (N4 m b) q KN KX (fun _=>none) σ') KX (fun _=>none) σ=some z:=h
  have ha:∀ t∈D3 a++C8 l,t∈D3 (N4 (m+1) (.seq a b))++C8 (.nd l q):=fun t ht=>(List.mem_append.1 ht).elim (fun h=>List.mem_append_left _ (List.mem_append_left _ h)) fun h=>List.mem_append_right _ (AKs (.nd l q) t h)
  have hb:∀ t∈D3 (N4 m b)++C8 q,t∈D3 (N4 (m+1) (.seq a b))++C8 (.nd l q):=fun t ht=>(List.mem_append.1 ht).elim (fun h=>List.mem_append_left _ (List.mem_append_right _ h)) fun h=>List.mem_append_right _ (AKt (.nd l q) t h)
  refine AKp (I2 hG a l _ _ _ _ _ _ _ _ _ _ _ _ _ h hH (fun σ1 L1 w1 h1 _ hE1 hH1=>?_) (fun i σ2 L2 w2 h2 _ hE2 hH2=>hE i σ2 L2 w2 h2 (hE2.mono ha) hH2) (fun r σ2 L2 w2 h2 h3 _ hH2=>by cases h2) ⟨fun T t L1 L2 w v ht hl hx=>hX L1 w v T t L2 ds ht hl hx,fun _ _ _ _ h=>h⟩)
  exact ALJ hG m b q hX hc h1 hH1 (fun σ2 L2 w2 h2 hE2 hH2=>hA σ2 L2 w2 h2 ((hE1.mono ha).trans (hE2.mono hb)) hH2) fun i σ2 L2 w2 h2 hE2 hH2=>hE i σ2 L2 w2 h2 ((hE1.mono ha).trans (hE2.mono hb)) hH2
 |m+1,.seq a b,.x,_,_,_,_,_,_,_,_,_,_,_,_,hc,_,_,_,_=>by cases hc
 |m+1,.seq a b,.jn _ _,_,_,_,_,_,_,_,_,_,_,_,_,hc,_,_,_,_=>by cases hc
 |m+1,.seq a b,.lp _ _ _,_,_,_,_,_,_,_,_,_,_,_,_,hc,_,_,_,_=>by cases hc
 |0,.skip,_,_,_,_,_,_,_,_,_,_,_,_,_,hc,_,_,_,_|0,.region _ _ _,_,_,_,_,_,_,_,_,_,_,_,_,_,hc,_,_,_,_|0,.cond _ _ _,_,_,_,_,_,_,_,_,_,_,_,_,_,hc,_,_,_,_|0,.loop _,_,_,_,_,_,_,_,_,_,_,_,_,_,hc,_,_,_,_|0,.exit _,_,_,_,_,_,_,_,_,_,_,_,_,_,hc,_,_,_,_|0,.ret,_,_,_,_,_,_,_,_,_,_,_,_,_,hc,_,_,_,_
 |0,.scope _,_,_,_,_,_,_,_,_,_,_,_,_,_,hc,_,_,_,_|0,.label _,_,_,_,_,_,_,_,_,_,_,_,_,_,hc,_,_,_,_|0,.goto _,_,_,_,_,_,_,_,_,_,_,_,_,_,hc,_,_,_,_|0,.refuse _,_,_,_,_,_,_,_,_,_,_,_,_,_,hc,_,_,_,_|0,.block _ _,_,_,_,_,_,_,_,_,_,_,_,_,_,hc,_,_,_,_|0,.rangeFunc _ _ _ _,_,_,_,_,_,_,_,_,_,_,_,_,_,hc,_,_,_,_
 |_+1,.skip,_,_,_,_,_,_,_,_,_,_,_,_,_,hc,_,_,_,_|_+1,.region _ _ _,_,_,_,_,_,_,_,_,_,_,_,_,_,hc,_,_,_,_|_+1,.cond _ _ _,_,_,_,_,_,_,_,_,_,_,_,_,_,hc,_,_,_,_|_+1,.loop _,_,_,_,_,_,_,_,_,_,_,_,_,_,hc,_,_,_,_|_+1,.exit _,_,_,_,_,_,_,_,_,_,_,_,_,_,hc,_,_,_,_|_+1,.ret,_,_,_,_,_,_,_,_,_,_,_,_,_,hc,_,_,_,_
 |_+1,.scope _,_,_,_,_,_,_,_,_,_,_,_,_,_,hc,_,_,_,_|_+1,.label _,_,_,_,_,_,_,_,_,_,_,_,_,_,hc,_,_,_,_|_+1,.goto _,_,_,_,_,_,_,_,_,_,_,_,_,_,hc,_,_,_,_|_+1,.refuse _,_,_,_,_,_,_,_,_,_,_,_,_,_,hc,_,_,_,_|_+1,.block _ _,_,_,_,_,_,_,_,_,_,_,_,_,_,hc,_,_,_,_|_+1,.rangeFunc _ _ _ _,_,_,_,_,_,_,_,_,_,_,_,_,_,hc,_,_,_,_=>by cases hc
end
end Go.Rx
namespace Go.Sx
open Go Go.RowKit
variable [Trk]
theorem ANc (m:Nat) {P:Program} {N:Nat} {ds:List Deferred} {L:A7} {w:World} {A B:A4} {X:Nat->A4} {Z:List PanicEntry->A4} {g:Operand} {p p2:Nat} {assign body:Code} {gf:Nat} {lb:Array Value} {α:Type} {val val2:α->Value} {xs:List α} {K:World->World->Prop}
 (hg:ev L g=some (.func (.func gf) #[] lb)) (eg:∀ args w,(callFunc gf args).run P w=.ok (.enter gf args) w) (hp:Nat.blt p N=true) (hp2:Nat.blt p2 N=true)
 (hseq:SeqStopsK Fence.wide (m+1) P gf lb (fun x:α=>#[val x,val2 x]) K (fun ys=>ys=xs) (fun pre=>pre <+: xs) xs.length w)
 (hKt:∀ {A B C:World},K A B->K B C->K A C) (hKb:∀ (W:World) (l:Nat) (o o':Obj),w.heap.size<=l->W.heap[l]?=some o->o.isCells=false->o.isWalk=false->K W (W.putObj l o'))
 (I Ix:List α->World->Prop) (hI:OwnFrom w.heap.size I) (hIx:OwnFrom w.heap.size Ix) (h0:I [] w)
 (AL:α->A7->World->Prop) (hAL:∀ x L',OwnFrom w.heap.size fun (_:Unit) W=>AL x L' W)
 (hassign:∀ (l:Nat) (pre:List α) (x:α) (W:World),I pre W->CI l m P N assign [] ((p2,val2 x) :: (p,val x) :: L) W (fun ds' L' W'=>ds'=[]/\KeepsFrom w.heap.size W W'/\K W W'/\I pre W'/\AL x L' W') (fun _ _ _=>False) NoX (fun _ _ _ _=>False))
 (hbody:∀ (l:Nat) (pre:List α) (x:α) (L':A7) (W:World),w.heap.size<=l->(∃ r,W.heap[l]?=some (.loop r))->I pre W->AL x L' W->pre.length < xs.length ->
  CI l m P N body [] L' W (fun _ _ W'=>KeepsFrom w.heap.size W W'/\K W W'/\I (pre++[x]) W') (fun _ _ W'=>KeepsFrom w.heap.size W W'/\Ix (pre++[x]) W') NoX (fun _ _ _ _=>False))
 (hdone:∀ (D:Nat) (W:World),w.heap.size<=D->I xs W->W.heap[D]?=some (.deferred (some []))->A ({ target:=.collected D,args:=#[] } :: ds) L W)
 (hstop:∀ (D:Nat) (pre:List α) (W:World),w.heap.size<=D->pre <+: xs->Ix pre W->W.heap[D]?=some (.deferred (some []))->B ({ target:=.collected D,args:=#[] } :: ds) L W) :
 CW P N (.rangeFunc g #[p,p2] assign body) ds L w A B X Z:=by
 intro a ha
 refine (wpIn_wide (n:=m+2)).1 ?_
 refine wpIn_rangeFunc_ownH (F:=Fence.wide) (n:=m+2) rfl (by omega) (ha.eval hg) trivial eg hseq (fun h k=>hKt h k) hKb (Below.refl _ _) (fun x=>rfl) I (fun c pre W=>c=.ret/\Ix pre W) hI
  (fun c s W W' row hs hgr hr=>⟨hs.1,hIx s W W' row hs.2 hgr hr⟩) h0 (fun x a' W=>∃ L',Knows N [] L' a'/\AL x L' W) (fun x a' s W W' row hs hgr hr=>?_) ?_ ?_ ?_ ?_
 . obtain⟨L',h1,h2⟩:=hs
   exact⟨L',h1,hAL x L' () W W' row h2 hgr hr⟩
 . intro l pre x W K' hi hK
   have hk:Knows N [] ((p2,val2 x) :: (p,val x) :: L) { tmps:=(a.tmps.setIfInBounds p (val x)).setIfInBounds p2 (val2 x),defers:=[] }:=by
    have h1:=(show Knows N [] L { a with defers:=[] } from ⟨ha.size,rfl,ha.val⟩).put hp (val x)
    exact h1.put hp2 (val2 x)
   have hz:(Array.foldl (fun (t:Array Value) (x:Tmp×Value)=>match x with|(p,v)=>t.setIfInBounds p v) a.tmps (#[p,p2].zip #[val x,val2 x]))=(a.tmps.setIfInBounds p (val x)).setIfInBounds p2 (val2 x):=by simp
   rw[hz]
   refine wpIn_mono (hassign l pre x W hi _ hk) fun e a' W' hq=>?_
   cases e with
   |normal=>obtain⟨ds',L',h1,rfl,h3,h4,h5,h6⟩:=hq;exact hK a' W' h3 h4 h5 ⟨L',h1,h6⟩
   |ret=>obtain⟨_,_,_,h⟩:=hq;exact h.elim
   |exit i=>obtain⟨_,_,_,h⟩:=hq;exact h.elim
   |panic c=>obtain⟨_,_,_,h⟩:=hq;exact h.elim
   |goto l=>exact hq.elim
   |outgrown=>exact hq.elim
 . intro l pre x a' W hwl hrec hi hA hl
   obtain⟨L',h1,h2⟩:=hA
   refine wpIn_mono (hbody l pre x L' W hwl hrec hi h2 hl a' h1) fun e a' W' hq=>?_
   cases e with
   |normal=>obtain⟨ds',L',h1,h3⟩:=hq;exact h3
   |ret=>obtain⟨ds',L',h1,h3,h4⟩:=hq;exact⟨h3,rfl,h4⟩
   |exit i=>obtain⟨_,_,_,h⟩:=hq;exact h.elim
   |panic c=>obtain⟨_,_,_,h⟩:=hq;exact h.elim
   |goto l=>exact hq.elim
   |outgrown=>exact hq.elim
 . intro D ys W hD hy hi hw
   subst hy
   exact⟨_,L,⟨ha.size,by rw[ha.defers],ha.val⟩,hdone D W hD hi hw⟩
 . intro D c pre W hD hy hi hw
   obtain⟨rfl,hi⟩:=hi
   exact wpIn_ret ⟨_,L,⟨ha.size,by rw[ha.defers],ha.val⟩,hstop D pre W hD hy hi hw⟩
theorem ANd (m:Nat) {l0:Nat} {P:Program} {N:Nat} {ds:List Deferred} {L:A7} {w:World} {A B:A4} {X:Nat->A4} {Z:List PanicEntry->A4} {g:Operand} {p p2:Nat} {assign body:Code} {gf:Nat} {lb:Array Value} {α:Type} {val val2:α->Value} {xs:List α} {K:World->World->Prop}
 (hrec0:∃ r,w.heap[l0]?=some (.loop r)) (hg:ev L g=some (.func (.func gf) #[] lb)) (eg:∀ args w,(callFunc gf args).run P w=.ok (.enter gf args) w) (hp:Nat.blt p N=true) (hp2:Nat.blt p2 N=true)
 (hseq:SeqStopsK Fence.wide (m+1) P gf lb (fun x:α=>#[val x,val2 x]) K (fun ys=>ys=xs) (fun pre=>pre <+: xs) xs.length w)
 (hKt:∀ {A B C:World},K A B->K B C->K A C) (hKb:∀ (W:World) (l:Nat) (o o':Obj),w.heap.size<=l->W.heap[l]?=some o->o.isCells=false->o.isWalk=false->K W (W.putObj l o'))
 (I Ix:List α->World->Prop) (hI:OwnFrom w.heap.size I) (hIx:OwnFrom w.heap.size Ix) (h0:I [] w)
 (AL:α->A7->World->Prop) (hAL:∀ x L',OwnFrom w.heap.size fun (_:Unit) W=>AL x L' W)
 (hassign:∀ (l:Nat) (pre:List α) (x:α) (W:World),I pre W->CI l m P N assign [] ((p2,val2 x) :: (p,val x) :: L) W (fun ds' L' W'=>ds'=[]/\KeepsFrom w.heap.size W W'/\K W W'/\I pre W'/\AL x L' W') (fun _ _ _=>False) NoX (fun _ _ _ _=>False))
 (hbody:∀ (l:Nat) (pre:List α) (x:α) (L':A7) (W:World),w.heap.size<=l->(∃ r,W.heap[l]?=some (.loop r))->I pre W->AL x L' W->pre.length < xs.length ->
  CI l m P N body [] L' W (fun _ _ W'=>KeepsFrom w.heap.size W W'/\K W W'/\I (pre++[x]) W') (fun _ _ W'=>KeepsFrom w.heap.size W W'/\Ix (pre++[x]) W') NoX (fun _ _ _ _=>False))
 (hdone:∀ (W:World),I xs W->A ds L W)
 (hno:∀ pre W,¬ Ix pre W) :
 CI l0 (m+2) P N (.rangeFunc g #[p,p2] assign body) ds L w A B X Z:=by
 intro a ha
 obtain⟨r0,hr0⟩:=hrec0
 refine wpIn_rangeFunc_ownN (F:=FW l0) (n:=m+2) (l₀:=l0) rfl hr0 (by omega) (ha.eval hg) trivial eg hseq (fun h k=>hKt h k) hKb (Below.refl _ _) (fun x=>rfl) I (fun c pre W=>c=.ret/\Ix pre W) hI
  (fun c s W W' row hs hgr hr=>⟨hs.1,hIx s W W' row hs.2 hgr hr⟩) h0 (fun x a' W=>∃ L',Knows N [] L' a'/\AL x L' W) (fun x a' s W W' row hs hgr hr=>?_) ?_ ?_ ?_ ?_
 . obtain⟨L',h1,h2⟩:=hs
   exact⟨L',h1,hAL x L' () W W' row h2 hgr hr⟩
 . intro l pre x W K' hi hK
   have hk:Knows N [] ((p2,val2 x) :: (p,val x) :: L) { tmps:=(a.tmps.setIfInBounds p (val x)).setIfInBounds p2 (val2 x),defers:=[] }:=by
    have h1:=(show Knows N [] L { a with defers:=[] } from ⟨ha.size,rfl,ha.val⟩).put hp (val x)
    exact h1.put hp2 (val2 x)
   have hz:(Array.foldl (fun (t:Array Value) (x:Tmp×Value)=>match x with|(p,v)=>t.setIfInBounds p v) a.tmps (#[p,p2].zip #[val x,val2 x]))=(a.tmps.setIfInBounds p (val x)).setIfInBounds p2 (val2 x):=by simp
   rw[hz]
   refine wpIn_mono (hassign l pre x W hi _ hk) fun e a' W' hq=>?_
   cases e with
   |normal=>obtain⟨ds',L',h1,rfl,h3,h4,h5,h6⟩:=hq;exact hK a' W' h3 h4 h5 ⟨L',h1,h6⟩
   |ret=>obtain⟨_,_,_,h⟩:=hq;exact h.elim
   |exit i=>obtain⟨_,_,_,h⟩:=hq;exact h.elim
   |panic c=>obtain⟨_,_,_,h⟩:=hq;exact h.elim
   |goto l=>exact hq.elim
   |outgrown=>exact hq.elim
 . intro l pre x a' W hwl hrec hi hA hl
   obtain⟨L',h1,h2⟩:=hA
   refine wpIn_mono (hbody l pre x L' W hwl hrec hi h2 hl a' h1) fun e a' W' hq=>?_
   cases e with
   |normal=>obtain⟨ds',L',h1,h3⟩:=hq;exact h3
   |ret=>obtain⟨ds',L',h1,h3,h4⟩:=hq;exact⟨h3,rfl,h4⟩
   |exit i=>obtain⟨_,_,_,h⟩:=hq;exact h.elim
   |panic c=>obtain⟨_,_,_,h⟩:=hq;exact h.elim
   |goto l=>exact hq.elim
   |outgrown=>exact hq.elim
 . intro ys W hy hi
   subst hy
   exact⟨_,L,ha,hdone W hi⟩
 . intro c pre W hy hi
   exact absurd hi.2 (hno _ _)
end Go.Sx
set_option maxRecDepth 20000
set_option maxHeartbeats 4000000
namespace Go.Proofs.YtgioiejbphljoaaGreatDoor
open Go Go.Sx Go.Rx Go.RowKit
theorem AQD:Tryz.prog.cellsOf 116=2:=by kernel_rfl
theorem ATu:Tryz.prog.keyType 116=true:=by kernel_rfl
theorem ATv:Tryz.prog.cellsOf 3=1:=by kernel_rfl
def K116:Ky Tryz.prog 116 (Int×Int):=AST (show laidOutB Tryz.prog=true by kernel_rfl) (m:=2) (by omega) (of_decide_eq_true (by kernel_rfl)) (by kernel_rfl) (by rw[Tryz.underlying116]) (fun x=>.agg (List.toArray [.int .i64 x.1,.int .i64 x.2])) (fun x=>InK .i64 x.1/\InK .i64 x.2)
 (fun {x} h=>by
  exact AUl Tryz.underlying116 Tryz.underlying3 AQD ATv ATu (of_decide_eq_true (by kernel_rfl)) h.1 h.2)
 (fun {a b} _ _ h=>by
  cases a;cases b;simp at h;simp[h])
abbrev MP (bd:Nat) (f:A3 (Int×Int) Int):List Res:=[mapO K116 (B3 .i64) false bd f]
theorem V3 {M':List Nat} {W W':World} {B:Nat} (h:Adv M' M' W W') (hb:∀ b∈M',b < B) (hB:B<=W.heap.size):KeepsFrom B W W'/\KI M' B W W':=
 ⟨⟨h.kp.size,fun k o hk ho _=>(h.kp.block k (J8 ho) fun hm=>by have:=hb k hm;omega).trans ho⟩,h.kp.os,h.kp.tape,h.kp.output,h.kp.size,fun b hb' hn=>h.kp.block b (Nat.lt_of_lt_of_le hb' hB) hn⟩
theorem AHD {M:List Nat} {W W':World} {b o:Nat} {cs:List Value} {row:Option Nat} (h:RdC M W b o cs) (hg:W.grownBy W' row) (hr:∀ r,row=some r->∃ o:Obj,W.heap[r]?=some o/\o.isCells=false):RdC M W' b o cs:=by
 obtain⟨htn,_⟩:=ADg (B:=0) hg fun r e=>⟨Nat.zero_le _,hr r e⟩
 exact⟨h.out,Nat.lt_of_lt_of_le h.lt htn.1,htn.cells h.cells⟩
structure D16 (M':List Nat) (W:World) (x:Desk_99) (al:List Asked) (l:List Report) (p8 p4 p13:Value) (b14 bd:Nat):Prop where
 g:GlOk (P:=Tryz.prog) M' W
 h8:Ok (P:=Tryz.prog) (fun _=>undef) (fun _=>none) M' W (.rp (.str 10 x) 0) p8
 h4:Ok (P:=Tryz.prog) (fun _=>undef) (fun _=>none) M' W (.rp (.dat (.sl (.st 5)) al) 0) p4
 h13:Ok (P:=Tryz.prog) (fun _=>undef) (fun _=>none) M' W (.rp (.dat (.sl (.st 1)) l) 0) p13
 h14:RdC M' W b14 0 [.map (some bd)]
theorem D16.adv {M':List Nat} {W W':World} {x:Desk_99} {al:List Asked} {l:List Report} {p8 p4 p13:Value} {b14 bd:Nat} (h:D16 M' W x al l p8 p4 p13 b14 bd) (ha:Adv M' M' W W'):D16 M' W' x al l p8 p4 p13 b14 bd:=
 ⟨h.g.adv ha,Ok.adv ha _ h.h8,Ok.adv ha _ h.h4,Ok.adv ha _ h.h13,h.h14.adv ha⟩
noncomputable def inB (x:Desk_99) (l:List Report) (y:Dispute) (v:Verdict) (now:Report) (is_:Bool) (f:A3 (Int×Int) Int) (a:Int×Asked):Option (A3 (Int×Int) Int):=Option.bind (AAa x l y v now is_ a.2) fun b=>some (match b with
 |.inl true=>B5 f (y.id,a.2.who) a.2.id
 |_=>f)
def AH8 (a:Asked):List Value:=[.int .i64 a.id,.int .i64 a.who,.int .i64 a.account,.int .i64 a.day]
noncomputable def ATw:Code:=match Tryz.f16.body with
 |some (.seq _ (.seq _ (.seq _ (.seq _ (.seq _ (.seq _ (.seq _ (.seq _ (.seq _ (.seq (.seq _ (.block _ (.rangeFunc _ _ _ (.block _ c)))) _))))))))))=>c
 |_=>.skip
noncomputable def ATx:Code:=match ATw with
 |.seq _ (.seq _ (.block _ c))=>c
 |_=>.skip
noncomputable def ANe:Code:=match ATx with
 |.rangeFunc _ _ _ (.block _ c)=>c
 |_=>.skip
def AQE (σ:AS):Option (Bool⊕Unit):=match A1 σ.env 153 with
 |some (.bool b)=>some (.inl b)
 |_=>none
def ANf (x:Desk_99) (l:List Report) (y:Dispute) (v:Verdict) (now:Report) (is_:Bool) (a:Asked):List (Nat×SV):=[(8,.rp (.str 10 x) 0),(13,.rp (.dat (.sl (.st 1)) l) 0),(15,.rp (.str 2 y) 0),(16,.rp (.str 12 v) 0),(17,.rp (.str 1 now) 0),(18,.rp (.bool is_) 0),(20,.rp (.str 5 a) 0)]
noncomputable def AQF:Gx:={ gxb with fs:=[(46,ctr46)] }
theorem AMV:GxOk Tryz.prog AQF:=B1 ⟨⟨ok46,Tryz.call46⟩,trivial⟩
theorem ATy (x:Desk_99) (l:List Report) (y:Dispute) (v:Verdict) (now:Report) (is_:Bool) (a:Asked):exec AQF 181 (fun _=>(none:Option Unit)) (N4 2 ANe) AHC AQE (fun i _=>bif Nat.beq i 5 then some (.inr ()) else none) (fun _=>none) ⟨ANf x l y v now is_ a,[],[],[]⟩=AAa x l y v now is_ a:=by kernel_rfl
def AXO (M':List Nat) (Lb:Sx.A7) (a:Int×Asked) (L:Sx.A7) (W:World):Prop:=∃ b20,L=(20,.pointer (some ⟨b20,0,none⟩)) :: (98,K7 (.st 5) a.2) :: (97,K7 (.int .i64) a.1) :: Lb/\RdC M' W b20 0 (AH8 a.2)
theorem AR4 {l0:Nat} {w wi:World} {M:List Nat} {bd b14:Nat} {x:Desk_99} {al:List Asked} {l:List Report} {y:Dispute} {v:Verdict} {now:Report} {is_:Bool} {p8 p4 p13 p15 p16 p17 p18 pb:Value} {f f':A3 (Int×Int) Int} {Li:Sx.A7} {ds:List Deferred} {A B:A4} {X:Nat->A4} {Z:List PanicEntry->A4}
 (hbd:bd < wi.heap.size) (hI:Hp w [] M (MP bd f) wi) (hrec:∃ r,wi.heap[l0]?=some (.loop r)) (hD:D16 (bd :: M) wi x al l p8 p4 p13 b14 bd)
 (h15:Ok (P:=Tryz.prog) (fun _=>undef) (fun _=>none) (bd :: M) wi (.rp (.str 2 y) 0) p15) (h16:Ok (P:=Tryz.prog) (fun _=>undef) (fun _=>none) (bd :: M) wi (.rp (.str 12 v) 0) p16) (h17:Ok (P:=Tryz.prog) (fun _=>undef) (fun _=>none) (bd :: M) wi (.rp (.str 1 now) 0) p17) (h18:Ok (P:=Tryz.prog) (fun _=>undef) (fun _=>none) (bd :: M) wi (.rp (.bool is_) 0) p18) (hpb:Ok (P:=Tryz.prog) (fun _=>undef) (fun _=>none) (bd :: M) wi (.rp (.dat (.sl (.st 5)) al) 0) pb) (hky:InK .i64 y.id)
 (l8:Sx.A5 Li 8=some p8) (l13:Sx.A5 Li 13=some p13) (l14:Sx.A5 Li 14=some (.pointer (some ⟨b14,0,none⟩))) (l15:Sx.A5 Li 15=some p15) (l16:Sx.A5 Li 16=some p16) (l17:Sx.A5 Li 17=some p17) (l18:Sx.A5 Li 18=some p18) (l96:Sx.A5 Li 96=some (.func (.func 85) #[] #[pb]))
 (hbs:∀ a∈bwN al al.length,ADf [.int .i64,.st 5] a) (hr:ABi (inB x l y v now is_) f (bwN al al.length)=some f')
 (hA:∀ W,Hp w [] M (MP bd f') W->Adv (bd :: M) (bd :: M) wi W->A ds Li W):CI l0 3 Tryz.prog 181 ATx ds Li wi A B X Z:=by
 obtain⟨ho1,ho2⟩:=AFM hr
 have hMlt:MLt (bd :: M) wi:=hI.mlt
 have hwi:w.heap.size<=wi.heap.size:=hI.kp.size
 let I:List {x // x∈bwN al al.length}->World->Prop:=fun pre W=>∃ g,List.foldlM (inB x l y v now is_) f (pre.map Subtype.val)=some g/\Hp w [] M (MP bd g) W/\Adv (bd :: M) (bd :: M) wi W
 refine ANd 1 (val:=fun a:{x // x∈bwN al al.length}=>K7 (.int .i64) a.1.1) (val2:=fun a=>K7 (.st 5) a.1.2) (K:=KI (bd :: M) wi.heap.size) (xs:=(bwN al al.length).attach) hrec l96 Tryz.call85 rfl rfl (AIg 2 hMlt hD.g hpb Subtype.val _ (List.attach_map_subtype_val _)) (fun h k=>h.trans k) (fun W k o o' hk _ _ _=>KI.putObj hk) I (fun _ _=>False) ?_ (fun _ _ _ _ h _ _=>h.elim) ⟨f,rfl,hI,Adv.refl _ _⟩ (fun a L' W=>AXO (bd :: M) Li a.1 L' W) ?_ ?_ ?_ ?_ (fun _ _ h=>h)
 . rintro pre W W' row ⟨g,e1,e2,e3⟩ hgr hr
   exact⟨g,e1,Hp.turn (fun h=>h) e3.kp.size hwi (AQW hbd tn0) e2 hgr hr,Adv.turn (fun h=>h) e3 hgr hr⟩
 . rintro a L' _ W W' row ⟨b20,e1,e2⟩ hgr hr
   exact⟨b20,e1,AHD e2 hgr fun r e=>(hr r e).2⟩
 . rintro k pre a W ⟨g,e1,e2,e3⟩
   refine ABI rfl ?_
   refine ACr e2 Tryz.zeroValue47 rfl rfl ?_
   intro b20 w5 hI5 x5
   refine ABX 0 (vs:=AH8 a.1.2) hI5 rfl rfl rfl rfl Tryz.sizeOf47 rfl rfl (C9 rfl (C9 rfl (C9 rfl (C9 rfl ACm)))) ?_
   intro w6 hI6 x6
   have hI6:Hp w [] M (rowR 47 b20 (AH8 a.1.2) :: MP bd g) w6:=hI6
   have hA:Adv (bd :: M) (bd :: M) W w6:=x5.trans (x6.trans (F9 (σ:=rowR 47 b20 (AH8 a.1.2) :: MP bd g) 0))
   obtain⟨k1,k2⟩:=V3 hA hMlt e3.kp.size
   exact Reg.nil ⟨rfl,k1,k2,⟨g,e1,hI6.erase 0,e3.trans hA⟩,b20,rfl,hI6.freezeRow 0 rfl⟩
 . rintro k pre a L' W hwl hrk ⟨g,e1,e2,e3⟩ ⟨b20,rfl,e5⟩ hlt
   obtain⟨g',hb',hfold⟩:=ho2 (pre.map Subtype.val) a.1 g (by simpa using hlt) (fun y hy=>by obtain⟨z,_,rfl⟩:=List.mem_map.1 hy;exact z.2) a.2 e1
   unfold inB at hb'
   obtain⟨z,hz,hb'⟩:=R6 hb'
   have hb':=Option.some.inj hb'
   have hDW:=hD.adv e3
   have hMW:MLt (bd :: M) W:=e2.mlt
   have hok:okI (.st 5) a.1.2:=(hbs a.1 a.2).2
   have hst:Holds (P:=Tryz.prog) W [] (bd :: M) ⟨ANf x l y v now is_ a.1.2,[],[],[]⟩ ((20,.pointer (some ⟨b20,0,none⟩)) :: (98,K7 (.st 5) a.1.2) :: (97,K7 (.int .i64) a.1.1) :: Li) W:=by
    refine Holds.start hMW (fun t s ht=>?_) ⟨trivial,hDW.g⟩
    unfold ANf at ht
    rw[fnd_cons] at ht
    split at ht
    . rename_i e;subst e;cases ht;exact⟨_,l8,hDW.h8⟩
    rw[fnd_cons] at ht
    split at ht
    . rename_i e;subst e;cases ht;exact⟨_,l13,hDW.h13⟩
    rw[fnd_cons] at ht
    split at ht
    . rename_i e;subst e;cases ht;exact⟨_,l15,Ok.adv e3 _ h15⟩
    rw[fnd_cons] at ht
    split at ht
    . rename_i e;subst e;cases ht;exact⟨_,l16,Ok.adv e3 _ h16⟩
    rw[fnd_cons] at ht
    split at ht
    . rename_i e;subst e;cases ht;exact⟨_,l17,Ok.adv e3 _ h17⟩
    rw[fnd_cons] at ht
    split at ht
    . rename_i e;subst e;cases ht;exact⟨_,l18,Ok.adv e3 _ h18⟩
    rw[fnd_cons] at ht
    split at ht
    . rename_i e;subst e;cases ht;exact⟨_,rfl,b20,0,_,AH8 a.1.2,rfl,e5,AD7 (.st 5) hok,rfl⟩
    cases ht
   refine AEN ?_
   refine AG5 (l:=k) ?_
   refine ALJ AMV 2 ANe AHC (KN:=AQE) (KX:=fun i _=>bif Nat.beq i 5 then some (.inr ()) else none) ?_ rfl ((ATy x l y v now is_ a.1.2).trans hz) hst (fun σ' L2 W2 hK hE2 hH2=>?_) (fun i σ' L2 W2 hK hE2 hH2=>?_)
   . exact fun L w v T t L2 ds ht hl hx=>((PZ.no (Z:=fun _ _ _ _=>False) (ds:=ds)).block (i:=5) rfl).z T t L L2 w v ht hl hx
   . have hx2:Ext W W2:=hH2.ends
     have hI2:Hp w [] M (MP bd g) W2:=e2.ext hx2
     have hA2:Adv (bd :: M) (bd :: M) W W2:=Adv.of_ext hx2
     have lk:∀ t,t∈[14,15,20]->Sx.A5 L2 t=Sx.A5 ((20,.pointer (some ⟨b20,0,none⟩)) :: (98,K7 (.st 5) a.1.2) :: (97,K7 (.int .i64) a.1.1) :: Li) t:=fun t ht=>hE2 t fun hm=>(by decide:∀ t∈[14,15,20],t∉D3 (N4 2 ANe)++C8 AHC) t ht hm
     obtain⟨b,hb,hzb⟩:∃ b,A1 σ'.env 153=some (.bool b)/\z=.inl b:=by
      unfold AQE at hK
      split at hK
      . rename_i b hb;exact⟨b,hb,(Option.some.inj hK).symm⟩
      . cases hK
     subst hzb
     have l153:=hH2.slotB hb
     show CI k 1 Tryz.prog 181 (AJc 2 ANe) [] L2 W2 _ _ _ _
     refine ARF l153 (fun hbt=>?_) (fun hbf=>?_)
     . subst hbt
       subst hb'
       have hDW2:=hDW.adv hA2
       obtain⟨b15,o15,u15,vs15,rfl,c15,hu15,hc15⟩:=Ok.adv (e3.trans hA2) _ h15
       obtain⟨cs15,hR15,hcs15⟩:=hu15
       obtain rfl:vs15=[.int .i64 y.id,.int .i64 y.report,.int .i64 y.day]:=by
        obtain⟨rfl,_⟩:=(DisputeE_R (x:=y)).1 hR15
        rcases hcs15 with⟨_,rfl⟩|⟨h,_⟩
        . simpa[Value.cells] using hc15.symm
        . cases h
       refine ABI rfl ?_
       refine V9 ((lk 14 (by decide)).trans l14) ((hDW2.h14).cells.at 0 rfl) Tryz.isAgg106 rfl ?_
       refine ABW ((lk 15 (by decide)).trans l15) Tryz.underlying53 rfl Tryz.sizeOf3 rfl ?_
       refine V9 rfl (c15.cells.at 0 rfl) Tryz.isAgg3 rfl ?_
       refine ABW (lk 20 (by decide)) Tryz.underlying47 rfl Tryz.sizeOf3 rfl ?_
       refine V9 rfl ((e5.adv hA2).cells.at 1 rfl) Tryz.isAgg3 rfl ?_
       refine ASU Tryz.zeroValue116 rfl Tryz.underlying116 Tryz.sizeOf3 rfl rfl rfl rfl rfl ?_
       refine ABW (lk 20 (by decide)) Tryz.underlying47 rfl Tryz.sizeOf3 rfl ?_
       refine V9 rfl ((e5.adv hA2).cells.at 0 rfl) Tryz.isAgg3 rfl ?_
       obtain⟨ka,kb,_,_⟩:InK .i64 a.1.2.id/\InK .i64 a.1.2.who/\InK .i64 a.1.2.account/\InK .i64 a.1.2.day:=hok
       refine AMl (K:=K116) (E:=B3 .i64) (ag:=false) 0 hI2 rfl rfl (a:=(y.id,a.1.2.who)) rfl ⟨hky,kb⟩ rfl (z:=a.1.2.id) ⟨[_],⟨rfl,ka⟩,.inr ⟨rfl,rfl⟩⟩ Tryz.underlying106 ?_
       intro w9 hI9 x9
       have hI9:Hp w [] M (MP bd (B5 g (y.id,a.1.2.who) a.1.2.id)) w9:=hI9
       have hA9:Adv (bd :: M) (bd :: M) W w9:=hA2.trans x9
       obtain⟨k1,k2⟩:=V3 hA9 hMlt e3.kp.size
       exact Reg.nil ⟨k1,k2,_,by rw[List.map_append];exact hfold,hI9,e3.trans hA9⟩
     . subst hbf
       subst hb'
       obtain⟨k1,k2⟩:=V3 hA2 hMlt e3.kp.size
       exact ARE ⟨k1,k2,g,by rw[List.map_append];exact hfold,hI2,e3.trans hA2⟩
   . have hx2:Ext W W2:=hH2.ends
     have hA2:Adv (bd :: M) (bd :: M) W W2:=Adv.of_ext hx2
     cases hi:Nat.beq i 5 with
     |false=>
      have hK:(bif Nat.beq i 5 then some (Sum.inr ()) else none)=some z:=hK
      rw[hi] at hK;cases hK
     |true=>
      have hK:(bif Nat.beq i 5 then some (Sum.inr ()) else none)=some z:=hK
      rw[hi] at hK
      have hK:Sum.inr ()=z:=Option.some.inj hK
      subst hK
      subst hb'
      obtain rfl:=Nat.eq_of_beq_eq_true hi
      obtain⟨k1,k2⟩:=V3 hA2 hMlt e3.kp.size
      exact T6 ⟨k1,k2,g,by rw[List.map_append];exact hfold,e2.ext hx2,e3.trans hA2⟩
 . rintro W ⟨g,e1,e2,e3⟩
   rw[List.attach_map_subtype_val,ho1] at e1
   cases e1
   exact hA W e2 e3
end Go.Proofs.YtgioiejbphljoaaGreatDoor
set_option maxRecDepth 20000
set_option maxHeartbeats 4000000
namespace Go.Proofs.YtgioiejbphljoaaGreatDoor
open Go Go.Sx Go.Rx Go.RowKit
noncomputable def AHE (x:Desk_99) (al:List Asked) (l:List Report) (f:A3 (Int×Int) Int) (y:Dispute×Verdict):Option (A3 (Int×Int) Int):=Option.bind (AAx l y.1 y.2) fun n=>Option.bind (U2 al) fun bs=>ABi (inB x l y.1 y.2 n.1 n.2) f bs
noncomputable def AQG:Code:=match ATw with
 |.seq c _=>c
 |_=>.skip
noncomputable def AXP:Code:=match Tryz.f16.body with
 |some (.seq _ (.seq _ (.seq _ (.seq _ (.seq _ (.seq _ (.seq _ (.seq _ (.seq _ (.seq (.seq _ (.block _ c)) _))))))))))=>c
 |_=>.skip
noncomputable def ATz (σ:AS):Option (Report×Bool):=match A1 σ.env 17,A1 σ.env 18,A1 σ.res 17,A1 σ.res 18 with
 |some (.ptr 17 0),some (.ptr 18 0),some (.row 45 c),some (.row 4 [.bool b])=>match A8 (.agg c) with
  |[]=>match C3 (A1 σ.res) (.st 1) (.agg c) with
   |some r=>some (r,b)
   |none=>none
  |_=>none
 |_,_,_,_=>none
def ANg (l:List Report) (y:Dispute) (v:Verdict):List (Nat×SV):=[(13,.rp (.dat (.sl (.st 1)) l) 0),(15,.rp (.str 2 y) 0),(16,.rp (.str 12 v) 0)]
theorem AVy (l:List Report) (y:Dispute) (v:Verdict):exec AQF 181 (fun _=>(none:Option Unit)) AQG AIk ATz (fun _ _=>none) (fun _=>none) ⟨ANg l y v,[],[],[]⟩=AAx l y v:=by kernel_rfl
def ALo (M':List Nat) (Lb:Sx.A7) (y:Dispute×Verdict) (L:Sx.A7) (W:World):Prop:=∃ b15 b16,L=(16,.pointer (some ⟨b16,0,none⟩)) :: (15,.pointer (some ⟨b15,0,none⟩)) :: (84,K7 (.st 12) y.2) :: (83,K7 (.st 2) y.1) :: Lb/\RdC M' W b15 0 (ABg y.1)/\RdC M' W b16 0 (ADn y.2)
theorem AR5 {w wl:World} {M:List Nat} {bd b14:Nat} {x:Desk_99} {day:Int} {al:List Asked} {l:List Report} {p8 p4 p13 p1 p2:Value} {f f':A3 (Int×Int) Int} {ys:List (Dispute×Verdict)} {Lb:Sx.A7} {ds:List Deferred} {A B:A4} {X:Nat->A4} {Z:List PanicEntry->A4}
 (hbd:bd < wl.heap.size) (hI:Hp w [] M (MP bd f) wl) (hD:D16 (bd :: M) wl x al l p8 p4 p13 b14 bd) (h1:Ok (P:=Tryz.prog) (fun _=>undef) (fun _=>none) (bd :: M) wl (.rp (.str 10 x) 0) p1) (h2:Ok (P:=Tryz.prog) (fun _=>undef) (fun _=>none) (bd :: M) wl (.rp (.int .i64 day) 0) p2)
 (l4:Sx.A5 Lb 4=some p4) (l8:Sx.A5 Lb 8=some p8) (l13:Sx.A5 Lb 13=some p13) (l14:Sx.A5 Lb 14=some (.pointer (some ⟨b14,0,none⟩))) (l82:Sx.A5 Lb 82=some (.func (.func 84) #[] #[p1,p2]))
 (hys:AFh x day x.desk.disputes=some ys) (hok:∀ y∈ys,ADf [.st 2,.st 12] y) (hr:ABi (AHE x al l) f ys=some f')
 (hA:∀ D W,wl.heap.size<=D->Hp w [] M (MP bd f') W->Adv (bd :: M) (bd :: M) wl W->W.heap[D]?=some (.deferred (some []))->A ({ target:=.collected D,args:=#[] } :: ds) Lb W):CW Tryz.prog 181 AXP ds Lb wl A B X Z:=by
 obtain⟨ho1,ho2⟩:=AFM hr
 have hMlt:MLt (bd :: M) wl:=hI.mlt
 have hwl:w.heap.size<=wl.heap.size:=hI.kp.size
 let I:List {x // x∈ys}->World->Prop:=fun pre W=>∃ g,List.foldlM (AHE x al l) f (pre.map Subtype.val)=some g/\Hp w [] M (MP bd g) W/\Adv (bd :: M) (bd :: M) wl W
 refine ANc 3 (val:=fun a:{x // x∈ys}=>K7 (.st 2) a.1.1) (val2:=fun a=>K7 (.st 12) a.1.2) (K:=KI (bd :: M) wl.heap.size) (xs:=ys.attach) l82 Tryz.call84 rfl rfl (AE2 4 hMlt hD.g h1 h2 hys Subtype.val _ (List.attach_map_subtype_val _)) (fun h k=>h.trans k) (fun W k o o' hk _ _ _=>KI.putObj hk) I (fun _ _=>False) ?_ (fun _ _ _ _ h _ _=>h.elim) ⟨f,rfl,hI,Adv.refl _ _⟩ (fun a L' W=>ALo (bd :: M) Lb a.1 L' W) ?_ ?_ ?_ ?_ (fun _ _ _ _ _ h _=>h.elim)
 . rintro pre W W' row ⟨g,e1,e2,e3⟩ hgr hr
   exact⟨g,e1,Hp.turn (fun h=>h) e3.kp.size hwl (AQW hbd tn0) e2 hgr hr,Adv.turn (fun h=>h) e3 hgr hr⟩
 . rintro a L' _ W W' row ⟨b15,b16,e1,e2,e3⟩ hgr hr
   exact⟨b15,b16,e1,AHD e2 hgr fun r e=>(hr r e).2,AHD e3 hgr fun r e=>(hr r e).2⟩
 . rintro k pre a W ⟨g,e1,e2,e3⟩
   refine AHS ?_
   refine ABI rfl ?_
   refine ACr e2 Tryz.zeroValue53 rfl rfl ?_
   intro b15 w5 hI5 x5
   refine ABX 0 (vs:=ABg a.1.1) hI5 rfl rfl rfl rfl Tryz.sizeOf53 rfl rfl (C9 rfl (C9 rfl (C9 rfl ACm))) ?_
   intro w6 hI6 x6
   have hI6:Hp w [] M (rowR 53 b15 (ABg a.1.1) :: MP bd g) w6:=hI6
   have hA6:Adv (bd :: M) (bd :: M) W w6:=x5.trans (x6.trans (F9 (σ:=rowR 53 b15 (ABg a.1.1) :: MP bd g) 0))
   have hC6:RdC (bd :: M) w6 b15 0 (ABg a.1.1):=hI6.freezeRow 0 rfl
   have hI6':Hp w [] M (MP bd g) w6:=hI6.erase 0
   refine Reg.nil ?_
   refine ABI rfl ?_
   refine ACr hI6' Tryz.zeroValue111 rfl rfl ?_
   intro b16 w7 hI7 x7
   refine ABX 0 (vs:=ADn a.1.2) hI7 rfl rfl rfl rfl Tryz.sizeOf111 rfl rfl (C9 rfl (C9 rfl (C9 rfl (C9 rfl (C9 rfl (C9 rfl (C9 rfl (C9 rfl ACm)))))))) ?_
   intro w8 hI8 x8
   have hI8:Hp w [] M (rowR 111 b16 (ADn a.1.2) :: MP bd g) w8:=hI8
   have hA8:Adv (bd :: M) (bd :: M) w6 w8:=x7.trans (x8.trans (F9 (σ:=rowR 111 b16 (ADn a.1.2) :: MP bd g) 0))
   have hA:=hA6.trans hA8
   obtain⟨k1,k2⟩:=V3 hA hMlt e3.kp.size
   exact Reg.nil ⟨rfl,k1,k2,⟨g,e1,hI8.erase 0,e3.trans hA⟩,b15,b16,rfl,hC6.adv hA8,hI8.freezeRow 0 rfl⟩
 . rintro k pre a L' W hwlk hrk ⟨g,e1,e2,e3⟩ ⟨b15,b16,rfl,e5,e6⟩ hlt
   obtain⟨g',hb',hfold⟩:=ho2 (pre.map Subtype.val) a.1 g (by simpa using hlt) (fun y hy=>by obtain⟨z,_,rfl⟩:=List.mem_map.1 hy;exact z.2) a.2 e1
   unfold AHE at hb'
   obtain⟨n,hn,hb'⟩:=R6 hb'
   obtain⟨bs,hbs,hb'⟩:=R6 hb'
   obtain⟨hbok,rfl⟩:(∀ y∈bwN al al.length,ADf [.int .i64,.st 5] y)/\bwN al al.length=bs:=by
    unfold U2 at hbs
    split at hbs
    . rename_i h;exact⟨h,Option.some.inj hbs⟩
    . cases hbs
   have hDW:=hD.adv e3
   have hMW:MLt (bd :: M) W:=e2.mlt
   have hoka:=hok a.1 a.2
   have o15:Ok (P:=Tryz.prog) (fun _=>undef) (fun _=>none) (bd :: M) W (.rp (.str 2 a.1.1) 0) (.pointer (some ⟨b15,0,none⟩)):=⟨b15,0,_,ABg a.1.1,rfl,e5,AD7 (.st 2) hoka.1,rfl⟩
   have o16:Ok (P:=Tryz.prog) (fun _=>undef) (fun _=>none) (bd :: M) W (.rp (.str 12 a.1.2) 0) (.pointer (some ⟨b16,0,none⟩)):=⟨b16,0,_,ADn a.1.2,rfl,e6,AD7 (.st 12) hoka.2,rfl⟩
   have hst:Holds (P:=Tryz.prog) W [] (bd :: M) ⟨ANg l a.1.1 a.1.2,[],[],[]⟩ ((16,.pointer (some ⟨b16,0,none⟩)) :: (15,.pointer (some ⟨b15,0,none⟩)) :: (84,K7 (.st 12) a.1.2) :: (83,K7 (.st 2) a.1.1) :: Lb) W:=by
    refine Holds.start hMW (fun t s ht=>?_) ⟨trivial,hDW.g⟩
    unfold ANg at ht
    rw[fnd_cons] at ht
    split at ht
    . rename_i e;subst e;cases ht;exact⟨_,l13,hDW.h13⟩
    rw[fnd_cons] at ht
    split at ht
    . rename_i e;subst e;cases ht;exact⟨_,rfl,o15⟩
    rw[fnd_cons] at ht
    split at ht
    . rename_i e;subst e;cases ht;exact⟨_,rfl,o16⟩
    cases ht
   refine AEN ?_
   refine AHS ?_
   refine AG5 (l:=k) (I2 AMV AQG AIk _ _ _ _ _ _ _ _ _ _ _ _ _ ((AVy l a.1.1 a.1.2).trans hn) hst (fun σ' L2 W2 hK _ hE2 hH2=>?_) (fun i σ2 L2 w2 h2=>by cases h2) (fun r σ2 L2 w2 h2 h3 _ hH2=>by cases h2) ((PZ.no (Z:=fun _ _ _ _=>False)).block (i:=3) rfl))
   obtain⟨S,ρ,γ,μ,ι,hS⟩:=hH2
   have hx2:Ext W W2:=hS.hp.kp
   obtain⟨c,b,r,h17,h18,q17,q18,hown,htd,rfl⟩:∃ c b r,A1 σ'.env 17=some (.ptr 17 0)/\A1 σ'.env 18=some (.ptr 18 0)/\A1 σ'.res 17=some (.row 45 c)/\A1 σ'.res 18=some (.row 4 [.bool b])/\A8 (.agg c)=[]/\C3 (A1 σ'.res) (.st 1) (.agg c)=some r/\n=(r,b):=by
    unfold ATz at hK
    split at hK
    . rename_i c b g1 g2 g3 g4
      split at hK
      . rename_i g5
        split at hK
        . rename_i r g6
          exact⟨c,b,r,g1,g2,g3,g4,g5,g6,(Option.some.inj hK).symm⟩
        . cases hK
      . cases hK
    . cases hK
   obtain⟨v17,l17,b17,hb17,rfl⟩:=hS.env 17 (.ptr 17 0) h17
   obtain⟨v18,l18,b18,hb18,rfl⟩:=hS.env 18 (.ptr 18 0) h18
   obtain⟨b17',hb17',r17,o17,i17⟩:=hS.rowAt q17
   obtain⟨b18',hb18',r18,o18,i18⟩:=hS.rowAt q18
   rw[hb17] at hb17';cases hb17'
   rw[hb18] at hb18';cases hb18'
   have ok17:Ok (P:=Tryz.prog) (fun _=>undef) (fun _=>none) (bd :: M) W2 (.rp (.str 1 r) 0) (.pointer (some ⟨b17,0,none⟩)):=⟨b17,0,.agg (List.toArray (γ 17)),γ 17,rfl,H1 (hS.hp.sepM _ (List.mem_of_getElem? i17) b17 (List.mem_singleton.2 rfl)) r17,H6 (M:=mm S (bd :: M)) (fun b hb=>mem_mm.2 (.inr hb)) (.st 1) (.agg c) (fun i hi=>by rw[hown] at hi;cases hi) htd ⟨γ 17,rfl,o17⟩,rfl⟩
   have ok18:Ok (P:=Tryz.prog) (fun _=>undef) (fun _=>none) (bd :: M) W2 (.rp (.bool b) 0) (.pointer (some ⟨b18,0,none⟩)):=by
    obtain⟨u,cu,q,e9,hu,hcu,hq⟩:=o18
    have hu:u=.bool b:=hu
    have hq:q=[]:=hq
    subst hu hq
    have hcu:#[Value.bool b]=List.toArray cu:=hcu
    have:cu=[Value.bool b]:=by simpa using hcu.symm
    subst this
    have e9:γ 18=[.bool b]:=e9
    exact⟨b18,0,.bool b,[.bool b],rfl,e9▸H1 (hS.hp.sepM _ (List.mem_of_getElem? i18) b18 (List.mem_singleton.2 rfl)) r18,rfl,rfl⟩
   have lk:∀ t,t∈[4,8,13,14,15,16]->Sx.A5 L2 t=Sx.A5 ((16,.pointer (some ⟨b16,0,none⟩)) :: (15,.pointer (some ⟨b15,0,none⟩)) :: (84,K7 (.st 12) a.1.2) :: (83,K7 (.st 2) a.1.1) :: Lb) t:=fun t ht=>hE2 t fun hm=>(by decide:∀ t∈[4,8,13,14,15,16],t∉D3 AQG++C8 AIk) t ht hm
   clear hE2 hK h17 h18 q17 q18 hown htd hb17 hb18 r17 r18 o17 o18 i17 i18 hS
   have hA2:Adv (bd :: M) (bd :: M) W W2:=Adv.of_ext hx2
   have hDW2:=hDW.adv hA2
   obtain⟨b4,o4,u4,vs4,hp4,c4,hu4,hc4⟩:=hDW2.h4
   obtain⟨sa4,n4,hsl4,_⟩:=(OkD.rds hu4.2).shape
   obtain rfl:vs4=[u4]:=by
    subst hsl4
    exact (congrArg Array.toList hc4).symm
   have l4':=(lk 4 (by decide)).trans (show _=some p4 from l4)
   rw[hp4] at l4'
   show CI k 3 Tryz.prog 181 _ [] L2 W2 _ _ _ _
   refine AHS ?_
   refine ABI rfl ?_
   refine V9 l4' (c4.cells.at 0 rfl) Tryz.isAgg29 rfl ?_
   refine Y2 rfl Tryz.call47 rfl ?_
   refine (C47 (hMW.ext hx2) hu4.2).mono ?_
   rintro _ W3 ⟨pb,rfl,hpb,x3⟩
   refine⟨_,rfl,?_⟩
   refine Reg.nil ?_
   refine AEN ?_
   have hA3:Adv (bd :: M) (bd :: M) W2 W3:=Adv.of_ext x3
   have hA13:=hA2.trans hA3
   refine AR4 (w:=w) (wi:=W3) (f:=g) (f':=g') (Nat.lt_of_lt_of_le (hMW bd (List.mem_cons_self ..)) hA13.kp.size) (e2.ext (hx2.trans x3)) ?_ (hDW2.adv hA3) (Ok.adv hA13 _ o15) (Ok.adv hA13 _ o16) (Ok.adv hA3 _ ok17) (Ok.adv hA3 _ ok18) hpb hoka.1.1 ((lk 8 (by decide)).trans l8) ((lk 13 (by decide)).trans l13) ((lk 14 (by decide)).trans l14) (lk 15 (by decide)) (lk 16 (by decide)) l17 l18 rfl hbok hb' fun W4 hI4 hA4=>?_
   . obtain⟨rk,hrk⟩:=hrk
     exact⟨rk,((hx2.trans x3).block k (J8 hrk) (by simp)).trans hrk⟩
   . have hA14:=hA13.trans hA4
     obtain⟨k1,k2⟩:=V3 hA14 hMlt e3.kp.size
     exact⟨k1,k2,g',by rw[List.map_append];exact hfold,hI4,e3.trans hA14⟩
 . rintro D W hDw ⟨g,e1,e2,e3⟩ hdef
   rw[List.attach_map_subtype_val,ho1] at e1
   cases e1
   exact hA D W hDw e2 e3 hdef
end Go.Proofs.YtgioiejbphljoaaGreatDoor
set_option maxRecDepth 20000
set_option maxHeartbeats 4000000
namespace Go.Proofs.YtgioiejbphljoaaGreatDoor
open Go Go.Sx Go.Rx Go.RowKit
noncomputable def AEu (ls:List Letter) (y:(Int×Int)×Int):Option (List Letter):=appo 24 ls [Letter.mk y.1.1 y.1.2 y.2]
noncomputable def AT0:Code:=match Tryz.f16.body with
 |some (.seq _ (.seq _ (.seq _ (.seq _ (.seq _ (.seq _ (.seq _ (.seq _ (.seq _ (.seq _ c))))))))))=>c
 |_=>.skip
noncomputable def AXQ:Code:=match AT0 with
 |.seq _ (.seq c _)=>c
 |_=>.skip
noncomputable def AT1:Code:=match AT0 with
 |.seq _ (.seq _ c)=>c
 |_=>.skip
def Dok (D:Nat) (M:List Nat) (W:World):Prop:=D∉M/\W.heap[D]?=some (.deferred (some []))
theorem Dok.adv {D:Nat} {M M':List Nat} {W W':World} (h:Dok D M W) (k:Adv M M' W W'):Dok D M' W':=by
 have hlt:D < W.heap.size:=J8 h.2
 exact⟨fun hm=>(k.new D hm).elim h.1 fun h1=>by omega,(k.kp.block D hlt h.1).trans h.2⟩
theorem AT2 {w wt:World} {M:List Nat} {D bd b14:Nat} {f:A3 (Int×Int) Int} {Lb:Sx.A7} {ds:List Deferred} {A B:A4} {X:Nat->A4} {Z:List PanicEntry->A4} {z:List Letter×Int}
 (hI:Hp w [] M [ownR [] LetterE 70 (.slice none 0 0) []] wt) (hm:RdF K116 (B3 .i64) false M wt (.map (some bd)) f) (h14:RdC M wt b14 0 [.map (some bd)]) (hDk:Dok D M wt) (hz:AAg f (fun xs=>Option.bind (List.foldlM AEu [] xs) K4)=some z) (l14:Sx.A5 Lb 14=some (.pointer (some ⟨b14,0,none⟩))) (l23:Sx.A5 Lb 23=some (.slice none 0 0))
 (hA:∀ L' W v ls,K4 ls=some z->Hp w [] M [ownR [] LetterE 70 v ls] W->Sx.A5 L' 23=some v->Adv M (mm [ownR [] LetterE 70 v ls] M) wt W->Dok D (mm [ownR [] LetterE 70 v ls] M) W->A ds L' W):CW Tryz.prog 181 AXQ ds Lb wt A B X Z:=by
 have hm':RdF K116 (B3 .i64) false (mm [ownR [] LetterE 70 (.slice none 0 0) ([]:List Letter)] M) wt (.map (some bd)) f:=hm
 refine A6 ?_
 refine A9 ?_
 refine V9 l14 (h14.cells.at 0 rfl) Tryz.isAgg106 rfl ?_
 refine ASQ hI hm' rfl Tryz.underlying106 rfl ?_
 intro r b c es xs w1 hX hL hI1 hA1
 refine Reg.nil ?_
 obtain⟨Bd,hBd,hall⟩:=AJz hz hL
 subst hBd
 have hA1':Adv M (mm (T9 r b c es xs none xs :: [ownR [] LetterE 70 (.slice none 0 0) ([]:List Letter)]) M) wt w1:=hA1
 refine G6 ?_
 refine ABV (ι:=A7×Value×List Letter×List ((Int×Int)×Int)×List ((Int×Int)×Int)) (fun q=>q.1) (fun q W=>(Sx.A5 q.1 163=some (.pointer (some ⟨r,0,none⟩))/\Sx.A5 q.1 23=some q.2.1)/\(q.2.2.2.1++q.2.2.2.2).Perm xs/\List.foldlM AEu [] q.2.2.2.1=some q.2.2.1/\Hp w [] M [T9 r b c es xs none q.2.2.2.2,ownR [] LetterE 70 q.2.1 q.2.2.1] W/\RdX K116 (B3 .i64) false (mm [T9 r b c es xs none q.2.2.2.2,ownR [] LetterE 70 q.2.1 q.2.2.1] M) W b es c xs/\Adv M (mm [T9 r b c es xs none q.2.2.2.2,ownR [] LetterE 70 q.2.1 q.2.2.1] M) wt W) (fun q=>q.2.2.2.2.length) ((163,.pointer (some ⟨r,0,none⟩)) :: (162,.map (some bd)) :: Lb,.slice none 0 0,[],[],xs) ⟨⟨rfl,l23⟩,List.Perm.refl _,rfl,hI1,hX.adv hA1,hA1'⟩ (Sub.refl _) ?_
 rintro⟨L1,v,ls,d,l⟩ W1 ⟨⟨k1,k2⟩,k3,k4,k5,k6,k7⟩
 dsimp only at k1 k2 k3 k4 k5 k6 k7 ⊢
 refine A6 ?_
 refine A9 ?_
 refine ASR 0 k5 k6 rfl k1 rfl (fun hl=>?_) (fun y l' k v' W2 hp hI2 hA2=>?_)
 . refine AGW (vs:=[.bool false]) rfl rfl rfl ?_
   refine Reg.nil ?_
   refine A6 ?_
   refine ABU rfl ?_
   refine ABT (T6 ?_)
   subst hl
   obtain⟨s,hs1,hs2⟩:=hall d (by simpa using k3)
   rw[k4] at hs1
   cases hs1
   have hA7:Adv M (mm [ownR [] LetterE 70 v ls] M) wt W1:=k7.trans (F9 (σ:=[T9 r b c es xs none ([]:List ((Int×Int)×Int)),ownR [] LetterE 70 v ls]) 0)
   exact hA _ W1 v ls hs2 (k5.erase 0) k2 hA7 (hDk.adv hA7)
 . refine AGW (vs:=[.bool true,k,v']) rfl rfl rfl ?_
   refine Reg.nil ?_
   refine A6 ?_
   refine ACn rfl ?_
   refine O8 ?_
   refine G6 ?_
   refine A6 ?_
   refine A9 ?_
   have hX2:=k6.adv hA2
   refine ASS 0 hI2 hX2 rfl k1 rfl fun v2 hok hv2=>?_
   obtain⟨hka,hkb⟩:InK .i64 y.1.1/\InK .i64 y.1.2:=hok
   obtain⟨rfl,hkc⟩:v2=.int .i64 y.2/\InK .i64 y.2:=by
    obtain⟨cs,⟨h1,h2⟩,⟨h3,_⟩|⟨_,h3⟩⟩:=hv2
    . cases h3
    . rw[h1] at h3;exact⟨(List.singleton_inj.1 h3).symm,h2⟩
   refine AGW (vs:=[K116.val y.1,.int .i64 y.2]) rfl rfl rfl ?_
   refine AGW (vs:=[K116.val y.1,.int .i64 y.2]) rfl rfl rfl ?_
   refine ACr hI2 Tryz.zeroValue116 rfl rfl ?_
   intro b24 w5 hI5 x5
   refine ABX 0 (vs:=[.int .i64 y.1.1,.int .i64 y.1.2]) hI5 rfl rfl rfl rfl Tryz.sizeOf116 rfl rfl (C9 rfl (C9 rfl ACm)) ?_
   intro w6 hI6 x6
   have hI6:Hp w [] M (rowR 116 b24 [.int .i64 y.1.1,.int .i64 y.1.2] :: [T9 r b c es xs (some y) l',ownR [] LetterE 70 v ls]) w6:=hI6
   refine G2 rfl rfl ?_
   refine Reg.nil ?_
   refine A9 ?_
   have hC24:RdC [] w6 b24 0 ([y.1.1,y.1.2].map (Value.int .i64)):=H1 (fun h=>by cases h) (hI6.row 0 rfl)
   obtain⟨s0,hs0,_⟩:=hall (d++(y :: l')) (((List.Perm.refl d).append hp.symm).trans k3)
   rw[List.foldlM_append,k4] at hs0
   simp only[Option.bind_eq_bind,Option.bind_some,List.foldlM_cons] at hs0
   obtain⟨ls',hls',hs0⟩:=R6 hs0
   obtain⟨hbl,hls2⟩:=ACq hls'
   refine I4 k2 rfl ?_
   refine AQS (i:=0) (z:=y.1.1) hC24 rfl rfl rfl Tryz.underlying116 rfl Tryz.sizeOf3 rfl fun hc0=>?_
   refine V9 rfl (hc0.cells.at 0 rfl) Tryz.isAgg3 rfl ?_
   refine AQS (i:=1) (z:=y.1.2) hC24 rfl rfl rfl Tryz.underlying116 rfl Tryz.sizeOf3 rfl fun hc1=>?_
   refine V9 rfl (hc1.cells.at 0 rfl) Tryz.isAgg3 rfl ?_
   refine I4 rfl rfl ?_
   refine ASM [(0,1),(1,1),(2,1)] Tryz.zeroValue70 rfl Tryz.underlying70 (fun _=>by simp[Tryz.sizeOf3]) rfl (Cls.cons rfl (Cls.cons rfl (Cls.cons rfl Cls.nil))) rfl rfl ?_
   refine AJo (E:=LetterE) (xs:=[Letter.mk y.1.1 y.1.2 y.2]) rsl37 hI6 rfl rfl (Cls.cons rfl Cls.nil) (Chs.cons (LetterE_R.2 ⟨rfl,hka,hkb,hkc⟩) Chs.nil) rfl rfl ?_
   intro v8 w8 hI8 x8
   have hf9:=hI8.freeze 0 rfl
   have hI9:=hI8.erase 0
   refine AFr 2 rsl37 hI9 rfl rfl rfl hf9 hbl rfl ?_
   intro v10 w10 hI10 x10
   refine G2 rfl rfl ?_
   have hIa:Hp w [] M [T9 r b c es xs (some y) l',ownR [] LetterE 70 v10 ls'] w10:=by rw[hls2];exact hI10.erase 0
   have hIb:Hp w [] M [T9 r b c es xs none l',ownR [] LetterE 70 v10 ls'] w10:=hIa.upd 0 rfl (Kp.refl _ _) (fun b hb=>.inl hb) rfl fun M' hM'=>by
    obtain⟨seen,q1,q2,_⟩:=hIa.get 0 rfl
    exact⟨seen,q1,q2,fun _ h=>by cases h⟩
   have hAb:Adv (mm [T9 r b c es xs none l,ownR [] LetterE 70 v ls] M) (mm [T9 r b c es xs none l',ownR [] LetterE 70 v10 ls'] M) W1 w10:=by
    have h1:=hA2.trans (x5.trans (x6.trans (x8.trans ((F9 (σ:=ownR [] LetterE 70 v8 [Letter.mk y.1.1 y.1.2 y.2] :: rowR 116 b24 [.int .i64 y.1.1,.int .i64 y.1.2] :: [T9 r b c es xs (some y) l',ownR [] LetterE 70 v ls]) 0).trans (x10.trans (F9 (σ:=rowR 116 b24 [.int .i64 y.1.1,.int .i64 y.1.2] :: [T9 r b c es xs (some y) l',ownR [] LetterE 70 v10 (ls++[Letter.mk y.1.1 y.1.2 y.2])]) 0))))))
    rw[hls2]
    exact h1
   refine Reg.nil ⟨rfl,(_,v10,ls',d++[y],l'),?_,Sub.refl _,?_⟩
   . refine⟨⟨k1,rfl⟩,?_,?_,hIb,k6.adv hAb,k7.trans hAb⟩
     . rw[List.append_assoc];exact ((List.Perm.refl d).append hp.symm).trans k3
     . rw[List.foldlM_append,k4]
       simp only[Option.bind_eq_bind,Option.bind_some,List.foldlM_cons,hls',List.foldlM_nil]
       rfl
   . have:=hp.length_eq
     simp at this
     dsimp only
     omega
end Go.Proofs.YtgioiejbphljoaaGreatDoor
set_option maxRecDepth 20000
set_option maxHeartbeats 4000000
namespace Go.Rx
open Go Go.Sx Go.RowKit
theorem HS.rdsM [Trk] [Sg] [Sf] {P:Program} [Se P] [Anch] {w0 w:World} {M:List Nat} {σ:AS} {L:A7} {S:List Res} {ρ:Nat->Value} {γ:Nat->List Value} {μ:Nat->List Nat} {ι:Nat->Nat} (h:HS (P:=P) w0 [] M σ L w S ρ γ μ ι) (I:List Nat):Rds (P:=P) ρ (A1 σ.res) M w I:=fun i _ p c x hr=>by
 have h1:=h.res i _ hr
 have hm:=List.mem_of_getElem? h1
 have h2:=h.hp.all _ hm
 have h3:=h.hp.sepM _ hm
 have h4:=h.row i _ hr
 cases c with
 |sl e t=>
  have h2:Sx.Own (enc (P:=P) t) e 0 (mm S M) w (ρ i) x:=h2
  have h5:=(h2.mon fun b hb=>.inr (mem_mm.2 (.inr hb))).rd fun b hb=>h3 b (by
   show b∈(G0 (P:=P) _ (ρ i) (.sl e t) x).fp
   rw[AAF];exact hb)
  exact⟨[ρ i],⟨_,rfl,h5⟩,.inr ⟨rfl,rfl⟩⟩
 |mp m k v=>
  obtain⟨b,hb⟩:=h4
  have h2:(mapRes (P:=P) (bif p then μ i else []) m k v (blk (ρ i)) x).holds (mm S M) w:=h2
  have h3:∀ b'∈(mapRes (P:=P) (bif p then μ i else []) m k v (blk (ρ i)) x).fp,b'∉M:=h3
  rw[hb] at h2 h3 ⊢
  unfold mapRes at h2 h3
  cases hK:Se.ky (P:=P) m k with
  |none=>rw[hK] at h2;exact h2.elim
  |some K=>
   rw[hK] at h2 h3
   obtain⟨es,c,xs,g1,g2,g3,g4⟩:=h2
   exact⟨[_],⟨_,K,rfl,hK,b,rfl,h3 b (List.mem_singleton.2 rfl),es,c,xs,g1,g2,g3.mon fun b hb=>.inl (mem_mm.2 (.inr hb)),g4⟩,.inr ⟨rfl,rfl⟩⟩
end Go.Rx
namespace Go.Proofs.YtgioiejbphljoaaGreatDoor
open Go Go.Sx Go.Rx Go.RowKit
noncomputable def c16:Code:=match Tryz.f16.body with
 |some c=>c
 |none=>.skip
noncomputable def KNp (σ:AS):Option ((Desk_99×List Asked×List Report×Int)⊕(List Letter×Int)):=match A1 σ.env 4,A1 σ.env 8,A1 σ.env 13,A1 σ.env 2,A1 σ.res 4,A1 σ.res 8,A1 σ.res 13 with
 |some (.ptr 4 0),some (.ptr 8 0),some (.ptr 13 0),some (.int .i64 k),some (.row 29 [s4]),some (.row 99 c8),some (.row 24 [s13])=>match C3 (A1 σ.res) (.st 10) (.agg c8),C3 (A1 σ.res) (.sl (.st 5)) s4,C3 (A1 σ.res) (.sl (.st 1)) s13 with
  |some x,some a,some l=>some (.inl (x,a,l,k))
  |_,_,_=>none
 |_,_,_,_,_,_,_=>none
def cs16:List Ck:=[.own (.sl 70 (.st 6)),.d (.int .i64)]
noncomputable def ANh:Gx:={ gxb with fs:=[(40,ctr40),(41,ctr41),(44,ctr44)] }
theorem AMW:GxOk Tryz.prog ANh:=B1 ⟨⟨ok40,Tryz.call40⟩,⟨⟨ok41,Tryz.call41⟩,⟨⟨ok44,Tryz.call44⟩,trivial⟩⟩⟩
noncomputable def AJg:Gx:={ gxb with fs:=[(49,ctr49),(50,ctr50)],fm:=[(48,ctrm48)] }
theorem AHF:GxOk Tryz.prog AJg:=AFb ⟨⟨ok49,Tryz.call49⟩,⟨⟨ok50,Tryz.call50⟩,trivial⟩⟩ trivial ⟨⟨okm48,Tryz.call48⟩,trivial⟩
theorem AVz (d:Desk) (asked:List Asked) (day:Int):X0 ANh 181 (U9 ANh cs16 Tryz.f16.results.toList) (N4 7 c16) AMU KNp (fun r=>some (.inr r)) ⟨[(0,.str 4 d),(1,.dat (.sl (.st 5)) asked),(2,.int .i64 day)],[],[],[]⟩=ACK d asked day:=by kernel_rfl
theorem AT3 (l:List Letter):exec AJg 181 (U9 AJg cs16 Tryz.f16.results.toList) AT1 ALH (U9 AJg cs16 Tryz.f16.results.toList) (fun _ _=>none) some ⟨[(23,.own 23)],[(23,.own false (.sl 70 (.st 6)) l)],[],[]⟩=K4 l:=by kernel_rfl
noncomputable def G1 (d:Desk) (asked:List Asked) (day:Int):Option (List Letter×Int):=Option.bind (ACK d asked day) fun z=>Sum.elim (fun q=>Option.bind (C7 q.1 q.2.2.2) fun ys=>Option.bind (ABi (AHE q.1 q.2.1 q.2.2.1) fnone ys) fun f=>AAg f fun xs=>Option.bind (List.foldlM AEu [] xs) K4) (fun r=>some r) z
noncomputable def ctr16:Ctr:=⟨[.d (.st 4),.d (.sl (.st 5)),.d (.int .i64)],cs16,fun a=>G1 a.1 a.2.1 a.2.2.1⟩
theorem ok16:Ctr.ok Tryz.prog 16 ctr16:=by
 refine⟨by decide,fun M w a vals r hM hg ha hr=>?_⟩
 obtain⟨d,asked,day,_⟩:=a
 obtain⟨vd,_,rfl,hvd,⟨va,_,rfl,hva,⟨vk,_,rfl,hvk,rfl⟩⟩⟩:=ha
 have hvd:OkD (P:=Tryz.prog) M w (.st 4) d vd:=hvd
 have hva:OkD (P:=Tryz.prog) M w (.sl (.st 5)) asked va:=hva
 have hvk:OkD (P:=Tryz.prog) M w (.int .i64) day vk:=hvk
 have hr:G1 d asked day=some r:=hr
 unfold G1 at hr
 obtain⟨z,hz,hr⟩:=R6 hr
 have h0:Holds (P:=Tryz.prog) w [] M ⟨[(0,.str 4 d),(1,.dat (.sl (.st 5)) asked),(2,.int .i64 day)],[],[],[]⟩ [(0,vd),(1,va),(2,vk)] w:=by
  refine Holds.start hM (fun t s ht=>?_) ⟨trivial,hg⟩
  rw[fnd_cons] at ht
  split at ht
  . rename_i e;subst e;cases ht;exact⟨vd,rfl,hvd⟩
  rw[fnd_cons] at ht
  split at ht
  . rename_i e;subst e;cases ht;exact⟨va,rfl,rfl,hva⟩
  rw[fnd_cons] at ht
  split at ht
  . rename_i e;subst e;cases ht;exact⟨vk,rfl,E5 (.int .i64) hvk⟩
  . cases ht
 refine ABr (l:=[vd,va,vk]) (fn:=Tryz.f16) Tryz.func16 rfl rfl rfl ?_
 refine ADG (P:=Tryz.prog) (pr:=U9 ANh cs16 Tryz.f16.results.toList) AMW 7 c16 AMU (by decide) ((AVz d asked day).trans hz) h0 (fun σ' L' w1 hK hE hH=>?_) (fun r' σ' L' w' hp hk hH=>?_)
 rotate_left
 . have hk:Sum.inr r'=z:=Option.some.inj hk
   subst hk
   have hr:some r'=some r:=hr
   cases hr
   exact FinM.of (AK6 AMW (by decide) hp hH)
 clear hE h0
 obtain⟨S,ρ,γ,μ,ι,hS⟩:=hH
 obtain⟨c8,s4,s13,x,al,l,k,g4,g8,g13,g2,r4,r8,r13,t8,t4,t13,rfl⟩:∃ c8 s4 s13 x al l k,A1 σ'.env 4=some (.ptr 4 0)/\A1 σ'.env 8=some (.ptr 8 0)/\A1 σ'.env 13=some (.ptr 13 0)/\A1 σ'.env 2=some (.int .i64 k)/\A1 σ'.res 4=some (.row 29 [s4])/\A1 σ'.res 8=some (.row 99 c8)/\A1 σ'.res 13=some (.row 24 [s13])/\C3 (A1 σ'.res) (.st 10) (.agg c8)=some x/\C3 (A1 σ'.res) (.sl (.st 5)) s4=some al/\C3 (A1 σ'.res) (.sl (.st 1)) s13=some l/\z=.inl (x,al,l,k):=by
  unfold KNp at hK
  split at hK
  . rename_i k s4 c8 s13 q1 q2 q3 q4 q5 q6 q7
    split at hK
    . rename_i x a l q8 q9 q10
      exact⟨c8,s4,s13,x,a,l,k,q1,q2,q3,q4,q5,q6,q7,q8,q9,q10,(Option.some.inj hK).symm⟩
    . cases hK
  . cases hK
 have hr:(Option.bind (C7 x k) fun ys=>Option.bind (ABi (AHE x al l) fnone ys) fun f=>AAg f fun xs=>Option.bind (List.foldlM AEu [] xs) K4)=some r:=hr
 obtain⟨ys,hys,hr⟩:=R6 hr
 obtain⟨f,hf,hr⟩:=R6 hr
 obtain⟨hok,hdec⟩:(∀ y∈ys,ADf [.st 2,.st 12] y)/\AFh x k x.desk.disputes=some ys:=by
  unfold C7 at hys
  obtain⟨ys',h1,h2⟩:=R6 hys
  split at h2
  . rename_i h3;cases h2;exact⟨h3,h1⟩
  . cases h2
 obtain⟨v4,l4,b4,hb4,rfl⟩:=hS.env 4 (.ptr 4 0) g4
 obtain⟨v8,l8,b8,hb8,rfl⟩:=hS.env 8 (.ptr 8 0) g8
 obtain⟨v13,l13,b13,hb13,rfl⟩:=hS.env 13 (.ptr 13 0) g13
 obtain⟨v2,l2,rfl,hkk⟩:=hS.env 2 (.int .i64 k) g2
 obtain⟨b4',e4,row4,o4,i4⟩:=hS.rowAt r4
 obtain⟨b8',e8,row8,o8,i8⟩:=hS.rowAt r8
 obtain⟨b13',e13,row13,o13,i13⟩:=hS.rowAt r13
 rw[hb4] at e4;cases e4
 rw[hb8] at e8;cases e8
 rw[hb13] at e13;cases e13
 have memM:∀ b∈M,b∈mm S M:=fun b hb=>mem_mm.2 (.inr hb)
 have one:∀ {s:SV} {vs:List Value} {t:Ty} {y:List (den t)},OkL (P:=Tryz.prog) ρ (A1 σ'.res) (mm S M) w1 [s] vs->C3 (A1 σ'.res) (.sl t) s=some y->∃ u,vs=[u]/\OkD (P:=Tryz.prog) M w1 (.sl t) y u/\u.cells=List.toArray vs:=fun {s vs t y} h ht=>by
  obtain⟨u,c,q,rfl,hu,hc,hq⟩:=h
  have hq:q=[]:=hq
  subst hq
  have hd:=H6 (M:=mm S M) memM (.sl t) s (hS.rdsM _) ht hu
  obtain⟨sa,n,hsl,_⟩:=(OkD.rds hd).shape
  have:c=[u]:=by
   subst hsl
   exact (congrArg Array.toList hc).symm
  subst this
  exact⟨u,rfl,hd,hc⟩
 have d8:Ok (P:=Tryz.prog) (fun _=>undef) (fun _=>none) M w1 (.rp (.str 10 x) 0) (.pointer (some ⟨b8,0,none⟩)):=⟨b8,0,.agg (List.toArray (γ 8)),γ 8,rfl,H1 (hS.hp.sepM _ (List.mem_of_getElem? i8) b8 (List.mem_singleton.2 rfl)) row8,H6 (M:=mm S M) memM (.st 10) (.agg c8) (hS.rdsM _) t8 ⟨γ 8,rfl,o8⟩,rfl⟩
 obtain⟨u4,eu4,du4,cu4⟩:=one o4 t4
 obtain⟨u13,eu13,du13,cu13⟩:=one o13 t13
 have d4:Ok (P:=Tryz.prog) (fun _=>undef) (fun _=>none) M w1 (.rp (.dat (.sl (.st 5)) al) 0) (.pointer (some ⟨b4,0,none⟩)):=⟨b4,0,u4,γ 4,rfl,H1 (hS.hp.sepM _ (List.mem_of_getElem? i4) b4 (List.mem_singleton.2 rfl)) row4,⟨rfl,du4⟩,cu4⟩
 have d13:Ok (P:=Tryz.prog) (fun _=>undef) (fun _=>none) M w1 (.rp (.dat (.sl (.st 1)) l) 0) (.pointer (some ⟨b13,0,none⟩)):=⟨b13,0,u13,γ 13,rfl,H1 (hS.hp.sepM _ (List.mem_of_getElem? i13) b13 (List.mem_singleton.2 rfl)) row13,⟨rfl,du13⟩,cu13⟩
 have hI1:Hp w [] M [] w1:=hS.hp.sel [] rfl
 have hg1:GlOk (P:=Tryz.prog) M w1:=hS.anch.2.adv (Adv.drop memM)
 clear one hK hS g4 g8 g13 g2 r4 r8 r13 t8 t4 t13 row4 row8 row13 o4 o8 o13 i4 i8 i13 hb4 hb8 hb13 eu4 eu13 cu4 cu13
 refine A6 ?_
 refine A9 ?_
 refine AQR K116 (B3 .i64) false hI1 rfl ?_
 intro bd w2 hI2 x2
 refine ACr hI2 Tryz.zeroValue106 rfl rfl ?_
 intro b14 w3 hI3 x3
 refine ABX 0 (vs:=[.map (some bd)]) hI3 rfl rfl rfl rfl Tryz.sizeOf106 rfl rfl (C9 rfl ACm) ?_
 intro w4 hI4 x4
 have hI4:Hp w [] M (rowR 106 b14 [.map (some bd)] :: MP bd fnone) w4:=hI4
 refine Reg.nil ?_
 have h14:RdC (bd :: M) w4 b14 0 [.map (some bd)]:=hI4.freezeRow 0 rfl
 have hI5:Hp w [] M (MP bd fnone) w4:=hI4.erase 0
 have hA5:Adv M (bd :: M) w1 w4:=x2.trans (x3.trans (x4.trans (F9 (σ:=rowR 106 b14 [.map (some bd)] :: MP bd fnone) 0)))
 have hD5:D16 (bd :: M) w4 x al l (.pointer (some ⟨b8,0,none⟩)) (.pointer (some ⟨b4,0,none⟩)) (.pointer (some ⟨b13,0,none⟩)) b14 bd:=⟨hg1.adv hA5,Ok.adv hA5 _ d8,Ok.adv hA5 _ d4,Ok.adv hA5 _ d13,h14⟩
 have hx8:=hD5.h8
 obtain⟨b8',o8,u8,vs8,hp8,c8',hu8,hc8⟩:=hx8
 obtain⟨cs8,hR8,hcs8⟩:=hu8
 obtain rfl:u8=.agg (List.toArray cs8):=hcs8.elim (fun h=>h.2) fun h=>by cases h.1
 obtain rfl:cs8=vs8:=congrArg Array.toList hc8
 cases hp8
 refine A6 ?_
 refine A6 ?_
 refine A9 ?_
 refine ABF l8 c8'.cells Tryz.isAgg99 ((enc (P:=Tryz.prog) (.st 10)).len hR8) Tryz.sizeOf99 rfl ?_
 refine I4 l2 rfl ?_
 refine Y2 rfl Tryz.call45 rfl ?_
 refine (C45 hI5.mlt ⟨cs8,hR8,.inl ⟨rfl,rfl⟩⟩ hkk).mono ?_
 rintro _ w5 ⟨p1,p2,rfl,hp1,hp2,x5⟩
 refine⟨_,rfl,?_⟩
 refine Reg.nil ?_
 refine G6 ?_
 have hA6:Adv (bd :: M) (bd :: M) w4 w5:=Adv.of_ext x5
 refine AR5 (w:=w) (wl:=w5) (f:=fnone) (f':=f) (Nat.lt_of_lt_of_le (hI5.mlt bd (List.mem_cons_self ..)) x5.size) (hI5.ext x5) (hD5.adv hA6) hp1 hp2 l4 l8 l13 rfl rfl hdec hok hf fun D W hDw hI7 hA7 hdef=>?_
 refine A6 ?_
 refine A9 ?_
 refine G2 rfl rfl ?_
 refine Reg.nil ?_
 have hDwM:w.heap.size<=D:=Nat.le_trans (Nat.le_trans hI5.kp.size x5.size) hDw
 have hDk:Dok D M W:=⟨fun hm=>by have:=hM D hm;omega,hdef⟩
 have h14W:RdC M W b14 0 [.map (some bd)]:=(h14.adv (hA6.trans hA7)).adv (Adv.drop fun b hb=>List.mem_cons_of_mem _ hb)
 have hm:=hI7.freezeM 0 rfl
 have hI8:Hp w [] M [ownR [] LetterE 70 (.slice none 0 0) []] W:=(hI7.erase 0).addNil LetterE 70
 have hg8:GlOk (P:=Tryz.prog) M W:=(hg1.adv (hA5.trans (hA6.trans hA7))).adv (Adv.drop fun b hb=>List.mem_cons_of_mem _ hb)
 refine A6 ?_
 refine AT2 (f:=f) hI8 hm h14W hDk hr rfl rfl fun L9 W9 v9 ls hls hI9 l23 hA9 hDk9=>?_
 letI:Anch:=AHv D
 have hst:Holds (P:=Tryz.prog) w [] M ⟨[(23,.own 23)],[(23,.own false (.sl 70 (.st 6)) ls)],[],[]⟩ L9 W9:=by
  refine⟨[ownR [] LetterE 70 v9 ls],fun _=>v9,fun _=>[],fun _=>[],fun _=>0,hI9,fun i a hi=>?_,fun i j a b hi hj _=>?_,fun i a hi=>?_,fun t s ht=>?_,hDk9,hg8.adv hA9⟩
  . rw[fnd_cons] at hi
    split at hi
    . rename_i e;subst e;cases hi;rfl
    . cases hi
  . rw[fnd_cons] at hi hj
    split at hi <;> split at hj
    . rename_i e1 e2;rw[<-e1,<-e2]
    . cases hj
    . cases hi
    . cases hi
  . rw[fnd_cons] at hi
    split at hi
    . rename_i e;subst e;cases hi;trivial
    . cases hi
  . rw[fnd_cons] at ht
    split at ht
    . rename_i e;subst e;cases ht;exact⟨v9,l23,rfl,Own.cells1 (hI9.ownAt 0 rfl),Own.oneC (hI9.ownAt 0 rfl)⟩
    . cases ht
 exact AAV (n:=3) (ADB (I2 AHF AT1 ALH _ _ _ _ _ _ _ _ _ _ _ _ _ ((AT3 ls).trans hls) hst (fun σ2 L2 w2 h2 _ _ hH2=>AGK (fun h=>h) AHF (by decide) rfl hDwM h2 hH2) (fun i σ2 L2 w2 h2=>by cases h2) (fun r' σ2 L2 w2 hp hk _ hH2=>by
  have hk:r'=r:=Option.some.inj hk
  subst hk
  exact AGK (fun h=>h) AHF (by decide) rfl hDwM hp hH2) PZ.no))
end Go.Proofs.YtgioiejbphljoaaGreatDoor
set_option maxRecDepth 20000
set_option maxHeartbeats 4000000
namespace Go.Proofs.YtgioiejbphljoaaGreatDoor
open Go Go.Sx Go.Rx Go.RowKit
noncomputable def J6 (d:Desk) (day:Int):Option ((List Report)×Int):=Option.bind (I0 d day) fun (r1,r2)=>cond ((!decide (r2=0))) (some (([]:(List Report)),r2)) (Option.bind (F1 r1 day) fun (r3,r4)=>some (r3,r4))
def AXR:An:=.x
noncomputable def ctr14:Ctr:=⟨[.d (.st 4),.d (.int .i64)],[.own (.sl 45 (.st 1)),.d (.int .i64)],fun a=>J6 a.1 a.2.1⟩
theorem ok14:Ctr.ok Tryz.prog 14 ctr14:=B0 (G:={ gxb with fs:=[(40,ctr40),(41,ctr41)] }) (an:=AXR) (B1 ⟨⟨ok40,Tryz.call40⟩,⟨⟨ok41,Tryz.call41⟩,trivial⟩⟩) Tryz.func14 rfl rfl rfl rfl (fun a=>by kernel_rfl)
end Go.Proofs.YtgioiejbphljoaaGreatDoor
set_option maxRecDepth 20000
set_option maxHeartbeats 1000000
set_option linter.unusedVariables false
namespace Go.Proofs.YtgioiejbphljoaaGreatDoor
open Go Go.Sx Go.Rx
namespace S
def X8 (d:Desk) (day:Int):List (Dispute×Verdict):=(d.disputes.filter fun x=>decide (3<=wh d x day)).map fun x=>(x,dec d x)
theorem decd_mem {d:Desk} {day:Int} {y:Dispute×Verdict}:y∈X8 d day↔y.1∈d.disputes/\3<=wh d y.1 day/\y.2=dec d y.1:=by
 unfold X8
 rw[List.mem_map]
 constructor
 . rintro⟨x,hx,rfl⟩
   obtain⟨h1,h2⟩:=List.mem_filter.1 hx
   exact⟨h1,of_decide_eq_true h2,rfl⟩
 . rintro⟨h1,h2,h3⟩
   exact⟨y.1,List.mem_filter.2 ⟨h1,decide_eq_true h2⟩,by rw[<-h3]⟩
theorem T5 {x:Int} (h:-1000000000000000<=x/\x<=1000000000000000):InK .i64 x:=InK.i64.2 (by omega)
theorem AQy {x:Int} (h:0<=x/\x<=255):InK .u8 x:=InK.u8.2 (by omega)
theorem AT4 {d:Desk} (hv:Vd d) {a:Answer} (ha:a∈d.answers):(0<=a.id/\a.id<=999999)/\(0<=a.dispute/\a.dispute<=999999)/\(0<=a.day/\a.day<=100000)/\(1<=a.says/\a.says<=3)/\(0<=a.about/\a.about<=100000)/\(0<=a.cents/\a.cents<=1000000000000):=by
 obtain⟨v1,v2,v3,x,hxm,v4,v5,v6⟩:=hv.a.v a ha
 obtain⟨x1,_,f,hf,_⟩:=hv.x.v x hxm
 have hm:most f.kind<=1000000000000:=by unfold most;split <;> (try split) <;> omega
 refine⟨v1,by rw[<-v4];exact x1,v2,v3,?_⟩
 by_cases e:a.says=2
 . have:=v6 e f hf
   omega
 . have:=v5 e
   omega
theorem AQz {d:Desk} (hv:Vd d) (x:Dispute):(0<=(dec d x).by_.id/\(dec d x).by_.id<=999999)/\(0<=(dec d x).by_.dispute/\(dec d x).by_.dispute<=999999)/\(0<=(dec d x).by_.day/\(dec d x).by_.day<=100000)/\(0<=(dec d x).by_.says/\(dec d x).by_.says<=3)/\(0<=(dec d x).by_.about/\(dec d x).by_.about<=100000)/\(0<=(dec d x).by_.cents/\(dec d x).by_.cents<=1000000000000):=by
 by_cases c:(dec d x).is_=5
 . have e:(dec d x).by_=zeroA:=by rw[((AFj hv x).is5 c).1]
   rw[e]
   unfold zeroA
   dsimp only
   omega
 . have:=AT4 hv (List.mem_filter.1 ((AFj hv x).by_ c).2.1).1
   omega
theorem AJI {d:Desk} {D:Desk_99} (hD:Dw d D) (hv:Vd d) {day:Int}:C7 D day=some (X8 d day):=by
 have key:∀ l:List Dispute,(∀ x∈l,x∈d.disputes)->AFh D day l=some ((l.filter fun x=>decide (3<=wh d x day)).map fun x=>(x,dec d x)):=by
  intro l
  induction l with
  |nil=>intro _;rfl
  |cons x l ih=>
   intro h
   unfold AFh
   rw[AGH hD hv (h x (List.mem_cons_self ..)),bindS,ih (fun y hy=>h y (List.mem_cons_of_mem _ hy)),bindS]
   congr 1
   rw[List.filter_cons]
   by_cases c:3<=wh d x day
   . rw[if_pos (show decide (3<=wh d x day)=true from decide_eq_true c),List.map_cons]
     exact if_pos c
   . rw[if_neg (show ¬ decide (3<=wh d x day)=true from fun h=>c (of_decide_eq_true h))]
     exact if_neg c
 unfold C7
 rw[hD.d,key _ fun _ h=>h,bindS]
 refine if_pos fun y hy=>?_
 obtain⟨h1,h2,h3⟩:=decd_mem.1 hy
 obtain⟨x1,x2,f,hf,x3,x4⟩:=hv.x.v _ h1
 have hfm:=V1 hf
 have hfv:=hv.r.v f hfm.1
 have ht:=hv.t.1
 have hk:=AK8 hv y.1
 have hdi:=AEA hv h1
 have hb:=AQz hv y.1
 have hrid:0<=y.1.report/\y.1.report<=999999:=by rw[<-hfm.2.1];exact hfv.2.1
 have hmade:=hfv.2.2.2.2.2.1
 have e:ADf [.st 2,.st 12] y↔(InK .i64 y.1.id/\InK .i64 y.1.report/\InK .i64 y.1.day)/\(InK .i64 y.2.day/\InK .u8 y.2.is_/\InK .i64 y.2.by_.id/\InK .i64 y.2.by_.dispute/\InK .i64 y.2.by_.day/\InK .u8 y.2.by_.says/\InK .i64 y.2.by_.about/\InK .i64 y.2.by_.cents):=Iff.rfl
 rw[e,h3]
 exact⟨⟨T5 (by omega),T5 (by omega),T5 (by omega)⟩,T5 (by omega),AQy (by omega),T5 (by omega),T5 (by omega),T5 (by omega),AQy (by omega),T5 (by omega),T5 (by omega)⟩
def ABo:Report:=Report.mk 0 0 0 0 0 0 0 0
def X9 (d:Desk) (x:Dispute) (v:Verdict):Report:=
 let f:=(Z9 d.reports x.report).getD ABo
 if v.is_=3 then Report.mk x.id f.source f.account v.day v.by_.about 8 v.by_.cents f.id else Report.mk x.id f.source f.account v.day 0 9 0 f.id
theorem AR6 {d:Desk} {D:Desk_99} (hD:Dw d D) {x:Dispute} {v:Verdict} {l:List Report} (hl:l.length<=1000000):V2 D x v l=some (l++[X9 d x v]):=by
 unfold V2 X9
 rw[hD.f,hD.d]
 by_cases c:v.is_=3
 . rw[decide_eq_true c,condT,bindS,if_pos c]
   exact Ret.eq (Ret.bind (Ret.appo (by simp only[List.length_singleton];omega) (by simp only[List.length_singleton];omega) (Ret.ok rfl)))
 . rw[decide_eq_false c,condF,bindS,if_neg c]
   exact Ret.eq (Ret.bind (Ret.appo (by simp only[List.length_singleton];omega) (by simp only[List.length_singleton];omega) (Ret.ok rfl)))
def ABS (d:Desk) (day:Int):List Report:=(X8 d day).map fun y=>X9 d y.1 y.2
theorem ALK {d:Desk} {x:Dispute} {v:Verdict}:(X9 d x v).id=x.id:=by unfold X9;split <;> rfl
theorem AQH {d:Desk} {x:Dispute} {v:Verdict}:(X9 d x v).made=v.day:=by unfold X9;split <;> rfl
theorem AEv {d:Desk} {day:Int}:(X8 d day).length<=d.disputes.length:=by
 unfold X8;rw[List.length_map];exact List.length_filter_le ..
theorem AIl {d:Desk} (hv:Vd d) {day:Int}:((ABS d day).map (·.id)).Nodup:=by
 unfold ABS X8
 rw[List.map_map,List.map_map]
 rw[show (((fun r:Report=>r.id) ∘ fun y:Dispute×Verdict=>X9 d y.1 y.2) ∘ fun x=>(x,dec d x))=fun x:Dispute=>x.id from funext fun x=>ALK]
 exact (List.Sublist.map _ List.filter_sublist).nodup hv.x.nd
def AFl (d:Desk) (day:Int) (r:List Report×Int):Prop:=(60 < d.reports.length+(ABS d day).length/\r=([],9))\/(d.reports.length+(ABS d day).length<=60/\∃ m:List Report,m.Perm (ABS d day)/\m.Pairwise (le2 (·.made) (·.id))/\r=(d.reports++m,0))
theorem AQI {a b:List Report} (ha:a.length<=100000) (hb:b.length<=100000):T3 [a,b]=some (a++b):=by
 refine Ret.eq ?_
 unfold T3
 refine Ret.bind (C2 2 (fun n (t:Int×Int)=>t.1=n/\(n=0->t.2=0)/\(n=1->t.2=a.length)/\(n=2->t.2=a.length+b.length)) ⟨rfl,fun _=>rfl,fun h=>by omega,fun h=>by omega⟩ ?_ ?_)
 . rintro n hn ⟨_,s⟩ ⟨rfl,h0,h1,h2⟩
   have:n=0\/n=1:=by omega
   rcases this with rfl|rfl
   . have:s=0:=h0 rfl
     subst this
     exact Ret.condT rfl (Ret.bind (Ret.val (show ixo [a,b] 0=some a from rfl) (Ret.bind (Ret.chk (by omega) (Ret.condF (decide_eq_false (by omega)) (Ret.bind (Ret.chk (by decide) (Ret.next ⟨rfl,fun h=>by omega,fun _=>by dsimp only;omega,fun h=>by omega⟩))))))))
   . have:s=a.length:=h1 rfl
     subst this
     exact Ret.condT rfl (Ret.bind (Ret.val (show ixo [a,b] 1=some b from rfl) (Ret.bind (Ret.chk (by omega) (Ret.condF (decide_eq_false (by omega)) (Ret.bind (Ret.chk (by decide) (Ret.next ⟨rfl,fun h=>by omega,fun h=>by omega,fun _=>rfl⟩))))))))
 rintro⟨_,s⟩ ⟨rfl,h0,h1,h2⟩
 have:s=a.length+b.length:=h2 rfl
 subst this
 have hg:M4 () ((a.length:Int)+b.length)=some []:=by
  unfold M4
  exact if_pos ⟨by omega,by omega⟩
 refine Ret.condF rfl (Ret.done ?_)
 rw[hg,bindS]
 refine Ret.bind (C2 2 (fun n (t:Int×List Report)=>t.1=n/\(n=0->t.2=[])/\(n=1->t.2=a)/\(n=2->t.2=a++b)) ⟨rfl,fun _=>rfl,fun h=>by omega,fun h=>by omega⟩ ?_ ?_)
 . rintro n hn ⟨_,s⟩ ⟨rfl,h0,h1,h2⟩
   have:n=0\/n=1:=by omega
   rcases this with rfl|rfl
   . have:s=[]:=h0 rfl
     subst this
     exact Ret.condT rfl (Ret.bind (Ret.val (show ixo [a,b] 0=some a from rfl) (Ret.bind (Ret.appo (by simp only[List.length_nil];omega) (by simp only[List.length_nil];omega) (Ret.bind (Ret.chk (by decide) (Ret.next ⟨rfl,fun h=>by omega,fun _=>rfl,fun h=>by omega⟩)))))))
   . have:s=a:=h1 rfl
     subst this
     exact Ret.condT rfl (Ret.bind (Ret.val (show ixo [s,b] 1=some b from rfl) (Ret.bind (Ret.appo (by omega) (by omega) (Ret.bind (Ret.chk (by decide) (Ret.next ⟨rfl,fun h=>by omega,fun h=>by omega,fun _=>rfl⟩)))))))
 . rintro⟨_,s⟩ ⟨rfl,h0,h1,h2⟩
   have:s=a++b:=h2 rfl
   subst this
   exact Ret.condF rfl (Ret.done (Ret.ok rfl))
theorem ALL {d:Desk} {D:Desk_99} (hD:Dw d D) (hv:Vd d) {day:Int}:Ret (F1 D day) (AFl d day):=by
 have hlx:=hv.x.len
 have hlr:=hv.r.len
 have hml:(ABS d day).length<=20:=by
  unfold ABS;rw[List.length_map];exact Nat.le_trans AEv hlx
 unfold F1
 rw[AJI hD hv,bindS]
 refine Ret.bind (Ret.over (fun pre (l:List Report)=>l=pre.map fun y=>X9 d y.1 y.2) rfl (fun pre y s hpl hp hy hs=>?_) fun s hs=>?_)
 . subst hs
   rw[AR6 hD (by rw[List.length_map];have:=AEv (d:=d) (day:=day);omega)]
   exact Ret.ok (by rw[List.map_append];rfl)
 . subst hs
   show Ret (AAw D (ABS d day)) (AFl d day)
   unfold AAw
   rw[hD.d]
   refine Ret.bind (Ret.chk (by omega) (Ret.cond (fun c=>Ret.ok (.inl ⟨?_,rfl⟩)) fun c=>?_))
   . have c:=of_decide_eq_true c;omega
   have c:=of_decide_eq_false c
   have ho:=AJd (x:=ABS d day) (cmp:=fun a b=>J3 a b [78,79]) (k1:=(·.made)) (k2:=(·.id)) (fun a b=>AGJ (D:=fd160.D) (fun _=>rfl) (fun _=>rfl)) (fun a b ha hb _ e=>AAL (AIl hv) a b ha hb e) (by omega)
   refine Ret.bind (Ret.bind (ho.mono fun m hm=>Ret.ok ?_))
   have hml:=hm.1.length_eq
   dsimp only
   rw[AQI (a:=d.reports) (b:=m) (by omega) (by omega),bindS]
   exact Ret.ok (.inr ⟨by omega,m,hm.1,hm.2,rfl⟩)
theorem AHG {d:Desk} (hv:Vd d) {day:Int} (hd:0<=day/\day<=100000):Ret (J6 d day) (AFl d day):=by
 obtain⟨D,h1,hD⟩:=ADH hv hd
 unfold J6
 rw[h1,bindS]
 exact Ret.condF (by decide) (Ret.bind ((ALL hD hv).mono fun r hr=>Ret.ok hr))
theorem AHH {d:Desk} (hv:Vd d) {day:Int} {r r':List Report×Int} (h:AFl d day r) (h':AFl d day r'):r=r':=by
 rcases h with⟨h1,rfl⟩|⟨h1,m,h2,h3,rfl⟩ <;> rcases h' with⟨h4,rfl⟩|⟨h4,m',h5,h6,rfl⟩
 . rfl
 . omega
 . omega
 . rw[AEt (h2.trans h5.symm) h3 h6 fun a b ha hb _ e=>AAL (AIl hv) a b (h2.mem_iff.1 ha) (h2.mem_iff.1 hb) e]
end S
end Go.Proofs.YtgioiejbphljoaaGreatDoor
