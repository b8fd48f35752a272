/-
  Part DisputeTold 1 of the texts that the statement's proof stands on: what memory holds, how code is walked, what the functions reckon. In the order in which they build.
-/
import Derived.Test.YtgioiejbphljoaaGreatDoorDg10
set_option linter.unusedVariables false
set_option linter.unusedSectionVars false
set_option maxRecDepth 20000
set_option maxHeartbeats 1000000
set_option linter.unusedVariables false
namespace Go.Proofs.YtgioiejbphljoaaGreatDoor
open Go Go.Sx Go.Rx
namespace S
theorem wh_ge {d:Desk} {x:Dispute} {day:Int} (h:2<=wh d x day):(dec d x).day<=day/\wh d x day=(dec d x).is_:=by
 unfold wh at h ⊢
 split
 . exact⟨by assumption,rfl⟩
 . rename_i c
   rw[if_neg c] at h
   split at h <;> omega
theorem find_in {l:List Report} (hc:AId l) {c:Report} (h:c∈l):(l.find? fun r=>decide (r.id=c.id))=some c:=by
 cases hg:l.find? fun r=>decide (r.id=c.id) with
 |none=>exact absurd (decide_eq_true rfl) (List.find?_eq_none.1 hg c h)
 |some g=>rw[hc g (List.mem_of_find?_eq_some hg) c h (of_decide_eq_true (List.find?_some (p:=fun r:Report=>decide (r.id=c.id)) hg))]
def ACL (d:Desk) (l:List Report) (x:Dispute) (asked:List Asked) (who:Int):Option Int:=(asked.find? fun a=>Y0 d l x a&&decide (a.who=who)).map (·.id)
def U3 (d:Desk) (l:List Report) (x:Dispute) (F:A3 Int Int) (a:Asked):A3 Int Int:=if Y0 d l x a then (if (F a.who).isSome then F else B5 F a.who a.id) else F
theorem AQ1 {d:Desk} {l:List Report} {x:Dispute}:∀ (aq:List Asked) (F:A3 Int Int) (who:Int),aq.foldl (U3 d l x) F who=if (F who).isSome then F who else ACL d l x aq who
 |[],F,who=>by
  cases h:F who with
  |none=>simp[h,ACL]
  |some y=>simp[h]
 |a :: aq,F,who=>by
  rw[List.foldl_cons,AQ1 aq]
  unfold U3 ACL
  rw[List.find?_cons]
  by_cases hw:Y0 d l x a=true
  . rw[hw,if_pos rfl,Bool.true_and]
    by_cases e:a.who=who
    . subst e
      cases h:F a.who with
      |none=>simp[B5]
      |some y=>simp[h]
    . have e2:¬ who=a.who:=fun h=>e h.symm
      rw[decide_eq_false e]
      cases h:F a.who with
      |none=>simp[B5,e2]
      |some y=>simp[h]
  . have hw:Y0 d l x a=false:=by simpa using hw
    rw[hw];simp
theorem AQ2 {d:Desk} {l:List Report} {x:Dispute}:∀ (aq:List Asked) (f:A3 (Int×Int) Int) (k:Int×Int),aq.reverse.foldl (ABp d l x) f k=if k.1=x.id then (match ACL d l x aq k.2 with
  |some z=>some z
  |none=>f k) else f k
 |[],f,k=>by simp[ACL]
 |a :: aq,f,k=>by
  rw[List.reverse_cons,List.foldl_append,List.foldl_cons,List.foldl_nil]
  generalize hg:aq.reverse.foldl (ABp d l x) f=g
  have hi:=AQ2 (d:=d) (l:=l) (x:=x) aq f k
  rw[hg] at hi
  unfold ABp ACL
  rw[List.find?_cons]
  by_cases hw:Y0 d l x a=true
  . rw[hw,if_pos rfl,Bool.true_and]
    obtain⟨k1,k2⟩:=k
    dsimp only at hi ⊢
    by_cases e1:k1=x.id
    . subst e1
      rw[if_pos rfl]
      by_cases e:a.who=k2
      . subst e
        simp[B5]
      . have e2:¬ k2=a.who:=fun h=>e h.symm
        rw[decide_eq_false e]
        rw[if_pos rfl] at hi
        unfold B5
        rw[if_neg (fun h=>e2 (Prod.mk.inj h).2),hi]
        rfl
    . rw[if_neg e1] at hi ⊢
      unfold B5
      rw[if_neg (fun h=>e1 (Prod.mk.inj h).1),hi]
  . have hw:Y0 d l x a=false:=by simpa using hw
    rw[hw]
    simp only[Bool.false_eq_true,if_false,Bool.false_and]
    rw[hi]
    rfl
theorem ANm {d:Desk} {l:List Report} {asked:List Asked} {k:Int×Int}:∀ (ys:List (Dispute×Verdict)) (f:A3 (Int×Int) Int),(ys.map (·.1.id)).Nodup->(ys.foldl (AFm d l asked) f) k=match ys.find? fun y=>decide (y.1.id=k.1) with
  |some y=>(match ACL d l y.1 asked k.2 with
   |some z=>some z
   |none=>f k)
  |none=>f k
 |[],f,_=>rfl
 |y :: ys,f,h=>by
  rw[List.map_cons,List.nodup_cons] at h
  rw[List.foldl_cons,ANm ys _ h.2,List.find?_cons]
  have e1:AFm d l asked f y k=if k.1=y.1.id then (match ACL d l y.1 asked k.2 with
   |some z=>some z
   |none=>f k) else f k:=AQ2 asked f k
  by_cases e:y.1.id=k.1
  . rw[decide_eq_true e]
    have hn:(ys.find? fun y=>decide (y.1.id=k.1))=none:=List.find?_eq_none.2 fun z hz hd=>h.1 (List.mem_map.2 ⟨z,hz,(of_decide_eq_true hd).trans e.symm⟩)
    rw[hn]
    show AFm d l asked f y k=_
    rw[e1,if_pos e.symm]
  . rw[decide_eq_false e]
    have e2:AFm d l asked f y k=f k:=by rw[e1,if_neg fun h=>e h.symm]
    rw[e2]
theorem ALW {d:Desk} (hv:Vd d) {l:List Report} {asked:List Asked} {day:Int} {x:Dispute} (hx:x∈d.disputes) (who:Int):AFn d l asked day (x.id,who)=if 3<=wh d x day then ACL d l x asked who else none:=by
 have hnd:((X8 d day).map (·.1.id)).Nodup:=by
  unfold X8
  rw[List.map_map]
  exact (List.Sublist.map _ List.filter_sublist).nodup hv.x.nd
 unfold AFn
 rw[ANm _ _ hnd]
 cases hg:(X8 d day).find? fun y=>decide (y.1.id=(x.id,who).1) with
 |none=>
  have:¬ 3<=wh d x day:=fun h3=>absurd (decide_eq_true rfl) (List.find?_eq_none.1 hg (x,dec d x) (decd_mem.2 ⟨hx,h3,rfl⟩))
  rw[if_neg this];rfl
 |some y=>
  obtain⟨y1,y2,_⟩:=decd_mem.1 (List.mem_of_find?_eq_some hg)
  have:y.1=x:=AAL hv.x.nd y.1 x y1 hx (of_decide_eq_true (List.find?_some (p:=fun y:Dispute×Verdict=>decide (y.1.id=(x.id,who).1)) hg))
  rw[this] at y2
  rw[if_pos y2]
  dsimp only
  rw[this]
  cases ACL d l x asked who <;> rfl
theorem AUA {d:Desk} {l:List Report} {asked:List Asked} {day:Int} (hv:Vd d) {i who z:Int} (h:AFn d l asked day (i,who)=some z):∃ x∈d.disputes,x.id=i:=by
 have hnd:((X8 d day).map (·.1.id)).Nodup:=by
  unfold X8
  rw[List.map_map]
  exact (List.Sublist.map _ List.filter_sublist).nodup hv.x.nd
 unfold AFn at h
 rw[ANm _ _ hnd] at h
 cases hg:(X8 d day).find? fun y=>decide (y.1.id=(i,who).1) with
 |none=>rw[hg] at h;cases h
 |some y=>
  obtain⟨y1,y2,_⟩:=decd_mem.1 (List.mem_of_find?_eq_some hg)
  exact⟨y.1,y1,of_decide_eq_true (List.find?_some (p:=fun y:Dispute×Verdict=>decide (y.1.id=(i,who).1)) hg)⟩
theorem flen_of {κ α:Type} {f:A3 κ α} {l:List (κ×α)} (h:Lists f l):AFG f=l.length:=by
 have hex:∃ l,Lists f l:=⟨l,h⟩
 unfold AFG
 rw[dif_pos hex]
 have h':=hex.choose_spec
 have hp:hex.choose.Perm l:=(List.perm_ext_iff_of_nodup ((List.pairwise_map.1 h'.1).imp fun h e=>h (by rw[e])) ((List.pairwise_map.1 h.1).imp fun h e=>h (by rw[e]))).2 fun y=>(h'.2 y.1 y.2).trans (h.2 y.1 y.2).symm
 rw[hp.length_eq]
theorem AJL {α:Type} {p q:α->Bool}:∀ {l:List α},(∀ x∈l,p x=true->q x=false)->(l.filter fun x=>p x||q x).length=(l.filter p).length+(l.filter q).length
 |[],_=>rfl
 |x :: l,h=>by
  have ih:=AJL (p:=p) (q:=q) (l:=l) fun y hy=>h y (List.mem_cons_of_mem _ hy)
  have hx:=h x (List.mem_cons_self ..)
  rw[List.filter_cons,List.filter_cons,List.filter_cons]
  cases hp:p x with
  |true=>
   rw[hx hp]
   simp only[Bool.or_false,if_true,Bool.false_eq_true,if_false,List.length_cons]
   omega
  |false=>
   cases hq:q x with
   |true=>simp only[Bool.or_true,if_true,Bool.false_eq_true,if_false,List.length_cons];omega
   |false=>simp only[Bool.or_false,Bool.false_eq_true,if_false];omega
theorem ALX {l:List Report} (h:VL l) {day:Int} {f r:Report} (hf:f∈l) (hs:U1 l day f.id=some r):r=Report.mk f.id f.source f.account f.made r.about f.kind r.cents f.of_:=by
 obtain⟨h1,h2⟩:=(AEC h).1 hs
 obtain⟨o,h3,_,_,rfl⟩:=T_mem.1 h1
 rw[AB6] at h2
 have:o=f:=h.cons o (kn_mem.1 h3).1 f hf h2
 subst this
 exact AT6
theorem AO0 {d:Desk} (hv:Vd d) {l:List Report} {asked:List Asked} {day:Int} {out:List Letter} (hL:LetS (AFn d l asked day) out) {x:Dispute} (hx:x∈d.disputes) (h3:3<=wh d x day):Lists (ACL d l x asked) ((out.filter fun z=>decide (z.dispute=x.id)).map fun z=>(z.who,z.asked)):=by
 refine⟨?_,fun a y=>?_⟩
 . rw[List.map_map,List.Nodup,List.pairwise_map]
   have h1:=List.pairwise_map.1 hL.nd
   refine List.Pairwise.imp_of_mem (fun {a b} ha hb hne e=>hne ?_) (h1.sublist List.filter_sublist)
   have e1:=of_decide_eq_true (List.mem_filter.1 ha).2
   have e2:=of_decide_eq_true (List.mem_filter.1 hb).2
   have e:a.who=b.who:=e
   rw[e1,e2,e]
 . have hd:=ALW hv (l:=l) (asked:=asked) (day:=day) hx a
   rw[if_pos h3] at hd
   rw[List.mem_map,<-hd]
   constructor
   . rintro⟨z,hz,e⟩
     obtain⟨h4,h5⟩:=List.mem_filter.1 hz
     have h5:=of_decide_eq_true h5
     cases e
     rw[<-h5]
     exact (hL.mem z).1 h4
   . intro h
     exact⟨Letter.mk x.id a y,List.mem_filter.2 ⟨(hL.mem _).2 h,decide_eq_true rfl⟩,rfl⟩
theorem AJO (h21:J1=some true) {d:Desk} (hin:InD d) {asked:List Asked} (hal:asked.length<=1000000->True) {day:Int} (hask:asked.length<=9223372036854775807):Z3 d asked day=some true:=by
 refine Ret.eq ?_
 unfold Z3
 rw[h21,bindS]
 refine Ret.bind (E0 (AMG hin) fun b hb=>?_)
 cases b with
 |false=>exact Ret.condT rfl (Ret.ok (Ret.condT rfl (Ret.ok rfl)))
 |true=>
 obtain⟨hv,hd0,hd1⟩:=hb rfl
 refine Ret.condF rfl (E0 (Q':=fun b=>b=true->AskV asked) ?_ fun b hb=>?_)
 . by_cases h:asked.length<=1000000
   . exact AR7 h
   . unfold N8
     exact Ret.condT (decide_eq_true (by omega)) (Ret.ok fun h=>by cases h)
 cases b with
 |false=>exact Ret.condT rfl (Ret.ok (Ret.condT rfl (Ret.ok rfl)))
 |true=>
 have ha:=hb rfl
 have hall:=ha.len
 have hlx:=hv.x.len
 refine Ret.condF rfl (Ret.ok (Ret.condF rfl ?_))
 refine E0 (AJK hv ha ⟨hd0,hd1⟩) fun zl hzl=>?_
 obtain⟨out,e⟩:=zl
 obtain⟨z,hz,hzc⟩:=hzl
 refine E0 (AHG hv ⟨hd0,hd1⟩) fun z' hz'=>?_
 have:=AHH hv hz' hz
 subst this
 obtain⟨l,e2⟩:=z'
 rcases hzc with⟨h9,he⟩|⟨h0,he,hL⟩
 . obtain⟨rfl,rfl⟩:=Prod.mk.inj he
   have h9:e2=9:=h9
   subst h9
   exact Ret.condT rfl (Ret.bind (Ret.condT rfl (Ret.condT rfl (Ret.condT rfl (Ret.ok (Ret.ok rfl))))))
 have he:e=0:=he
 subst he
 have h0':e2=0:=h0
 subst h0'
 have hVL:VL l:=ALP hv hz rfl
 have hll:=hVL.len
 dsimp only at hL
 have sub:∀ r∈d.reports,r∈l:=fun r hr=>by
  rcases hz with⟨_,g⟩|⟨_,m,_,_,g⟩
  . cases (Prod.mk.inj g).2
  . rw[(Prod.mk.inj g).1];exact List.mem_append.2 (.inl hr)
 have hlen:out.length<=100000:=by
  obtain⟨xs,q1,q2⟩:=AJJ (d:=d) (l:=l) (asked:=asked) (X8 d day) fnone [] ⟨List.nodup_nil,fun a y=>by simp[fnone]⟩
  have hp:(out.map fun z=>((z.dispute,z.who),z.asked)).Perm xs:=(List.perm_ext_iff_of_nodup ?_ ((List.pairwise_map.1 q1.1).imp fun h e=>h (by rw[e]))).2 fun y=>?_
  . have:=hp.length_eq
    rw[List.length_map] at this
    have hdl:=AEv (d:=d) (day:=day)
    have:(X8 d day).length * asked.length<=20 * 40:=Nat.mul_le_mul (by omega) hall
    simp only[List.length_nil] at q2
    omega
  . rw[List.Nodup,List.pairwise_map]
    exact (List.pairwise_map.1 hL.nd).imp fun h e=>h (Prod.mk.inj e).1
  . obtain⟨⟨a,b⟩,c⟩:=y
    rw[List.mem_map]
    have h1:=hL.mem (Letter.mk a b c)
    refine Iff.trans ?_ (q1.2 (a,b) c).symm
    constructor
    . rintro⟨z,hz,e⟩;cases e;exact h1.1 hz
    . intro h;exact⟨_,h1.2 h,rfl⟩
 refine Ret.condF rfl (Ret.condF rfl (Ret.bind (C2 out.length (fun n (t:Int)=>t=n) rfl ?_ ?_)))
 . rintro n hlt _ rfl
   refine Ret.condT (V7 hlt) (Ret.bind (K2 hlt (Ret.bind ?_)))
   have nx:Ret (cond false (some (Sum.inr (Sum.inr false))) (Option.bind (chk .i64 ((n:Int)+1)) fun n31=>some (Sum.inl n31:Int⊕(Unit⊕Bool)))) (Nxt (fun (t:Int)=>t=((n+1:Nat):Int)) fun _=>False):=Ret.condF rfl (Ret.bind (Ret.chk (by omega) (Ret.next (by omega))))
   have nx:∀ {Q:Unit⊕Bool->Prop},Ret (cond false (some (Sum.inr (Sum.inr false))) (Option.bind (chk .i64 ((n:Int)+1)) fun n31=>some (Sum.inl n31:Int⊕(Unit⊕Bool)))) (Nxt (fun (t:Int)=>t=((n+1:Nat):Int)) Q):=fun {Q}=>nx.mono fun a h=>by
    cases a with
    |inl s=>exact h
    |inr r=>exact h.elim
   refine Ret.cond (fun c=>?_) fun _=>Ret.ok nx
   have c:=of_decide_eq_true c
   obtain⟨k,rfl⟩:∃ k,n=k+1:=⟨n - 1,by omega⟩
   have hk:k < out.length:=by omega
   have e1:((k+1:Nat):Int) - 1=(k:Int):=by omega
   have hle:le2 (·.dispute) (·.who) out[k] out[k+1]:=List.pairwise_iff_getElem.1 hL.ord k (k+1) hk hlt (by omega)
   have hne:¬ (out[k].dispute=out[k+1].dispute/\out[k].who=out[k+1].who):=fun h=>List.pairwise_iff_getElem.1 (List.pairwise_map.1 hL.nd) k (k+1) hk hlt (by omega) (by rw[h.1,h.2])
   have hle:out[k].dispute < out[k+1].dispute\/out[k].dispute=out[k+1].dispute/\out[k].who<=out[k+1].who:=hle
   refine Ret.bind (Ret.chk (by omega) (Ret.bind ?_))
   rw[e1]
   refine K2 hk (Ret.condF (decide_eq_false (by omega)) (Ret.bind (Ret.chk (by omega) (Ret.bind (K2 hk (Ret.cond (fun c2=>?_) fun _=>Ret.ok nx))))))
   have c2:=of_decide_eq_true c2
   refine Ret.bind (Ret.chk (by omega) (Ret.bind (K2 hk (Ret.ok ?_))))
   rw[decide_eq_false (show ¬ out[k+1].who<=out[k].who by omega)]
   exact nx
 rintro _ rfl
 refine Ret.condF (Y6 (Nat.le_refl _)) (Ret.done (B8 (E0 (Q':=fun r:Int⊕Bool=>r=.inl (out.length:Int)) ?_ ?_)))
 rotate_left
 . rintro _ rfl
   exact B8 (Ret.bind (Ret.condT rfl (Ret.ok (Ret.ok (decide_eq_true rfl)))))
 let cnt:Nat->Nat:=fun n=>(out.filter fun z=>decide (z.dispute∈(d.disputes.take n).map (·.id))).length
 have hcl:∀ n,cnt n<=out.length:=fun n=>List.length_filter_le ..
 have cnt1:∀ (n:Nat) (h:n < d.disputes.length),cnt (n+1)=cnt n+(out.filter fun z=>decide (z.dispute=d.disputes[n].id)).length:=fun n h=>by
  show (out.filter _).length=(out.filter _).length+_
  rw[<-AJL]
  . congr 1
    refine List.filter_congr fun z _=>?_
    rw[AAK h,List.map_append,Bool.eq_iff_iff,Bool.or_eq_true,decide_eq_true_iff,decide_eq_true_iff,decide_eq_true_iff,List.mem_append]
    simp
  . intro z _ h1
    have h1:=of_decide_eq_true h1
    obtain⟨y,hy,e⟩:=List.mem_map.1 h1
    exact decide_eq_false fun h2=>AQt hv.x.nd h y hy (by rw[e,h2])
 refine C2 d.disputes.length (fun n (t:List Report×Int×Int)=>t=(l,(n:Int),(cnt n:Int))) ?_ ?_ ?_
 . have:cnt 0=0:=by
    show (out.filter _).length=0
    simp
   rw[this];rfl
 . rintro n hlt _ rfl
   have hx:=List.getElem_mem hlt
   generalize hxe:d.disputes[n]=x at hx
   have hc1:=cnt1 n hlt
   rw[hxe] at hc1
   have hcl1:=hcl (n+1)
   have nx:Ret (Sum.elim (fun x313=>Option.bind (chk .i64 ((n:Int)+1)) fun n314=>some (Sum.inl (l,n314,x313))) (fun r315=>(some (Sum.inr (Sum.inr r315)):Option ((List Report×Int×Int)⊕(Int⊕Bool)))) (Sum.inl ((cnt (n+1):Nat):Int):Int⊕Bool)) (Nxt (fun (t:List Report×Int×Int)=>t=(l,((n+1:Nat):Int),(cnt (n+1):Int))) fun r:Int⊕Bool=>r=.inl (out.length:Int)):=B8 (Ret.bind (Ret.chk (by omega) (Ret.next (by rw[show (n:Int)+1=((n+1:Nat):Int) by omega]))))
   refine Ret.condT (V7 hlt) (Ret.bind (Ret.bind (Ret.val (a:=x) (by rw[<-hxe];exact AFH (List.getElem?_eq_getElem hlt)) ?_)))
   rw[AGI hv hx ⟨hd0,hd1⟩,bindS]
   refine Ret.condF rfl (Ret.cond (fun c=>Ret.ok ?_) fun c=>?_)
   . have c:=of_decide_eq_true c
     have h0:(out.filter fun z=>decide (z.dispute=x.id)).length=0:=by
      rw[List.length_eq_zero_iff,List.filter_eq_nil_iff]
      intro z hzo hzd
      have hm:=(hL.mem z).1 hzo
      rw[of_decide_eq_true hzd,ALW hv hx,if_neg (by omega)] at hm
      cases hm
     have hc2:cnt n=cnt (n+1):=by omega
     rw[hc2]
     exact nx
   have c:=of_decide_eq_false c
   have h3:3<=wh d x day:=by omega
   obtain⟨hdd,_⟩:=wh_ge (by omega:2<=wh d x day)
   have hdi:=AEA hv hx
   obtain⟨_,_,f,hf,x3,x4⟩:=hv.x.v x hx
   obtain⟨hfm,hfi,hfk⟩:=V1 hf
   have ht:=hv.t.2.2
   refine E0 (ABR hVL hdi) fun z1 hz1=>?_
   obtain⟨s1,e1⟩:=z1
   obtain⟨h1e,hs1⟩:=hz1
   have h1e:e1=0:=h1e
   subst h1e
   have n1:=St.len hVL hs1
   dsimp only at hs1 n1
   refine Ret.condF rfl ?_
   rw[AED (by omega),bindS]
   dsimp only
   rw[St.find hVL hs1,AED (by have:=hv.r.len;omega),bindS]
   dsimp only
   rw[<-hfi,find_in hv.r.cons hfm]
   refine E0 (Q':=fun r:A3 Int Int⊕Bool=>r=.inl (asked.foldl (U3 d l x) fnone)) ?_ ?_
   . refine C2 asked.length (fun k (t:Int×A3 Int Int)=>t=((k:Int),(asked.take k).foldl (U3 d l x) fnone)) rfl ?_ ?_
     . rintro k hk _ rfl
       have hav:=ha.v _ (List.getElem_mem hk)
       generalize hF:(asked.take k).foldl (U3 d l x) fnone=F
       have key:∀ F',F'=U3 d l x F asked[k]->Ret (Sum.elim (fun x301=>Option.bind (chk .i64 ((k:Int)+1)) fun n302=>some (Sum.inl (n302,x301))) (fun r303=>(some (Sum.inr (Sum.inr r303)):Option ((Int×A3 Int Int)⊕(A3 Int Int⊕Bool)))) (Sum.inl F':A3 Int Int⊕Bool)) (Nxt (fun (t:Int×A3 Int Int)=>t=(((k+1:Nat):Int),(asked.take (k+1)).foldl (U3 d l x) fnone)) fun r:A3 Int Int⊕Bool=>r=.inl (asked.foldl (U3 d l x) fnone)):=fun F' h=>B8 (Ret.bind (Ret.chk (by omega) (Ret.next (by rw[AEr hk,hF,h];rfl))))
       have skip:Y0 d l x asked[k]=false->Ret (Sum.elim (fun x301=>Option.bind (chk .i64 ((k:Int)+1)) fun n302=>some (Sum.inl (n302,x301))) (fun r303=>(some (Sum.inr (Sum.inr r303)):Option ((Int×A3 Int Int)⊕(A3 Int Int⊕Bool)))) (Sum.inl F:A3 Int Int⊕Bool)) (Nxt (fun (t:Int×A3 Int Int)=>t=(((k+1:Nat):Int),(asked.take (k+1)).foldl (U3 d l x) fnone)) fun r:A3 Int Int⊕Bool=>r=.inl (asked.foldl (U3 d l x) fnone)):=fun h=>key F (by unfold U3;rw[h];rfl)
       have hwr:Y0 d l x asked[k]=(decide (asked[k].account=f.account)&&(decide (asked[k].day < (dec d x).day)&&(decide ((dec d x).day - asked[k].day<=d.terms.lately)&&(match U1 l asked[k].day f.id with
        |none=>false
        |some was=>decide (was.about<=asked[k].day)&&(match U1 l (dec d x).day f.id with
         |none=>true
         |some now=>!decide (was=now)))))):=by
        unfold Y0
        rw[hf,hfi];rfl
       refine Ret.condT (V7 hk) (Ret.bind (Ret.bind (K2 hk (Ret.bind ?_))))
       refine Ret.cond (fun k1=>Ret.ok (Ret.condT rfl (Ret.ok (skip ?_)))) fun k1=>Ret.cond (fun k2=>Ret.ok (Ret.condT rfl (Ret.ok (skip ?_)))) fun k2=>Ret.bind (Ret.chk (by omega) (Ret.ok (Ret.cond (fun k3=>Ret.ok (skip ?_)) fun k3=>?_)))
       . rw[hwr]
         have k1:decide (asked[k].account=f.account)=false:=by rw[Bool.not_eq_true'] at k1;exact k1
         rw[k1];rfl
       . rw[hwr]
         have k2:=of_decide_eq_true k2
         rw[decide_eq_false (show ¬ asked[k].day < (dec d x).day by omega)];simp
       . rw[hwr]
         have k3:=of_decide_eq_true k3
         rw[decide_eq_false (show ¬ (dec d x).day - asked[k].day<=d.terms.lately by omega)];simp
       have k1:decide (asked[k].account=f.account)=true:=by rw[Bool.not_eq_false'] at k1;exact k1
       have k2:=of_decide_eq_false k2
       have k3:=of_decide_eq_false k3
       rw[k1,decide_eq_true (show asked[k].day < (dec d x).day by omega),decide_eq_true (show (dec d x).day - asked[k].day<=d.terms.lately by omega),Bool.true_and,Bool.true_and,Bool.true_and] at hwr
       refine E0 (ABR hVL hav.2.2.2) fun z2 hz2=>?_
       obtain⟨s2,e2⟩:=z2
       obtain⟨h2e,hs2⟩:=hz2
       have h2e:e2=0:=h2e
       subst h2e
       have n2:=St.len hVL hs2
       dsimp only at hs2 n2
       refine Ret.condF rfl ?_
       rw[AED (l:=s2) (by omega),bindS]
       dsimp only
       rw[St.find hVL hs2]
       cases hwas:U1 l asked[k].day f.id with
       |none=>
        rw[hwas] at hwr
        exact Ret.bind (Ret.condT rfl (Ret.ok (Ret.condT rfl (Ret.ok (skip hwr)))))
       |some was=>
        rw[hwas] at hwr
        dsimp only at hwr
        have hb1:=ALX hVL (sub f hfm) hwas
        refine Ret.bind (Ret.condF rfl (Ret.cond (fun k4=>Ret.ok (Ret.condT rfl (Ret.ok (skip ?_)))) fun k4=>?_))
        . have k4:asked[k].day < was.about:=of_decide_eq_true k4
          rw[hwr,decide_eq_false (show ¬ was.about<=asked[k].day by omega)];rfl
        have k4:¬ asked[k].day < was.about:=of_decide_eq_false k4
        rw[decide_eq_true (show was.about<=asked[k].day by omega),Bool.true_and] at hwr
        have put:Y0 d l x asked[k]=true->Ret (Option.bind (α:=((A3 Int Int))) (cond (!(F asked[k].who).isSome) (some (B5 F asked[k].who asked[k].id)) (some F)) fun x300=>some (Sum.inl x300:A3 Int Int⊕Bool)) fun a=>Ret (Sum.elim (fun x301=>Option.bind (chk .i64 ((k:Int)+1)) fun n302=>some (Sum.inl (n302,x301))) (fun r303=>(some (Sum.inr (Sum.inr r303)):Option ((Int×A3 Int Int)⊕(A3 Int Int⊕Bool)))) a) (Nxt (fun (t:Int×A3 Int Int)=>t=(((k+1:Nat):Int),(asked.take (k+1)).foldl (U3 d l x) fnone)) fun r:A3 Int Int⊕Bool=>r=.inl (asked.foldl (U3 d l x) fnone)):=fun h=>by
         refine Ret.bind ?_
         cases hq:(F asked[k].who).isSome with
         |true=>exact Ret.condF rfl (Ret.ok (Ret.ok (key _ (by unfold U3;rw[h,hq];rfl))))
         |false=>exact Ret.condT rfl (Ret.ok (Ret.ok (key _ (by unfold U3;rw[h,hq];rfl))))
        cases hnow:U1 l (dec d x).day f.id with
        |none=>
         rw[hnow] at hwr
         exact Ret.condF rfl (Ret.ok (Ret.condF rfl (put hwr)))
        |some now=>
         rw[hnow] at hwr
         dsimp only at hwr
         have hb2:=ALX hVL (sub f hfm) hnow
         refine Ret.condT rfl (Ret.cond (fun k5=>?_) fun k5=>Ret.ok (Ret.condF rfl (put ?_)))
         . have k5:was.about=now.about:=of_decide_eq_true k5
           by_cases k6:was.cents=now.cents
           . refine Ret.val (a:=true) (congrArg some (decide_eq_true k6)) (Ret.condT rfl (Ret.ok (skip ?_)))
             rw[hwr,decide_eq_true (by rw[hb1,hb2,k5,k6])];rfl
           . refine Ret.val (a:=false) (congrArg some (decide_eq_false k6)) (Ret.condF rfl (put ?_))
             rw[hwr,decide_eq_false (fun h=>k6 (by rw[h]))];rfl
         . have k5:¬ was.about=now.about:=of_decide_eq_false k5
           rw[hwr,decide_eq_false (fun h=>k5 (by rw[h]))];rfl
     . rintro _ rfl
       rw[List.take_length]
       exact Ret.condF (Y6 (Nat.le_refl _)) (Ret.done rfl)
   . rintro _ rfl
     have hFx:asked.foldl (U3 d l x) fnone=ACL d l x asked:=by
      funext who
      rw[AQ1];rfl
     rw[hFx]
     have hfl:=flen_of (AO0 hv hL hx h3)
     rw[List.length_map] at hfl
     refine B8 ?_
     rw[hfl]
     have hle:(out.filter fun z=>decide (z.dispute=x.id)).length<=out.length:=List.length_filter_le ..
     refine Ret.bind (Ret.chk (by omega) (Ret.bind (Ret.chk (by omega) (Ret.bind (C2 out.length (fun k (t:Int)=>t=k) rfl ?_ ?_)))))
     . rintro k hk _ rfl
       refine Ret.condT (V7 hk) (Ret.bind (K2 hk (Ret.bind (Ret.val (a:=false) ?_ (Ret.condF rfl (Ret.bind (Ret.chk (by omega) (Ret.next (by omega)))))))))
       by_cases k1:out[k].dispute=x.id
       . have hm:=(hL.mem out[k]).1 (List.getElem_mem hk)
         rw[k1,ALW hv hx,if_pos h3] at hm
         rw[decide_eq_true k1,hm]
         show some (!decide (out[k].asked=out[k].asked))=_
         rw[decide_eq_true rfl];rfl
       . rw[decide_eq_false k1];rfl
     . rintro _ rfl
       refine Ret.condF (Y6 (Nat.le_refl _)) (Ret.done (B8 (Ret.ok ?_)))
       rw[show ((cnt n:Nat):Int)+((out.filter fun z=>decide (z.dispute=x.id)).length:Int)=((cnt (n+1):Nat):Int) by omega]
       exact nx
 . rintro _ rfl
   refine Ret.condF (Y6 (Nat.le_refl _)) (Ret.done ?_)
   have:cnt d.disputes.length=out.length:=by
    show (out.filter _).length=out.length
    rw[List.filter_eq_self.2]
    intro z hzo
    obtain⟨y,hy,e⟩:=AUA hv ((hL.mem z).1 hzo)
    rw[List.take_length]
    exact decide_eq_true (List.mem_map.2 ⟨y,hy,e⟩)
   rw[this]
end S
end Go.Proofs.YtgioiejbphljoaaGreatDoor
