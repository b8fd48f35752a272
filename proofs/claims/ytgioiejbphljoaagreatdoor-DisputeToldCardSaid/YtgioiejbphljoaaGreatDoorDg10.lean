/-
  Part 10 of the texts that the statement's proof stands on: what memory holds, how code is walked, what the functions reckon. In the order in which they build.
-/
import Derived.Test.YtgioiejbphljoaaGreatDoorDg9
set_option linter.unusedVariables false
set_option linter.unusedSectionVars false
set_option maxRecDepth 20000
set_option maxHeartbeats 1000000
set_option linter.unusedVariables false
namespace Go.Proofs.YtgioiejbphljoaaGreatDoor
open Go Go.Sx Go.Rx
namespace S
def U1 (l:List Report) (day i:Int):Option Report:=(T (D7 l day)).find? fun r=>decide (r.id=i)
theorem ALM {l:List Report} (hn:(l.map (·.id)).Nodup) {i:Int} {r:Report}:(l.find? fun r=>decide (r.id=i))=some r↔r∈l/\r.id=i:=by
 constructor
 . intro h
   exact⟨List.mem_of_find?_eq_some h,of_decide_eq_true (List.find?_some (p:=fun r:Report=>decide (r.id=i)) h)⟩
 . rintro⟨h,rfl⟩
   cases hg:l.find? fun s=>decide (s.id=r.id) with
   |none=>exact absurd (decide_eq_true rfl) (List.find?_eq_none.1 hg r h)
   |some g=>rw[AAL hn g r (List.mem_of_find?_eq_some hg) h (of_decide_eq_true (List.find?_some (p:=fun s:Report=>decide (s.id=r.id)) hg))]
theorem AEC {l:List Report} (h:VL l) {day i:Int} {r:Report}:U1 l day i=some r↔r∈T (D7 l day)/\r.id=i:=ALM (ALE (X7 h day))
theorem AMX {l:List Report} (h:VL l) {day:Int} (hd:0<=day/\day<=100000):T4 l day=some (U1 l day):=by
 refine Ret.eq ?_
 unfold T4
 refine E0 (ABR h hd) fun z hz=>?_
 obtain⟨out,e⟩:=z
 obtain⟨rfl,hp,_⟩:=hz
 have hlen:=hp.length_eq
 have hT:=AJf (X7 h day)
 have hnd:(out.map (·.id)).Nodup:=(hp.map _).nodup_iff.2 (ALE (X7 h day))
 refine Ret.bind (C2 out.length (fun n (t:Int×A3 Int Report)=>t.1=n/\∀ i r,t.2 i=some r↔r∈out.take n/\r.id=i) ⟨rfl,fun i r=>by simp[fnone]⟩ ?_ ?_)
 . rintro n hlt ⟨_,m⟩ ⟨rfl,hm⟩
   dsimp only at hm hlt
   refine Ret.condT (V7 hlt) (Ret.bind (K2 hlt (Ret.bind (Ret.chk (by dsimp only at *;omega) (Ret.next ⟨by dsimp only;omega,fun i r=>?_⟩)))))
   dsimp only[B5]
   rw[E7 hlt]
   by_cases e:i=out[n].id
   . subst e
     rw[if_pos rfl]
     constructor
     . intro h9;cases h9;exact⟨.inr rfl,rfl⟩
     . rintro⟨h9|h9,h8⟩
       . rw[AAL hnd r _ (List.mem_of_mem_take h9) (List.getElem_mem hlt) h8]
       . rw[h9]
   . rw[if_neg e,hm]
     constructor
     . rintro⟨h9,h8⟩;exact⟨.inl h9,h8⟩
     . rintro⟨h9|rfl,h8⟩
       . exact⟨h9,h8⟩
       . exact absurd h8.symm e
 . rintro⟨_,m⟩ ⟨rfl,hm⟩
   dsimp only at hm
   rw[List.take_length] at hm
   refine Ret.condF (Y6 (Nat.le_refl _)) (Ret.done (Ret.ok ?_))
   funext i
   apply Option.ext
   intro r
   rw[hm,AEC h,hp.mem_iff]
def Y0 (d:Desk) (l:List Report) (x:Dispute) (a:Asked):Bool:=
 decide (a.account=((Z9 d.reports x.report).getD ABo).account)&&(decide (a.day < (dec d x).day)&&(decide ((dec d x).day - a.day<=d.terms.lately)&&(match U1 l a.day x.report with
  |none=>false
  |some was=>decide (was.about<=a.day)&&(match U1 l (dec d x).day x.report with
   |none=>true
   |some now=>!decide (was=now)))))
structure AskV (asked:List Asked):Prop where
 len:asked.length<=40
 v:∀ a∈asked,(0<=a.id/\a.id<=999999)/\(0<=a.who/\a.who<=999999)/\(0<=a.account/\a.account<=999999)/\(0<=a.day/\a.day<=100000)
 up:∀ (n:Nat) (h:n+1 < asked.length),asked[n].id < asked[n+1].id
def ABp (d:Desk) (l:List Report) (x:Dispute) (f:A3 (Int×Int) Int) (a:Asked):A3 (Int×Int) Int:=if Y0 d l x a then B5 f (x.id,a.who) a.id else f
def AFm (d:Desk) (l:List Report) (asked:List Asked) (f:A3 (Int×Int) Int) (y:Dispute×Verdict):A3 (Int×Int) Int:=asked.reverse.foldl (ABp d l y.1) f
def AFn (d:Desk) (l:List Report) (asked:List Asked) (day:Int):A3 (Int×Int) Int:=(X8 d day).foldl (AFm d l asked) fnone
theorem AOv:∀ (l:List Asked) (n:Nat),n<=l.length->(bwN l n).map (·.2)=(l.take n).reverse
 |l,0,_=>rfl
 |l,n+1,h=>by
  have hlt:n < l.length:=by omega
  unfold bwN
  rw[List.getElem?_eq_getElem hlt]
  show l[n] :: (bwN l n).map (·.2)=_
  rw[AOv l n (by omega),AAK hlt,List.reverse_append]
  rfl
theorem ALN:∀ (l:List Asked) (n:Nat) (y:Int×Asked),n<=l.length->y∈bwN l n->y.2∈l/\0<=y.1/\y.1 < n
 |l,0,y,_,h=>by cases h
 |l,n+1,y,hn,h=>by
  have hlt:n < l.length:=by omega
  unfold bwN at h
  rw[List.getElem?_eq_getElem hlt] at h
  rcases List.mem_cons.1 h with rfl|h
  . exact⟨List.getElem_mem hlt,by dsimp only;omega,by dsimp only;omega⟩
  . have:=ALN l n y (by omega) h
    exact⟨this.1,this.2.1,by omega⟩
theorem ANi {asked:List Asked} (ha:AskV asked):U2 asked=some (bwN asked asked.length):=by
 unfold U2
 refine if_pos fun y hy=>?_
 obtain⟨h1,h2,h3⟩:=ALN asked asked.length y (Nat.le_refl _) hy
 have hl:=ha.len
 obtain⟨v1,v2,v3,v4⟩:=ha.v _ h1
 have e:ADf [.int .i64,.st 5] y↔InK .i64 y.1/\(InK .i64 y.2.id/\InK .i64 y.2.who/\InK .i64 y.2.account/\InK .i64 y.2.day):=Iff.rfl
 rw[e]
 exact⟨T5 (by omega),T5 (by omega),T5 (by omega),T5 (by omega),T5 (by omega)⟩
section
variable {d:Desk} {D:Desk_99} (hD:Dw d D) (hv:Vd d) {l:List Report} (hl:VL l)
include hD hv hl
theorem AV0 {x:Dispute} (hx:x∈d.disputes):AAx l x (dec d x)=some ((U1 l (dec d x).day x.report).getD ABo,(U1 l (dec d x).day x.report).isSome):=by
 unfold AAx
 rw[AMX hl (AEA hv hx),bindS]
 rfl
theorem AV1 {x:Dispute} (hx:x∈d.disputes) {f:A3 (Int×Int) Int} {a:Int×Asked} (ha:0<=a.2.day/\a.2.day<=100000):Go.Proofs.YtgioiejbphljoaaGreatDoor.inB D l x (dec d x) ((U1 l (dec d x).day x.report).getD ABo) ((U1 l (dec d x).day x.report).isSome) f a=some (ABp d l x f a.2):=by
 have hdi:=AEA hv hx
 unfold Go.Proofs.YtgioiejbphljoaaGreatDoor.inB ABp
 have key:∃ b:Bool⊕Unit,AAa D l x (dec d x) ((U1 l (dec d x).day x.report).getD ABo) ((U1 l (dec d x).day x.report).isSome) a.2=some b/\(Y0 d l x a.2=true↔b=.inl true):=by
  show Ret _ fun b:Bool⊕Unit=>Y0 d l x a.2=true↔b=.inl true
  unfold AAa Y0
  rw[hD.f,hD.d]
  have no:∀ {o:Option (Bool⊕Unit)} {b:Bool},b=false->Ret (cond true (some (Sum.inr ())) o) fun c:Bool⊕Unit=>b=true↔c=.inl true:=fun {o b} h=>Ret.condT rfl (Ret.ok (by subst h;exact⟨(fun h=>by cases h),(fun h=>by cases h)⟩))
  refine Ret.bind (Ret.cond (fun c=>Ret.ok (no ?_)) fun c=>Ret.cond (fun c2=>Ret.ok (no ?_)) fun c2=>Ret.bind (Ret.chk (by omega) (Ret.ok ?_)))
  . have c:decide (a.2.account=((Z9 d.reports x.report).getD ABo).account)=false:=by
     rw[Bool.not_eq_true'] at c;exact c
    rw[c];rfl
  . have c2:=of_decide_eq_true c2
    rw[decide_eq_false (show ¬ a.2.day < (dec d x).day by omega)]
    simp
  have c:decide (a.2.account=((Z9 d.reports x.report).getD ABo).account)=true:=by
   rw[Bool.not_eq_false'] at c;exact c
  have c2:=of_decide_eq_false c2
  rw[c,decide_eq_true (show a.2.day < (dec d x).day by omega),Bool.true_and,Bool.true_and]
  refine Ret.cond (fun c3=>Ret.ok ?_) fun c3=>?_
  . have c3:=of_decide_eq_true c3
    rw[decide_eq_false (show ¬ (dec d x).day - a.2.day<=d.terms.lately by omega)]
    exact⟨(fun h=>by cases h),(fun h=>by cases h)⟩
  have c3:=of_decide_eq_false c3
  rw[decide_eq_true (show (dec d x).day - a.2.day<=d.terms.lately by omega),Bool.true_and]
  rw[AMX hl ha,bindS]
  have fin:∀ {b b':Bool},b=b'->Ret (some (Sum.inl b':Bool⊕Unit)) fun c:Bool⊕Unit=>b=true↔c=.inl true:=fun {b b'} h=>Ret.ok (by subst h;exact⟨fun h=>by rw[h],fun h=>by injection h⟩)
  refine Ret.bind ?_
  cases hw:U1 l a.2.day x.report with
  |none=>exact Ret.condF rfl (Ret.ok (fin rfl))
  |some was=>
   refine Ret.condT rfl (Ret.cond (fun c4=>?_) fun c4=>Ret.ok (fin ?_))
   . have c4:decide (was.about<=a.2.day)=true:=c4
     dsimp only
     rw[c4,Bool.true_and]
     cases hn:U1 l (dec d x).day x.report with
     |none=>exact Ret.condT rfl (Ret.ok (fin rfl))
     |some now=>exact Ret.condF rfl (Ret.ok (fin rfl))
   . have c4:decide (was.about<=a.2.day)=false:=c4
     dsimp only
     rw[c4];rfl
 obtain⟨b,h1,h2⟩:=key
 rw[h1,bindS]
 congr 1
 by_cases c:Y0 d l x a.2=true
 . rw[if_pos c,h2.1 c]
 . rw[if_neg c]
   cases b with
   |inr u=>rfl
   |inl b=>
    cases b with
    |false=>rfl
    |true=>exact absurd (h2.2 rfl) c
theorem AT5 {asked:List Asked} (ha:AskV asked) {f:A3 (Int×Int) Int} {y:Dispute×Verdict} {day:Int} (hy:y∈X8 d day):AHE D asked l f y=some (AFm d l asked f y):=by
 obtain⟨h1,h2,h3⟩:=decd_mem.1 hy
 refine Ret.eq ?_
 unfold AHE
 rw[h3,AV0 hD hv hl h1,bindS,ANi ha,bindS]
 refine Ret.over (fun pre (g:A3 (Int×Int) Int)=>g=(pre.map (·.2)).foldl (ABp d l y.1) f) rfl (fun pre a s hpl hp ham hs=>?_) fun s hs=>?_
 . have:=ha.v _ (ALN asked asked.length a (Nat.le_refl _) ham).1
   rw[AV1 hD hv hl h1 this.2.2.2]
   refine Ret.ok ?_
   rw[List.map_append,List.foldl_append,<-hs];rfl
 . rw[hs,AOv asked _ (Nat.le_refl _),List.take_length];rfl
end
theorem ANj {κ α:Type} [DecidableEq κ] {f:A3 κ α} {l:List (κ×α)} (h:Lists f l) (a:κ) (z:α):∃ l',Lists (B5 f a z) l'/\l'.length<=l.length+1:=by
 by_cases c:∃ x∈l,x.1=a
 . obtain⟨⟨a',y⟩,hx,rfl⟩:=c
   obtain⟨j,hj⟩:=List.getElem?_of_mem hx
   exact⟨_,h.set hj z,by rw[List.length_set];omega⟩
 . exact⟨_,h.push z fun x hx e=>c ⟨x,hx,e⟩,by simp⟩
theorem AJJ {d:Desk} {l:List Report} {asked:List Asked}:∀ (ys:List (Dispute×Verdict)) (f:A3 (Int×Int) Int) (xs:List ((Int×Int)×Int)),Lists f xs->∃ xs',Lists (ys.foldl (AFm d l asked) f) xs'/\xs'.length<=xs.length+ys.length * asked.length:=by
 have inner:∀ (aq:List Asked) (x:Dispute) (f:A3 (Int×Int) Int) (xs:List ((Int×Int)×Int)),Lists f xs->∃ xs',Lists (aq.foldl (ABp d l x) f) xs'/\xs'.length<=xs.length+aq.length:=by
  intro aq
  induction aq with
  |nil=>intro x f xs h;exact⟨xs,h,by simp⟩
  |cons a aq ih=>
   intro x f xs h
   have:∃ xs',Lists (ABp d l x f a) xs'/\xs'.length<=xs.length+1:=by
    unfold ABp
    split
    . exact ANj h _ _
    . exact⟨xs,h,by omega⟩
   obtain⟨xs',h1,h2⟩:=this
   obtain⟨xs2,h3,h4⟩:=ih x _ xs' h1
   exact⟨xs2,h3,by simp only[List.length_cons];omega⟩
 intro ys
 induction ys with
 |nil=>intro f xs h;exact⟨xs,h,by simp⟩
 |cons y ys ih=>
  intro f xs h
  obtain⟨xs',h1,h2⟩:=inner asked.reverse y.1 f xs h
  obtain⟨xs2,h3,h4⟩:=ih _ xs' h1
  refine⟨xs2,h3,?_⟩
  rw[List.length_reverse] at h2
  simp only[List.length_cons,Nat.add_mul,Nat.one_mul]
  omega
def mkL (y:(Int×Int)×Int):Letter:=Letter.mk y.1.1 y.1.2 y.2
structure LetS (F:A3 (Int×Int) Int) (out:List Letter):Prop where
 mem:∀ z:Letter,z∈out↔F (z.dispute,z.who)=some z.asked
 nd:(out.map fun z=>(z.dispute,z.who)).Nodup
 ord:out.Pairwise (le2 (·.dispute) (·.who))
theorem AMY {out:List Letter} (h:(out.map fun z=>(z.dispute,z.who)).Nodup):∀ a b,a∈out->b∈out->a.dispute=b.dispute->a.who=b.who->a=b:=fun a b ha hb e1 e2=>by
 rw[List.Nodup,List.pairwise_map] at h
 obtain⟨i,hi,rfl⟩:=List.getElem_of_mem ha
 obtain⟨j,hj,rfl⟩:=List.getElem_of_mem hb
 rw[List.pairwise_iff_getElem] at h
 have e:(out[i].dispute,out[i].who)=(out[j].dispute,out[j].who):=by rw[e1,e2]
 rcases Nat.lt_trichotomy i j with c|c|c
 . exact absurd e (h i j hi hj c)
 . subst c;rfl
 . exact absurd e.symm (h j i hj hi c)
theorem ALO {F:A3 (Int×Int) Int} {a b:List Letter} (ha:LetS F a) (hb:LetS F b):a=b:=by
 have nd:∀ {x:List Letter},LetS F x->x.Nodup:=fun h=>(List.pairwise_map.1 h.nd).imp fun h e=>h (by rw[e])
 refine AEt ((List.perm_ext_iff_of_nodup (nd ha) (nd hb)).2 fun z=>by rw[ha.mem,hb.mem]) ha.ord hb.ord (AMY ha.nd)
theorem AOx {F:A3 (Int×Int) Int} {xs0:List ((Int×Int)×Int)} (h0:Lists F xs0) (hl:xs0.length<=100000):Ret (AAg F fun xs=>Option.bind (List.foldlM AEu [] xs) K4) fun r=>r.2=0/\LetS F r.1:=by
 have each:∀ xs,Lists F xs->Ret (Option.bind (List.foldlM AEu [] xs) K4) fun r=>r=(r.1,0)/\LetS F r.1:=fun xs hxs=>by
  have hp:xs.Perm xs0:=(List.perm_ext_iff_of_nodup ((List.pairwise_map.1 hxs.1).imp fun h e=>h (by rw[e])) ((List.pairwise_map.1 h0.1).imp fun h e=>h (by rw[e]))).2 fun y=>(hxs.2 y.1 y.2).trans (h0.2 y.1 y.2).symm
  have hlen:=hp.length_eq
  have fold:∀ (l:List ((Int×Int)×Int)) (pre:List Letter),pre.length+l.length<=1000000->List.foldlM AEu pre l=some (pre++l.map mkL):=by
   intro l
   induction l with
   |nil=>intro pre _;simp
   |cons y l ih=>
    intro pre h
    rw[List.length_cons] at h
    rw[List.foldlM_cons]
    have:AEu pre y=some (pre++[mkL y]):=ACf (by simp;omega) (by simp;omega)
    rw[this]
    show List.foldlM AEu (pre++[mkL y]) l=_
    rw[ih _ (by simp;omega)]
    simp
  rw[fold xs [] (by simp;omega),List.nil_append,bindS]
  unfold K4
  have hnd:((xs.map mkL).map fun z=>(z.dispute,z.who)).Nodup:=by
   rw[List.map_map];exact hxs.1
  have ho:=AJd (x:=xs.map mkL) (cmp:=fun a b=>J4 a b [49,50]) (k1:=(·.dispute)) (k2:=(·.who)) (fun a b=>AGJ (D:=fd118.D) (fun _=>rfl) (fun _=>rfl)) (AMY hnd) (by rw[List.length_map];omega)
  refine Ret.bind (Ret.bind (ho.mono fun m hm=>Ret.ok (Ret.ok ⟨rfl,fun z=>?_,(hm.1.map _).nodup_iff.2 hnd,hm.2⟩)))
  rw[hm.1.mem_iff,List.mem_map,<-hxs.2]
  constructor
  . rintro⟨y,hy,rfl⟩;exact hy
  . intro h;exact⟨_,h,rfl⟩
 obtain⟨r,h1,h2,h3⟩:=each _ h0
 refine⟨r,AIE h0 fun xs hxs=>?_,by rw[h2],h3⟩
 obtain⟨r',h4,h5,h6⟩:=each xs hxs
 rw[h4,h5,h2,ALO h6 h3]
theorem AR7 {asked:List Asked} (hl:asked.length<=1000000):Ret (N8 asked) fun b=>b=true->AskV asked:=by
 unfold N8
 refine Ret.cond (fun _=>Ret.ok fun h=>by cases h) fun c1=>?_
 have c1:=of_decide_eq_false c1
 refine Ret.bind (C2 asked.length (fun n (t:Int)=>t=n/\(∀ a∈asked.take n,(0<=a.id/\a.id<=999999)/\(0<=a.who/\a.who<=999999)/\(0<=a.account/\a.account<=999999)/\(0<=a.day/\a.day<=100000))/\∀ (m:Nat) (h:m+1 < asked.length),m+1 < n->asked[m].id < asked[m+1].id) ⟨rfl,fun a h=>by simp at h,fun m _ h=>by omega⟩ ?_ ?_)
 . rintro n hlt _ ⟨rfl,hv,hu⟩
   have bad:∀ {o:Option (Int⊕(Unit⊕Bool))} {N:Int->Prop},Ret (cond true (some (Sum.inr (Sum.inr false))) o) (Nxt N (fun a=>Ret (Sum.elim (fun _=>some true) (fun r27=>some r27) a) fun b=>b=true->AskV asked)):=fun {o N}=>Ret.condT rfl (Ret.done (D6 (Ret.ok fun h=>by cases h)))
   refine Ret.condT (V7 hlt) (Ret.bind (K2 hlt (Ret.bind ?_)))
   rw[within5,bindS]
   refine Ret.no bad fun c2=>?_
   rw[within5,bindS]
   refine Ret.no bad fun c3=>?_
   rw[within5,bindS]
   refine Ret.no bad fun c4=>?_
   rw[within5,bindS]
   refine Ret.no bad fun c5=>?_
   have hv':∀ a∈asked.take (n+1),(0<=a.id/\a.id<=999999)/\(0<=a.who/\a.who<=999999)/\(0<=a.account/\a.account<=999999)/\(0<=a.day/\a.day<=100000):=fun a ha=>by
    rw[E7 hlt] at ha
    rcases ha with ha|rfl
    . exact hv a ha
    . exact⟨G3 c2,G3 c3,G3 c4,G3 c5⟩
   have go:(∀ (m:Nat) (h:m+1 < asked.length),m+1 < n+1->asked[m].id < asked[m+1].id)->Ret (cond false (some (Sum.inr (Sum.inr false))) (Option.bind (chk .i64 ((n:Int)+1)) fun n20=>some (Sum.inl n20))) (Nxt (fun (t:Int)=>t=((n+1:Nat):Int)/\(∀ a∈asked.take (n+1),(0<=a.id/\a.id<=999999)/\(0<=a.who/\a.who<=999999)/\(0<=a.account/\a.account<=999999)/\(0<=a.day/\a.day<=100000))/\∀ (m:Nat) (h:m+1 < asked.length),m+1 < n+1->asked[m].id < asked[m+1].id) (fun a=>Ret (Sum.elim (fun (_:Unit)=>some true) (fun r27=>some r27) a) fun b=>b=true->AskV asked)):=fun h=>Ret.condF rfl (Ret.bind (Ret.chk (by omega) (Ret.next ⟨by omega,hv',h⟩)))
   refine Ret.cond (fun c6=>?_) fun c6=>Ret.ok (go fun m h hm=>?_)
   . have c6:=of_decide_eq_true c6
     obtain⟨k,rfl⟩:∃ k,n=k+1:=⟨n - 1,by omega⟩
     have hk:k < asked.length:=by omega
     refine Ret.bind (Ret.chk (by omega) (Ret.bind ?_))
     rw[show ((k+1:Nat):Int) - 1=(k:Int) by omega]
     refine K2 hk (Ret.ok ?_)
     by_cases c7:asked[k+1].id<=asked[k].id
     . rw[decide_eq_true c7];exact bad
     . rw[decide_eq_false c7]
       refine go fun m h hm=>?_
       by_cases e:m=k
       . subst e;omega
       . exact hu m h (by omega)
   . have c6:=of_decide_eq_false c6
     omega
 . rintro _ ⟨rfl,hv,hu⟩
   rw[List.take_length] at hv
   exact Ret.condF (Y6 (Nat.le_refl _)) (Ret.done (B8 (Ret.ok fun _=>⟨by omega,hv,fun n h=>hu n h h⟩)))
def LtS (d:Desk) (asked:List Asked) (day:Int) (r:List Letter×Int):Prop:=∃ z,AFl d day z/\((z.2=9/\r=([],9))\/(z.2=0/\r.2=0/\LetS (AFn d z.1 asked day) r.1))
theorem ALP {d:Desk} (hv:Vd d) {day:Int} {z:List Report×Int} (hz:AFl d day z) (h0:z.2=0):VL z.1:=by
 rcases hz with⟨_,rfl⟩|⟨h1,m,h2,h3,rfl⟩
 . cases h0
 have mm:∀ r∈m,∃ x∈d.disputes,r=X9 d x (dec d x)/\3<=(dec d x).is_:=fun r hr=>by
  have hr:=h2.mem_iff.1 hr
  unfold ABS at hr
  obtain⟨y,hy,rfl⟩:=List.mem_map.1 hr
  obtain⟨y1,y2,y3⟩:=decd_mem.1 hy
  refine⟨y.1,y1,by rw[y3],?_⟩
  unfold wh at y2
  split at y2
  . exact y2
  . split at y2 <;> omega
 refine⟨?_,fun r hr=>?_,fun a ha b hb e=>?_⟩
 . dsimp only
   rw[List.length_append,h2.length_eq];exact h1
 . rcases List.mem_append.1 hr with hr|hr
   . exact hv.r.v r hr
   . obtain⟨x,hx,rfl,h4⟩:=mm r hr
     obtain⟨x1,x2,f,hf,x3,x4⟩:=hv.x.v x hx
     have hfm:=V1 hf
     obtain⟨u1,u2,u3,u4,u5,u6,u7,u8,_⟩:=hv.r.v f hfm.1
     have hdi:=AEA hv hx
     have hb:=AQz hv x
     have hne:f.id≠x.id:=x2 f hfm.1
     unfold X9
     rw[hf]
     dsimp only[Option.getD_some]
     split
     . exact⟨(show (1:Int)<=8/\(8:Int)<=9 from by decide),x1,u3,u4,u2,hdi,hb.2.2.2.2.1,hb.2.2.2.2.2,(fun h=>absurd (show (8:Int)<=7 from h) (by decide)),(fun _=>hne),(fun h=>absurd (show (8:Int)=9 from h) (by decide))⟩
     . exact⟨(show (1:Int)<=9/\(9:Int)<=9 from by decide),x1,u3,u4,u2,hdi,(show (0:Int)<=0/\(0:Int)<=100000 from by decide),(show (0:Int)<=0/\(0:Int)<=0 from by decide),(fun h=>absurd (show (9:Int)<=7 from h) (by decide)),(fun _=>hne),(fun _=>rfl)⟩
 . rcases List.mem_append.1 ha with ha|ha <;> rcases List.mem_append.1 hb with hb|hb
   . exact hv.r.cons a ha b hb e
   . obtain⟨x,hx,rfl,_⟩:=mm b hb
     rw[ALK] at e
     exact absurd e ((hv.x.v x hx).2.1 a ha)
   . obtain⟨x,hx,rfl,_⟩:=mm a ha
     rw[ALK] at e
     exact absurd e.symm ((hv.x.v x hx).2.1 b hb)
   . exact AAL (AIl hv) a b (h2.mem_iff.1 ha) (h2.mem_iff.1 hb) e
theorem AJK {d:Desk} (hv:Vd d) {asked:List Asked} (ha:AskV asked) {day:Int} (hd:0<=day/\day<=100000):Ret (G1 d asked day) (LtS d asked day):=by
 obtain⟨D,h1,hD⟩:=ADH hv hd
 have hal:=ha.len
 unfold G1
 refine Ret.bind ?_
 unfold ACK
 rw[h1,bindS]
 refine Ret.condF (by decide) (Ret.bind (C2 asked.length (fun n (t:Int×Int)=>t.2=n/\-1<=t.1/\t.1<=999999/\∀ (h:n < asked.length),t.1 < asked[n].id) ⟨rfl,by decide,by decide,fun h=>?_⟩ ?_ ?_))
 . have:=(ha.v _ (List.getElem_mem h)).1
   dsimp only;omega
 . rintro n hlt ⟨p,_⟩ ⟨rfl,hp0,hp1,hp⟩
   dsimp only at hp hp0 hp1
   have hpl:=hp hlt
   obtain⟨v1,v2,v3,v4⟩:=ha.v _ (List.getElem_mem hlt)
   refine Ret.condT (V7 hlt) (Ret.bind (K2 hlt (Ret.bind (Ret.bind (Ret.chk (by omega) ?_)))))
   rw[d_in1,AAW (by omega),bindS]
   refine Ret.condF rfl ?_
   rw[d_in2,AAW v2,AAW v3,bindS]
   refine Ret.condF rfl ?_
   rw[d_in1,AAW v4,bindS]
   refine Ret.ok (Ret.condF rfl (Ret.bind (Ret.chk (by omega) (Ret.next ⟨by dsimp only;omega,by dsimp only;omega,by dsimp only;omega,fun h=>ha.up n h⟩))))
 . rintro⟨p,_⟩ ⟨rfl,_⟩
   refine Ret.condF (Y6 (Nat.le_refl _)) (Ret.done (B8 (Ret.condF (decide_eq_false (by omega)) (E0 (ALL hD hv (day:=day)) fun z hz=>?_))))
   obtain⟨l,e⟩:=z
   rcases id hz with⟨g1,g2⟩|⟨g1,m,g2,g3,g4⟩
   . obtain⟨rfl,rfl⟩:=Prod.mk.inj g2
     exact Ret.condT rfl (Ret.ok (D6 (Ret.ok ⟨_,hz,.inl ⟨rfl,rfl⟩⟩)))
   . obtain⟨rfl,rfl⟩:=Prod.mk.inj g4
     have hVL:=ALP hv hz rfl
     refine Ret.condF rfl (Ret.ok (B8 ?_))
     dsimp only
     rw[AJI hD hv,bindS]
     refine Ret.bind (Ret.over (fun pre (f:A3 (Int×Int) Int)=>f=pre.foldl (AFm d (d.reports++m) asked) fnone) rfl (fun pre y s hpl hp hy hs=>?_) fun s hs=>?_)
     . rw[AT5 hD hv hVL ha hy]
       refine Ret.ok ?_
       rw[List.foldl_append,<-hs];rfl
     . obtain⟨xs,hx1,hx2⟩:=AJJ (d:=d) (l:=d.reports++m) (asked:=asked) (X8 d day) fnone [] ⟨List.nodup_nil,fun a y=>by simp[fnone]⟩
       have hdl:=AEv (d:=d) (day:=day)
       have hlx:=hv.x.len
       have:(X8 d day).length * asked.length<=20 * 40:=Nat.mul_le_mul (by omega) hal
       rw[hs]
       exact (AOx hx1 (by simp only[List.length_nil] at hx2;omega)).mono fun r hr=>⟨_,hz,.inr ⟨rfl,hr.1,hr.2⟩⟩
end S
end Go.Proofs.YtgioiejbphljoaaGreatDoor
set_option maxRecDepth 20000
set_option maxHeartbeats 1000000
set_option linter.unusedVariables false
namespace Go.Proofs.YtgioiejbphljoaaGreatDoor
open Go Go.Sx Go.Rx
namespace S
theorem AED {l:List Report} (hl:l.length<=1000000) {i:Int}:K9 l i=some ((l.find? fun r=>decide (r.id=i)).getD ABo,(l.find? fun r=>decide (r.id=i)).isSome):=by
 refine Ret.eq ?_
 unfold K9
 refine Ret.bind (C2 l.length (fun n (t:Int)=>t=n/\∀ r∈l.take n,decide (r.id=i)=false) ⟨rfl,fun r hr=>by simp at hr⟩ ?_ ?_)
 . rintro n hlt _ ⟨rfl,hp⟩
   refine Ret.condT (V7 hlt) (Ret.bind (K2 hlt (Ret.cond (fun c=>Ret.done (D6 (Ret.ok ?_))) fun c=>Ret.bind (Ret.chk (by omega) (Ret.next ⟨by omega,fun r hr=>?_⟩)))))
   . rw[AME (g:=fun r:Report=>decide (r.id=i)) hlt c hp];rfl
   . rw[E7 hlt] at hr
     rcases hr with hr|rfl
     . exact hp r hr
     . exact c
 . rintro _ ⟨rfl,hp⟩
   rw[List.take_length] at hp
   refine Ret.condF (Y6 (Nat.le_refl _)) (Ret.done (B8 (Ret.ok ?_)))
   rw[AMF hp];rfl
theorem St.find {l:List Report} (h:VL l) {day:Int} {out:List Report} (hs:St l day out) (i:Int):(out.find? fun r=>decide (r.id=i))=U1 l day i:=by
 apply Option.ext
 intro r
 rw[AEC h,ALM ((hs.perm.map _).nodup_iff.2 (ALE (X7 h day))),hs.perm.mem_iff]
theorem St.len {l:List Report} (h:VL l) {day:Int} {out:List Report} (hs:St l day out):out.length<=60:=by
 rw[hs.perm.length_eq];exact AJf (X7 h day)
theorem AT6 {K:List Report} {o:Report}:fix K o=Report.mk o.id o.source o.account o.made (fix K o).about o.kind (fix K o).cents o.of_:=by
 unfold fix;split <;> rfl
theorem AEw {l:List Report} (h:VL l) {day:Int} {f:Report} (hf:f∈l) (hm:f.made<=day) (hk:f.kind<=7):U1 l day f.id=if H4 (D7 l day) f.id then none else some (fix (D7 l day) f):=by
 have hK:=X7 h day
 have hfK:f∈D7 l day:=kn_mem.2 ⟨hf,hm⟩
 apply Option.ext
 intro r
 rw[AEC h,T_mem]
 cases hg:H4 (D7 l day) f.id with
 |true=>
  rw[if_pos rfl]
  constructor
  . rintro⟨⟨o,h1,h2,h3,rfl⟩,h5⟩
    rw[AB6] at h5
    rw[h5,<-gone_iff,hg] at h3
    cases h3
  . intro h9;cases h9
 |false=>
  rw[if_neg (by decide)]
  constructor
  . rintro⟨⟨o,h1,h2,h3,rfl⟩,h5⟩
    rw[AB6] at h5
    rw[hK.one h1 hfK h5]
  . intro h9
    cases h9
    exact⟨⟨f,hfK,hk,gone_iff.1 hg,rfl⟩,AB6 f⟩
section
variable {K:List Report} (hK:Ok K) {d:Desk_139} (hd:Dk K d)
include hK hd
theorem AMZ {i:Int}:(d.gone i).isSome=H4 K i:=by
 have h:=hd.gone i
 cases hg:d.gone i with
 |none=>rw[hg] at h;exact (gone_iff.2 h).symm
 |some y=>
  rw[hg] at h
  cases hb:H4 K i with
  |true=>rfl
  |false=>exact absurd ((gone_iff.1 hb).uniq h) (by intro h;cases h)
theorem ALQ {o:Report} (ho:o∈K) (h7:o.kind<=7):d.fixed o.id=if H4 K o.id then none else (AA4 K o).map (·.id):=by
 obtain⟨z,h1,h2⟩:=hd.fixed o.id
 cases hg:H4 K o.id with
 |true=>
  rw[if_pos rfl,h1]
  cases z with
  |none=>rfl
  |some c=>
   obtain⟨_,⟨o2,p1,p2,p3,p4,_⟩,_⟩:=h2
   rw[<-gone_iff,hg] at p4
   cases p4
 |false=>
  rw[if_neg (by decide),h1]
  have:=AIi hK ho (h2.congr fun r=>and_congr_right fun _=>AOs hK hd ho h7 (gone_iff.1 hg) r)
  rw[this]
end
def Ft7 (K:List Report) (f:Report) (z:Int×Int×Int):Prop:=z.2.2=0/\if H4 K f.id then z.1=2 else match AA4 K f with
 |none=>z.1=0
 |some c=>z.1=1/\z.2.1=c.id
theorem AMa {l:List Report} (h:VL l) {known:Int} (hk:0<=known/\known<=100000) {f:Report} (hf:f∈D7 l known) (h7:f.kind<=7):Ret (K1 l f.id known) (Ft7 (D7 l known) f):=by
 have hK:=X7 h known
 unfold K1
 rw[AD8 h,bindS]
 refine Ret.condF (by decide) ?_
 rw[AFd (by simp),bindS,show ([known].all (inB 0 100000))=true by simp[inB,hk]]
 refine Ret.condF rfl (Ret.bind (ALC h fun D hD=>?_))
 have hr:D.store.reports f.id=some f:=(hD.reports f.id f).2 ⟨hf,rfl⟩
 rw[hr]
 refine Ret.condF rfl ?_
 simp only[Option.getD_some]
 have go:∀ z:Report×Bool,Ret (match z with
  |(r4,r5)=>Option.bind (α:=(Bool)) (cond (decide (f.kind=9)) (cond r5 (some (!decide (r4.kind=9))) (some false)) (some false)) fun x6=>Option.bind (α:=(Bool)) (cond (decide (f.kind=8)) (Option.bind (α:=(Bool)) (cond ((D.fixed f.of_).isSome) (some (decide ((D.fixed f.of_).getD 0=f.id))) (some false)) fun x8=>some x8) (some x6)) fun x9=>cond ((D.gone f.id).isSome) (some ((2:Int),(D.gone f.id).getD 0,(0:Int))) (cond x9 (some ((4:Int),(-1:Int),(0:Int))) (Option.bind (D4 f) fun r10=>cond (!r10) (some ((3:Int),(-1:Int),(0:Int))) (cond ((D.fixed f.id).isSome) (some ((1:Int),(D.fixed f.id).getD 0,(0:Int))) (some ((0:Int),(-1:Int),(0:Int))))))) (Ft7 (D7 l known) f):=fun z=>by
  obtain⟨r4,r5⟩:=z
  refine Ret.bind (Ret.condF (decide_eq_false (by omega)) (Ret.ok (Ret.bind (Ret.condF (decide_eq_false (by omega)) (Ret.ok ?_)))))
  rw[AMZ hK hD,ALQ hK hD hf h7]
  unfold Ft7
  cases hg:H4 (D7 l known) f.id with
  |true=>exact Ret.condT rfl (Ret.ok ⟨rfl,rfl⟩)
  |false=>
   refine Ret.condF rfl (Ret.condF rfl ?_)
   unfold D4
   rw[bindS,decide_eq_true h7]
   refine Ret.condF rfl ?_
   rw[if_neg (by decide)]
   cases hb:AA4 (D7 l known) f with
   |none=>exact Ret.condF rfl (Ret.ok ⟨rfl,rfl⟩)
   |some c=>exact Ret.condT rfl (Ret.ok ⟨rfl,rfl,rfl⟩)
 exact Ret.bind (AJe hK hD.reports (m:=D.store.reports) (fun o _=>go (o,true)) fun o' _=>go (o',false))
def Ft8 (K:List Report) (f r:Report) (z:Int×Int×Int):Prop:=z.2.2=0/\if H4 K r.id then z.1=2 else if H4 K f.id=false/\(AA4 K f).map (·.id)=some r.id then z.1=4 else z.1=3
theorem AR8 {l:List Report} (h:VL l) {known:Int} (hk:0<=known/\known<=100000) {f r:Report} (hf:f∈D7 l known) (h7:f.kind<=7) (hr:r∈D7 l known) (h8:r.kind=8) (ho:r.of_=f.id):Ret (K1 l r.id known) (Ft8 (D7 l known) f r):=by
 have hK:=X7 h known
 unfold K1
 rw[AD8 h,bindS]
 refine Ret.condF (by decide) ?_
 rw[AFd (by simp),bindS,show ([known].all (inB 0 100000))=true by simp[inB,hk]]
 refine Ret.condF rfl (Ret.bind (ALC h fun D hD=>?_))
 have hr':D.store.reports r.id=some r:=(hD.reports r.id r).2 ⟨hr,rfl⟩
 rw[hr']
 refine Ret.condF rfl ?_
 simp only[Option.getD_some]
 have go:∀ z:Report×Bool,Ret (match z with
  |(r4,r5)=>Option.bind (α:=(Bool)) (cond (decide (r.kind=9)) (cond r5 (some (!decide (r4.kind=9))) (some false)) (some false)) fun x6=>Option.bind (α:=(Bool)) (cond (decide (r.kind=8)) (Option.bind (α:=(Bool)) (cond ((D.fixed r.of_).isSome) (some (decide ((D.fixed r.of_).getD 0=r.id))) (some false)) fun x8=>some x8) (some x6)) fun x9=>cond ((D.gone r.id).isSome) (some ((2:Int),(D.gone r.id).getD 0,(0:Int))) (cond x9 (some ((4:Int),(-1:Int),(0:Int))) (Option.bind (D4 r) fun r10=>cond (!r10) (some ((3:Int),(-1:Int),(0:Int))) (cond ((D.fixed r.id).isSome) (some ((1:Int),(D.fixed r.id).getD 0,(0:Int))) (some ((0:Int),(-1:Int),(0:Int))))))) (Ft8 (D7 l known) f r):=fun z=>by
  obtain⟨r4,r5⟩:=z
  refine Ret.bind (Ret.condF (decide_eq_false (by omega)) (Ret.ok (Ret.bind (Ret.condT (decide_eq_true h8) ?_))))
  rw[ho,ALQ hK hD hf h7,AMZ hK hD]
  have fin:∀ x9:Bool,(x9=true↔H4 (D7 l known) f.id=false/\(AA4 (D7 l known) f).map (·.id)=some r.id)->Ret (cond (H4 (D7 l known) r.id) (some ((2:Int),(D.gone r.id).getD 0,(0:Int))) (cond x9 (some ((4:Int),(-1:Int),(0:Int))) (Option.bind (D4 r) fun r10=>cond (!r10) (some ((3:Int),(-1:Int),(0:Int))) (cond ((D.fixed r.id).isSome) (some ((1:Int),(D.fixed r.id).getD 0,(0:Int))) (some ((0:Int),(-1:Int),(0:Int))))))) (Ft8 (D7 l known) f r):=fun x9 hx=>by
   unfold Ft8
   cases hg:H4 (D7 l known) r.id with
   |true=>exact Ret.condT rfl (Ret.ok ⟨rfl,rfl⟩)
   |false=>
    refine Ret.condF rfl ?_
    cases x9 with
    |true=>exact Ret.condT rfl (Ret.ok ⟨rfl,by rw[if_neg Bool.false_ne_true,if_pos (hx.1 rfl)]⟩)
    |false=>
     have h9:¬ (H4 (D7 l known) f.id=false/\(AA4 (D7 l known) f).map (·.id)=some r.id):=fun h9=>by have:=hx.2 h9;cases this
     refine Ret.condF rfl ?_
     unfold D4
     rw[bindS,decide_eq_false (by omega)]
     exact Ret.condT rfl (Ret.ok ⟨rfl,by rw[if_neg Bool.false_ne_true,if_neg h9]⟩)
  refine Ret.bind ?_
  cases hg:H4 (D7 l known) f.id with
  |true=>
   rw[if_pos rfl]
   exact Ret.condF rfl (Ret.ok (Ret.ok (fin false ⟨(fun h=>by cases h),(fun h=>by rw[hg] at h;cases h.1)⟩)))
  |false=>
   rw[if_neg (by decide)]
   cases hb:AA4 (D7 l known) f with
   |none=>exact Ret.condF rfl (Ret.ok (Ret.ok (fin false ⟨(fun h=>by cases h),(fun h=>by rw[hb] at h;cases h.2)⟩)))
   |some c=>
    refine Ret.condT rfl (Ret.ok (Ret.ok (fin _ ⟨fun h=>⟨hg,?_⟩,fun h=>?_⟩)))
    . rw[hb]
      have h:decide (c.id=r.id)=true:=h
      exact congrArg some (of_decide_eq_true h)
    . rw[hb] at h
      exact decide_eq_true (Option.some.inj h.2)
 exact Ret.bind (AJe hK hD.reports (m:=D.store.reports) (fun o _=>go (o,true)) fun o' _=>go (o',false))
end S
end Go.Proofs.YtgioiejbphljoaaGreatDoor
set_option maxRecDepth 20000
namespace Go.Proofs.YtgioiejbphljoaaGreatDoor
open Go Go.Sx Go.Rx Go.RowKit
noncomputable def D0:Desk:=Desk.mk (Terms.mk 30 100 60) ([(Report.mk 1 70 5 12 10 3 500 0),(Report.mk 2 70 5 22 20 5 40 0),(Report.mk 3 70 5 26 25 6 500 0)]) ([(Dispute.mk 51 1 40),(Dispute.mk 52 2 41),(Dispute.mk 53 3 42)]) ([(Answer.mk 1 51 50 2 10 450),(Answer.mk 2 52 72 3 0 0),(Answer.mk 3 53 60 1 0 0),(Answer.mk 4 53 61 3 0 0)])
noncomputable def A0:List Asked:=[(Asked.mk 5 900 5 15),(Asked.mk 6 900 5 45),(Asked.mk 7 901 5 55),(Asked.mk 8 902 6 45)]
noncomputable def l33:List Report:=D0.reports++[Report.mk 51 70 5 50 10 8 450 1,Report.mk 52 70 5 72 0 9 0 2]
def ALR:Prop:=∃ l x due,J6 D0 72=some (l,0)/\G1 D0 A0 72=some (x,0)/\R4 D0 45=some (due,0)/\AAY 51 49 1 50=some true/\AAY 52 72 5 72=some true/\AAY 53 90 2 60=some true/\P1 3 160 2=some true/\P1 3 161 0=some true/\P1 3 50 1=some true /\
 Q3 l l33=some true/\Q4 x [Letter.mk 51 900 5,Letter.mk 52 900 6,Letter.mk 52 901 7]=some true/\X3 due [51,52,53]=some true
open Classical in
noncomputable def J1:Option Bool:=if ALR then some true else none
noncomputable def ctr21:Ctr:=⟨[],[.d .bool],fun _=>J1⟩
end Go.Proofs.YtgioiejbphljoaaGreatDoor
set_option maxRecDepth 20000
set_option maxHeartbeats 1000000
namespace Go.Proofs.YtgioiejbphljoaaGreatDoor
open Go Go.Sx Go.Rx Go.RowKit
theorem AMb:GxOk Tryz.prog gxb:=B1 trivial
theorem C33 {M:List Nat} {w:World} (hM:MLt M w) (hg:GlOk (P:=Tryz.prog) M w):Calls Tryz.prog 33 #[] w fun e w'=>∃ vr vx va,e=.returned (.agg (List.toArray [.int .i64 30,.int .i64 100,.int .i64 60,vr,vx,va]))/\Sx.Own (enc (P:=Tryz.prog) (.st 1)) 45 0 (ob vr++M) w' vr D0.reports/\(∀ b∈ob vr,w.heap.size<=b)/\Ext w w':=by
 have h0:Holds (P:=Tryz.prog) w [] M ⟨[],[],[],[]⟩ (R5 0 []) w:=Holds.start hM (fun t s ht=>by cases ht) ⟨trivial,hg⟩
 refine ABr (l:=[]) (fn:=Tryz.f33) Tryz.func33 rfl rfl rfl ?_
 refine A6 ?_
 refine ABD AMb (by exact rfl) h0 fun L1 w1 hE1 h1=>?_
 refine A6 ?_
 refine ABD AMb (by exact rfl) h1 fun L2 w2 hE2 h2=>?_
 have h3:=AEo (env':=[(0,.ptr 0 0)]) (res':=[(14,.own false (.sl 60 (.st 3)) D0.answers),(9,.own false (.sl 53 (.st 2)) D0.disputes),(5,.own false (.sl 45 (.st 1)) D0.reports),(0,.row 28 [.int .i64 30,.int .i64 100,.int .i64 60,.own 5,.own 9,.own 14])]) h2 ⟨rfl,trivial⟩ fun _=>rfl
 clear h1 h2
 obtain⟨S,ρ,γ,μ,ι,hS⟩:=h3
 obtain⟨v0,l0,bb0,hb0,rfl⟩:=hS.env 0 (.ptr 0 0) rfl
 obtain⟨b0,e0,r0,o0,i0⟩:=hS.rowAt (i:=0) (e:=28) (l:=[.int .i64 30,.int .i64 100,.int .i64 60,.own 5,.own 9,.own 14]) rfl
 rw[hb0] at e0;cases e0
 obtain⟨qa,g4,k0,oa⟩:=AAX o0
 obtain⟨qb,ea,k1,ob⟩:=AAX oa
 obtain⟨qc,eb,k2,oc⟩:=AAX ob
 obtain⟨qd,ec,od⟩:=ACl oc
 obtain⟨qe,ed,oe⟩:=ACl od
 obtain⟨qf,ee,of⟩:=ACl oe
 have of:qf=[]:=of
 rw[of] at ee
 rw[ee] at ed
 rw[ed] at ec
 rw[ec] at eb
 rw[eb] at ea
 rw[ea] at g4
 rw[g4] at r0
 have i5:=hS.res 5 (.own false (.sl 45 (.st 1)) D0.reports) rfl
 refine J7 ?_
 have ho:=AKD (P:=Tryz.prog) (c:=.sl 45 (.st 1)) (x:=D0.reports) (v:=ρ 5) hS.hp (ι 5) i5
 exact FinM.of (O1 (rs:=[.cell 0 28]) (vs:=[_]) rfl (.cons (.agg l0 r0.rd.cells Tryz.isAgg28 rfl Tryz.sizeOf28) .nil) rfl ⟨ρ 5,ρ 9,ρ 14,rfl,ho.1,ho.2,hS.hp.kp⟩)
noncomputable def ALS:Gx:={ gxb with fs:=[(14,ctr14),(16,ctr16),(18,ctr18),(19,ctr19),(24,ctr24),(31,ctr31),(32,ctr32),(33,ctr33),(37,ctr37),(54,ctr54)] }
theorem I3:GxOk Tryz.prog ALS:=B1 ⟨⟨ok14,Tryz.call14⟩,⟨⟨ok16,Tryz.call16⟩,⟨⟨ok18,Tryz.call18⟩,⟨⟨ok19,Tryz.call19⟩,⟨⟨ok24,Tryz.call24⟩,⟨⟨ok31,Tryz.call31⟩,⟨⟨ok32,Tryz.call32⟩,⟨⟨ok33,Tryz.call33⟩,⟨⟨ok37,Tryz.call37⟩,⟨⟨ok54,Tryz.call54⟩,trivial⟩⟩⟩⟩⟩⟩⟩⟩⟩⟩
def ANk:Code->Nat->List Oper
 |.region _ o _,0=>o.toList
 |.seq a _,0=>ANk a 0
 |.seq _ b,n+1=>ANk b n
 |_,_=>[]
noncomputable def c21:Code:=match Tryz.f21.body with
 |some c=>c
 |none=>.skip
noncomputable def o21:List Oper:=ANk c21 4
theorem H5 [Trk] [Sg] [Sf] {P:Program} [Se P] [Sl (P:=P)] [Anch] {w0 w:World} {Mu M:List Nat} {L:A7} {G:Gx} {N:Nat} {ds:List Deferred} {A B:A4} {X:Nat->A4} {Z:List PanicEntry->A4} {all l:List Oper} {σ σ':AS} {Y:Type} {o:Option Y} {x:Y} {K:Y->Option AS} (hG:GxOk P G) (n:Nat) (hH:Holds (P:=P) w0 Mu M σ L w) (hb:o=some x) (h:C6 G N all some (l.take n) σ=Option.bind o K) (hk:K x=some σ') (hA:∀ L' w',EnvS (C4 (l.take n)) L L'->Holds (P:=P) w0 Mu M σ' L' w'->Reg P N (List.toArray all) .seq (l.drop n) ds L' w' A B X Z):Reg P N (List.toArray all) .seq l ds L w A B X Z:=by
 have:=Holds.ops (P:=P) (A:=A) (B:=B) (X:=X) (Z:=Z) (ds:=ds) (l:=l.take n) (rest:=l.drop n) hG (by rw[h,hb];exact hk) hH hA
 rwa [List.take_append_drop] at this
noncomputable def r33:List Report:=[Report.mk 51 70 5 50 10 8 450 1,Report.mk 52 70 5 72 0 9 0 2]
noncomputable def s33 (σ:AS) (l:List Report):AS:=apps (some 50) ([.del 49 (.dat (.sl (.st 1)) r33)]++[.hnd 46 (.own false (.sl 45 (.st 1)) l),.put (.own 46)]) { σ with env:=(43,.bool true) :: σ.env }
theorem AV2 {M:List Nat} {w0 w:World} {L:A7} {σ:AS} (_:Holds (P:=Tryz.prog) w0 [] M σ L w) (e:C6 ALS Tryz.f21.ntmps o21 some (List.take 1 (List.drop 27 o21)) σ=AER ALS 50 (A1 σ.res) (fun l=>some (apps (some 50) l { σ with env:=(43,.bool true) :: σ.env })) .append [.own 46,.own 49] [24,24])
 (e2:AER ALS 50 (A1 σ.res) (fun l=>some (apps (some 50) l { σ with env:=(43,.bool true) :: σ.env })) .append [.own 46,.own 49] [24,24]=AMv 50 (A1 σ.res) (fun l=>some (apps (some 50) l { σ with env:=(43,.bool true) :: σ.env })) 45 (.st 1) 64 [.del 49 (.dat (.sl (.st 1)) r33)] [49] r33 (.own 46)) (e3:A1 σ.res 46=some (AR.own false (.sl 45 (.st 1)) D0.reports)) :
 C6 ALS Tryz.f21.ntmps o21 some (List.take 1 (List.drop 27 o21)) σ=Option.bind (appo 64 D0.reports r33) fun l=>some (s33 σ l):=by
 rw[e,e2]
 unfold AMv
 dsimp only
 rw[e3]
 kernel_rfl
theorem ALd [Trk] [Sg] [Sf] {P:Program} [Se P] [Anch] {w0 w:World} {Mu M:List Nat} {L:A7} {σ:AS} {env':List (Nat×SV)} {res':List (Nat×AR)} (h:Holds (P:=P) w0 Mu M σ L w) (hE:AllE σ.env env') (hr:σ.res=res'):Holds (P:=P) w0 Mu M ⟨env',res',[],[]⟩ L w:=AEo h hE fun j=>by rw[hr]
theorem ok21:Ctr.ok Tryz.prog 21 ctr21:=by
 refine⟨by decide,fun M w a vals r hM hg ha hr=>?_⟩
 have ha:vals=[]:=ha
 subst ha
 have hr:J1=some r:=hr
 unfold J1 at hr
 by_cases hA:ALR
 rotate_left
 . rw[if_neg hA] at hr;cases hr
 rw[if_pos hA] at hr
 cases hr
 obtain⟨l,x,due,a1,a2,a3,b1,b2,b3,b4,b5,b6,e1,e2,e3⟩:=hA
 have h0:Holds (P:=Tryz.prog) w [] M ⟨[],[],[],[]⟩ (R5 0 []) w:=Holds.start hM (fun t s ht=>by cases ht) ⟨trivial,hg⟩
 refine ABr (l:=[]) (fn:=Tryz.f21) Tryz.func21 rfl rfl rfl ?_
 refine A6 ?_
 refine ABD I3 (by exact rfl) h0 fun L1 w1 hE1 h1=>?_
 refine A6 ?_
 refine ABQ I3 h1 a1 (by exact rfl) (by exact rfl) fun L2 w2 hE2 h2=>?_
 refine A6 ?_
 refine ABQ I3 h2 a2 (by exact rfl) (by exact rfl) fun L3 w3 hE3 h3=>?_
 refine A6 ?_
 refine ABQ I3 h3 a3 (by exact rfl) (by exact rfl) fun L4 w4 hE4 h4=>?_
 refine A6 ?_
 refine A9 ?_
 show Reg Tryz.prog _ (List.toArray o21) .seq o21 _ _ _ _ _ _ _
 refine H5 I3 2 h4 b1 (by exact rfl) (by exact rfl) fun L5 w5 hE5 h5=>?_
 refine H5 I3 3 h5 b2 (by exact rfl) (by exact rfl) fun L6 w6 hE6 h6=>?_
 refine H5 I3 3 h6 b3 (by exact rfl) (by exact rfl) fun L7 w7 hE7 h7=>?_
 refine H5 I3 3 h7 b4 (by exact rfl) (by exact rfl) fun L8 w8 hE8 h8=>?_
 refine H5 I3 3 h8 b5 (by exact rfl) (by exact rfl) fun L9 w9 hE9 h9=>?_
 refine H5 I3 3 h9 b6 (by exact rfl) (by exact rfl) fun L10 w10 hE10 h10=>?_
 refine H5 I3 5 h10 (o:=some ()) (x:=()) (K:=fun _=>_) rfl (by exact rfl) (by exact rfl) fun L11 w11 hE11 h11=>?_
 have hg43:=h11.slotB (t:=43) (b:=true) rfl
 obtain⟨S,ρ,γ,μ,ι,hS⟩:=h11
 refine Reg.take (j:=20) (t:=43) rfl hg43 ?_
 refine Y2 (xs:=[]) (vs:=[]) rfl Tryz.call33 rfl ?_
 refine (C33 (M:=mm S M) hS.hp.mlt hS.anch.2).mono fun e w12 h=>?_
 obtain⟨vr,vx,va,rfl,hown,hnew,hext⟩:=h
 refine⟨_,rfl,?_⟩
 refine Reg.take (j:=20) (t:=43) rfl hg43 ?_
 refine ASG (cs:=[.int .i64 30,.int .i64 100,.int .i64 60,vr,vx,va]) rfl Tryz.underlying28 rfl Tryz.isAgg24 rfl rfl ?_
 obtain⟨q1,q2⟩:=AIQ (d:=none) hS hext (i:=46) (c:=.sl 45 (.st 1)) (x:=D0.reports) (v:=vr) ⟨trivial,hown,hnew⟩
 have h12:Holds (P:=Tryz.prog) w [] M _ _ w12:=⟨_,_,_,_,_,q1.put (d:=46) (s:=.own 46) (v:=vr) (q2 _)⟩
 have h13:=h12.toL (L2:=(46,vr) :: (45,.agg (List.toArray [.int .i64 30,.int .i64 100,.int .i64 60,vr,vx,va])) :: L11) (fun t s ht=>by
  have n45:¬ 45=t:=fun e=>by
   subst e
   cases (show none=some s from ht)
  by_cases e46:46=t
  . rw[look_cons,if_pos e46,look_cons,if_pos e46]
  . rw[look_cons,if_neg e46,look_cons,if_neg n45,look_cons,if_neg e46])
 have happ:appo 64 D0.reports r33=some l33:=ACf (by decide) (by decide)
 refine H5 I3 3 h13 (o:=some ()) (x:=()) (K:=fun _=>_) rfl (by exact rfl) (by exact rfl) fun L13 w13 hE13 h14=>?_
 refine H5 I3 1 h14 happ (AV2 h14 (by exact rfl) (by exact rfl) (by exact rfl)) rfl fun L14 w14 hE14 h15=>?_
 have h16:=ALd (env':=[(43,.bool true),(44,.own 9),(50,.own 46),(3,.own 15),(4,.int .i64 0),(5,.own 20),(6,.int .i64 0)]) (res':=[(46,.own false (.sl 45 (.st 1)) l33),(20,.own false (.sl 3 (.int .i64)) due),(15,.own false (.sl 70 (.st 6)) x),(9,.own false (.sl 45 (.st 1)) l)]) h15 ⟨by kernel_rfl,by kernel_rfl,by kernel_rfl,by kernel_rfl,by kernel_rfl,by kernel_rfl,by kernel_rfl,trivial⟩ (by kernel_rfl)
 clear h1 h2 h3 h4 h5 h6 h7 h8 h9 h10 h12 h13 h14 h15 q1 q2
 refine H5 I3 1 h16 e1 (by exact rfl) (by exact rfl) fun L17 w17 hE17 h17=>?_
 refine H5 I3 12 h17 e2 (by exact rfl) (by exact rfl) fun L18 w18 hE18 h18=>?_
 refine H5 I3 9 h18 e3 (by exact rfl) (by exact rfl) fun L19 w19 hE19 h19=>?_
 refine H5 I3 2 h19 (o:=some ()) (x:=()) (K:=fun _=>_) rfl (by exact rfl) (by exact rfl) fun L20 w20 hE20 h20=>?_
 refine Reg.nil ?_
 refine J7 ?_
 exact FinM.of (AK6 I3 (cs:=[.d .bool]) rfl (by exact rfl) h20)
end Go.Proofs.YtgioiejbphljoaaGreatDoor
set_option maxRecDepth 20000
set_option maxHeartbeats 4000000
namespace Go.Proofs.YtgioiejbphljoaaGreatDoor
open Go Go.Sx Go.Rx Go.RowKit
noncomputable def ALe (d:Desk) (day:Int) (which:Int):Option Bool:=Option.bind (J1) fun r1=>Option.bind (α:=(Bool)) (Option.bind (R3 d day) fun r3=>cond ((!r3)) (some true) (cond (decide ((d.disputes.length:Int)=0)) (some true) (some (!r1)))) ((fun x4=>cond (x4) (some r1) (Option.bind (chk .i64 which) fun n5=>Option.bind (remO n5 (d.disputes.length:Int)) fun n6=>Option.bind (ixo d.disputes n6) fun y7=>Option.bind (I1 d y7.id day) fun (r8,r9,r10)=>Option.bind (R4 d day) fun (r11,r12)=>Option.bind (α:=(Bool)) (cond ((!decide (r10=0))) (some true) (cond ((!decide (r12=0))) (some true) (cond (decide (r9 < y7.day)) (some true) (Option.bind (chk .i64 (y7.day+d.terms.answer)) fun n15=>Option.bind (chk .i64 (n15+1)) fun n16=>some (decide (n16 < r9)))))) ((fun x17=>cond (x17) (some false) (Option.bind (B6 (S:=(Bool×Int)) (R:=(Bool)) (fun (x23,x24)=>cond (decide (x24 < (r11.length:Int))) (Option.bind (ixo r11 x24) fun y25=>Option.bind (α:=(Bool)) (cond (x23) (some true) (some (decide (y25=y7.id)))) ((fun x26=>Option.bind (chk .i64 (x24+1)) fun n27=>some (Sum.inl (x26,n27))))) (some (Sum.inr x23))) (false,(0:Int))) ((fun x28=>Option.bind (α:=(Bool)) (cond ((!(x28==(decide (r8=1))))) (some true) (cond ((!((decide (r8=0))==(decide (day < y7.day))))) (some true) (cond ((!((decide (1 < r8))==(decide (r9<=day))))) (some true) (some (decide (5 < r8)))))) ((fun x29=>cond (x29) (some false) (Option.bind (B6 (S:=(Int×Int)) (R:=((Int)⊕Bool)) (fun (x46,x47)=>cond (decide (x46 < (d.answers.length:Int))) (Option.bind (α:=((Int)⊕Bool)) (Option.bind (ixo d.answers x46) fun y48=>Option.bind (α:=(Bool)) (cond ((!decide (y48.dispute=y7.id))) (some true) (cond (decide (y48.day < y7.day)) (some true) (Option.bind (chk .i64 (y7.day+d.terms.answer)) fun n49=>some (decide (n49 < y48.day))))) ((fun x50=>cond (x50) (some (Sum.inl x47)) (cond (decide (y48.day < r9)) (some (Sum.inr false)) (Option.bind (α:=(Bool)) (cond (decide (y48.day=r9)) (some (decide (x47=0))) (some false)) ((fun x51=>Option.bind (α:=(Int)) (cond (x51) (some y48.says) (some x47)) ((fun x52=>some (Sum.inl x52)))))))))) ((Sum.elim (fun x53=>Option.bind (chk .i64 (x46+1)) fun n54=>some (Sum.inl (n54,x53))) (fun r55=>some (Sum.inr (Sum.inr r55)))))) (some (Sum.inr (Sum.inl x47)))) ((0:Int),(0:Int))) ((Sum.elim (fun x56=>Option.bind (chk .i64 (y7.day+d.terms.answer)) fun n57=>Option.bind (chk .i64 (n57+1)) fun n58=>cond ((!((decide (x56=0))==(decide (r9=n58))))) (some false) (Option.bind (α:=(Bool)) (cond (r1) (cond (decide (r8<=1)) (some true) (some ((decide (x56=0))==(decide (r8=5))))) (some false)) ((fun x59=>some x59)))) (fun r60=>some r60))))))))))))))
noncomputable def Z3 (d:Desk) (asked:(List Asked)) (day:Int):Option Bool:=Option.bind (J1) fun r1=>Option.bind (α:=(Bool)) (Option.bind (R3 d day) fun r4=>cond ((!r4)) (some true) (Option.bind (N8 asked) fun r5=>cond ((!r5)) (some true) (some (!r1)))) ((fun x6=>cond (x6) (some r1) (Option.bind (G1 d asked day) fun (r7,r8)=>Option.bind (J6 d day) fun (r9,r10)=>cond ((!decide (r10=0))) (Option.bind (α:=(Bool)) (cond (r1) (cond (decide (r10=9)) (cond (decide (r8=9)) (some (decide ((r7.length:Int)=0))) (some false)) (some false)) (some false)) ((fun x11=>some x11))) (cond ((!decide (r8=0))) (some false) (Option.bind (B6 (S:=(Int)) (R:=(Unit⊕Bool)) (fun x22=>cond (decide (x22 < (r7.length:Int))) (Option.bind (ixo r7 x22) fun y23=>Option.bind (α:=(Bool)) (cond (decide (0 < x22)) (Option.bind (chk .i64 (x22 - 1)) fun n24=>Option.bind (ixo r7 n24) fun y25=>cond (decide (y23.dispute < y25.dispute)) (some true) (Option.bind (chk .i64 (x22 - 1)) fun n26=>Option.bind (ixo r7 n26) fun y27=>cond (decide (y23.dispute=y27.dispute)) (Option.bind (chk .i64 (x22 - 1)) fun n28=>Option.bind (ixo r7 n28) fun y29=>some (decide (y23.who<=y29.who))) (some false))) (some false)) ((fun x30=>cond (x30) (some (Sum.inr (Sum.inr false))) (Option.bind (chk .i64 (x22+1)) fun n31=>some (Sum.inl n31))))) (some (Sum.inr (Sum.inl ())))) (0:Int)) ((Sum.elim (fun _=>Option.bind (B6 (S:=((List Report)×Int×Int)) (R:=((Int)⊕Bool)) (fun (x277,x278,x279)=>cond (decide (x278 < (d.disputes.length:Int))) (Option.bind (α:=((Int)⊕Bool)) (Option.bind (ixo d.disputes x278) fun y280=>Option.bind (I1 d y280.id day) fun (r281,r282,r283)=>cond ((!decide (r283=0))) (some (Sum.inr false)) (cond (decide (r281<=2)) (some (Sum.inl x279)) (Option.bind (E1 x277 r282) fun (r284,r285)=>cond ((!decide (r285=0))) (some (Sum.inr false)) (Option.bind (K9 r284 y280.report) fun (r286,r287)=>Option.bind (K9 d.reports y280.report) fun (r288,r289)=>Option.bind (B6 (S:=(Int×(A3 Int Int))) (R:=(((A3 Int Int))⊕Bool)) (fun (x290,x291)=>cond (decide (x290 < (asked.length:Int))) (Option.bind (α:=(((A3 Int Int))⊕Bool)) (Option.bind (ixo asked x290) fun y292=>Option.bind (α:=(Bool)) (cond ((!decide (y292.account=r288.account))) (some true) (cond (decide (r282<=y292.day)) (some true) (Option.bind (chk .i64 (r282 - d.terms.lately)) fun n293=>some (decide (y292.day < n293))))) ((fun x294=>cond (x294) (some (Sum.inl x291)) (Option.bind (E1 x277 y292.day) fun (r295,r296)=>cond ((!decide (r296=0))) (some (Sum.inr false)) (Option.bind (K9 r295 y280.report) fun (r297,r298)=>Option.bind (α:=(Bool)) (cond ((!r298)) (some true) (cond (decide (y292.day < r297.about)) (some true) (cond (r287) (cond (decide (r297.about=r286.about)) (some (decide (r297.cents=r286.cents))) (some false)) (some false)))) ((fun x299=>cond (x299) (some (Sum.inl x291)) (Option.bind (α:=((A3 Int Int))) (cond ((!((x291 y292.who).isSome))) (some (B5 x291 y292.who y292.id)) (some x291)) ((fun x300=>some (Sum.inl x300))))))))))) ((Sum.elim (fun x301=>Option.bind (chk .i64 (x290+1)) fun n302=>some (Sum.inl (n302,x301))) (fun r303=>some (Sum.inr (Sum.inr r303)))))) (some (Sum.inr (Sum.inl x291)))) ((0:Int),(fnone:(A3 Int Int)))) ((Sum.elim (fun x304=>Option.bind (chk .i64 (AFG x304)) fun n305=>Option.bind (chk .i64 (x279+n305)) fun n306=>Option.bind (B6 (S:=(Int)) (R:=(Unit⊕Bool)) (fun x307=>cond (decide (x307 < (r7.length:Int))) (Option.bind (ixo r7 x307) fun y308=>Option.bind (α:=(Bool)) (cond (decide (y308.dispute=y280.id)) (cond ((!((x304 y308.who).isSome))) (some true) (some (!decide (((x304 y308.who).getD 0)=y308.asked)))) (some false)) ((fun x309=>cond (x309) (some (Sum.inr (Sum.inr false))) (Option.bind (chk .i64 (x307+1)) fun n310=>some (Sum.inl n310))))) (some (Sum.inr (Sum.inl ())))) (0:Int)) ((Sum.elim (fun _=>some (Sum.inl n306)) (fun r311=>some (Sum.inr r311))))) (fun r312=>some (Sum.inr r312)))))))) ((Sum.elim (fun x313=>Option.bind (chk .i64 (x278+1)) fun n314=>some (Sum.inl (x277,n314,x313))) (fun r315=>some (Sum.inr (Sum.inr r315)))))) (some (Sum.inr (Sum.inl x279)))) (r9,(0:Int),(0:Int))) ((Sum.elim (fun x316=>Option.bind (α:=(Bool)) (cond (r1) (some (decide (x316=(r7.length:Int)))) (some false)) ((fun x317=>some x317))) (fun r318=>some r318)))) (fun r319=>some r319))))))))
def an6:An:=.nd (.x) (.nd (.x) (.nd (.nd (.jn [.norm ⟨[(.slot 52,.d .bool)],[3]⟩] (.x)) (.x)) (.nd (.x) (.nd (.x) (.nd (.nd (.x) (.nd (.nd (.jn [.norm ⟨[(.slot 6,.d .bool)],[]⟩] (.x)) (.x)) (.x))) (.nd (.x) (.nd (.nd (.x) (.lp ⟨[(.slot 87,.d (.int .i64))],[64,58,3]⟩ [.exit 0 ⟨[],[64,58,3]⟩,.ret] (.nd (.x) (.nd (.x) (.nd (.nd (.x) (.nd (.jn [.norm ⟨[(.slot 126,.d .bool)],[64,58,3]⟩] (.x)) (.x))) (.x)))))) (.nd (.x) (.nd (.nd (.x) (.lp ⟨[(.slot 10,.d (.sl (.st 1))),(.slot 131,.d (.int .i64)),(.slot 14,.d (.int .i64))],[58,3]⟩ [.exit 2 ⟨[(.slot 14,.d (.int .i64))],[58]⟩,.ret] (.nd (.x) (.nd (.x) (.nd (.jn [.norm ⟨[(.slot 14,.d (.int .i64))],[58,3]⟩,.ret] (.nd (.x) (.nd (.x) (.nd (.x) (.nd (.x) (.nd (.x) (.nd (.x) (.nd (.x) (.nd (.x) (.nd (.x) (.nd (.nd (.x) (.lp ⟨[(.slot 174,.d (.int .i64)),(.cont 148,.own (.mp 3 (.int .i64) (.int .i64)))],[25,23,148,16,58,3]⟩ [.exit 4 ⟨[(.cont 148,.own (.mp 3 (.int .i64) (.int .i64)))],[148,16,58,3]⟩,.ret] (.nd (.x) (.nd (.x) (.nd (.jn [.norm ⟨[(.cont 148,.own (.mp 3 (.int .i64) (.int .i64)))],[25,23,148,16,58,3]⟩,.ret] (.nd (.x) (.nd (.nd (.jn [.norm ⟨[(.slot 198,.d .bool)],[28,25,23,148,16,58,3]⟩] (.x)) (.x)) (.nd (.x) (.nd (.x) (.nd (.x) (.nd (.nd (.jn [.norm ⟨[(.slot 240,.d .bool)],[28,25,23,148,16,58,3]⟩] (.x)) (.x)) (.nd (.x) (.nd (.x) (.jn [.norm ⟨[(.cont 148,.own (.mp 3 (.int .i64) (.int .i64)))],[25,23,148,16,58,3]⟩] (.x))))))))))) (.x)))))) (.nd (.x) (.nd (.x) (.lp ⟨[(.slot 262,.d (.int .i64))],[148,16,58,3]⟩ [.exit 6 ⟨[],[58,3]⟩,.ret] (.nd (.x) (.nd (.x) (.nd (.nd (.x) (.nd (.x) (.nd (.jn [.norm ⟨[(.slot 287,.d .bool)],[148,16,58,3]⟩] (.x)) (.x)))) (.x)))))))))))))))))) (.x)))))) (.nd (.jn [.norm ⟨[(.slot 6,.d .bool)],[]⟩] (.x)) (.x)))))))))))
noncomputable def AXS:Ctr:=⟨[.d (.st 4),.d (.sl (.st 5)),.d (.int .i64)],[.d .bool],fun a=>Z3 a.1 a.2.1 a.2.2.1⟩
theorem ok6:Ctr.ok Tryz.prog 6 AXS:=B0 (G:={ gxb with fs:=[(14,ctr14),(16,ctr16),(21,ctr21),(22,ctr22),(23,ctr23),(25,ctr25),(29,ctr29),(30,ctr30)] }) (an:=an6) (B1 ⟨⟨ok14,Tryz.call14⟩,⟨⟨ok16,Tryz.call16⟩,⟨⟨ok21,Tryz.call21⟩,⟨⟨ok22,Tryz.call22⟩,⟨⟨ok23,Tryz.call23⟩,⟨⟨ok25,Tryz.call25⟩,⟨⟨ok29,Tryz.call29⟩,⟨⟨ok30,Tryz.call30⟩,trivial⟩⟩⟩⟩⟩⟩⟩⟩) Tryz.func6 rfl rfl rfl rfl (fun a=>by kernel_rfl)
noncomputable def Y1 (d:Desk) (day:Int) (which:Int):Option Bool:=Option.bind (J1) fun r1=>Option.bind (α:=(Bool)) (Option.bind (R3 d day) fun r3=>cond ((!r3)) (some true) (cond (decide ((d.disputes.length:Int)=0)) (some true) (some (!r1)))) ((fun x4=>cond (x4) (some r1) (Option.bind (chk .i64 which) fun n5=>Option.bind (remO n5 (d.disputes.length:Int)) fun n6=>Option.bind (ixo d.disputes n6) fun y7=>Option.bind (I1 d y7.id day) fun (r8,r9,r10)=>Option.bind (J6 d day) fun (r11,r12)=>cond ((!decide (r10=0))) (some false) (cond ((!decide (r12=0))) (Option.bind (α:=(Bool)) (cond (r1) (some (decide (r12=9))) (some false)) ((fun x13=>some x13))) (Option.bind (E1 d.reports day) fun (r14,r15)=>Option.bind (E1 r11 day) fun (r16,r17)=>Option.bind (α:=(Bool)) (cond ((!decide (r15=0))) (some true) (some (!decide (r17=0)))) ((fun x18=>cond (x18) (some false) (Option.bind (K9 r14 y7.report) fun (r19,r20)=>Option.bind (K9 r16 y7.report) fun (r21,r22)=>Option.bind (α:=(Bool)) (cond (decide (r8=4)) (some (decide (r8=4))) (some (decide (r8=5)))) ((fun x23=>cond (x23) (Option.bind (K1 r11 y7.report day) fun (r24,r25,r26)=>Option.bind (α:=(Bool)) (cond (r1) (cond ((!r22)) (cond (decide (r26=0)) (some (decide (r24=2))) (some false)) (some false)) (some false)) ((fun x27=>some x27))) (cond (decide (r8=3)) (Option.bind (K1 r11 y7.id day) fun (r28,r29,r30)=>Option.bind (K1 r11 y7.report day) fun (r31,r32,r33)=>Option.bind (α:=(Bool)) (cond ((!decide (r30=0))) (some true) (some (!decide (r33=0)))) ((fun x34=>cond (x34) (some false) (Option.bind (α:=(Bool)) (cond ((!r22)) (some true) (some (decide (r28=2)))) ((fun x35=>cond (x35) (Option.bind (α:=(Bool)) (cond (r1) (some (r22==(!decide (r31=2)))) (some false)) ((fun x36=>some x36))) (Option.bind (K9 r11 r32) fun (r37,r38)=>Option.bind (α:=(Bool)) (cond ((!decide (r31=1))) (some true) (cond ((!r38)) (some true) (cond (decide (r37.made < r9)) (some true) (cond (decide (r37.made=r9)) (some (decide (r37.id < y7.id))) (some false))))) ((fun x39=>cond (x39) (some false) (cond ((!decide (r32=y7.id))) (Option.bind (α:=(Bool)) (cond (r1) (some (decide (r28=3))) (some false)) ((fun x40=>some x40))) (Option.bind (B6 (S:=(Int)) (R:=(Unit⊕Bool)) (fun x41=>cond (decide (x41 < (d.answers.length:Int))) (Option.bind (ixo d.answers x41) fun y42=>Option.bind (α:=(Bool)) (cond (decide (y42.dispute=y7.id)) (cond (decide (y42.day=r9)) (cond (decide (y42.says=2)) (cond (decide (y42.about=r21.about)) (some (decide (y42.cents=r21.cents))) (some false)) (some false)) (some false)) (some false)) ((fun x43=>cond (x43) (Option.bind (α:=(Bool)) (cond (r1) (some (decide (r28=4))) (some false)) ((fun x44=>some (Sum.inr (Sum.inr x44))))) (Option.bind (chk .i64 (x41+1)) fun n45=>some (Sum.inl n45))))) (some (Sum.inr (Sum.inl ())))) (0:Int)) ((Sum.elim (fun _=>some false) (fun r46=>some r46)))))))))))))) (Option.bind (B6 (S:=(Int)) (R:=(Unit⊕Bool)) (fun x55=>cond (decide (x55 < (d.disputes.length:Int))) (Option.bind (ixo d.disputes x55) fun y56=>Option.bind (I1 d y56.id day) fun (r57,r58,r59)=>Option.bind (α:=(Bool)) (cond ((!decide (r59=0))) (some true) (cond (decide (y56.report=y7.report)) (some (decide (2 < r57))) (some false))) ((fun x60=>cond (x60) (Option.bind (α:=(Bool)) (cond (r1) (some (decide (r59=0))) (some false)) ((fun x61=>some (Sum.inr (Sum.inr x61))))) (Option.bind (chk .i64 (x55+1)) fun n62=>some (Sum.inl n62))))) (some (Sum.inr (Sum.inl ())))) (0:Int)) ((Sum.elim (fun _=>Option.bind (α:=(Bool)) (cond (r1) (cond ((r20==r22)) (some (decide (r19=r21))) (some false)) (some false)) ((fun x63=>some x63))) (fun r64=>some r64)))))))))))))))
def an9:An:=.nd (.x) (.nd (.x) (.nd (.nd (.jn [.norm ⟨[(.slot 54,.d .bool)],[3]⟩] (.x)) (.x)) (.nd (.x) (.nd (.x) (.nd (.x) (.nd (.x) (.nd (.nd (.x) (.nd (.nd (.jn [.norm ⟨[(.slot 6,.d .bool)],[]⟩] (.x)) (.x)) (.x))) (.nd (.x) (.nd (.x) (.nd (.nd (.jn [.norm ⟨[(.slot 108,.d .bool)],[100,94,8,3]⟩] (.x)) (.x)) (.nd (.x) (.nd (.x) (.nd (.nd (.x) (.nd (.nd (.x) (.jn [.norm ⟨[(.slot 124,.d .bool)],[20,18,8,3]⟩] (.x))) (.nd (.nd (.x) (.nd (.jn [.norm ⟨[(.slot 6,.d .bool)],[]⟩] (.x)) (.x))) (.nd (.x) (.nd (.nd (.x) (.nd (.x) (.nd (.nd (.jn [.norm ⟨[(.slot 174,.d .bool)],[20,8,3]⟩] (.x)) (.x)) (.nd (.nd (.jn [.norm ⟨[(.slot 180,.d .bool)],[20,8,3]⟩] (.x)) (.nd (.nd (.jn [.norm ⟨[(.slot 6,.d .bool)],[]⟩] (.x)) (.x)) (.x))) (.nd (.x) (.nd (.nd (.jn [.norm ⟨[(.slot 218,.d .bool)],[20,8,3]⟩] (.x)) (.x)) (.nd (.nd (.x) (.nd (.nd (.jn [.norm ⟨[(.slot 6,.d .bool)],[]⟩] (.x)) (.x)) (.x))) (.nd (.nd (.x) (.lp ⟨[(.slot 231,.d (.int .i64))],[20,8]⟩ [.exit 1 ⟨[],[]⟩,.ret] (.nd (.x) (.nd (.x) (.nd (.nd (.x) (.nd (.jn [.norm ⟨[(.slot 264,.d .bool)],[20,8]⟩] (.x)) (.nd (.nd (.jn [.norm ⟨[(.slot 6,.d .bool)],[]⟩] (.x)) (.x)) (.x)))) (.x)))))) (.x))))))))) (.x)))))) (.nd (.nd (.x) (.lp ⟨[(.slot 274,.d (.int .i64))],[20,18,8,3]⟩ [.exit 3 ⟨[],[20,18]⟩,.ret] (.nd (.x) (.nd (.x) (.nd (.nd (.x) (.nd (.x) (.nd (.jn [.norm ⟨[(.slot 299,.d .bool)],[20,18,8,3]⟩] (.x)) (.nd (.nd (.jn [.norm ⟨[(.slot 6,.d .bool)],[]⟩] (.x)) (.x)) (.x))))) (.x)))))) (.nd (.jn [.norm ⟨[(.slot 6,.d .bool)],[]⟩] (.x)) (.x))))))))))))))))
noncomputable def AXT:Ctr:=⟨[.d (.st 4),.d (.int .i64),.d (.int .u8)],[.d .bool],fun a=>Y1 a.1 a.2.1 a.2.2.1⟩
theorem ok9:Ctr.ok Tryz.prog 9 AXT:=B0 (G:={ gxb with fs:=[(14,ctr14),(21,ctr21),(22,ctr22),(23,ctr23),(29,ctr29),(30,ctr30),(35,ctr35)] }) (an:=an9) (B1 ⟨⟨ok14,Tryz.call14⟩,⟨⟨ok21,Tryz.call21⟩,⟨⟨ok22,Tryz.call22⟩,⟨⟨ok23,Tryz.call23⟩,⟨⟨ok29,Tryz.call29⟩,⟨⟨ok30,Tryz.call30⟩,⟨⟨ok35,Tryz.call35⟩,trivial⟩⟩⟩⟩⟩⟩⟩) Tryz.func9 rfl rfl rfl rfl (fun a=>by kernel_rfl)
end Go.Proofs.YtgioiejbphljoaaGreatDoor
set_option maxRecDepth 20000
set_option maxHeartbeats 1000000
set_option linter.unusedVariables false
namespace Go.Proofs.YtgioiejbphljoaaGreatDoor
open Go Go.Sx Go.Rx
namespace S
theorem D0_VL:VL D0.reports:=by
 refine⟨by decide,fun r hr=>?_,fun a ha b hb e=>?_⟩
 . have h:∀ r∈D0.reports,V r:=by unfold V;decide +kernel
   exact h r hr
 . have h:∀ a∈D0.reports,∀ b∈D0.reports,a.id=b.id->a=b:=by decide +kernel
   exact h a ha b hb e
theorem ADa:Vd D0:=by
 refine⟨?_,D0_VL,⟨by decide,fun x hx=>?_,by decide +kernel⟩,⟨by decide,fun a ha=>?_,by decide +kernel⟩⟩
 . unfold TV;decide +kernel
 . have h:∀ x∈D0.disputes,((0<=x.id/\x.id<=999999)/\(∀ r∈D0.reports,r.id≠x.id))/\(match Z9 D0.reports x.report with
    |none=>false
    |some f=>decide (f.made<=x.day/\x.day<=100000 - D0.terms.answer - 1))=true:=by decide +kernel
   obtain⟨h1,h2⟩:=h x hx
   cases hf:Z9 D0.reports x.report with
   |none=>rw[hf] at h2;cases h2
   |some f=>rw[hf] at h2;exact⟨h1.1,h1.2,f,hf,of_decide_eq_true h2⟩
 . have h:∀ a∈D0.answers,(0<=a.id/\a.id<=999999)/\(0<=a.day/\a.day<=100000)/\(1<=a.says/\a.says<=3)/\∃ x∈D0.disputes,x.id=a.dispute/\(a.says≠2->a.about=0/\a.cents=0)/\(a.says=2->(match Z9 D0.reports x.report with
    |none=>true
    |some f=>decide ((0<=a.about/\a.about<=100000)/\0<=a.cents/\a.cents<=most f.kind))=true):=by decide +kernel
   obtain⟨h1,h2,h3,x,h4,h5,h6,h7⟩:=h a ha
   refine⟨h1,h2,h3,x,h4,h5,h6,fun e f hf=>?_⟩
   have:=h7 e
   rw[hf] at this
   exact of_decide_eq_true this
theorem ANl {i day w n:Int} {x:Dispute} (hx:x∈D0.disputes) (hi:x.id=i) (hd:0<=day/\day<=100000) (h1:wh D0 x day=w) (h2:(dec D0 x).day=n):AAY i day w n=some true:=by
 unfold AAY
 rw[show AAJ=some D0 from rfl,bindS,<-hi,AGI ADa hx hd,bindS]
 dsimp only
 rw[decide_eq_true (show (0:Int)=0 from rfl),decide_eq_true h1,decide_eq_true h2]
 rfl
theorem AIm {i day m:Int} (hd:0<=day/\day<=100000) (h1:(Z9 D0.reports i).isSome=true) (h2:AH5 D0 i day=m):P1 i day m=some true:=by
 unfold P1
 rw[show AAJ=some D0 from rfl,bindS,ATm ADa hd,if_pos h1,bindS]
 dsimp only
 rw[decide_eq_true (show (0:Int)=0 from rfl),decide_eq_true h2]
 rfl
theorem ALT {a:List Report} (hl:a.length<=1000000):Q3 a a=some true:=by
 refine Ret.eq ?_
 unfold Q3
 refine Ret.condF (by simp) (Ret.bind (C2 a.length (fun n (t:Int)=>t=n) rfl ?_ ?_))
 . rintro n hlt _ rfl
   exact Ret.condT (V7 hlt) (Ret.bind (K2 hlt (Ret.bind (K2 hlt (Ret.condF (by simp) (Ret.bind (Ret.chk (by omega) (Ret.next (by omega)))))))))
 . rintro _ rfl
   exact Ret.condF (Y6 (Nat.le_refl _)) (Ret.done (B8 (Ret.ok rfl)))
theorem ALU {a:List Letter} (hl:a.length<=1000000):Q4 a a=some true:=by
 refine Ret.eq ?_
 unfold Q4
 refine Ret.condF (by simp) (Ret.bind (C2 a.length (fun n (t:Int)=>t=n) rfl ?_ ?_))
 . rintro n hlt _ rfl
   exact Ret.condT (V7 hlt) (Ret.bind (K2 hlt (Ret.bind (K2 hlt (Ret.condF (by simp) (Ret.bind (Ret.chk (by omega) (Ret.next (by omega)))))))))
 . rintro _ rfl
   exact Ret.condF (Y6 (Nat.le_refl _)) (Ret.done (B8 (Ret.ok rfl)))
theorem AOy {a:List Int} (hl:a.length<=1000000):X3 a a=some true:=by
 refine Ret.eq ?_
 unfold X3
 refine Ret.condF (by simp) (Ret.bind (C2 a.length (fun n (t:Int)=>t=n) rfl ?_ ?_))
 . rintro n hlt _ rfl
   exact Ret.condT (V7 hlt) (Ret.bind (K2 hlt (Ret.bind (K2 hlt (Ret.condF (by simp) (Ret.bind (Ret.chk (by omega) (Ret.next (by omega)))))))))
 . rintro _ rfl
   exact Ret.condF (Y6 (Nat.le_refl _)) (Ret.done (B8 (Ret.ok rfl)))
theorem AEE {α:Type} {k1 k2:α->Int} {a b:α} (h:decide (k1 a < k1 b\/k1 a=k1 b/\k2 a<=k2 b)=true):le2 k1 k2 a b:=of_decide_eq_true (p:=k1 a < k1 b\/k1 a=k1 b/\k2 a<=k2 b) h
theorem AT9:AFl D0 72 (l33,0):=by
 refine .inr ⟨by decide +kernel,[Report.mk 51 70 5 50 10 8 450 1,Report.mk 52 70 5 72 0 9 0 2],?_,?_,rfl⟩
 . rw[show ABS D0 72=[Report.mk 51 70 5 50 10 8 450 1,Report.mk 52 70 5 72 0 9 0 2] from by kernel_rfl]
 . exact .cons (fun b hb=>by rw[List.mem_singleton.1 hb];exact AEE (by decide)) (List.pairwise_singleton _ _)
theorem AV3:AskV A0:=by
 refine⟨by decide,?_,?_⟩
 . decide +kernel
 . intro n h
   have h4:n+1 < 4:=h
   have:n=0\/n=1\/n=2:=by omega
   rcases this with rfl|rfl|rfl
   . exact (by decide:(5:Int) < 6)
   . exact (by decide:(6:Int) < 7)
   . exact (by decide:(7:Int) < 8)
def L0:List Letter:=[Letter.mk 51 900 5,Letter.mk 52 900 6,Letter.mk 52 901 7]
theorem AXU:AFn D0 l33 A0 72=B5 (B5 (B5 (B5 fnone (51,900) 6) (51,900) 5) (52,901) 7) (52,900) 6:=by kernel_rfl
theorem AXV:LetS (AFn D0 l33 A0 72) L0:=by
 rw[AXU]
 refine⟨fun z=>?_,by decide,?_⟩
 . obtain⟨a,b,c⟩:=z
   unfold L0 B5 fnone
   simp only[List.mem_cons,List.not_mem_nil,or_false,Letter.mk.injEq,Prod.mk.injEq]
   split
   . rename_i h
     simp[h.1,h.2,eq_comm]
   . rename_i h1
     split
     . rename_i h
       simp[h.1,h.2,eq_comm]
     . rename_i h2
       split
       . rename_i h
         simp[h.1,h.2,eq_comm]
       . rename_i h3
         simp;omega
 . unfold L0
   refine .cons (fun b hb=>?_) (.cons (fun b hb=>?_) (List.pairwise_singleton _ _))
   . simp only[List.mem_cons,List.not_mem_nil,or_false] at hb
     rcases hb with rfl|rfl <;> exact AEE (by decide)
   . rw[List.mem_singleton.1 hb];exact AEE (by decide)
theorem AV4:ANY D0 45 [51,52,53]:=by
 refine⟨D0.disputes,.refl _,?_,by decide +kernel⟩
 show List.Pairwise _ [Dispute.mk 51 1 40,Dispute.mk 52 2 41,Dispute.mk 53 3 42]
 refine .cons (fun b hb=>?_) (.cons (fun b hb=>?_) (List.pairwise_singleton _ _))
 . simp only[List.mem_cons,List.not_mem_nil,or_false] at hb
   rcases hb with rfl|rfl <;> exact AEE (by decide)
 . rw[List.mem_singleton.1 hb];exact AEE (by decide)
theorem AQJ {d:Desk} (hv:Vd d) {day:Int} {a b:List Int} (ha:ANY d day a) (hb:ANY d day b):a=b:=by
 obtain⟨m,h1,h2,rfl⟩:=ha
 obtain⟨m',h3,h4,rfl⟩:=hb
 rw[AEt (h1.trans h3.symm) h2 h4 fun x y hx hy _ e=>AAL hv.x.nd x y (h1.mem_iff.1 hx) (h1.mem_iff.1 hy) e]
theorem AQK:ALR:=by
 have d1:Dispute.mk 51 1 40∈D0.disputes:=.head _
 have d2:Dispute.mk 52 2 41∈D0.disputes:=.tail _ (.head _)
 have d3:Dispute.mk 53 3 42∈D0.disputes:=.tail _ (.tail _ (.head _))
 have a1:J6 D0 72=some (l33,0):=by
  obtain⟨r,h1,h2⟩:=AHG ADa (day:=72) (by decide)
  rw[h1,AHH ADa h2 AT9]
 have a2:G1 D0 A0 72=some (L0,0):=by
  obtain⟨r,h1,z,h2,h3⟩:=AJK ADa AV3 (day:=72) (by decide)
  have hz:=AHH ADa h2 AT9
  subst hz
  rcases h3 with⟨h4,_⟩|⟨_,h4,h5⟩
  . cases h4
  . obtain⟨x,e⟩:=r
    have h4:e=0:=h4
    subst h4
    have hx:x=L0:=ALO h5 AXV
    rw[h1,hx]
 have a3:R4 D0 45=some ([51,52,53],0):=by
  obtain⟨r,h1,h2,h3⟩:=AVw ADa (day:=45) (by decide)
  obtain⟨x,e⟩:=r
  have h2:e=0:=h2
  subst h2
  have hx:x=[51,52,53]:=AQJ ADa h3 AV4
  rw[h1,hx]
 refine⟨l33,L0,[51,52,53],a1,a2,a3,ANl d1 rfl (by decide) (by kernel_rfl) (by kernel_rfl),ANl d2 rfl (by decide) (by kernel_rfl) (by kernel_rfl),ANl d3 rfl (by decide) (by kernel_rfl) (by kernel_rfl),AIm (by decide) (by kernel_rfl) (by kernel_rfl),AIm (by decide) (by kernel_rfl) (by kernel_rfl),AIm (by decide) (by kernel_rfl) (by kernel_rfl),ALT (by decide),ALU (by decide),AOy (by decide)⟩
theorem AMd:J1=some true:=if_pos AQK
end S
end Go.Proofs.YtgioiejbphljoaaGreatDoor
