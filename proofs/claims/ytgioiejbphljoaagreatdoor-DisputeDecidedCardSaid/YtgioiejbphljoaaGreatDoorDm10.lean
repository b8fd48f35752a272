/-
  Part 10 of the texts that the statement's proof stands on: what memory holds, how code is walked, what the functions reckon. In the order in which they build.
-/
import Derived.Test.YtgioiejbphljoaaGreatDoorDm9
set_option linter.unusedVariables false
set_option linter.unusedSectionVars false
set_option maxRecDepth 20000
set_option maxHeartbeats 1000000
set_option linter.unusedVariables false
namespace Go.Proofs.YtgioiejbphljoaaGreatDoor
open Go Go.Sx Go.Rx
namespace S
def ANA (r o:Report):Bool:=decide (o.id=r.of_/\o.source=r.source/\o.account=r.account)
def wdB (K:List Report) (i:Int) (r:Report):Bool:=decide (r.kind=9/\r.of_=i)&&K.any fun o=>ANA r o&&decide (o.kind≠9)
def AJH (K:List Report) (i:Int):Bool:=K.any (wdB K i)
def coB (K:List Report) (o r:Report):Bool:=decide (r.kind=8/\0<=r.cents/\r.cents<=most o.kind)&&(ANA r o&&!AJH K r.id)
def AKv (K:List Report) (o:Report) (z:Option Report) (r:Report):Option Report:=if coB K o r then match z with
 |none=>some r
 |some y=>if y.made < r.made\/y.made=r.made/\y.id < r.id then some r else some y else z
def ANB (K:List Report) (o:Report):Option Report:=K.foldl (AKv K o) none
def fix (K:List Report) (o:Report):Report:=match ANB K o with
 |none=>o
 |some c=>Report.mk o.id o.source o.account o.made c.about o.kind c.cents o.of_
def T (K:List Report):List Report:=(K.filter fun o=>decide (o.kind<=7)&&!AJH K o.id).map (fix K)
theorem AL3 {K:List Report} {i:Int} {r:Report} (hr:r∈K):wdB K i r=true↔Wd K i r:=by
 unfold wdB Wd Aim ANA
 rw[Bool.and_eq_true,decide_eq_true_iff,List.any_eq_true]
 constructor
 . rintro⟨⟨h1,h2⟩,o,h3,h4⟩
   rw[Bool.and_eq_true,decide_eq_true_iff,decide_eq_true_iff] at h4
   exact⟨hr,h1,h2,o,⟨h3,h4.1⟩,h4.2⟩
 . rintro⟨_,h1,h2,o,⟨h3,h4⟩,h5⟩
   exact⟨⟨h1,h2⟩,o,h3,by rw[Bool.and_eq_true,decide_eq_true_iff,decide_eq_true_iff];exact⟨h4,h5⟩⟩
theorem AGx {K:List Report} {i:Int}:AJH K i=false↔WdR K i none:=by
 unfold AJH WdR Least
 rw[List.any_eq_false]
 constructor
 . intro h r hr hw;exact h r hr ((AL3 hr).2 hw)
 . intro h r hr hw;exact h r hr ((AL3 hr).1 hw)
theorem AL4 {K:List Report} {o r:Report} (ho:o∈K):coB K o r=true↔Co K o r:=by
 unfold coB Co Aim ANA
 rw[Bool.and_eq_true,Bool.and_eq_true,decide_eq_true_iff,decide_eq_true_iff,Bool.not_eq_true',AGx]
 constructor
 . rintro⟨⟨h1,h2⟩,h3,h4⟩;exact⟨h1,⟨ho,h3⟩,h2,h4⟩
 . rintro⟨h1,⟨_,h3⟩,h2,h4⟩;exact⟨⟨h1,h2⟩,h3,h4⟩
theorem AGC {K:List Report} {o:Report} (ho:o∈K):Latest (Co K o) K (ANB K o):=by
 have key:∀ (l p:List Report) (z:Option Report),Latest (Co K o) p z->Latest (Co K o) (p++l) (l.foldl (AKv K o) z):=by
  intro l
  induction l with
  |nil=>intro p z h;simpa using h
  |cons r l ih=>
   intro p z h
   have:p++r :: l=(p++[r])++l:=by simp
   rw[this]
   refine ih _ _ ?_
   obtain⟨p1,p2,p3⟩:=h.push r
   unfold AKv
   by_cases c:coB K o r=true
   . rw[if_pos c]
     have c:=(AL4 ho).1 c
     cases z with
     |none=>exact p2 c (.inl rfl)
     |some y=>
      dsimp only
      split
      . rename_i h9;exact p2 c (.inr ⟨y,rfl,h9⟩)
      . rename_i h9;exact p3 c y rfl h9
   . rw[if_neg c]
     exact p1 fun h9=>c ((AL4 ho).2 h9)
 have:=key K [] none (fun r hr=>by cases hr)
 rw[List.nil_append] at this
 exact this
theorem AKw {K:List Report} (o:Report):(fix K o).id=o.id:=by
 unfold fix;split <;> rfl
theorem T_mem {K:List Report} {r:Report}:r∈T K↔∃ o∈K,o.kind<=7/\WdR K o.id none/\r=fix K o:=by
 unfold T
 rw[List.mem_map]
 constructor
 . rintro⟨o,ho,rfl⟩
   rw[List.mem_filter,Bool.and_eq_true,decide_eq_true_iff,Bool.not_eq_true',AGx] at ho
   exact⟨o,ho.1,ho.2.1,ho.2.2,rfl⟩
 . rintro⟨o,h1,h2,h3,rfl⟩
   exact⟨o,List.mem_filter.2 ⟨h1,by rw[Bool.and_eq_true,decide_eq_true_iff,Bool.not_eq_true',AGx];exact⟨h2,h3⟩⟩,rfl⟩
theorem ANC {K:List Report} (hK:Ok K):((T K).map (·.id)).Nodup:=by
 unfold T
 rw[List.map_map]
 have:(fun r:Report=>r.id) ∘ fix K=fun r=>r.id:=funext fun o=>AKw o
 rw[this]
 exact (List.Sublist.map _ List.filter_sublist).nodup hK.nd
theorem AND {K:List Report} (hK:Ok K):(T K).length<=60:=by
 unfold T
 rw[List.length_map]
 exact Nat.le_trans (List.length_filter_le _ _) hK.len
theorem ARf {K:List Report} (hK:Ok K) {o:Report} (ho:o∈K) {z:Option Report} (h:Latest (Co K o) K z):ANB K o=z:=Latest.uniq hK (AGC ho) h
def cv (d:Desk_139) (o:Report):Report:=match d.fixed o.id with
 |none=>o
 |some j=>Report.mk o.id o.source o.account o.made ((d.store.reports j).getD (Report.mk 0 0 0 0 0 0 0 0)).about o.kind ((d.store.reports j).getD (Report.mk 0 0 0 0 0 0 0 0)).cents o.of_
theorem AQV {α:Type} {p q:Prop} [Decidable p] [Decidable q] (h:p↔q) {a b:α}:(if p then a else b)=if q then a else b:=by
 by_cases c:p
 . rw[if_pos c,if_pos (h.1 c)]
 . rw[if_neg c,if_neg fun c'=>c (h.2 c')]
theorem AOQ {α β:Type} {f:α->β} {l:List α} (h:(l.map f).Nodup):l.Nodup:=(List.pairwise_map.1 h).imp fun h e=>h (congrArg f e)
theorem AKx:∀ (l:List (Int×Report)) (pre:List Report),pre.length+l.length<=1000000->List.foldlM (m:=Option) (s:=((List Report))) (α:=Int×Report) (fun x37 (k38,v39)=>Option.bind (appo 64 x37 ([v39])) fun l40=>some l40) pre l=some (pre++l.map (·.2))
 |[],pre,_=>by simp
 |x :: l,pre,h=>by
  rw[List.length_cons] at h
  obtain⟨k,v⟩:=x
  rw[List.foldlM_cons]
  dsimp only
  rw[ACM (by simp;omega) (by simp;omega)]
  show List.foldlM _ (pre++[v]) l=_
  rw[AKx l (pre++[v]) (by simp;omega)]
  simp
section
variable {K:List Report} (hK:Ok K) {d:Desk_139} (hd:Dk K d)
include hK hd
theorem AQW {i:Int}:d.gone i=none↔WdR K i none:=by
 constructor
 . intro h;have:=hd.gone i;rwa [h] at this
 . intro h;exact (hd.gone i).uniq h
theorem ATa {o:Report} (ho:o∈K) (h7:o.kind<=7) (hw:WdR K o.id none) (r:Report):Co' K o.id r↔Co K o r:=by
 constructor
 . rintro⟨o2,h1,h2,_,_,h5⟩
   rwa [<-hK.one h1 ho h2]
 . intro h;exact⟨o,ho,rfl,h7,hw,h⟩
theorem APn {o:Report} (ho:o∈K) (h7:o.kind<=7) (hw:WdR K o.id none):∃ z:Option Report,d.fixed o.id=z.map (·.id)/\Latest (Co K o) K z:=by
 obtain⟨z,h1,h2⟩:=hd.fixed o.id
 exact⟨z,h1,h2.congr fun r=>and_congr_right fun _=>ATa hK hd ho h7 hw r⟩
theorem AOR {o:Report} (ho:o∈K) (h7:o.kind<=7) (hw:WdR K o.id none):cv d o=fix K o:=by
 obtain⟨z,h1,h2⟩:=APn hK hd ho h7 hw
 unfold cv fix
 rw[ARf hK ho h2,h1]
 cases z with
 |none=>rfl
 |some c=>
  have hc:c∈K:=h2.1
  simp only[Option.map_some,(hd.reports c.id c).2 ⟨hc,rfl⟩,Option.getD_some]
theorem AVV:Lists d.gone ((K.filter fun o=>(d.gone o.id).isSome).map fun o=>(o.id,(d.gone o.id).getD 0)):=by
 refine⟨?_,fun a y=>?_⟩
 . rw[List.map_map]
   exact (List.Sublist.map _ List.filter_sublist).nodup hK.nd
 . rw[List.mem_map]
   constructor
   . rintro⟨o,ho,e⟩
     rw[List.mem_filter] at ho
     obtain⟨z,hz⟩:=Option.isSome_iff_exists.1 ho.2
     cases e
     rw[hz];rfl
   . intro h
     have:=hd.gone a
     rw[h] at this
     obtain⟨r,_,⟨_,_,h3,o,ha,_⟩,_⟩:=this
     have e:o.id=a:=by rw[ha.2.1,h3]
     refine⟨o,List.mem_filter.2 ⟨ha.1,by rw[e,h];rfl⟩,by rw[e,h];rfl⟩
open Classical in
theorem ARg {Q:List Report->Prop} (h:∀ out,out.Perm (T K)->out.Pairwise (le2 (·.about) (·.id))->Q out):Ret (J7 d) Q:=by
 have hl0:=hd.reports.lists hK
 have hKl:=hK.len
 unfold J7
 refine Ret.bind ?_
 unfold Y2
 refine AHp hl0 (fun s:A3 Int Report=>∀ i r',s i=some r'↔∃ o∈K,o.id=i/\o.kind<=7/\r'=cv d o) (fun lx hlx=>?_) (fun s s' hs hs'=>funext fun i=>Option.ext fun r'=>(hs i r').trans (hs' i r').symm) fun m1 hm1=>?_
 . refine Exists.imp (fun s (h:_/\_)=>⟨h.1,fun i r'=>(h.2.2 i r').trans (by
    constructor
    . rintro⟨o,ho,h9⟩;exact⟨o,by rwa [List.nil_append,hd.reports.mem hlx] at ho,h9⟩
    . rintro⟨o,ho,h9⟩;exact⟨o,by rwa [List.nil_append,hd.reports.mem hlx],h9⟩)⟩) (ABn (fun (pre:List (Int×Report)) (s:A3 Int Report)=>(∀ x∈pre,x.2∈K)/\∀ i r',s i=some r'↔∃ o∈pre.map (·.2),o.id=i/\o.kind<=7/\r'=cv d o) lx [] (fnone:A3 Int Report) ⟨(fun x hx=>by simp at hx),fun i r'=>by simp[fnone]⟩ (fun pre x s hx hI=>?_))
   obtain⟨xk,o⟩:=x
   obtain⟨ho,hok⟩:=(hd.reports xk o).1 ((hlx.2 _ _).1 hx)
   subst hok
   obtain⟨hpre,hI⟩:=hI
   have hpre':∀ x∈pre++[(o.id,o)],x.2∈K:=fun x hx=>by
    rcases List.mem_append.1 hx with h9|h9
    . exact hpre x h9
    . have:x=(o.id,o):=by simpa using h9
      rw[this];exact ho
   show Ret _ fun s':A3 Int Report=>(∀ x∈pre++[(o.id,o)],x.2∈K)/\∀ i r',s' i=some r'↔∃ o'∈(pre++[(o.id,o)]).map (·.2),o'.id=i/\o'.kind<=7/\r'=cv d o'
   have fin:∀ a c,cv d o=Report.mk o.id o.source o.account o.made a o.kind c o.of_->Ret (Option.bind (J1 (Report.mk o.id o.source o.account o.made a o.kind c o.of_)) fun r19=>Option.bind (α:=((A3 Int Report))) (cond (r19) (some (B7 s o.id (Report.mk o.id o.source o.account o.made a o.kind c o.of_))) (some s)) ((fun x20=>some x20))) fun s':A3 Int Report=>(∀ x∈pre++[(o.id,o)],x.2∈K)/\∀ i r',s' i=some r'↔∃ o'∈(pre++[(o.id,o)]).map (·.2),o'.id=i/\o'.kind<=7/\r'=cv d o':=fun a c e=>by
    rw[<-e]
    refine Ret.bind (Ret.val (show J1 (cv d o)=some (decide (o.kind<=7)) by rw[e];rfl) (Ret.bind (Ret.cond (fun h1=>Ret.ok (Ret.ok ⟨hpre',fun i r'=>?_⟩)) fun h1=>Ret.ok (Ret.ok ⟨hpre',fun i r'=>?_⟩))))
    . have h1:=of_decide_eq_true h1
      rw[List.map_append]
      unfold B7
      by_cases ei:i=o.id
      . subst ei
        rw[if_pos rfl]
        constructor
        . intro h9
          exact⟨o,List.mem_append.2 (.inr (by simp)),rfl,h1,(Option.some.inj h9).symm⟩
        . rintro⟨o',h2,h3,h4,h5⟩
          have:o'=o:=by
           rcases List.mem_append.1 h2 with h9|h9
           . obtain⟨x,hx1,rfl⟩:=List.mem_map.1 h9
             exact hK.one (hpre x hx1) ho h3
           . simpa using h9
          rw[h5,this]
      . rw[if_neg ei,hI]
        constructor
        . rintro⟨o',h2,h3⟩;exact⟨o',List.mem_append.2 (.inl h2),h3⟩
        . rintro⟨o',h2,h3⟩
          rcases List.mem_append.1 h2 with h9|h9
          . exact⟨o',h9,h3⟩
          . have:o'=o:=by simpa using h9
            exact absurd (by rw[<-h3.1,this]) ei
    . have h1:=of_decide_eq_false h1
      rw[List.map_append,hI]
      constructor
      . rintro⟨o',h2,h3⟩;exact⟨o',List.mem_append.2 (.inl h2),h3⟩
      . rintro⟨o',h2,h3⟩
        rcases List.mem_append.1 h2 with h9|h9
        . exact⟨o',h9,h3⟩
        . have:o'=o:=by simpa using h9
          exact absurd (this▸h3.2.1) h1
   have e1:cv d o=Report.mk o.id o.source o.account o.made (if (d.fixed o.id).isSome then ((d.store.reports ((d.fixed o.id).getD 0)).getD (Report.mk 0 0 0 0 0 0 0 0)).about else o.about) o.kind (if (d.fixed o.id).isSome then ((d.store.reports ((d.fixed o.id).getD 0)).getD (Report.mk 0 0 0 0 0 0 0 0)).cents else o.cents) o.of_:=by
    unfold cv
    cases d.fixed o.id with
    |none=>rfl
    |some j=>rfl
   refine Ret.bind ?_
   cases hf:d.fixed o.id with
   |none=>
    rw[hf] at e1
    exact Ret.condF rfl (Ret.ok (fin _ _ e1))
   |some j=>
    rw[hf] at e1
    exact Ret.condT rfl (Ret.ok (fin _ _ e1))
 refine AHp (AVV hK hd) (fun s:A3 Int Report=>∀ i,s i=if (d.gone i).isSome then none else m1 i) (fun lx hlx=>?_) (fun s s' hs hs'=>funext fun i=>(hs i).trans (hs' i).symm) fun m2 hm2=>?_
 . classical
   refine Exists.imp (fun s (h:_/\_)=>⟨h.1,fun i=>(h.2 i).trans (AQV ?_)⟩) (ABn (fun (pre:List (Int×Int)) (s:A3 Int Report)=>∀ i,s i=if ∃ y,(i,y)∈pre then none else m1 i) lx [] m1 (fun i=>by simp) (fun pre x s hx hI=>⟨_,rfl,fun i=>?_⟩))
   . unfold Z0
     by_cases e:i=x.1
     . rw[if_pos e,if_pos ⟨x.2,List.mem_append.2 (.inr (by rw[e];simp))⟩]
     . rw[if_neg e,hI]
       refine AQV (exists_congr fun y=>?_)
       rw[List.mem_append]
       constructor
       . exact .inl
       . rintro (h9|h9)
         . exact h9
         . have:(i,y)=x:=by simpa using h9
           exact absurd (by rw[<-this]) e
   . rw[List.nil_append,Option.isSome_iff_exists]
     exact exists_congr fun y=>hlx.2 i y
 have hlT:Lists m2 ((T K).map fun r=>(r.id,r)):=by
  refine⟨by rw[List.map_map];exact ANC hK,fun a y=>?_⟩
  rw[hm2,List.mem_map]
  constructor
  . rintro⟨r,hr,e⟩
    cases e
    obtain⟨o,ho,h7,hw,rfl⟩:=T_mem.1 hr
    rw[AKw,(AQW hK hd).2 hw]
    exact (hm1 _ _).2 ⟨o,ho,rfl,h7,(AOR hK hd ho h7 hw).symm⟩
  . intro h1
    split at h1
    . cases h1
    rename_i h2
    obtain⟨o,ho,rfl,h7,rfl⟩:=(hm1 _ _).1 h1
    have hw:WdR K o.id none:=(AQW hK hd).1 (by simpa using h2)
    rw[AOR hK hd ho h7 hw]
    exact⟨fix K o,T_mem.2 ⟨o,ho,h7,hw,rfl⟩,by rw[AKw]⟩
 have hper:∀ l,Lists m2 l->(l.map (·.2)).Perm (T K):=fun l hl=>by
  have:l.Perm ((T K).map fun r=>(r.id,r)):=by
   refine (List.perm_ext_iff_of_nodup ?_ ?_).2 fun p=>?_
   . exact AOQ hl.1
   . exact AOQ hlT.1
   . obtain⟨a,y⟩:=p
     exact (hl.2 a y).trans (hlT.2 a y).symm
  have:=this.map (·.2)
  rwa [List.map_map,show ((fun p:Int×Report=>p.2) ∘ fun r:Report=>(r.id,r))=id from rfl,List.map_id] at this
 have one:∀ {l:List Report},l.Perm (T K)->∀ a b,a∈l->b∈l->a.about=b.about->a.id=b.id->a=b:=fun hp a b ha hb _ e=>AAb (ANC hK) a b (hp.mem_iff.1 ha) (hp.mem_iff.1 hb) e
 have hone:∀ l,Lists m2 l->Ret (Option.bind (List.foldlM (m:=Option) (s:=((List Report))) (α:=Int×Report) (fun x37 (k38,v39)=>Option.bind (appo 64 x37 ([v39])) fun l40=>some l40) ([]:(List Report)) l) fun x42=>Option.bind (E5 ([(107:Nat),(108:Nat)]) x42) fun (_,m43)=>some (m43,(m43.length:Int),(0:Int))) fun z=>(z.1.Perm (T K)/\z.1.Pairwise (le2 (·.about) (·.id)))/\z=(z.1,(z.1.length:Int),(0:Int)):=fun l hl=>by
  have hp:=hper l hl
  have hlen:=hp.length_eq
  have:=AND hK
  rw[List.length_map] at hlen
  rw[AKx l [] (by simp;omega),List.nil_append,bindS]
  have ho:=AJF (x:=l.map (·.2)) (cmp:=fun a b=>I7 a b [107,108]) (k1:=(·.about)) (k2:=(·.id)) (fun a b=>AFx (D:=fd160.D) (fun _=>rfl) (fun _=>rfl)) (one hp) (by rw[List.length_map];omega)
  exact Ret.bind (Ret.bind (ho.mono fun m hm=>Ret.ok (Ret.ok ⟨⟨hm.1.trans hp,hm.2⟩,rfl⟩)))
 obtain⟨z,h1,⟨h2,h3⟩,h4⟩:=hone _ hlT
 refine⟨z,AHw hlT fun l hl=>?_,?_⟩
 . obtain⟨z',h5,⟨h6,h7⟩,h8⟩:=hone l hl
   rw[h5,h4,h8,AEZ (h6.trans h2.symm) h7 h3 (one h6)]
 . rw[h4]
   exact Ret.condT (by simp) (Ret.ok (h _ h2 h3))
theorem AOS (hin:∀ r∈K,InR r) {Q:List Report->Prop} (h:∀ out,out.Perm (T K)->out.Pairwise (le2 (·.about) (·.id))->Q out):Ret (E8 d) Q:=by
 unfold E8
 refine Ret.bind (ARg hK hd fun out h1 h2=>?_)
 have hlen:=h1.length_eq
 have:=AND hK
 rw[if_pos]
 . exact Ret.ok (h out h1 h2)
 refine⟨by omega,fun r hr=>?_⟩
 obtain⟨o,ho,h7,hw,rfl⟩:=T_mem.1 (h1.mem_iff.1 hr)
 have hz:=AGC (K:=K) ho
 unfold fix
 have h1:=hin o ho
 cases hb:ANB K o with
 |none=>exact h1
 |some c=>
  rw[hb] at hz
  have h2:=hin c hz.1
  exact⟨h1.1,h1.2.1,h1.2.2.1,h1.2.2.2.1,h2.2.2.2.2.1,h1.2.2.2.2.2.1,h2.2.2.2.2.2.2.1,h1.2.2.2.2.2.2.2⟩
end
theorem AWw {r:Report} (h:V r):InR r:=by
 obtain⟨c1,c2,c3,c4,c5,c6,c7,c8,_⟩:=h
 have hm:most r.kind<=1000000000000:=by unfold most;split <;> (try split) <;> omega
 exact⟨InK.i64.2 (by omega),InK.i64.2 (by omega),InK.i64.2 (by omega),InK.i64.2 (by omega),InK.i64.2 (by omega),InK.u8.2 (by omega),InK.i64.2 (by omega),InK.i64.2 (by omega)⟩
structure St (l:List Report) (known:Int) (out:List Report):Prop where
 perm:out.Perm (T (knS l known))
 ord:out.Pairwise (le2 (·.about) (·.id))
theorem ANE {l:List Report} (h:VL l) {known:Int} (hk:0<=known/\known<=100000):Ret (J2 l known) fun z=>z.2=0/\St l known z.1:=by
 unfold J2 S8
 rw[AIM h]
 refine Ret.bind ?_
 rw[bindS]
 refine Ret.condF (by decide) ?_
 rw[AIK (by simp),bindS,show ([known].all (inB 0 100000))=true by simp[inB,hk]]
 refine Ret.condF rfl (Ret.ok (B8 (Ret.bind (ATY h fun D hD=>?_))))
 exact Ret.bind (AOS (AFz h known) hD (fun r hr=>AWw ((AFz h known).v r hr)) fun out h1 h2=>Ret.ok ⟨rfl,h1,h2⟩)
end S
end Go.Proofs.YtgioiejbphljoaaGreatDoor
set_option maxRecDepth 20000
set_option maxHeartbeats 1000000
set_option linter.unusedVariables false
namespace Go.Proofs.YtgioiejbphljoaaGreatDoor
open Go Go.Sx Go.Rx
namespace S
def AC1 (d:Desk) (day:Int):List (Dispute×Verdict):=(d.disputes.filter fun x=>decide (3<=wh d x day)).map fun x=>(x,dec d x)
theorem decd_mem {d:Desk} {day:Int} {y:Dispute×Verdict}:y∈AC1 d day↔y.1∈d.disputes/\3<=wh d y.1 day/\y.2=dec d y.1:=by
 unfold AC1
 rw[List.mem_map]
 constructor
 . rintro⟨x,hx,rfl⟩
   obtain⟨h1,h2⟩:=List.mem_filter.1 hx
   exact⟨h1,of_decide_eq_true h2,rfl⟩
 . rintro⟨h1,h2,h3⟩
   exact⟨y.1,List.mem_filter.2 ⟨h1,decide_eq_true h2⟩,by rw[<-h3]⟩
theorem R9 {x:Int} (h:-1000000000000000<=x/\x<=1000000000000000):InK .i64 x:=InK.i64.2 (by omega)
theorem AQX {x:Int} (h:0<=x/\x<=255):InK .u8 x:=InK.u8.2 (by omega)
theorem ATb {d:Desk} (hv:Vd d) {a:Answer} (ha:a∈d.answers):(0<=a.id/\a.id<=999999)/\(0<=a.dispute/\a.dispute<=999999)/\(0<=a.day/\a.day<=100000)/\(1<=a.says/\a.says<=3)/\(0<=a.about/\a.about<=100000)/\(0<=a.cents/\a.cents<=1000000000000):=by
 obtain⟨v1,v2,v3,x,hxm,v4,v5,v6⟩:=hv.a.v a ha
 obtain⟨x1,_,f,hf,_⟩:=hv.x.v x hxm
 have hm:most f.kind<=1000000000000:=by unfold most;split <;> (try split) <;> omega
 refine⟨v1,by rw[<-v4];exact x1,v2,v3,?_⟩
 by_cases e:a.says=2
 . have:=v6 e f hf
   omega
 . have:=v5 e
   omega
theorem AQY {d:Desk} (hv:Vd d) (x:Dispute):(0<=(dec d x).by_.id/\(dec d x).by_.id<=999999)/\(0<=(dec d x).by_.dispute/\(dec d x).by_.dispute<=999999)/\(0<=(dec d x).by_.day/\(dec d x).by_.day<=100000)/\(0<=(dec d x).by_.says/\(dec d x).by_.says<=3)/\(0<=(dec d x).by_.about/\(dec d x).by_.about<=100000)/\(0<=(dec d x).by_.cents/\(dec d x).by_.cents<=1000000000000):=by
 by_cases c:(dec d x).is_=5
 . have e:(dec d x).by_=zeroA:=by rw[((AFP hv x).is5 c).1]
   rw[e]
   unfold zeroA
   dsimp only
   omega
 . have:=ATb hv (List.mem_filter.1 ((AFP hv x).by_ c).2.1).1
   omega
theorem AIy {d:Desk} {D:Desk_99} (hD:Dw d D) (hv:Vd d) {day:Int}:C5 D day=some (AC1 d day):=by
 have key:∀ l:List Dispute,(∀ x∈l,x∈d.disputes)->AFM D day l=some ((l.filter fun x=>decide (3<=wh d x day)).map fun x=>(x,dec d x)):=by
  intro l
  induction l with
  |nil=>intro _;rfl
  |cons x l ih=>
   intro h
   unfold AFM
   rw[AFv hD hv (h x (List.mem_cons_self ..)),bindS,ih (fun y hy=>h y (List.mem_cons_of_mem _ hy)),bindS]
   congr 1
   rw[List.filter_cons]
   by_cases c:3<=wh d x day
   . rw[if_pos (show decide (3<=wh d x day)=true from decide_eq_true c),List.map_cons]
     exact if_pos c
   . rw[if_neg (show ¬ decide (3<=wh d x day)=true from fun h=>c (of_decide_eq_true h))]
     exact if_neg c
 unfold C5
 rw[hD.d,key _ fun _ h=>h,bindS]
 refine if_pos fun y hy=>?_
 obtain⟨h1,h2,h3⟩:=decd_mem.1 hy
 obtain⟨x1,x2,f,hf,x3,x4⟩:=hv.x.v _ h1
 have hfm:=X7 hf
 have hfv:=hv.r.v f hfm.1
 have ht:=hv.t.1
 have hk:=AKl hv y.1
 have hdi:=ACz hv h1
 have hb:=AQY hv y.1
 have hrid:0<=y.1.report/\y.1.report<=999999:=by rw[<-hfm.2.1];exact hfv.2.1
 have hmade:=hfv.2.2.2.2.2.1
 have e:ADQ [.st 2,.st 12] y↔(InK .i64 y.1.id/\InK .i64 y.1.report/\InK .i64 y.1.day)/\(InK .i64 y.2.day/\InK .u8 y.2.is_/\InK .i64 y.2.by_.id/\InK .i64 y.2.by_.dispute/\InK .i64 y.2.by_.day/\InK .u8 y.2.by_.says/\InK .i64 y.2.by_.about/\InK .i64 y.2.by_.cents):=Iff.rfl
 rw[e,h3]
 exact⟨⟨R9 (by omega),R9 (by omega),R9 (by omega)⟩,R9 (by omega),AQX (by omega),R9 (by omega),R9 (by omega),R9 (by omega),AQX (by omega),R9 (by omega),R9 (by omega)⟩
def AEb:Report:=Report.mk 0 0 0 0 0 0 0 0
def AEc (d:Desk) (x:Dispute) (v:Verdict):Report:=
 let f:=(U9 d.reports x.report).getD AEb
 if v.is_=3 then Report.mk x.id f.source f.account v.day v.by_.about 8 v.by_.cents f.id else Report.mk x.id f.source f.account v.day 0 9 0 f.id
theorem ARh {d:Desk} {D:Desk_99} (hD:Dw d D) {x:Dispute} {v:Verdict} {l:List Report} (hl:l.length<=1000000):U4 D x v l=some (l++[AEc d x v]):=by
 unfold U4 AEc
 rw[hD.f,hD.d]
 by_cases c:v.is_=3
 . rw[decide_eq_true c,condT,bindS,if_pos c]
   exact Ret.eq (Ret.bind (Ret.appo (by simp only[List.length_singleton];omega) (by simp only[List.length_singleton];omega) (Ret.ok rfl)))
 . rw[decide_eq_false c,condF,bindS,if_neg c]
   exact Ret.eq (Ret.bind (Ret.appo (by simp only[List.length_singleton];omega) (by simp only[List.length_singleton];omega) (Ret.ok rfl)))
def AC2 (d:Desk) (day:Int):List Report:=(AC1 d day).map fun y=>AEc d y.1 y.2
theorem AKy {d:Desk} {x:Dispute} {v:Verdict}:(AEc d x v).id=x.id:=by unfold AEc;split <;> rfl
theorem AGy {d:Desk} {day:Int}:(AC1 d day).length<=d.disputes.length:=by
 unfold AC1;rw[List.length_map];exact List.length_filter_le ..
theorem AIT {d:Desk} (hv:Vd d) {day:Int}:((AC2 d day).map (·.id)).Nodup:=by
 unfold AC2 AC1
 rw[List.map_map,List.map_map]
 rw[show (((fun r:Report=>r.id) ∘ fun y:Dispute×Verdict=>AEc d y.1 y.2) ∘ fun x=>(x,dec d x))=fun x:Dispute=>x.id from funext fun x=>AKy]
 exact (List.Sublist.map _ List.filter_sublist).nodup hv.x.nd
def AFS (d:Desk) (day:Int) (r:List Report×Int):Prop:=(60 < d.reports.length+(AC2 d day).length/\r=([],9))\/(d.reports.length+(AC2 d day).length<=60/\∃ m:List Report,m.Perm (AC2 d day)/\m.Pairwise (le2 (·.made) (·.id))/\r=(d.reports++m,0))
theorem APo {a b:List Report} (ha:a.length<=100000) (hb:b.length<=100000):R7 [a,b]=some (a++b):=by
 refine Ret.eq ?_
 unfold R7
 refine Ret.bind (D4 2 (fun n (t:Int×Int)=>t.1=n/\(n=0->t.2=0)/\(n=1->t.2=a.length)/\(n=2->t.2=a.length+b.length)) ⟨rfl,fun _=>rfl,fun h=>by omega,fun h=>by omega⟩ ?_ ?_)
 . rintro n hn ⟨_,s⟩ ⟨rfl,h0,h1,h2⟩
   have:n=0\/n=1:=by omega
   rcases this with rfl|rfl
   . have:s=0:=h0 rfl
     subst this
     exact Ret.condT rfl (Ret.bind (Ret.val (show ixo [a,b] 0=some a from rfl) (Ret.bind (Ret.chk (by omega) (Ret.condF (decide_eq_false (by omega)) (Ret.bind (Ret.chk (by decide) (Ret.next ⟨rfl,fun h=>by omega,fun _=>by dsimp only;omega,fun h=>by omega⟩))))))))
   . have:s=a.length:=h1 rfl
     subst this
     exact Ret.condT rfl (Ret.bind (Ret.val (show ixo [a,b] 1=some b from rfl) (Ret.bind (Ret.chk (by omega) (Ret.condF (decide_eq_false (by omega)) (Ret.bind (Ret.chk (by decide) (Ret.next ⟨rfl,fun h=>by omega,fun h=>by omega,fun _=>rfl⟩))))))))
 rintro⟨_,s⟩ ⟨rfl,h0,h1,h2⟩
 have:s=a.length+b.length:=h2 rfl
 subst this
 have hg:J8 () ((a.length:Int)+b.length)=some []:=by
  unfold J8
  exact if_pos ⟨by omega,by omega⟩
 refine Ret.condF rfl (Ret.done ?_)
 rw[hg,bindS]
 refine Ret.bind (D4 2 (fun n (t:Int×List Report)=>t.1=n/\(n=0->t.2=[])/\(n=1->t.2=a)/\(n=2->t.2=a++b)) ⟨rfl,fun _=>rfl,fun h=>by omega,fun h=>by omega⟩ ?_ ?_)
 . rintro n hn ⟨_,s⟩ ⟨rfl,h0,h1,h2⟩
   have:n=0\/n=1:=by omega
   rcases this with rfl|rfl
   . have:s=[]:=h0 rfl
     subst this
     exact Ret.condT rfl (Ret.bind (Ret.val (show ixo [a,b] 0=some a from rfl) (Ret.bind (Ret.appo (by simp only[List.length_nil];omega) (by simp only[List.length_nil];omega) (Ret.bind (Ret.chk (by decide) (Ret.next ⟨rfl,fun h=>by omega,fun _=>rfl,fun h=>by omega⟩)))))))
   . have:s=a:=h1 rfl
     subst this
     exact Ret.condT rfl (Ret.bind (Ret.val (show ixo [s,b] 1=some b from rfl) (Ret.bind (Ret.appo (by omega) (by omega) (Ret.bind (Ret.chk (by decide) (Ret.next ⟨rfl,fun h=>by omega,fun h=>by omega,fun _=>rfl⟩)))))))
 . rintro⟨_,s⟩ ⟨rfl,h0,h1,h2⟩
   have:s=a++b:=h2 rfl
   subst this
   exact Ret.condF rfl (Ret.done (Ret.ok rfl))
theorem AKz {d:Desk} {D:Desk_99} (hD:Dw d D) (hv:Vd d) {day:Int}:Ret (E6 D day) (AFS d day):=by
 have hlx:=hv.x.len
 have hlr:=hv.r.len
 have hml:(AC2 d day).length<=20:=by
  unfold AC2;rw[List.length_map];exact Nat.le_trans AGy hlx
 unfold E6
 rw[AIy hD hv,bindS]
 refine Ret.bind (Ret.over (fun pre (l:List Report)=>l=pre.map fun y=>AEc d y.1 y.2) rfl (fun pre y s hpl hp hy hs=>?_) fun s hs=>?_)
 . subst hs
   rw[ARh hD (by rw[List.length_map];have:=AGy (d:=d) (day:=day);omega)]
   exact Ret.ok (by rw[List.map_append];rfl)
 . subst hs
   show Ret (AAj D (AC2 d day)) (AFS d day)
   unfold AAj
   rw[hD.d]
   refine Ret.bind (Ret.chk (by omega) (Ret.cond (fun c=>Ret.ok (.inl ⟨?_,rfl⟩)) fun c=>?_))
   . have c:=of_decide_eq_true c;omega
   have c:=of_decide_eq_false c
   have ho:=AJF (x:=AC2 d day) (cmp:=fun a b=>I5 a b [78,79]) (k1:=(·.made)) (k2:=(·.id)) (fun a b=>AFx (D:=fd160.D) (fun _=>rfl) (fun _=>rfl)) (fun a b ha hb _ e=>AAb (AIT hv) a b ha hb e) (by omega)
   refine Ret.bind (Ret.bind (ho.mono fun m hm=>Ret.ok ?_))
   have hml:=hm.1.length_eq
   dsimp only
   rw[APo (a:=d.reports) (b:=m) (by omega) (by omega),bindS]
   exact Ret.ok (.inr ⟨by omega,m,hm.1,hm.2,rfl⟩)
theorem APp {d:Desk} (hv:Vd d) {day:Int} (hd:0<=day/\day<=100000):Ret (P5 d day) (AFS d day):=by
 obtain⟨D,h1,hD⟩:=ACy hv hd
 unfold P5
 rw[h1,bindS]
 exact Ret.condF (by decide) (Ret.bind ((AKz hD hv).mono fun r hr=>Ret.ok hr))
theorem AK0 {d:Desk} (hv:Vd d) {day:Int} {r r':List Report×Int} (h:AFS d day r) (h':AFS d day r'):r=r':=by
 rcases h with⟨h1,rfl⟩|⟨h1,m,h2,h3,rfl⟩ <;> rcases h' with⟨h4,rfl⟩|⟨h4,m',h5,h6,rfl⟩
 . rfl
 . omega
 . omega
 . rw[AEZ (h2.trans h5.symm) h3 h6 fun a b ha hb _ e=>AAb (AIT hv) a b (h2.mem_iff.1 ha) (h2.mem_iff.1 hb) e]
end S
end Go.Proofs.YtgioiejbphljoaaGreatDoor
set_option maxRecDepth 20000
set_option maxHeartbeats 1000000
set_option linter.unusedVariables false
namespace Go.Proofs.YtgioiejbphljoaaGreatDoor
open Go Go.Sx Go.Rx
namespace S
def stF (l:List Report) (day i:Int):Option Report:=(T (knS l day)).find? fun r=>decide (r.id=i)
theorem APq {l:List Report} (hn:(l.map (·.id)).Nodup) {i:Int} {r:Report}:(l.find? fun r=>decide (r.id=i))=some r↔r∈l/\r.id=i:=by
 constructor
 . intro h
   exact⟨List.mem_of_find?_eq_some h,of_decide_eq_true (List.find?_some (p:=fun r:Report=>decide (r.id=i)) h)⟩
 . rintro⟨h,rfl⟩
   cases hg:l.find? fun s=>decide (s.id=r.id) with
   |none=>exact absurd (decide_eq_true rfl) (List.find?_eq_none.1 hg r h)
   |some g=>rw[AAb hn g r (List.mem_of_find?_eq_some hg) h (of_decide_eq_true (List.find?_some (p:=fun s:Report=>decide (s.id=r.id)) hg))]
theorem ARi {l:List Report} (h:VL l) {day i:Int} {r:Report}:stF l day i=some r↔r∈T (knS l day)/\r.id=i:=APq (ANC (AFz h day))
theorem AL5 {l:List Report} (h:VL l) {day:Int} (hd:0<=day/\day<=100000):R8 l day=some (stF l day):=by
 refine Ret.eq ?_
 unfold R8
 refine O1 (ANE h hd) fun z hz=>?_
 obtain⟨out,e⟩:=z
 obtain⟨rfl,hp,_⟩:=hz
 have hlen:=hp.length_eq
 have hT:=AND (AFz h day)
 have hnd:(out.map (·.id)).Nodup:=(hp.map _).nodup_iff.2 (ANC (AFz h day))
 refine Ret.bind (D4 out.length (fun n (t:Int×A3 Int Report)=>t.1=n/\∀ i r,t.2 i=some r↔r∈out.take n/\r.id=i) ⟨rfl,fun i r=>by simp[fnone]⟩ ?_ ?_)
 . rintro n hlt ⟨_,m⟩ ⟨rfl,hm⟩
   dsimp only at hm hlt
   refine Ret.condT (ltT hlt) (Ret.bind (N8 hlt (Ret.bind (Ret.chk (by dsimp only at *;omega) (Ret.next ⟨by dsimp only;omega,fun i r=>?_⟩)))))
   dsimp only[B7]
   rw[F6 hlt]
   by_cases e:i=out[n].id
   . subst e
     rw[if_pos rfl]
     constructor
     . intro h9;cases h9;exact⟨.inr rfl,rfl⟩
     . rintro⟨h9|h9,h8⟩
       . rw[AAb hnd r _ (List.mem_of_mem_take h9) (List.getElem_mem hlt) h8]
       . rw[h9]
   . rw[if_neg e,hm]
     constructor
     . rintro⟨h9,h8⟩;exact⟨.inl h9,h8⟩
     . rintro⟨h9|rfl,h8⟩
       . exact⟨h9,h8⟩
       . exact absurd h8.symm e
 . rintro⟨_,m⟩ ⟨rfl,hm⟩
   dsimp only at hm
   rw[List.take_length] at hm
   refine Ret.condF (ltF (Nat.le_refl _)) (Ret.done (Ret.ok ?_))
   funext i
   apply Option.ext
   intro r
   rw[hm,ARi h,hp.mem_iff]
def AHq (d:Desk) (l:List Report) (x:Dispute) (a:Asked):Bool:=
 decide (a.account=((U9 d.reports x.report).getD AEb).account)&&(decide (a.day < (dec d x).day)&&(decide ((dec d x).day - a.day<=d.terms.lately)&&(match stF l a.day x.report with
  |none=>false
  |some was=>decide (was.about<=a.day)&&(match stF l (dec d x).day x.report with
   |none=>true
   |some now=>!decide (was=now)))))
structure AskV (asked:List Asked):Prop where
 len:asked.length<=40
 v:∀ a∈asked,(0<=a.id/\a.id<=999999)/\(0<=a.who/\a.who<=999999)/\(0<=a.account/\a.account<=999999)/\(0<=a.day/\a.day<=100000)
 up:∀ (n:Nat) (h:n+1 < asked.length),asked[n].id < asked[n+1].id
def AEd (d:Desk) (l:List Report) (x:Dispute) (f:A3 (Int×Int) Int) (a:Asked):A3 (Int×Int) Int:=if AHq d l x a then B7 f (x.id,a.who) a.id else f
def ANF (d:Desk) (l:List Report) (asked:List Asked) (f:A3 (Int×Int) Int) (y:Dispute×Verdict):A3 (Int×Int) Int:=asked.reverse.foldl (AEd d l y.1) f
def APr (d:Desk) (l:List Report) (asked:List Asked) (day:Int):A3 (Int×Int) Int:=(AC1 d day).foldl (ANF d l asked) fnone
theorem AOT:∀ (l:List Asked) (n:Nat),n<=l.length->(bwN l n).map (·.2)=(l.take n).reverse
 |l,0,_=>rfl
 |l,n+1,h=>by
  have hlt:n < l.length:=by omega
  unfold bwN
  rw[List.getElem?_eq_getElem hlt]
  show l[n] :: (bwN l n).map (·.2)=_
  rw[AOT l n (by omega),AA0 hlt,List.reverse_append]
  rfl
theorem AK1:∀ (l:List Asked) (n:Nat) (y:Int×Asked),n<=l.length->y∈bwN l n->y.2∈l/\0<=y.1/\y.1 < n
 |l,0,y,_,h=>by cases h
 |l,n+1,y,hn,h=>by
  have hlt:n < l.length:=by omega
  unfold bwN at h
  rw[List.getElem?_eq_getElem hlt] at h
  rcases List.mem_cons.1 h with rfl|h
  . exact⟨List.getElem_mem hlt,by dsimp only;omega,by dsimp only;omega⟩
  . have:=AK1 l n y (by omega) h
    exact⟨this.1,this.2.1,by omega⟩
theorem ANG {asked:List Asked} (ha:AskV asked):T4 asked=some (bwN asked asked.length):=by
 unfold T4
 refine if_pos fun y hy=>?_
 obtain⟨h1,h2,h3⟩:=AK1 asked asked.length y (Nat.le_refl _) hy
 have hl:=ha.len
 obtain⟨v1,v2,v3,v4⟩:=ha.v _ h1
 have e:ADQ [.int .i64,.st 5] y↔InK .i64 y.1/\(InK .i64 y.2.id/\InK .i64 y.2.who/\InK .i64 y.2.account/\InK .i64 y.2.day):=Iff.rfl
 rw[e]
 exact⟨R9 (by omega),R9 (by omega),R9 (by omega),R9 (by omega),R9 (by omega)⟩
section
variable {d:Desk} {D:Desk_99} (hD:Dw d D) (hv:Vd d) {l:List Report} (hl:VL l)
include hD hv hl
theorem AVW {x:Dispute} (hx:x∈d.disputes):AAk l x (dec d x)=some ((stF l (dec d x).day x.report).getD AEb,(stF l (dec d x).day x.report).isSome):=by
 unfold AAk
 rw[AL5 hl (ACz hv hx),bindS]
 rfl
theorem AVX {x:Dispute} (hx:x∈d.disputes) {f:A3 (Int×Int) Int} {a:Int×Asked} (ha:0<=a.2.day/\a.2.day<=100000):Go.Proofs.YtgioiejbphljoaaGreatDoor.inB D l x (dec d x) ((stF l (dec d x).day x.report).getD AEb) ((stF l (dec d x).day x.report).isSome) f a=some (AEd d l x f a.2):=by
 have hdi:=ACz hv hx
 unfold Go.Proofs.YtgioiejbphljoaaGreatDoor.inB AEd
 have key:∃ b:Bool⊕Unit,AAL D l x (dec d x) ((stF l (dec d x).day x.report).getD AEb) ((stF l (dec d x).day x.report).isSome) a.2=some b/\(AHq d l x a.2=true↔b=.inl true):=by
  show Ret _ fun b:Bool⊕Unit=>AHq d l x a.2=true↔b=.inl true
  unfold AAL AHq
  rw[hD.f,hD.d]
  have no:∀ {o:Option (Bool⊕Unit)} {b:Bool},b=false->Ret (cond true (some (Sum.inr ())) o) fun c:Bool⊕Unit=>b=true↔c=.inl true:=fun {o b} h=>Ret.condT rfl (Ret.ok (by subst h;exact⟨(fun h=>by cases h),(fun h=>by cases h)⟩))
  refine Ret.bind (Ret.cond (fun c=>Ret.ok (no ?_)) fun c=>Ret.cond (fun c2=>Ret.ok (no ?_)) fun c2=>Ret.bind (Ret.chk (by omega) (Ret.ok ?_)))
  . have c:decide (a.2.account=((U9 d.reports x.report).getD AEb).account)=false:=by
     rw[Bool.not_eq_true'] at c;exact c
    rw[c];rfl
  . have c2:=of_decide_eq_true c2
    rw[decide_eq_false (show ¬ a.2.day < (dec d x).day by omega)]
    simp
  have c:decide (a.2.account=((U9 d.reports x.report).getD AEb).account)=true:=by
   rw[Bool.not_eq_false'] at c;exact c
  have c2:=of_decide_eq_false c2
  rw[c,decide_eq_true (show a.2.day < (dec d x).day by omega),Bool.true_and,Bool.true_and]
  refine Ret.cond (fun c3=>Ret.ok ?_) fun c3=>?_
  . have c3:=of_decide_eq_true c3
    rw[decide_eq_false (show ¬ (dec d x).day - a.2.day<=d.terms.lately by omega)]
    exact⟨(fun h=>by cases h),(fun h=>by cases h)⟩
  have c3:=of_decide_eq_false c3
  rw[decide_eq_true (show (dec d x).day - a.2.day<=d.terms.lately by omega),Bool.true_and]
  rw[AL5 hl ha,bindS]
  have fin:∀ {b b':Bool},b=b'->Ret (some (Sum.inl b':Bool⊕Unit)) fun c:Bool⊕Unit=>b=true↔c=.inl true:=fun {b b'} h=>Ret.ok (by subst h;exact⟨fun h=>by rw[h],fun h=>by injection h⟩)
  refine Ret.bind ?_
  cases hw:stF l a.2.day x.report with
  |none=>exact Ret.condF rfl (Ret.ok (fin rfl))
  |some was=>
   refine Ret.condT rfl (Ret.cond (fun c4=>?_) fun c4=>Ret.ok (fin ?_))
   . have c4:decide (was.about<=a.2.day)=true:=c4
     dsimp only
     rw[c4,Bool.true_and]
     cases hn:stF l (dec d x).day x.report with
     |none=>exact Ret.condT rfl (Ret.ok (fin rfl))
     |some now=>exact Ret.condF rfl (Ret.ok (fin rfl))
   . have c4:decide (was.about<=a.2.day)=false:=c4
     dsimp only
     rw[c4];rfl
 obtain⟨b,h1,h2⟩:=key
 rw[h1,bindS]
 congr 1
 by_cases c:AHq d l x a.2=true
 . rw[if_pos c,h2.1 c]
 . rw[if_neg c]
   cases b with
   |inr u=>rfl
   |inl b=>
    cases b with
    |false=>rfl
    |true=>exact absurd (h2.2 rfl) c
theorem ATc {asked:List Asked} (ha:AskV asked) {f:A3 (Int×Int) Int} {y:Dispute×Verdict} {day:Int} (hy:y∈AC1 d day):AGv D asked l f y=some (ANF d l asked f y):=by
 obtain⟨h1,h2,h3⟩:=decd_mem.1 hy
 refine Ret.eq ?_
 unfold AGv
 rw[h3,AVW hD hv hl h1,bindS,ANG ha,bindS]
 refine Ret.over (fun pre (g:A3 (Int×Int) Int)=>g=(pre.map (·.2)).foldl (AEd d l y.1) f) rfl (fun pre a s hpl hp ham hs=>?_) fun s hs=>?_
 . have:=ha.v _ (AK1 asked asked.length a (Nat.le_refl _) ham).1
   rw[AVX hD hv hl h1 this.2.2.2]
   refine Ret.ok ?_
   rw[List.map_append,List.foldl_append,<-hs];rfl
 . rw[hs,AOT asked _ (Nat.le_refl _),List.take_length];rfl
end
theorem ANH {κ α:Type} [DecidableEq κ] {f:A3 κ α} {l:List (κ×α)} (h:Lists f l) (a:κ) (z:α):∃ l',Lists (B7 f a z) l'/\l'.length<=l.length+1:=by
 by_cases c:∃ x∈l,x.1=a
 . obtain⟨⟨a',y⟩,hx,rfl⟩:=c
   obtain⟨j,hj⟩:=List.getElem?_of_mem hx
   exact⟨_,h.set hj z,by rw[List.length_set];omega⟩
 . exact⟨_,h.push z fun x hx e=>c ⟨x,hx,e⟩,by simp⟩
theorem AOU {d:Desk} {l:List Report} {asked:List Asked}:∀ (ys:List (Dispute×Verdict)) (f:A3 (Int×Int) Int) (xs:List ((Int×Int)×Int)),Lists f xs->∃ xs',Lists (ys.foldl (ANF d l asked) f) xs'/\xs'.length<=xs.length+ys.length * asked.length:=by
 have inner:∀ (aq:List Asked) (x:Dispute) (f:A3 (Int×Int) Int) (xs:List ((Int×Int)×Int)),Lists f xs->∃ xs',Lists (aq.foldl (AEd d l x) f) xs'/\xs'.length<=xs.length+aq.length:=by
  intro aq
  induction aq with
  |nil=>intro x f xs h;exact⟨xs,h,by simp⟩
  |cons a aq ih=>
   intro x f xs h
   have:∃ xs',Lists (AEd d l x f a) xs'/\xs'.length<=xs.length+1:=by
    unfold AEd
    split
    . exact ANH h _ _
    . exact⟨xs,h,by omega⟩
   obtain⟨xs',h1,h2⟩:=this
   obtain⟨xs2,h3,h4⟩:=ih x _ xs' h1
   exact⟨xs2,h3,by simp only[List.length_cons];omega⟩
 intro ys
 induction ys with
 |nil=>intro f xs h;exact⟨xs,h,by simp⟩
 |cons y ys ih=>
  intro f xs h
  obtain⟨xs',h1,h2⟩:=inner asked.reverse y.1 f xs h
  obtain⟨xs2,h3,h4⟩:=ih _ xs' h1
  refine⟨xs2,h3,?_⟩
  rw[List.length_reverse] at h2
  simp only[List.length_cons,Nat.add_mul,Nat.one_mul]
  omega
def mkL (y:(Int×Int)×Int):Letter:=Letter.mk y.1.1 y.1.2 y.2
structure LetS (F:A3 (Int×Int) Int) (out:List Letter):Prop where
 mem:∀ z:Letter,z∈out↔F (z.dispute,z.who)=some z.asked
 nd:(out.map fun z=>(z.dispute,z.who)).Nodup
 ord:out.Pairwise (le2 (·.dispute) (·.who))
theorem AL6 {out:List Letter} (h:(out.map fun z=>(z.dispute,z.who)).Nodup):∀ a b,a∈out->b∈out->a.dispute=b.dispute->a.who=b.who->a=b:=fun a b ha hb e1 e2=>by
 rw[List.Nodup,List.pairwise_map] at h
 obtain⟨i,hi,rfl⟩:=List.getElem_of_mem ha
 obtain⟨j,hj,rfl⟩:=List.getElem_of_mem hb
 rw[List.pairwise_iff_getElem] at h
 have e:(out[i].dispute,out[i].who)=(out[j].dispute,out[j].who):=by rw[e1,e2]
 rcases Nat.lt_trichotomy i j with c|c|c
 . exact absurd e (h i j hi hj c)
 . subst c;rfl
 . exact absurd e.symm (h j i hj hi c)
theorem AK2 {F:A3 (Int×Int) Int} {a b:List Letter} (ha:LetS F a) (hb:LetS F b):a=b:=by
 have nd:∀ {x:List Letter},LetS F x->x.Nodup:=fun h=>(List.pairwise_map.1 h.nd).imp fun h e=>h (by rw[e])
 refine AEZ ((List.perm_ext_iff_of_nodup (nd ha) (nd hb)).2 fun z=>by rw[ha.mem,hb.mem]) ha.ord hb.ord (AL6 ha.nd)
theorem AOW {F:A3 (Int×Int) Int} {xs0:List ((Int×Int)×Int)} (h0:Lists F xs0) (hl:xs0.length<=100000):Ret (AAR F fun xs=>Option.bind (List.foldlM AEa [] xs) J3) fun r=>r.2=0/\LetS F r.1:=by
 have each:∀ xs,Lists F xs->Ret (Option.bind (List.foldlM AEa [] xs) J3) fun r=>r=(r.1,0)/\LetS F r.1:=fun xs hxs=>by
  have hp:xs.Perm xs0:=(List.perm_ext_iff_of_nodup ((List.pairwise_map.1 hxs.1).imp fun h e=>h (by rw[e])) ((List.pairwise_map.1 h0.1).imp fun h e=>h (by rw[e]))).2 fun y=>(hxs.2 y.1 y.2).trans (h0.2 y.1 y.2).symm
  have hlen:=hp.length_eq
  have fold:∀ (l:List ((Int×Int)×Int)) (pre:List Letter),pre.length+l.length<=1000000->List.foldlM AEa pre l=some (pre++l.map mkL):=by
   intro l
   induction l with
   |nil=>intro pre _;simp
   |cons y l ih=>
    intro pre h
    rw[List.length_cons] at h
    rw[List.foldlM_cons]
    have:AEa pre y=some (pre++[mkL y]):=ACM (by simp;omega) (by simp;omega)
    rw[this]
    show List.foldlM AEa (pre++[mkL y]) l=_
    rw[ih _ (by simp;omega)]
    simp
  rw[fold xs [] (by simp;omega),List.nil_append,bindS]
  unfold J3
  have hnd:((xs.map mkL).map fun z=>(z.dispute,z.who)).Nodup:=by
   rw[List.map_map];exact hxs.1
  have ho:=AJF (x:=xs.map mkL) (cmp:=fun a b=>I6 a b [49,50]) (k1:=(·.dispute)) (k2:=(·.who)) (fun a b=>AFx (D:=fd118.D) (fun _=>rfl) (fun _=>rfl)) (AL6 hnd) (by rw[List.length_map];omega)
  refine Ret.bind (Ret.bind (ho.mono fun m hm=>Ret.ok (Ret.ok ⟨rfl,fun z=>?_,(hm.1.map _).nodup_iff.2 hnd,hm.2⟩)))
  rw[hm.1.mem_iff,List.mem_map,<-hxs.2]
  constructor
  . rintro⟨y,hy,rfl⟩;exact hy
  . intro h;exact⟨_,h,rfl⟩
 obtain⟨r,h1,h2,h3⟩:=each _ h0
 refine⟨r,AHw h0 fun xs hxs=>?_,by rw[h2],h3⟩
 obtain⟨r',h4,h5,h6⟩:=each xs hxs
 rw[h4,h5,h2,AK2 h6 h3]
def LtS (d:Desk) (asked:List Asked) (day:Int) (r:List Letter×Int):Prop:=∃ z,AFS d day z/\((z.2=9/\r=([],9))\/(z.2=0/\r.2=0/\LetS (APr d z.1 asked day) r.1))
theorem ATd {d:Desk} (hv:Vd d) {day:Int} {z:List Report×Int} (hz:AFS d day z) (h0:z.2=0):VL z.1:=by
 rcases hz with⟨_,rfl⟩|⟨h1,m,h2,h3,rfl⟩
 . cases h0
 have mm:∀ r∈m,∃ x∈d.disputes,r=AEc d x (dec d x)/\3<=(dec d x).is_:=fun r hr=>by
  have hr:=h2.mem_iff.1 hr
  unfold AC2 at hr
  obtain⟨y,hy,rfl⟩:=List.mem_map.1 hr
  obtain⟨y1,y2,y3⟩:=decd_mem.1 hy
  refine⟨y.1,y1,by rw[y3],?_⟩
  unfold wh at y2
  split at y2
  . exact y2
  . split at y2 <;> omega
 refine⟨?_,fun r hr=>?_,fun a ha b hb e=>?_⟩
 . dsimp only
   rw[List.length_append,h2.length_eq];exact h1
 . rcases List.mem_append.1 hr with hr|hr
   . exact hv.r.v r hr
   . obtain⟨x,hx,rfl,h4⟩:=mm r hr
     obtain⟨x1,x2,f,hf,x3,x4⟩:=hv.x.v x hx
     have hfm:=X7 hf
     obtain⟨u1,u2,u3,u4,u5,u6,u7,u8,_⟩:=hv.r.v f hfm.1
     have hdi:=ACz hv hx
     have hb:=AQY hv x
     have hne:f.id≠x.id:=x2 f hfm.1
     unfold AEc
     rw[hf]
     dsimp only[Option.getD_some]
     split
     . exact⟨(show (1:Int)<=8/\(8:Int)<=9 from by decide),x1,u3,u4,u2,hdi,hb.2.2.2.2.1,hb.2.2.2.2.2,(fun h=>absurd (show (8:Int)<=7 from h) (by decide)),(fun _=>hne),(fun h=>absurd (show (8:Int)=9 from h) (by decide))⟩
     . exact⟨(show (1:Int)<=9/\(9:Int)<=9 from by decide),x1,u3,u4,u2,hdi,(show (0:Int)<=0/\(0:Int)<=100000 from by decide),(show (0:Int)<=0/\(0:Int)<=0 from by decide),(fun h=>absurd (show (9:Int)<=7 from h) (by decide)),(fun _=>hne),(fun _=>rfl)⟩
 . rcases List.mem_append.1 ha with ha|ha <;> rcases List.mem_append.1 hb with hb|hb
   . exact hv.r.cons a ha b hb e
   . obtain⟨x,hx,rfl,_⟩:=mm b hb
     rw[AKy] at e
     exact absurd e ((hv.x.v x hx).2.1 a ha)
   . obtain⟨x,hx,rfl,_⟩:=mm a ha
     rw[AKy] at e
     exact absurd e.symm ((hv.x.v x hx).2.1 b hb)
   . exact AAb (AIT hv) a b (h2.mem_iff.1 ha) (h2.mem_iff.1 hb) e
theorem AOX {d:Desk} (hv:Vd d) {asked:List Asked} (ha:AskV asked) {day:Int} (hd:0<=day/\day<=100000):Ret (H0 d asked day) (LtS d asked day):=by
 obtain⟨D,h1,hD⟩:=ACy hv hd
 have hal:=ha.len
 unfold H0
 refine Ret.bind ?_
 unfold AB1
 rw[h1,bindS]
 refine Ret.condF (by decide) (Ret.bind (D4 asked.length (fun n (t:Int×Int)=>t.2=n/\-1<=t.1/\t.1<=999999/\∀ (h:n < asked.length),t.1 < asked[n].id) ⟨rfl,by decide,by decide,fun h=>?_⟩ ?_ ?_))
 . have:=(ha.v _ (List.getElem_mem h)).1
   dsimp only;omega
 . rintro n hlt ⟨p,_⟩ ⟨rfl,hp0,hp1,hp⟩
   dsimp only at hp hp0 hp1
   have hpl:=hp hlt
   obtain⟨v1,v2,v3,v4⟩:=ha.v _ (List.getElem_mem hlt)
   refine Ret.condT (ltT hlt) (Ret.bind (N8 hlt (Ret.bind (Ret.bind (Ret.chk (by omega) ?_)))))
   rw[d_in1,Y8 (by omega),bindS]
   refine Ret.condF rfl ?_
   rw[d_in2,Y8 v2,Y8 v3,bindS]
   refine Ret.condF rfl ?_
   rw[d_in1,Y8 v4,bindS]
   refine Ret.ok (Ret.condF rfl (Ret.bind (Ret.chk (by omega) (Ret.next ⟨by dsimp only;omega,by dsimp only;omega,by dsimp only;omega,fun h=>ha.up n h⟩))))
 . rintro⟨p,_⟩ ⟨rfl,_⟩
   refine Ret.condF (ltF (Nat.le_refl _)) (Ret.done (B8 (Ret.condF (decide_eq_false (by omega)) (O1 (AKz hD hv (day:=day)) fun z hz=>?_))))
   obtain⟨l,e⟩:=z
   rcases id hz with⟨g1,g2⟩|⟨g1,m,g2,g3,g4⟩
   . obtain⟨rfl,rfl⟩:=Prod.mk.inj g2
     exact Ret.condT rfl (Ret.ok (E2 (Ret.ok ⟨_,hz,.inl ⟨rfl,rfl⟩⟩)))
   . obtain⟨rfl,rfl⟩:=Prod.mk.inj g4
     have hVL:=ATd hv hz rfl
     refine Ret.condF rfl (Ret.ok (B8 ?_))
     dsimp only
     rw[AIy hD hv,bindS]
     refine Ret.bind (Ret.over (fun pre (f:A3 (Int×Int) Int)=>f=pre.foldl (ANF d (d.reports++m) asked) fnone) rfl (fun pre y s hpl hp hy hs=>?_) fun s hs=>?_)
     . rw[ATc hD hv hVL ha hy]
       refine Ret.ok ?_
       rw[List.foldl_append,<-hs];rfl
     . obtain⟨xs,hx1,hx2⟩:=AOU (d:=d) (l:=d.reports++m) (asked:=asked) (AC1 d day) fnone [] ⟨List.nodup_nil,fun a y=>by simp[fnone]⟩
       have hdl:=AGy (d:=d) (day:=day)
       have hlx:=hv.x.len
       have:(AC1 d day).length * asked.length<=20 * 40:=Nat.mul_le_mul (by omega) hal
       rw[hs]
       exact (AOW hx1 (by simp only[List.length_nil] at hx2;omega)).mono fun r hr=>⟨_,hz,.inr ⟨rfl,hr.1,hr.2⟩⟩
end S
end Go.Proofs.YtgioiejbphljoaaGreatDoor
set_option maxRecDepth 20000
set_option maxHeartbeats 1000000
set_option linter.unusedVariables false
namespace Go.Proofs.YtgioiejbphljoaaGreatDoor
open Go Go.Sx Go.Rx
namespace S
theorem D0_VL:VL D0.reports:=by
 refine⟨by decide,fun r hr=>?_,fun a ha b hb e=>?_⟩
 . have h:∀ r∈D0.reports,V r:=by unfold V;decide +kernel
   exact h r hr
 . have h:∀ a∈D0.reports,∀ b∈D0.reports,a.id=b.id->a=b:=by decide +kernel
   exact h a ha b hb e
theorem ADL:Vd D0:=by
 refine⟨?_,D0_VL,⟨by decide,fun x hx=>?_,by decide +kernel⟩,⟨by decide,fun a ha=>?_,by decide +kernel⟩⟩
 . unfold TV;decide +kernel
 . have h:∀ x∈D0.disputes,((0<=x.id/\x.id<=999999)/\(∀ r∈D0.reports,r.id≠x.id))/\(match U9 D0.reports x.report with
    |none=>false
    |some f=>decide (f.made<=x.day/\x.day<=100000 - D0.terms.answer - 1))=true:=by decide +kernel
   obtain⟨h1,h2⟩:=h x hx
   cases hf:U9 D0.reports x.report with
   |none=>rw[hf] at h2;cases h2
   |some f=>rw[hf] at h2;exact⟨h1.1,h1.2,f,hf,of_decide_eq_true h2⟩
 . have h:∀ a∈D0.answers,(0<=a.id/\a.id<=999999)/\(0<=a.day/\a.day<=100000)/\(1<=a.says/\a.says<=3)/\∃ x∈D0.disputes,x.id=a.dispute/\(a.says≠2->a.about=0/\a.cents=0)/\(a.says=2->(match U9 D0.reports x.report with
    |none=>true
    |some f=>decide ((0<=a.about/\a.about<=100000)/\0<=a.cents/\a.cents<=most f.kind))=true):=by decide +kernel
   obtain⟨h1,h2,h3,x,h4,h5,h6,h7⟩:=h a ha
   refine⟨h1,h2,h3,x,h4,h5,h6,fun e f hf=>?_⟩
   have:=h7 e
   rw[hf] at this
   exact of_decide_eq_true this
theorem ANI {i day w n:Int} {x:Dispute} (hx:x∈D0.disputes) (hi:x.id=i) (hd:0<=day/\day<=100000) (h1:wh D0 x day=w) (h2:(dec D0 x).day=n):AAK i day w n=some true:=by
 unfold AAK
 rw[show Z8=some D0 from rfl,bindS,<-hi,AIQ ADL hx hd,bindS]
 dsimp only
 rw[decide_eq_true (show (0:Int)=0 from rfl),decide_eq_true h1,decide_eq_true h2]
 rfl
theorem AIU {i day m:Int} (hd:0<=day/\day<=100000) (h1:(U9 D0.reports i).isSome=true) (h2:AFw D0 i day=m):O5 i day m=some true:=by
 unfold O5
 rw[show Z8=some D0 from rfl,bindS,AON ADL hd,if_pos h1,bindS]
 dsimp only
 rw[decide_eq_true (show (0:Int)=0 from rfl),decide_eq_true h2]
 rfl
theorem AK3 {a:List Report} (hl:a.length<=1000000):P7 a a=some true:=by
 refine Ret.eq ?_
 unfold P7
 refine Ret.condF (by simp) (Ret.bind (D4 a.length (fun n (t:Int)=>t=n) rfl ?_ ?_))
 . rintro n hlt _ rfl
   exact Ret.condT (ltT hlt) (Ret.bind (N8 hlt (Ret.bind (N8 hlt (Ret.condF (by simp) (Ret.bind (Ret.chk (by omega) (Ret.next (by omega)))))))))
 . rintro _ rfl
   exact Ret.condF (ltF (Nat.le_refl _)) (Ret.done (B8 (Ret.ok rfl)))
theorem AK4 {a:List Letter} (hl:a.length<=1000000):P8 a a=some true:=by
 refine Ret.eq ?_
 unfold P8
 refine Ret.condF (by simp) (Ret.bind (D4 a.length (fun n (t:Int)=>t=n) rfl ?_ ?_))
 . rintro n hlt _ rfl
   exact Ret.condT (ltT hlt) (Ret.bind (N8 hlt (Ret.bind (N8 hlt (Ret.condF (by simp) (Ret.bind (Ret.chk (by omega) (Ret.next (by omega)))))))))
 . rintro _ rfl
   exact Ret.condF (ltF (Nat.le_refl _)) (Ret.done (B8 (Ret.ok rfl)))
theorem AOY {a:List Int} (hl:a.length<=1000000):V9 a a=some true:=by
 refine Ret.eq ?_
 unfold V9
 refine Ret.condF (by simp) (Ret.bind (D4 a.length (fun n (t:Int)=>t=n) rfl ?_ ?_))
 . rintro n hlt _ rfl
   exact Ret.condT (ltT hlt) (Ret.bind (N8 hlt (Ret.bind (N8 hlt (Ret.condF (by simp) (Ret.bind (Ret.chk (by omega) (Ret.next (by omega)))))))))
 . rintro _ rfl
   exact Ret.condF (ltF (Nat.le_refl _)) (Ret.done (B8 (Ret.ok rfl)))
theorem ADw {α:Type} {k1 k2:α->Int} {a b:α} (h:decide (k1 a < k1 b\/k1 a=k1 b/\k2 a<=k2 b)=true):le2 k1 k2 a b:=of_decide_eq_true (p:=k1 a < k1 b\/k1 a=k1 b/\k2 a<=k2 b) h
theorem ATe:AFS D0 72 (l33,0):=by
 refine .inr ⟨by decide +kernel,[Report.mk 51 70 5 50 10 8 450 1,Report.mk 52 70 5 72 0 9 0 2],?_,?_,rfl⟩
 . rw[show AC2 D0 72=[Report.mk 51 70 5 50 10 8 450 1,Report.mk 52 70 5 72 0 9 0 2] from by kernel_rfl]
 . exact .cons (fun b hb=>by rw[List.mem_singleton.1 hb];exact ADw (by decide)) (List.pairwise_singleton _ _)
theorem AVY:AskV A0:=by
 refine⟨by decide,?_,?_⟩
 . decide +kernel
 . intro n h
   have h4:n+1 < 4:=h
   have:n=0\/n=1\/n=2:=by omega
   rcases this with rfl|rfl|rfl
   . exact (by decide:(5:Int) < 6)
   . exact (by decide:(6:Int) < 7)
   . exact (by decide:(7:Int) < 8)
def L0:List Letter:=[Letter.mk 51 900 5,Letter.mk 52 900 6,Letter.mk 52 901 7]
theorem AWx:APr D0 l33 A0 72=B7 (B7 (B7 (B7 fnone (51,900) 6) (51,900) 5) (52,901) 7) (52,900) 6:=by kernel_rfl
theorem AWy:LetS (APr D0 l33 A0 72) L0:=by
 rw[AWx]
 refine⟨fun z=>?_,by decide,?_⟩
 . obtain⟨a,b,c⟩:=z
   unfold L0 B7 fnone
   simp only[List.mem_cons,List.not_mem_nil,or_false,Letter.mk.injEq,Prod.mk.injEq]
   split
   . rename_i h
     simp[h.1,h.2,eq_comm]
   . rename_i h1
     split
     . rename_i h
       simp[h.1,h.2,eq_comm]
     . rename_i h2
       split
       . rename_i h
         simp[h.1,h.2,eq_comm]
       . rename_i h3
         simp;omega
 . unfold L0
   refine .cons (fun b hb=>?_) (.cons (fun b hb=>?_) (List.pairwise_singleton _ _))
   . simp only[List.mem_cons,List.not_mem_nil,or_false] at hb
     rcases hb with rfl|rfl <;> exact ADw (by decide)
   . rw[List.mem_singleton.1 hb];exact ADw (by decide)
theorem AVZ:AKn D0 45 [51,52,53]:=by
 refine⟨D0.disputes,.refl _,?_,by decide +kernel⟩
 show List.Pairwise _ [Dispute.mk 51 1 40,Dispute.mk 52 2 41,Dispute.mk 53 3 42]
 refine .cons (fun b hb=>?_) (.cons (fun b hb=>?_) (List.pairwise_singleton _ _))
 . simp only[List.mem_cons,List.not_mem_nil,or_false] at hb
   rcases hb with rfl|rfl <;> exact ADw (by decide)
 . rw[List.mem_singleton.1 hb];exact ADw (by decide)
theorem APs {d:Desk} (hv:Vd d) {day:Int} {a b:List Int} (ha:AKn d day a) (hb:AKn d day b):a=b:=by
 obtain⟨m,h1,h2,rfl⟩:=ha
 obtain⟨m',h3,h4,rfl⟩:=hb
 rw[AEZ (h1.trans h3.symm) h2 h4 fun x y hx hy _ e=>AAb hv.x.nd x y (h1.mem_iff.1 hx) (h1.mem_iff.1 hy) e]
theorem APt:AKs:=by
 have d1:Dispute.mk 51 1 40∈D0.disputes:=.head _
 have d2:Dispute.mk 52 2 41∈D0.disputes:=.tail _ (.head _)
 have d3:Dispute.mk 53 3 42∈D0.disputes:=.tail _ (.tail _ (.head _))
 have a1:P5 D0 72=some (l33,0):=by
  obtain⟨r,h1,h2⟩:=APp ADL (day:=72) (by decide)
  rw[h1,AK0 ADL h2 ATe]
 have a2:H0 D0 A0 72=some (L0,0):=by
  obtain⟨r,h1,z,h2,h3⟩:=AOX ADL AVY (day:=72) (by decide)
  have hz:=AK0 ADL h2 ATe
  subst hz
  rcases h3 with⟨h4,_⟩|⟨_,h4,h5⟩
  . cases h4
  . obtain⟨x,e⟩:=r
    have h4:e=0:=h4
    subst h4
    have hx:x=L0:=AK2 h5 AWy
    rw[h1,hx]
 have a3:Q5 D0 45=some ([51,52,53],0):=by
  obtain⟨r,h1,h2,h3⟩:=AQS ADL (day:=45) (by decide)
  obtain⟨x,e⟩:=r
  have h2:e=0:=h2
  subst h2
  have hx:x=[51,52,53]:=APs ADL h3 AVZ
  rw[h1,hx]
 refine⟨l33,L0,[51,52,53],a1,a2,a3,ANI d1 rfl (by decide) (by kernel_rfl) (by kernel_rfl),ANI d2 rfl (by decide) (by kernel_rfl) (by kernel_rfl),ANI d3 rfl (by decide) (by kernel_rfl) (by kernel_rfl),AIU (by decide) (by kernel_rfl) (by kernel_rfl),AIU (by decide) (by kernel_rfl) (by kernel_rfl),AIU (by decide) (by kernel_rfl) (by kernel_rfl),AK3 (by decide),AK4 (by decide),AOY (by decide)⟩
theorem AL7:J9=some true:=if_pos APt
end S
end Go.Proofs.YtgioiejbphljoaaGreatDoor
