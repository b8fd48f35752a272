/-
  Part DisputeFollows 10 of the texts that the statement's proof stands on: what memory holds, how code is walked, what the functions reckon. In the order in which they build.
-/
import Derived.RangeFuncNested
import Derived.Test.YtgioiejbphljoaaGreatDoorFbDisputeFollows9
open List (mem_append mem_cons mem_map mem_singleton toArray)
open Nat (beq blt)
open Go.Proofs.Tryz
set_option linter.unusedVariables false
set_option linter.unusedSectionVars false
set_option maxRecDepth 20000
set_option maxHeartbeats 4000000
noncomputable section
namespace Go.Proofs.YtgioiejbphljoaaGreatDoor
open Go Go.Sx Go.Rx
namespace S
theorem ASP{r:Report}(h:V r):O4 r=some true:=by
 obtain⟨c1,c2,c3,c4,c5,c6,c7,c8,c9,c10,c11⟩:=h;refine Ret.eq ?_;unfold O4;simp only[AEB,bindS];refine Ret.bind (Ret.condF (by rw[C6 c2];rfl) (Ret.condF (by rw[C6 c3];rfl) (Ret.condF (by rw[C6 c4];rfl) (Ret.condF (by rw[C6 c6];rfl) (Ret.condF (by rw[C6 c7];rfl) (Ret.bind (Ret.chk (by omega) (Ret.ok (Ret.condF (by rw[C6 c1];rfl) ?_)))))))));refine Ret.cond (fun h=>?_) fun h=>?_
 . have h:=AYZ h;rw[AK6 (by omega),bindS];exact Ret.bind (Ret.condT (C6 c8) (Ret.ok (Ret.ok (AYc (c9 h)))))
 . have h:=AYb h;refine Ret.bind (Ret.condF (by rw[C6 c5];rfl) (Ret.ok ?_));refine Ret.condF (AYY (c10 (by omega))) ?_;refine Ret.cond (fun c=>?_) fun c=>?_
   . have c:=AYZ c;rw[show most r.kind=1000000000000 by simp[most,c]]at c8;exact Ret.ok (C6 c8)
   . have c:=AYb c;have k9:r.kind=9:=by omega
     have:r.cents=0:=by
      have e:most r.kind=0:=by simp[most,k9]
      omega
     exact Ret.bind (Ret.condT (AYc this) (Ret.ok (Ret.ok (AYc (c11 k9)))))
theorem AQX{r:Report}(hk:0<=r.kind/\r.kind<=255):Ret (O4 r) fun b=>b=true↔V r:=by
 obtain⟨b,H,I⟩:=AMG hk;refine⟨b,H,I,fun h=>?_⟩;rw[ASP h]at H;cases H;rfl
theorem ASQ{r:Report}(hk:0<=r.kind/\r.kind<=255):Ret (G5 r) fun b=>b=true->V r:=by
 have bad:∀{o:Option Bool},Ret (cond true (some false) o) fun b=>b=true->V r:=fun {o}=>Ret.condT rfl (Ret.ok fun h=>by cases h);unfold G5;refine Ret.bind (Ret.bind (Ret.chk (by omega) ?_));rw[ADl (by simp),bindS];refine Ret.cond (fun _=>Ret.ok bad) fun c1=>?_;have c1:1<=r.kind/\r.kind<=9:=by simpa[inB] using c1
 rw[ADl (by simp),bindS];refine Ret.cond (fun _=>Ret.ok bad) fun c2=>?_;have c2:(0<=r.id/\r.id<=999999)/\(0<=r.source/\r.source<=999999)/\(0<=r.account/\r.account<=999999)/\(0<=r.of_/\r.of_<=999999):=by simpa[inB] using c2
 rw[ADl (by simp),bindS];refine Ret.cond (fun _=>Ret.ok bad) fun c3=>?_;have c3:(0<=r.made/\r.made<=100000)/\(0<=r.about/\r.about<=100000):=by simpa[inB] using c3
 rw[AK5 c1,ADl (by simp),bindS];refine Ret.ok (Ret.cond (fun _=>Ret.ok fun h=>by cases h) fun c8=>?_);have c8:0<=r.cents/\r.cents<=most r.kind:=by simpa[inB] using c8
 unfold H6;rw[bindS];refine Ret.cond (fun h=>?_) fun h=>?_
 . have h:=AYZ h;exact Ret.ok fun H=>⟨c1,c2.1,c2.2.1,c2.2.2.1,c2.2.2.2,c3.1,c3.2,c8,fun _=>AYZ H,fun h=>by omega,fun h=>by omega⟩
 . have h:=AYb h;have hx:(cond (decide (r.kind=9)) (some (!decide (r.about=0))) (some false):Option Bool)=some (decide (r.kind=9/\r.about≠0)):=by
    by_cases c:r.kind=9<;>by_cases d:r.about=0<;>simp[c,d]
   refine W5 hx (Ret.cond (fun _=>Ret.ok fun h=>by cases h) fun c11=>Ret.ok fun c10=>?_);have c11:=AYb c11;have c10:r.of_≠r.id:=by simpa using c10
   exact⟨c1,c2.1,c2.2.1,c2.2.2.1,c2.2.2.2,c3.1,c3.2,c8,fun h=>by omega,fun _=>c10,fun k9=>by
    by_cases d:r.about=0
    . exact d
    . exact absurd ⟨k9,d⟩ c11⟩
open Classical in
theorem AQY{r:Report}(hk:0<=r.kind/\r.kind<=255):G5 r=some (decide (V r)):=by
 obtain⟨b,I,H⟩:=ASQ hk;by_cases h:V r
 . rw[AMF h,AYc h]
 . cases b with
   |true=>exact absurd (H rfl) h
   |false=>rw[I,AYY h]
open Classical in
def T6(l:List Report):Int:=if 60<l.length then 4 else if ∀r∈l,V r then(if ADm l then 0 else 31) else 30
theorem code3_0{l:List Report}:T6 l=0↔VL l:=by
 unfold T6;constructor
 . intro h;split at h
   . cases h
   split at h
   . rename_i J I;split at h
     . rename_i H;exact⟨by omega,I,H⟩
     . cases h
   . cases h
 . intro h;rw[if_neg (by have:=h.len;omega),AYf h.v,AYf h.cons]
theorem ALH{l:List Report}(hl:l.length<=60)(h:¬∀r∈l,V r):T6 l=30:=by
 unfold T6;rw[if_neg (by omega),if_neg h]
theorem ALI{l:List Report}(hl:l.length<=60)(h:∀r∈l,V r)(H:¬ADm l):T6 l=31:=by
 unfold T6;rw[if_neg (by omega),AYf h,if_neg H]
theorem AMX{l:List Report}(hk:∀r∈l,0<=r.kind/\r.kind<=255):O5 l=some (T6 l):=by
 refine Ret.eq ?_;unfold O5;refine Ret.cond (fun c=>Ret.ok ?_) fun c1=>?_
 . have c:=AYZ c;unfold T6;rw[AYf (by omega)]
 have c1:=AYb c1;have hl:l.length<=60:=by omega
 refine Ret.bind (B3 l.length (fun n (t:Int)=>t=n/\∀r∈l.take n,V r) ⟨rfl,fun r I=>by simp at I⟩ ?_ ?_)
 . rintro n H _ ⟨rfl,hv⟩;refine Ret.condT (K5 H) (Ret.bind (C0 H (Ret.bind ((AQX (hk _ (AYg H))).mono fun b U=>?_))));cases b with
   |false=>exact Ret.condT rfl (Ret.done (C1 (Ret.ok (ALH hl fun h=>by have:=U.2 (h _ (AYg H));cases this).symm)))
   |true=>
    refine Ret.condF rfl (Ret.bind (Ret.chk (by omega) (Ret.next ⟨by omega,fun r I=>?_⟩)))
    rw[B6 H]at I
    rcases I with I|rfl
    . exact hv r I
    . exact U.1 rfl
 rintro _ ⟨rfl,hv⟩;rw[AYo]at hv;refine Ret.condF (K6 (AYh _)) (Ret.done (B8 (Ret.bind (B3 l.length (fun n (t:Int)=>t=n/\ADm (l.take n)) ⟨rfl,fun a C=>by simp at C⟩ ?_ ?_))))
 . rintro n H _ ⟨rfl,F⟩;refine Ret.condT (K5 H) (Ret.bind (B3 n (fun m (t:Int)=>t=m/\∀r∈l.take m,l[n].id=r.id->l[n]=r) ⟨rfl,fun r I=>by simp at I⟩ ?_ ?_))
   . rintro m hm _ ⟨rfl,E⟩;have J:m<l.length:=by omega
     refine Ret.condT (AYc (by omega)) (Ret.bind (Ret.bind (C0 H (Ret.bind (C0 J (Ret.cond (fun D=>?_) fun D=>?_))))))
     . have D:=AYZ D;refine Ret.bind (C0 H (Ret.bind (C0 J (Ret.ok ?_))));by_cases e:l[n]=l[m]
       . refine Ret.condF (by rw[AYc e];rfl) (Ret.bind (Ret.chk (by omega) (Ret.next ⟨by omega,fun r I hi=>?_⟩)));rw[B6 J]at I;rcases I with I|rfl
         . exact E r I hi
         . exact e
       . exact Ret.condT (by rw[AYY e];rfl) (Ret.done (C1 (Ret.done (C1 (Ret.ok (ALI hl hv fun h=>e (h _ (AYg H) _ (AYg J) D)).symm)))))
     . have D:=AYb D;refine Ret.ok (Ret.condF rfl (Ret.bind (Ret.chk (by omega) (Ret.next ⟨by omega,fun r I hi=>?_⟩))));rw[B6 J]at I;rcases I with I|rfl
       . exact E r I hi
       . exact absurd hi D
   . rintro _ ⟨rfl,E⟩;refine Ret.condF (AYY (by omega)) (Ret.done (B8 (Ret.bind (Ret.chk (by omega) (Ret.next ⟨by omega,fun a C b U W=>?_⟩)))));rw[B6 H]at C U;rcases C with C|rfl<;>rcases U with U|rfl
     . exact F a C b U W
     . exact(E a C W.symm).symm
     . exact E b U W
     . rfl
 . rintro _ ⟨rfl,F⟩;rw[AYo]at F;exact Ret.condF (K6 (AYh _)) (Ret.done (B8 (Ret.ok (code3_0.2 ⟨hl,hv,F⟩).symm)))
open Classical in
theorem AMY{l:List Report}(hk:∀r∈l,0<=r.kind/\r.kind<=255):I5 l=some (T6 l):=by
 refine Ret.eq ?_;unfold I5;refine Ret.cond (fun c=>Ret.ok ?_) fun c1=>?_
 . have c:=AYZ c;unfold T6;rw[AYf (by omega)]
 have c1:=AYb c1;have hl:l.length<=60:=by omega
 have T:L6 l (fun a1=>R0 a1)=some (l.any fun r=>!decide (V r)):=AJe (fun r H=>by
  show (G5 r).bind _=_;rw[AQY (hk r H),bindS]) (by omega)
 rw[T,bindS];refine Ret.cond (fun c=>Ret.ok ?_) fun c=>?_
 . obtain⟨r,H,W⟩:=List.any_eq_true.1 c;exact(ALH hl fun h=>by rw[AYc (h r H)]at W;cases W).symm
 have hv:∀r∈l,V r:=fun r H=>by
  have:=List.any_eq_false.1 c r H;simpa using this
 refine Ret.bind (B3 l.length (fun n (t:Int×A2 Int Report)=>t.1=n/\ADm (l.take n)/\(∀i r,t.2 i=some r->r∈l.take n/\r.id=i)/\∀r∈l.take n,t.2 r.id=some r) ⟨rfl,(fun a U=>by simp at U),(fun i r H=>by cases H),(fun r H=>by simp at H)⟩ ?_ ?_)
 . rintro n I ⟨_,m⟩ ⟨rfl,E,hm,C⟩;dsimp only at hm C;refine Ret.condT (K5 I) (Ret.bind (C0 I (Ret.bind ?_)));have stp:∀{Q:(Unit⊕Int)->Prop},(∀y,m l[n].id=some y->y=l[n])->Ret ((chk .i64 ((n:Int)+1)).bind fun n16=>some (Sum.inl (n16,B9 m l[n].id l[n])):Option ((Int×A2 Int Report)⊕(Unit⊕Int))) (Nxt (fun t=>t.1=((n+1:Nat):Int)/\ADm (l.take (n+1))/\(∀i r,t.2 i=some r->r∈l.take (n+1)/\r.id=i)/\∀r∈l.take (n+1),t.2 r.id=some r) Q):=fun {Q} hy=>by
    refine Ret.bind (Ret.chk (by omega) (Ret.next ⟨by dsimp only;omega,(fun a U b D J=>?_),(fun i r H=>?_),(fun r H=>?_)⟩))
    . rw[B6 I]at U D;rcases U with U|rfl<;>rcases D with D|rfl
      . exact E a U b D J
      . exact hy _ (by rw[<-J];exact C a U)
      . exact(hy _ (by rw[J];exact C b D)).symm
      . rfl
    . dsimp only[B9]at H;rw[B6 I];split at H
      . rename_i e;cases H;exact⟨.inr rfl,e.symm⟩
      . obtain⟨W,K⟩:=hm _ _ H;exact⟨.inl W,K⟩
    . dsimp only[B9];rw[B6 I]at H;rcases H with H|rfl
      . split
        . rename_i e;rw[hy r (by rw[<-e];exact C r H)]
        . exact C r H
      . rw[AYf rfl]
   cases F:m l[n].id with
   |none=>
    refine Ret.condF rfl (Ret.ok (Ret.condF rfl (stp fun y hy=>?_)))
    rw[F]at hy;cases hy
   |some y=>
    refine Ret.condT rfl (Ret.ok ?_)
    by_cases e:y=l[n]
    . refine Ret.condF (by show(!decide (y=l[n]))=false;rw[AYc e];rfl) (stp fun z O=>?_)
      rw[F]at O;cases O;exact e
    . obtain⟨W,K⟩:=hm _ _ F
      refine Ret.condT (by show(!decide (y=l[n]))=true;rw[AYY e];rfl) (Ret.done (C1 (Ret.ok (ALI hl hv fun h=>e (h y (AZI W) _ (AYg I) K)).symm)))
 . rintro⟨_,m⟩ ⟨rfl,E,_,_⟩;rw[AYo]at E;exact Ret.condF (K6 (AYh _)) (Ret.done (B8 (Ret.ok (code3_0.2 ⟨hl,hv,E⟩).symm)))
theorem ANj{d:Desk}(hl:d.reports.length<=1000000)(W:TV d.terms)(h:DV d):N2 d=some true:=by
 refine Ret.eq ?_;unfold N2;obtain⟨t1,t2,t3⟩:=W;have V:=h.len;refine Ret.condF (AYY (by omega)) (Ret.bind (B3 d.disputes.length (fun n (t:Int)=>t=n) rfl ?_ ?_))
 . rintro n H _ rfl;obtain⟨x1,x2,f,x3,x4,x5⟩:=h.v _ (AYg H);refine Ret.condT (K5 H) (Ret.bind (C0 H (Ret.bind ?_)));rw[within5,bindS];refine Ret.condF (by rw[C6 x1];rfl) ?_;rw[At5];refine Ret.bind (AAB (fun _ _=>rfl) (by omega) (fun I=>absurd (I _ (AYg H)) (by simp)) fun k hk U C=>?_);have U:=AYZ U;have e:k=n:=by
    rcases AZw k n with c|c|c
    . have:=(List.pairwise_iff_getElem.1 h.nd) k n (by simpa using hk) (by simpa using H) c;rw[AZo,AZo]at this;exact absurd U this
    . exact c
    . have:=AYb (C _ (List.mem_take_iff_getElem.2 ⟨n,by omega,rfl⟩));exact absurd rfl this
   subst e;refine Ret.condF (by rw[AYc rfl];rfl) ?_;rw[At3];refine Ret.bind (AAB (fun _ _=>rfl) hl (fun I=>Ret.ok ?_) fun m hm I _=>absurd (AYZ I) (x2 _ (AYg hm)));refine Ret.condF (by decide) (Ret.bind (AEC hl (fun J=>by rw[J]at x3;cases x3) fun m hm J=>Ret.bind (Ret.condF (AYY (by omega)) (Ret.bind (C0 hm (Ret.bind (Ret.chk (by omega) (Ret.bind (Ret.chk (by omega) ?_)))))))));rw[J]at x3;have e:=AYS x3;rw[within5,bindS];exact Ret.ok (Ret.condF (by rw[e,C6 ⟨x4,x5⟩];rfl) (Ret.bind (Ret.chk (by omega) (Ret.next (by omega)))))
 . rintro _ rfl;exact Ret.condF (K6 (AYh _)) (Ret.done (B8 (Ret.ok rfl)))
theorem APA{d:Desk}(D:VL d.reports)(hd:DV d)(h:WV d):O1 d=some true:=by
 refine Ret.eq ?_;unfold O1;have E:=D.len;have T:=hd.len;have Y:=h.len;refine Ret.condF (AYY (by omega)) (Ret.bind (B3 d.answers.length (fun n (t:Int)=>t=n) rfl ?_ ?_))
 . rintro n H _ rfl;obtain⟨c2,c3,c4,x,hx,I,w1,w2⟩:=h.v _ (AYg H);refine Ret.condT (K5 H) (Ret.bind (Ret.bind (C0 H (Ret.bind (B3 n (fun m (t:Int)=>t=m) rfl ?_ ?_)))))
   . rintro m hm _ rfl;have V:m<d.answers.length:=by omega
     have ne:d.answers[m].id≠d.answers[n].id:=by
      have:=(List.pairwise_iff_getElem.1 h.nd) m n (by simpa using V) (by simpa using H) hm;rwa [AZo,AZo]at this
     exact Ret.condT (AYc (by omega)) (Ret.bind (C0 V (Ret.condF (AYY ne) (Ret.bind (Ret.chk (by omega) (Ret.next (by omega)))))))
   rintro _ rfl;refine Ret.condF (AYY (by omega)) (Ret.done (B8 (Ret.bind ?_)));rw[within5,bindS];refine Ret.condF (by rw[C6 c2];rfl) ?_;rw[within5,bindS];refine Ret.condF (by rw[C6 c3];rfl) (Ret.bind (Ret.chk (by omega) ?_));rw[within5,bindS];refine Ret.ok (Ret.condF (by rw[C6 c4];rfl) ?_);rw[At5];refine Ret.bind (AAB (fun _ _=>rfl) (by omega) (fun W=>absurd I (AYb (W _ hx))) fun k hk W F=>Ret.condF (AYY (by omega)) ?_);have W:=AYZ W;have e:d.disputes[k]=x:=by
    obtain⟨j,K,rfl⟩:=AZL hx;rcases AZw k j with c|c|c
    . have:=(List.pairwise_iff_getElem.1 hd.nd) k j (by simpa using hk) (by simpa using K) c;rw[AZo,AZo]at this;exact absurd (W.trans I.symm) this
    . subst c;rfl
    . exact absurd I (AYb (F _ (List.mem_take_iff_getElem.2 ⟨j,by omega,rfl⟩)))
   refine Ret.cond (fun J=>?_) fun J=>?_
   . have J:¬d.answers[n].says=2:=AYb (by simpa using J);obtain⟨a1,a2⟩:=w1 J;exact Ret.bind (Ret.condF (by rw[a1];rfl) (Ret.ok (Ret.condF (by rw[a2];rfl) (Ret.ok (B8 (Ret.bind (Ret.chk (by omega) (Ret.next (by omega)))))))))
   . have J:d.answers[n].says=2:=by simpa using J
     obtain⟨_,_,f,C,_⟩:=hd.v _ (AYg hk);obtain⟨c5,c6⟩:=w2 J f (by rw[<-e];exact C);refine Ret.bind (C0 hk (Ret.bind (AEC (by omega) (fun U=>by rw[C]at U;cases U) fun m hm U=>Ret.bind (C0 hm (Ret.bind ?_)))));have ef:=AYS (U.symm.trans C);rw[within5,bindS];refine Ret.condF (by rw[C6 c5];rfl) ?_;have Q:=(O2 U).2.2;have O:=(D.v _ (O2 U).1).1;rw[AOx (by omega),bindS];exact Ret.ok (Ret.condF (by rw[ef,C6 c6];rfl) (Ret.ok (B8 (Ret.bind (Ret.chk (by omega) (Ret.next (by omega)))))))
 . rintro _ rfl;exact Ret.condF (K6 (AYh _)) (Ret.done (B8 (Ret.ok rfl)))
open Classical in
def F4(d:Desk):Int:=if TV d.terms then(if T6 d.reports=0 then(if DV d then(if WV d then 0 else 52) else 51) else T6 d.reports) else 50
theorem AMZ{d:Desk}(J:InD d)(W:d.disputes.length<=1000000):Y3 d=some (F4 d):=by
 refine Ret.eq ?_;unfold Y3;rw[within5,within5,within5];have bad:∀{o:Option Int},¬TV d.terms->Ret (cond true (some (50:Int)) o) (·=F4 d):=fun {o} V=>Ret.condT rfl (Ret.ok (by unfold F4;rw[if_neg V]));refine Ret.bind ?_;rw[bindS];refine Ret.cond (fun c=>Ret.ok (bad fun h=>by rw[C6 h.1]at c;cases c)) fun c1=>?_;rw[bindS];refine Ret.cond (fun c=>Ret.ok (bad fun h=>by rw[C6 h.2.1]at c;cases c)) fun c2=>?_;rw[bindS];refine Ret.ok (Ret.cond (fun c=>Ret.ok ?_) fun c3=>?_)
 . have V:¬TV d.terms:=fun h=>by rw[C6 h.2.2]at c;cases c
   unfold F4;rw[if_neg V]
 have H:TV d.terms:=⟨C9 (by simpa using c1),C9 (by simpa using c2),C9 (by simpa using c3)⟩;rw[AMX J.k,bindS];by_cases e0:T6 d.reports=0;rotate_left
 . exact Ret.condT (by rw[AYY e0];rfl) (Ret.ok (by unfold F4;rw[AYf H,if_neg e0]))
 have I:=code3_0.1 e0;refine Ret.condF (by rw[AYc e0];rfl) ?_;by_cases hd:DV d;rotate_left
 . obtain⟨b,D,C⟩:=ANS (by have:=I.len;omega) W H I;cases b with
   |true=>exact absurd (C rfl) hd
   |false=>rw[D,bindS];exact Ret.condT rfl (Ret.ok (by unfold F4;rw[AYf H,AYf e0,if_neg hd]))
 rw[ANj (by have:=I.len;omega) H hd,bindS];refine Ret.condF rfl ?_;by_cases U:WV d;rotate_left
 . obtain⟨b,D,C⟩:=AOy J.s I hd;cases b with
   |true=>exact absurd (C rfl) U
   |false=>rw[D,bindS];exact Ret.condT rfl (Ret.ok (by unfold F4;rw[AYf H,AYf e0,AYf hd,if_neg U]))
 rw[APA I hd U,bindS];exact Ret.condF rfl (Ret.ok (by unfold F4;rw[AYf H,AYf e0,AYf hd,AYf U]))
end S
end Go.Proofs.YtgioiejbphljoaaGreatDoor
namespace Go.Proofs.YtgioiejbphljoaaGreatDoor
open Go Go.Sx Go.Rx Go.RowKit
def V6(d:Desk_99)(x:Dispute)(v:Verdict)(l:List Report):Option (List Report):=Option.bind (α:=(Int×Int×Int)) (cond (decide (v.is_=3)) (some (v.by_.about,(8:Int),v.by_.cents)) (some ((0:Int),(9:Int),(0:Int)))) ((fun (x1,x2,x3)=>(appo 64 l ([(Report.mk x.id (((d.facts x.report).getD (Report.mk 0 0 0 0 0 0 0 0)).source) (((d.facts x.report).getD (Report.mk 0 0 0 0 0 0 0 0)).account) v.day x1 x2 x3 (((d.facts x.report).getD (Report.mk 0 0 0 0 0 0 0 0)).id))])).bind fun l4=>some (l4)))
def AJI:An:=.nd .x (.nd .x (.nd (.nd .x (.jn [.norm ⟨[(.cell 10 4,.d (.int .i64)),(.cell 10 5,.d (.int .u8)),(.cell 10 6,.d (.int .i64))],[10,6,66]⟩] .x)) .x))
def AAt(d:Desk_99)(l:List Report):Option (List Report×Int):=(chk .i64 ((d.desk.reports.length:Int)+(l.length:Int))).bind fun n1=>cond (decide (60<n1)) (some (([]:List Report),(9:Int))) ((H4 ([(78:Nat),(79:Nat)]) l).bind fun (_,m2)=>(T4 ([d.desk.reports,m2])).bind fun r3=>some (r3,(0:Int)))
def ALJ:An:=.x
end Go.Proofs.YtgioiejbphljoaaGreatDoor
namespace Go.Rx
open Go Go.Sx Go.RowKit
section
variable[Trk][Sg][Sf]{P:Program}[Se P][Anch]{w0 w:World}{M:List Nat}{N:Nat}{ds:List Deferred}
theorem ANk[Sl (P:=P)]{G:Gx}(D:GxOk P G)(r:Option Nat){n:Nat}(c:Code)(an:An){sh:Sh}{σ:AS}{x:N6 sh.cs}{L:A5}{w:World}{A B:A3}{X:Nat->A3}{Z:List PanicEntry->A3}(h:exec G N (fun _=>(none:Option Unit)) c an (I3 sh) (fun _ _=>none) (fun _=>none) σ=some x)(C:Holds (P:=P) w0 [] M σ L w)(hA:∀L' w',EnvS (D6 c++D4 an) L L'->Holds (P:=P) w0 [] M (C2 (D6 c++D4 an) sh σ x) L' w'->A ds L' w'):CF r n P N c ds L w A B X Z:=
 AC8 (I7 D c an _ _ _ _ _ _ _ _ _ _ _ _ _ h C (fun σ1 L1 w1 E V I H=>by
  obtain⟨S,ρ,γ,μ,ι,U⟩:=H;exact hA L1 w1 I (S9 U V E)) (fun i σ2 L2 w2 J=>by cases J) (fun r σ2 L2 w2 J F _ W=>by cases J) PZ.no)
end
theorem AF8[Trk][Sg][Sf]{P:Program}[Se P][Sl (P:=P)][Sn P](J:¬Trk.t){G:Gx}(T:GxOk P G){f:Func}{cs:List Ck}{M:List Nat}{w:World}{r:I1 cs}(V:Nat.ble cs.length 4=true)(K:tnK cs=true){D:Nat}(hD:w.heap.size<=D){σ':AS}{L':A5}{w':World}(L:V2 G cs f.results.toList σ'=some r)(F:@Holds _ _ _ P _ (AHq D) _ w [] M σ' L' w'):FinM P f (fun e w'=>∃vs,e=.returned (ACF vs)/\KsOk (P:=P) M (obK cs vs++M) w w' cs r vs/\Ext w w') [{ target:=.collected D,args:=#[] }] L' w':=by
 obtain⟨vs,N,Z,X,I⟩:=@AMB _ _ _ P _ _ (AHq D) G T _ _ _ _ _ _ _ _ F L;obtain⟨S,ρ,γ,μ,ι,Q⟩:=F;have E:D∉mm S M/\w'.heap[D]?=some (.deferred (some [])):=by
  letI:=AHq D
  exact Q.anch.1
 have H:Tn w' (w'.putObj D (.deferred none)):=⟨by simp,fun b o U W=>by
  by_cases e:b=D
  . subst e;rw[E.2]at U;cases U;cases W
  . exact(World.putObj_heap_other e).trans U⟩
 have hx:Ext w (w'.putObj D (.deferred none)):=⟨I.os,I.tape,I.output,AYk I.size (by simp),fun b O V=>(World.putObj_heap_other (by omega)).trans (I.block b O V),fun h=>absurd h J⟩;have B:=P9 (P:=P) (fn:=f) (R:=fun e w'=>∃vs,e=.returned (ACF vs)/\KsOk (P:=P) M (obK cs vs++M) w w' cs r vs/\Ext w w') (by simp) (AllRs.tn H N) (by rw[Z];exact V) ⟨vs,by rw[AEk],KsOk.tn H cs K X,hx⟩;obtain⟨_,v,A,Y⟩:=B;exact .inr ⟨D,_,rfl,run_takeDeferred E.2,v,fun a C=>A { tmps:=a.tmps,defers:=[] } ⟨C.size,rfl,C.val⟩,Y⟩
end Go.Rx
namespace Go.Proofs.YtgioiejbphljoaaGreatDoor
open Go Go.Sx Go.Rx Go.RowKit
theorem AUG:AJ5 ReportE:=fun h=>ReportE_R.2 (ReportE_R.1 h)
def ABm(x:Dispute):List Value:=[.int .i64 x.id,.int .i64 x.report,.int .i64 x.day]
def ADn(v:Verdict):List Value:=[.int .i64 v.day,.int .u8 v.is_,.int .i64 v.by_.id,.int .i64 v.by_.dispute,.int .i64 v.by_.day,.int .u8 v.by_.says,.int .i64 v.by_.about,.int .i64 v.by_.cents]
noncomputable def AXq:Code:=match f41.body with
 |some (.seq _ (.seq _ (.seq (.seq _ (.block _ c)) _)))=>c
 |_=>.skip
noncomputable def AUH:Code:=match AXq with
 |.rangeFunc _ _ _ b=>b
 |_=>.skip
noncomputable def AUI:Code:=match f41.body with
 |some (.seq _ (.seq _ (.seq _ c)))=>c
 |_=>.skip
def sB(d:Desk_99)(x:Dispute)(v:Verdict)(l:List Report):AS:=⟨(6,.ptr 6 0)::[(2,.rp (.str 10 d) 0),(7,.rp (.str 2 x) 0),(8,.rp (.str 12 v) 0)],[(6,.row 24 [.own 66]),(66,.own false (.sl 45 (.st 1)) l)],[],[]⟩
def sP(d:Desk_99)(l:List Report):AS:=⟨(6,.ptr 6 0)::[(2,.rp (.str 10 d) 0)],[(6,.row 24 [.own 66]),(66,.own false (.sl 45 (.st 1)) l)],[],[]⟩
def shB:Sh:=⟨[(.cell 6 0,.own (.sl 45 (.st 1)))],[6]⟩
def cs41:List Ck:=[.own (.sl 45 (.st 1)),.d (.int .i64)]
def ANl:Gx:={ gxb with fs:=[(78,ctr78),(79,ctr79),(80,ctr80)],fm:=[(77,ctrm77)] }
theorem AIk:GxOk prog ANl:=AHv ⟨⟨ok78,call78⟩,⟨ok79,call79⟩,⟨ok80,call80⟩,trivial⟩ trivial ⟨⟨okm77,call77⟩,trivial⟩
theorem ASR(d:Desk_99)(x:Dispute)(v:Verdict)(l:List Report):exec gxb 65 (fun _=>(none:Option Unit)) AUH AJI (I3 shB) (fun _ _=>none) (fun _=>none) (sB d x v l)=V6 d x v l:=by kernel_rfl
theorem AUJ(d:Desk_99)(l:List Report):exec ANl 65 (V2 ANl cs41 f41.results.toList) AUI ALJ (V2 ANl cs41 f41.results.toList) (fun _ _=>none) some (sP d l)=AAt d l:=by kernel_rfl
def AXr(M:List Nat)(b6:Nat)(Lb:Sx.A5)(x:Dispute×Verdict)(L:Sx.A5)(W:World):Prop:=∃b7 b8 u,L=(8,.pointer (some ⟨b8,0,none⟩))::(7,.pointer (some ⟨b7,0,none⟩))::(15,K8 (.st 12) x.2)::(14,K8 (.st 2) x.1)::Lb/\Row 53 W b7 (ABm x.1)/\Row 111 W b8 (ADn x.2)/\Row 24 W b6 [u]/\(b7∉ob u/\b7≠b6/\b7∉M)/\(b8∉ob u/\b8≠b6/\b8∉M)
theorem AG7{e:TypeId}{W W':World}{b:Nat}{cs:List Value}{row:Option Nat}(h:Row e W b cs)(I:W.grownBy W' row)(H:∀r,row=some r->∃o:Obj,W.heap[r]?=some o/\o.isCells=false):Row e W' b cs:=by
 have h:W.heap[b]?=_:=h;refine(I.block b (J6 h) fun e'=>?_).trans h;obtain⟨o',g1,g2⟩:=H b e'.symm;rw[h]at g1;cases g1;cases g2
theorem AJJ[Anch]{w:World}{M:List Nat}{b6:Nat}{u:Value}{l:List Report}{L:Sx.A5}{W:World}{env:List (Nat×SV)}(e2:Hp w [] M (F5 ReportE 45 24 b6 u l) W)(l6:Sx.A4 L 6=some (.pointer (some ⟨b6,0,none⟩)))(J:∀t s,A0 env t=some s->∃v,Sx.A4 L t=some v/\Ok (P:=prog) (fun i=>if i=6 then .pointer (some ⟨b6,0,none⟩) else u) (A0 [(6,.row 24 [.own 66]),(66,.own false (.sl 45 (.st 1)) l)]) (mm (F5 ReportE 45 24 b6 u l) M) W s v)(hA:AnOk (P:=prog) (mm (F5 ReportE 45 24 b6 u l) M) W):
  Holds (P:=prog) w [] M ⟨(6,.ptr 6 0)::env,[(6,.row 24 [.own 66]),(66,.own false (.sl 45 (.st 1)) l)],[],[]⟩ L W:=by
 refine⟨F5 ReportE 45 24 b6 u l,fun i=>if i=6 then .pointer (some ⟨b6,0,none⟩) else u,fun i=>if i=6 then [u] else [],fun _=>[],fun i=>if i=6 then 1 else 0,e2,fun i a hi=>?_,fun i j a b hi H e=>?_,fun i a hi=>?_,fun t s I=>?_,hA⟩
 . rw[fnd_cons]at hi
   split at hi
   . rename_i e;subst e;cases hi;rfl
   rw[fnd_cons]at hi
   split at hi
   . rename_i e;subst e;cases hi;rfl
   cases hi
 . rw[fnd_cons]at hi H
   split at hi<;>split at H
   . rename_i e1 e2;rw[<-e1,<-e2]
   . rename_i e1 e2
     rw[fnd_cons]at H
     split at H
     . rename_i e3;subst e1 e3;cases e
     . cases H
   . rename_i e1 e2
     rw[fnd_cons]at hi
     split at hi
     . rename_i e3;subst e2 e3;cases e
     . cases hi
   . rw[fnd_cons]at hi H
     split at hi<;>split at H
     . rename_i e3 e4;rw[<-e3,<-e4]
     . cases H
     . cases hi
     . cases hi
 . rw[fnd_cons]at hi
   split at hi
   . rename_i e;subst e;cases hi
     exact⟨⟨b6,rfl⟩,u,[u],[],rfl,⟨rfl,Own.cells1 (e2.ownAt 0 rfl),Own.oneC (e2.ownAt 0 rfl)⟩,Own.cells1 (e2.ownAt 0 rfl),rfl⟩
   rw[fnd_cons]at hi
   split at hi
   . rename_i e;subst e;cases hi;trivial
   cases hi
 . rw[fnd_cons]at I
   split at I
   . rename_i e;subst e;cases I;exact⟨_,l6,b6,rfl,rfl⟩
   . exact J t s I
def F3(d:Desk_99)(day:Int):Option (List Report×Int):=(D3 d day).bind fun ys=>(ABp (fun l (y:Dispute×Verdict)=>V6 d y.1 y.2 l) [] ys).bind fun l=>AAt d l
def ctr41:Ctr:=⟨[.d (.st 10),.d (.int .i64)],cs41,fun a=>F3 a.1 a.2.1⟩
theorem ok41:Ctr.ok prog 41 ctr41:=by
 refine⟨by decide,fun M w a vals r hM hg ha J=>?_⟩;obtain⟨d,day,_⟩:=a;obtain⟨vd,_,rfl,X,vk,_,rfl,g,rfl⟩:=ha;have X:OkD (P:=prog) M w (.st 10) d vd:=X;have g:OkD (P:=prog) M w (.int .i64) day vk:=g;have J:F3 d day=some r:=J;unfold F3 at J;obtain⟨ys,hys,J⟩:=U2 J;obtain⟨l0,hl0,J⟩:=U2 J;obtain⟨ho1,ho2⟩:=AFF hl0;have N:=X;obtain⟨cs,C,h3⟩:=X;obtain rfl:vd=.agg (toArray cs):=h3.elim (fun h=>h.2) fun h=>by cases h.1
 have hncs:cs.length=8:=(enc (P:=prog) (.st 10)).len C;refine AFD (l:=[.agg (toArray cs),vk]) func41 rfl rfl rfl ?_;have hI:=Hp.start (Mu:=[]) hM;refine A6 ?_;refine A9 ?_;refine AAQ hI rfl rfl rfl ?_;intro b2 w2 R x2;have hC2:=R.freezeRow 0 rfl;have R:=R.erase 0;refine H2 rfl rfl ?_;refine H2 rfl rfl ?_;refine Reg.nil ?_;refine A6 ?_;refine A9 ?_;refine ACn R zeroValue24 rfl rfl ?_;intro b6 w3 O x3;refine Reg.nil ?_;have O:Hp w [] M (F5 ReportE 45 24 b6 (.slice none 0 0) []) w3:=O.addNil ReportE 45;have Y:Adv M (mm (F5 ReportE 45 24 b6 (.slice none 0 0) []) M) w w3:=O.adv;have hb6:w.heap.size<=b6:=((O.own _ (AYU (i:=1) rfl)).2 b6 (mem_singleton.2 rfl)).resolve_left (fun h=>by cases h);have hC3:RdC (mm (F5 ReportE 45 24 b6 (.slice none 0 0) []) M) w3 b2 0 cs:=(hC2.adv x3).adv (ACP ReportE 45);refine A6 ?_;refine A6 ?_;refine A9 ?_;refine ABF rfl hC3.cells isAgg99 hncs sizeOf99 rfl ?_;refine K4 rfl rfl ?_;refine AAC rfl call45 rfl ?_;refine(ok45.2 (mm (F5 ReportE 45 24 b6 (.slice none 0 0) []) M) w3 (d,day,()) [.agg cs.toArray,vk] ys O.mlt (hg.adv Y) ⟨_,_,rfl,OkD.adv N Y,_,_,rfl,OkD.adv g Y,rfl⟩ hys).mono ?_;rintro _ w4 ⟨_,rfl,⟨v13,rfl,⟨gf,lb,rfl,heg,hok,hit⟩,_⟩,x4⟩;refine⟨_,rfl,?_⟩;refine Reg.nil ?_;have p:=O.ext x4;have G:=Adv.of_ext (M:=mm (F5 ReportE 45 24 b6 (.slice none 0 0) []) M) x4;have hC4:=hC3.adv G;have hd4:=OkD.adv N (Y.trans G);have hg4:=hg.adv (Y.trans G);have hseq:=hit (mm (F5 ReportE 45 24 b6 (.slice none 0 0) []) M) w4 (Adv.refl _ _) p.mlt {x // x∈ys} Subtype.val ys.attach (AY8 ys);generalize Z:((13,ACF [Value.func (.func gf) #[] lb])::(12,vk)::(11,Value.agg cs.toArray)::(6,Value.pointer (some ⟨b6,0,none⟩))::(5,Value.int .i64 0)::(4,Value.slice none 0 0)::(2,Value.pointer (some ⟨b2,0,none⟩))::X9 0 [Value.agg cs.toArray,vk])=Lb;have lb2:Sx.A4 Lb 2=some (.pointer (some ⟨b2,0,none⟩)):=by rw[<-Z];rfl
 have lb6:Sx.A4 Lb 6=some (.pointer (some ⟨b6,0,none⟩)):=by rw[<-Z];rfl
 have lb13:Sx.A4 Lb 13=some (.func (.func gf) #[] lb):=by rw[<-Z];rfl
 clear Z;have hcells:∀x∈ys,okI (.st 2) x.1/\okI (.st 12) x.2:=hok;let S0:=F5 ReportE 45 24 b6 (.slice none 0 0) [];let I:List {x // x∈ys}->World->Prop:=fun pre W=>∃l u,List.foldlM (fun l (y:Dispute×Verdict)=>V6 d y.1 y.2 l) [] (pre.map Subtype.val)=some l/\Hp w [] M (F5 ReportE 45 24 b6 u l) W/\Adv (mm S0 M) (mm (F5 ReportE 45 24 b6 u l) M) w4 W;have f:w.heap.size<=w4.heap.size:=p.kp.size;have hKI:∀{u u':Value} {l l':List Report} {W W':World},Hp w [] M (F5 ReportE 45 24 b6 u l) W->Hp w [] M (F5 ReportE 45 24 b6 u' l') W'->Adv (mm S0 M) (mm (F5 ReportE 45 24 b6 u l) M) w4 W->Adv (mm (F5 ReportE 45 24 b6 u l) M) (mm (F5 ReportE 45 24 b6 u' l') M) W W'->KeepsFrom w4.heap.size W W'/\KI (mm S0 M) w4.heap.size W W':=fun {u u' l l' W W'} h h' hA Q=>by
  obtain⟨_,k⟩:=h.kb h' Q;refine⟨⟨k.size,fun i o hB=>k.same i o (AYk f hB)⟩,Q.kp.os,Q.kp.tape,Q.kp.output,Q.kp.size,fun b V hn=>?_⟩;refine Q.kp.block b (AYn V hA.kp.size) fun hm=>?_;exact(hA.new b hm).elim hn fun h=>by omega
 refine G7 ?_;refine AMu (val:=fun x:{x // x∈ys}=>K8 (.st 2) x.1.1) (val2:=fun x:{x // x∈ys}=>K8 (.st 12) x.1.2) (K:=KI (mm S0 M) w4.heap.size) (xs:=ys.attach) lb13 heg rfl rfl hseq (fun h k=>h.trans k) (fun W k o o' hk _ _ _=>KI.putObj hk) I (fun _ _=>False) ?_ (fun _ _ _ _ h _ _=>h.elim) ⟨[],.slice none 0 0,rfl,p,Adv.refl _ _⟩ (fun x L' W=>AXr M b6 Lb x.1 L' W) ?_ ?_ ?_ ?_ (fun _ _ _ _ _ h _=>h.elim)
 . rintro pre W W' row ⟨l,u,e1,e2,e3⟩ E J;exact⟨l,u,e1,e2.turnG AUG (fun h=>h) E (fun r e=>⟨AYk f (J r e).1,(J r e).2⟩),Adv.turn (fun h=>h) e3 E J⟩
 . rintro x L' _ W W' row ⟨b7,b8,u,e1,e2,e3,e4,e5⟩ E J;exact⟨b7,b8,u,e1,AG7 e2 E fun r e=>(J r e).2,AG7 e3 E fun r e=>(J r e).2,AG7 e4 E fun r e=>(J r e).2,e5⟩
 . rintro k pre x W ⟨l,u,e1,e2,e3⟩;refine AHO ?_;refine ABK rfl ?_;refine ACn e2 zeroValue53 rfl rfl ?_;intro b7 w5 hI5 x5;refine ABd 0 (vs:=ABm x.1.1) hI5 rfl rfl rfl rfl sizeOf53 rfl rfl (D5 rfl (D5 rfl (D5 rfl ACj))) ?_;intro w6 m x6;have m:Hp w [] M (rowR 53 b7 (ABm x.1.1)::F5 ReportE 45 24 b6 u l) w6:=m;refine Reg.nil ?_;refine ABK rfl ?_;refine ACn m zeroValue111 rfl rfl ?_;intro b8 w7 hI7 x7;refine ABd 0 (vs:=ADn x.1.2) hI7 rfl rfl rfl rfl sizeOf111 rfl rfl (D5 rfl (D5 rfl (D5 rfl (D5 rfl (D5 rfl (D5 rfl (D5 rfl (D5 rfl ACj)))))))) ?_;intro w8 H x8;have H:Hp w [] M (rowR 111 b8 (ADn x.1.2)::rowR 53 b7 (ABm x.1.1)::F5 ReportE 45 24 b6 u l) w8:=H;have hI9:Hp w [] M (F5 ReportE 45 24 b6 u l) w8:=(H.erase 0).erase 0;have hA:Adv (mm (F5 ReportE 45 24 b6 u l) M) (mm (F5 ReportE 45 24 b6 u l) M) W w8:=x5.trans (x6.trans (x7.trans (x8.trans ((G2 (σ:=rowR 111 b8 (ADn x.1.2)::rowR 53 b7 (ABm x.1.1)::F5 ReportE 45 24 b6 u l) 0).trans (G2 (σ:=rowR 53 b7 (ABm x.1.1)::F5 ReportE 45 24 b6 u l) 0)))));obtain⟨k1,k2⟩:=hKI e2 hI9 e3 hA;refine Reg.nil ⟨rfl,k1,k2,⟨l,u,e1,hI9,e3.trans hA⟩,b7,b8,u,rfl,H.row 1 rfl,H.row 0 rfl,H.row 3 rfl,⟨?_,?_,?_⟩,?_,?_,?_⟩
   . exact fun V=>H.dis 1 2 _ _ rfl rfl (by omega) b7 (mem_singleton.2 rfl) V
   . exact fun e=>H.dis 1 3 _ _ rfl rfl (by omega) b7 (mem_singleton.2 rfl) (mem_singleton.2 e)
   . exact H.sepM _ (AYU (i:=1) rfl) b7 (mem_singleton.2 rfl)
   . exact fun V=>H.dis 0 2 _ _ rfl rfl (by omega) b8 (mem_singleton.2 rfl) V
   . exact fun e=>H.dis 0 3 _ _ rfl rfl (by omega) b8 (mem_singleton.2 rfl) (mem_singleton.2 e)
   . exact H.sepM _ (AYU (i:=0) rfl) b8 (mem_singleton.2 rfl)
 . rintro k pre x L' W ⟨l,u,e1,e2,e3⟩ ⟨b7,b8,u',rfl,r7,r8,r6,s7,s8⟩ hlt;obtain rfl:u'=u:=by
    have e9:W.heap[b6]?=_:=e2.row 1 rfl;have e8:W.heap[b6]?=_:=r6;rw[e9]at e8;have:=AYS e8;injection this with h9;simpa using h9.symm
   obtain⟨l',hb',hfold⟩:=ho2 (pre.map Subtype.val) x.1 l (by simpa using hlt) (fun y hy=>by obtain⟨z,_,rfl⟩:=mem_map.1 hy;exact z.2) x.2 e1;have L:∀b,b∈mm (F5 ReportE 45 24 b6 u' l) M->b∈ob u'\/b=b6\/b∈M:=fun b V=>by
    simp only[mm,ownR,rowR,mem_append,mem_cons,List.not_mem_nil,or_false]at V;rcases V with C|C|C
    . exact .inl C
    . exact .inr (.inl C)
    . exact .inr (.inr C)
   letI:Anch:=AVd (mm (F5 ReportE 45 24 b6 u' l) M) W
   have j:Holds (P:=prog) w [] M (sB d x.1.1 x.1.2 l) ((8,.pointer (some ⟨b8,0,none⟩))::(7,.pointer (some ⟨b7,0,none⟩))::(15,K8 (.st 12) x.1.2)::(14,K8 (.st 2) x.1.1)::Lb) W:=by
    refine AJJ e2 lb6 (fun t s U=>?_) ⟨Adv.refl _ _,hg4.adv e3⟩;rw[fnd_cons]at U;split at U
    . rename_i e;subst e;cases U;exact⟨_,lb2,b2,0,_,cs,rfl,hC4.adv e3,OkD.adv hd4 e3,rfl⟩
    rw[fnd_cons]at U;split at U
    . rename_i e;subst e;cases U;exact⟨_,rfl,b7,0,_,ABm x.1.1,rfl,H3 (fun V=>(L b7 V).elim s7.1 fun h=>h.elim s7.2.1 s7.2.2) r7,AEA (.st 2) (hcells x.1 x.2).1,rfl⟩
    rw[fnd_cons]at U;split at U
    . rename_i e;subst e;cases U;exact⟨_,rfl,b8,0,_,ADn x.1.2,rfl,H3 (fun V=>(L b8 V).elim s8.1 fun h=>h.elim s8.2.1 s8.2.2) r8,AEA (.st 12) (hcells x.1 x.2).2,rfl⟩
    cases U
   refine AGy (ANk AF6 (some k) AUH AJI (sh:=shB) ((ASR d x.1.1 x.1.2 l).trans hb') j fun L2 W2 hE2 B=>?_);obtain⟨S2,ρ2,γ2,μ2,ι2,F⟩:=B;obtain⟨v6,l26,bb,hbb,rfl⟩:=F.env 6 (.ptr 6 0) rfl;have hbb6:bb=b6:=by
    have:=(hE2 6 (by decide)).trans lb6;rw[l26]at this;injection this with h9;injection h9 with h9;simpa using h9
   subst hbb6;obtain⟨bq,hbq,rq,oq,iq⟩:=F.rowAt (i:=6) (e:=24) (l:=[.own 10600]) rfl;rw[hbb]at hbq;cases hbq;obtain⟨q,eq1,oq1⟩:=AIe oq;have oq1:q=[]:=oq1;rw[oq1]at eq1;rw[eq1]at iq;have io:=F.res 10600 (.own false (.sl 45 (.st 1)) l') rfl;have io:S2[ι2 10600]?=some (ownR [] ReportE 45 (ρ2 10600) l'):=io;have hni:ι2 10600≠ι2 6:=fun e=>by
    have:=F.inj 10600 6 _ _ rfl rfl e;cases this
   have S:sel S2 [ι2 10600,ι2 6]=F5 ReportE 45 24 bb (ρ2 10600) l':=by
    simp only[sel,nthR_eq,io,iq]
   have v:=F.hp.sel [ι2 10600,ι2 6] (by simp[ABv,hni]);rw[S]at v;have c:Adv (mm (F5 ReportE 45 24 bb u' l) M) (mm (F5 ReportE 45 24 bb (ρ2 10600) l') M) W W2:=by
    have C:Adv (mm (F5 ReportE 45 24 bb u' l) M) (mm S2 M) W W2:=F.anch.1;have T:=C.trans (AIB (M:=M) (w:=W2) (σ:=S2) [ι2 10600,ι2 6]);rw[S]at T;exact T
   obtain⟨k1,k2⟩:=hKI e2 v e3 c;exact⟨k1,k2,l',ρ2 10600,by rw[AYp];exact hfold,v,e3.trans c⟩
 . rintro D W hD ⟨l,u,e1,e2,e3⟩ A;rw[AY8,ho1]at e1;cases e1
   have hDm:D∉mm (F5 ReportE 45 24 b6 u l0) M:=fun V=>by
    simp only[mm,ownR,rowR,mem_append,mem_cons,List.not_mem_nil,or_false]at V;rcases V with C|C|C
    . obtain⟨o,T,h3⟩:=(e2.ownAt 0 rfl).isC D C;rw[A]at T;cases T;cases h3
    . have T:W.heap[b6]?=_:=e2.row 1 rfl;rw[<-C,A]at T;cases T
    . have:=hM D C;omega
   letI:Anch:=AHq D
   have j:Holds (P:=prog) w [] M (sP d l0) Lb W:=by
    refine AJJ e2 lb6 (fun t s U=>?_) ⟨⟨hDm,A⟩,hg4.adv e3⟩;rw[fnd_cons]at U;split at U
    . rename_i e;subst e;cases U;exact⟨_,lb2,b2,0,_,cs,rfl,hC4.adv e3,OkD.adv hd4 e3,rfl⟩
    cases U
   have hDw:w.heap.size<=D:=AYk f hD;exact AAW (n:=3) (AC8 (I7 AIk AUI ALJ _ _ _ _ _ _ _ _ _ _ _ _ _ ((AUJ d l0).trans J) j (fun σ2 L2 w2 T _ _ B=>AF8 (fun h=>h) AIk (by decide) rfl hDw T B) (fun i σ2 L2 w2 T=>by cases T) (fun r' σ2 L2 w2 hp hk _ B=>by
    have hk:r'=r:=AYS hk;subst hk;exact AF8 (fun h=>h) AIk (by decide) rfl hDw hp B) PZ.no))
def Y7(d:Desk)(asked:List Asked)(day:Int):Option ((Desk_99×List Asked×List Report×Int)⊕(List Letter×Int)):=(M4 d day).bind fun (r1,r2)=>cond ((!decide (r2=0))) (some (Sum.inr (([]:List Letter),r2))) ((B5 (S:=(Int×Int)) (R:=(Unit⊕((List Letter)×Int))) (fun (x12,x13)=>cond (decide (x13<(asked.length:Int))) ((ixo asked x13).bind fun y14=>Option.bind (α:=Bool) ((chk .i64 (x12+1)).bind fun n15=>(E2 n15 (999999:Int) ([y14.id])).bind fun r16=>cond ((!r16)) (some true) ((E2 (0:Int) (999999:Int) ([y14.who,y14.account])).bind fun r17=>cond ((!r17)) (some true) ((E2 (0:Int) (100000:Int) ([y14.day])).bind fun r18=>some (!r18)))) ((fun x19=>cond (x19) (some (Sum.inr (Sum.inr (([]:List Letter),(53:Int))))) ((chk .i64 (x13+1)).bind fun n20=>some (Sum.inl (y14.id,n20)))))) (some (Sum.inr (Sum.inl ())))) (((-1):Int),(0:Int))).bind ((Sum.elim (fun _=>cond (decide (40<(asked.length:Int))) (some (Sum.inr (([]:List Letter),(53:Int)))) ((F3 r1 day).bind fun (r21,r22)=>cond ((!decide (r22=0))) (some (Sum.inr (([]:List Letter),r22))) (some (Sum.inl (r1,asked,r21,day))))) (fun r23=>some (Sum.inr r23)))))
def AMa:An:=.nd .x (.nd .x (.nd .x (.nd .x (.nd (.nd .x (.lp ⟨[(.slot 10,.d (.int .i64)),(.slot 37,.d (.int .i64))],[8,4]⟩ [.exit 0 ⟨[],[8,4]⟩,.ret] (.nd .x (.nd .x (.nd (.nd .x (.nd (.nd (.jn [.norm ⟨[(.slot 63,.d .bool)],[12,8,4]⟩] .x) .x) .x)) .x))))) .x))))
def AAu(l:List Report)(y:Dispute)(v:Verdict):Option (Report×Bool):=(T5 l v.day).bind fun r1=>some (((r1 y.report).getD (Report.mk 0 0 0 0 0 0 0 0)),((r1 y.report).isSome))
def AIl:An:=.x
def AAa(x:Desk_99)(l:List Report)(y:Dispute)(v:Verdict)(now:Report)(is_:Bool)(a:Asked):Option (Bool⊕Unit):=Option.bind (α:=Bool) (cond ((!decide (a.account=(((x.facts y.report).getD (Report.mk 0 0 0 0 0 0 0 0)).account)))) (some true) (cond (decide (v.day<=a.day)) (some true) ((chk .i64 (v.day-a.day)).bind fun n2=>some (decide (x.desk.terms.lately<n2))))) ((fun x3=>cond (x3) (some (Sum.inr ())) ((T5 l a.day).bind fun r4=>Option.bind (α:=Bool) (cond ((r4 y.report).isSome) (cond (decide ((((r4 y.report).getD (Report.mk 0 0 0 0 0 0 0 0)).about)<=a.day)) (cond ((!is_)) (some true) (some (!decide (((r4 y.report).getD (Report.mk 0 0 0 0 0 0 0 0))=now)))) (some false)) (some false)) ((fun x5=>some (Sum.inl (x5)))))))
def AG8:An:=.nd (.nd (.jn [.norm ⟨[(.slot 126,.d .bool)],[]⟩] .x) .x) (.nd .x (.jn [.norm ⟨[(.slot 153,.d .bool)],[]⟩] .x))
def K1(l:List Letter):Option (List Letter×Int):=(H5 ([(49:Nat),(50:Nat)]) l).bind fun (_,m1)=>some (m1,(0:Int))
def ALK:An:=.x
end Go.Proofs.YtgioiejbphljoaaGreatDoor
namespace Go.Rx
open Go Go.Sx Go.RowKit
def ALL:Nat->Code->An->Bool
 |0,.seq _ _,_=>true
 |n+1,.seq _ b,.nd _ r=>ALL n b r
 |_,_,_=>false
section
variable[Trk][Sg][Sf]{P:Program}[Se P][Anch]{w0 w:World}{M:List Nat}{r:Option Nat}{n N:Nat}{ds:List Deferred}
theorem ALM[Sl (P:=P)]{G:Gx}(O:GxOk P G):∀(m:Nat) (c:Code) (an:An) {Y:Type} {KN:AS->Option Y} {KX:Nat->AS->Option Y} {σ:AS} {L:A5} {w:World} {z:Y} {A B:A3} {X:Nat->A3} {Z:List PanicEntry->A3},(∀(L:A5) (w:World) (v:Value) (T t:Nat) (L2:A5) (ds:List Deferred),blt t pnc=true->(∀u,u≠t->Sx.A4 L2 u=Sx.A4 L u)->X (ACw T t) ds ((t,v)::L) w->Z [{ v:=.iface T v,recovered:=false }] ds L2 w)->ALL m c an=true->exec G N (fun _=>(none:Option Unit)) (N3 m c) an KN KX (fun _=>none) σ=some z->Holds (P:=P) w0 [] M σ L w ->
  (∀σ' L' w',KN σ'=some z->EnvS (D6 (N3 m c)++D4 an) L L'->Holds (P:=P) w0 [] M σ' L' w'->CF r n P N (AJf m c) ds L' w' A B X Z) ->
  (∀i σ' L' w',KX i σ'=some z->EnvS (D6 (N3 m c)++D4 an) L L'->Holds (P:=P) w0 [] M σ' L' w'->X i ds L' w')->CF r n P N c ds L w A B X Z
 |0,.seq a b,an,Y,KN,KX,σ,L,w,z,A,B,X,Z,D,_,h,K,hA,E=>AKr (I7 O a an _ _ _ _ _ _ _ _ _ _ _ _ _ h K (fun σ1 L1 w1 Q _ V C=>hA σ1 L1 w1 Q V C) (fun i σ2 L2 w2 U _ J I=>E i σ2 L2 w2 U J I) (fun r σ2 L2 w2 U S _ I=>by cases U) ⟨fun T t L1 L2 w v W hl hx=>D L1 w v T t L2 ds W hl hx,fun _ _ _ _ h=>h⟩)
 |m+1,.seq a b,.nd l q,Y,KN,KX,σ,L,w,z,A,B,X,Z,D,H,h,K,hA,E=>by
  have H:ALL m b q=true:=H;have h:exec G N (fun _=>(none:Option Unit)) a l (fun σ'=>exec G N (fun _=>(none:Option Unit)) (N3 m b) q KN KX (fun _=>none) σ') KX (fun _=>none) σ=some z:=h;have F:∀t∈D6 a++D4 l,t∈D6 (N3 (m+1) (.seq a b))++D4 (.nd l q):=fun t W=>(mem_append.1 W).elim (fun h=>AYV _ (AYV _ h)) fun h=>AYW _ (AKu (.nd l q) t h);have R:∀t∈D6 (N3 m b)++D4 q,t∈D6 (N3 (m+1) (.seq a b))++D4 (.nd l q):=fun t W=>(mem_append.1 W).elim (fun h=>AYV _ (AYW _ h)) fun h=>AYW _ (AKv (.nd l q) t h);refine AKr (I7 O a l _ _ _ _ _ _ _ _ _ _ _ _ _ h K (fun σ1 L1 w1 Q _ V C=>?_) (fun i σ2 L2 w2 U _ J I=>E i σ2 L2 w2 U (J.mono F) I) (fun r σ2 L2 w2 U S _ I=>by cases U) ⟨fun T t L1 L2 w v W hl hx=>D L1 w v T t L2 ds W hl hx,fun _ _ _ _ h=>h⟩);exact ALM O m b q D H Q C (fun σ2 L2 w2 U J I=>hA σ2 L2 w2 U ((V.mono F).trans (J.mono R)) I) fun i σ2 L2 w2 U J I=>E i σ2 L2 w2 U ((V.mono F).trans (J.mono R)) I
 |m+1,.seq a b,.x,_,_,_,_,_,_,_,_,_,_,_,_,H,_,_,_,_=>by cases H
 |m+1,.seq a b,.jn _ _,_,_,_,_,_,_,_,_,_,_,_,_,H,_,_,_,_=>by cases H
 |m+1,.seq a b,.lp _ _ _,_,_,_,_,_,_,_,_,_,_,_,_,H,_,_,_,_=>by cases H
 |0,.skip,_,_,_,_,_,_,_,_,_,_,_,_,_,H,_,_,_,_|0,.region _ _ _,_,_,_,_,_,_,_,_,_,_,_,_,_,H,_,_,_,_|0,.cond _ _ _,_,_,_,_,_,_,_,_,_,_,_,_,_,H,_,_,_,_|0,.loop _,_,_,_,_,_,_,_,_,_,_,_,_,_,H,_,_,_,_|0,.exit _,_,_,_,_,_,_,_,_,_,_,_,_,_,H,_,_,_,_|0,.ret,_,_,_,_,_,_,_,_,_,_,_,_,_,H,_,_,_,_
 |0,.scope _,_,_,_,_,_,_,_,_,_,_,_,_,_,H,_,_,_,_|0,.label _,_,_,_,_,_,_,_,_,_,_,_,_,_,H,_,_,_,_|0,.goto _,_,_,_,_,_,_,_,_,_,_,_,_,_,H,_,_,_,_|0,.refuse _,_,_,_,_,_,_,_,_,_,_,_,_,_,H,_,_,_,_|0,.block _ _,_,_,_,_,_,_,_,_,_,_,_,_,_,H,_,_,_,_|0,.rangeFunc _ _ _ _,_,_,_,_,_,_,_,_,_,_,_,_,_,H,_,_,_,_
 |_+1,.skip,_,_,_,_,_,_,_,_,_,_,_,_,_,H,_,_,_,_|_+1,.region _ _ _,_,_,_,_,_,_,_,_,_,_,_,_,_,H,_,_,_,_|_+1,.cond _ _ _,_,_,_,_,_,_,_,_,_,_,_,_,_,H,_,_,_,_|_+1,.loop _,_,_,_,_,_,_,_,_,_,_,_,_,_,H,_,_,_,_|_+1,.exit _,_,_,_,_,_,_,_,_,_,_,_,_,_,H,_,_,_,_|_+1,.ret,_,_,_,_,_,_,_,_,_,_,_,_,_,H,_,_,_,_
 |_+1,.scope _,_,_,_,_,_,_,_,_,_,_,_,_,_,H,_,_,_,_|_+1,.label _,_,_,_,_,_,_,_,_,_,_,_,_,_,H,_,_,_,_|_+1,.goto _,_,_,_,_,_,_,_,_,_,_,_,_,_,H,_,_,_,_|_+1,.refuse _,_,_,_,_,_,_,_,_,_,_,_,_,_,H,_,_,_,_|_+1,.block _ _,_,_,_,_,_,_,_,_,_,_,_,_,_,H,_,_,_,_|_+1,.rangeFunc _ _ _ _,_,_,_,_,_,_,_,_,_,_,_,_,_,H,_,_,_,_=>by cases H
end
end Go.Rx
namespace Go.Sx
open Go Go.RowKit
variable[Trk]{P:Program}{N:Nat}{ds:List Deferred}{L:A5}{w:World}{A:A3}{B:A3}{X:Nat->A3}{Z:List PanicEntry->A3}{g:Operand}{p:Nat}{p2:Nat}{assign:Code}{body:Code}{gf:Nat}{lb:Array Value}{α:Type}{xs:List α}{K:World->World->Prop}
theorem ANm(m:Nat){val val2:α->Value}(z:ev L g=some (.func (.func gf) #[] lb))(eg:∀args w,(callFunc gf args).run P w=.ok (.enter gf args) w)(y:blt p N=true)(S:blt p2 N=true)(E:SeqStopsK Fence.wide (m+1) P gf lb (fun x:α=>#[val x,val2 x]) K (fun ys=>ys=xs) (fun pre=>pre <+: xs) xs.length w)(M:∀{A B C:World},K A B->K B C->K A C)(b:∀(W:World) (l:Nat) (o o':Obj),w.heap.size<=l->W.heap[l]?=some o->o.isCells=false->o.isWalk=false->K W (W.putObj l o'))(I Ix:List α->World->Prop)(hI:OwnFrom w.heap.size I)(d:OwnFrom w.heap.size Ix)(h0:I [] w)(AL:α->A5->World->Prop)(f:∀x L',OwnFrom w.heap.size fun (_:Unit) W=>AL x L' W)(hassign:∀(l:Nat) (pre:List α) (x:α) (W:World),I pre W->CI l m P N assign [] ((p2,val2 x)::(p,val x)::L) W (fun ds' L' W'=>ds'=[]/\KeepsFrom w.heap.size W W'/\K W W'/\I pre W'/\AL x L' W') (fun _ _ _=>False) NoX (fun _ _ _ _=>False))(hbody:∀(l:Nat) (pre:List α) (x:α) (L':A5) (W:World),w.heap.size<=l->(∃r,W.heap[l]?=some (.loop r))->I pre W->AL x L' W->pre.length<xs.length ->
   CI l m P N body [] L' W (fun _ _ W'=>KeepsFrom w.heap.size W W'/\K W W'/\I (pre++[x]) W') (fun _ _ W'=>KeepsFrom w.heap.size W W'/\Ix (pre++[x]) W') NoX (fun _ _ _ _=>False))(hdone:∀(D:Nat) (W:World),w.heap.size<=D->I xs W->W.heap[D]?=some (.deferred (some []))->A ({ target:=.collected D,args:=#[] }::ds) L W)(hstop:∀(D:Nat) (pre:List α) (W:World),w.heap.size<=D->pre <+: xs->Ix pre W->W.heap[D]?=some (.deferred (some []))->B ({ target:=.collected D,args:=#[] }::ds) L W):
  CW P N (.rangeFunc g #[p,p2] assign body) ds L w A B X Z:=by
 intro a J
 refine(wpIn_wide (n:=m+2)).1 ?_
 refine wpIn_rangeFunc_ownH (F:=Fence.wide) (n:=m+2) rfl (by omega) (J.eval z) trivial eg E (fun h k=>M h k) b (Below.refl _ _) (fun x=>rfl) I (fun c pre W=>c=.ret/\Ix pre W) hI
  (fun c s W W' row T V R=>⟨T.1,d s W W' row T.2 V R⟩) h0 (fun x a' W=>∃L',Knows N [] L' a'/\AL x L' W) (fun x a' s W W' row T V R=>?_) ?_ ?_ ?_ ?_
 . obtain⟨L',U,q⟩:=T
   exact⟨L',U,f x L' () W W' row q V R⟩
 . intro l pre x W K' hi hK
   have hk:Knows N [] ((p2,val2 x)::(p,val x)::L) { tmps:=(a.tmps.setIfInBounds p (val x)).setIfInBounds p2 (val2 x),defers:=[] }:=by
    have U:=(show Knows N [] L { a with defers:=[] } from⟨J.size,rfl,J.val⟩).put y (val x);exact U.put S (val2 x)
   have u:(Array.foldl (fun (t:Array Value) (x:Tmp×Value)=>match x with|(p,v)=>t.setIfInBounds p v) a.tmps (#[p,p2].zip #[val x,val2 x]))=(a.tmps.setIfInBounds p (val x)).setIfInBounds p2 (val2 x):=by simp
   rw[u]
   refine wpIn_mono (hassign l pre x W hi _ hk) fun e a' W' H=>?_
   cases e with
   |normal=>obtain⟨ds',L',U,rfl,Q,j,h5,h6⟩:=H;exact hK a' W' Q j h5 ⟨L',U,h6⟩
   |ret=>obtain⟨_,_,_,h⟩:=H;exact h.elim
   |exit i=>obtain⟨_,_,_,h⟩:=H;exact h.elim
   |panic c=>obtain⟨_,_,_,h⟩:=H;exact h.elim
   |goto l=>exact H.elim
   |outgrown=>exact H.elim
 . intro l pre x a' W Y O hi hA hl
   obtain⟨L',U,q⟩:=hA
   refine wpIn_mono (hbody l pre x L' W Y O hi q hl a' U) fun e a' W' H=>?_
   cases e with
   |normal=>obtain⟨ds',L',U,Q⟩:=H;exact Q
   |ret=>obtain⟨ds',L',U,Q,j⟩:=H;exact⟨Q,rfl,j⟩
   |exit i=>obtain⟨_,_,_,h⟩:=H;exact h.elim
   |panic c=>obtain⟨_,_,_,h⟩:=H;exact h.elim
   |goto l=>exact H.elim
   |outgrown=>exact H.elim
 . intro D ys W hD hy hi G
   subst hy
   exact⟨_,L,⟨J.size,by rw[J.defers],J.val⟩,hdone D W hD hi G⟩
 . intro D c pre W hD hy hi G
   obtain⟨rfl,hi⟩:=hi
   exact wpIn_ret ⟨_,L,⟨J.size,by rw[J.defers],J.val⟩,hstop D pre W hD hy hi G⟩
theorem ANn(m:Nat){l0:Nat}{val val2:α->Value}(hrec0:∃r,w.heap[l0]?=some (.loop r))(z:ev L g=some (.func (.func gf) #[] lb))(eg:∀args w,(callFunc gf args).run P w=.ok (.enter gf args) w)(y:blt p N=true)(R:blt p2 N=true)(V:SeqStopsK Fence.wide (m+1) P gf lb (fun x:α=>#[val x,val2 x]) K (fun ys=>ys=xs) (fun pre=>pre <+: xs) xs.length w)(M:∀{A B C:World},K A B->K B C->K A C)(b:∀(W:World) (l:Nat) (o o':Obj),w.heap.size<=l->W.heap[l]?=some o->o.isCells=false->o.isWalk=false->K W (W.putObj l o'))(I Ix:List α->World->Prop)(hI:OwnFrom w.heap.size I)(d:OwnFrom w.heap.size Ix)(h0:I [] w)(AL:α->A5->World->Prop)(f:∀x L',OwnFrom w.heap.size fun (_:Unit) W=>AL x L' W)(hassign:∀(l:Nat) (pre:List α) (x:α) (W:World),I pre W->CI l m P N assign [] ((p2,val2 x)::(p,val x)::L) W (fun ds' L' W'=>ds'=[]/\KeepsFrom w.heap.size W W'/\K W W'/\I pre W'/\AL x L' W') (fun _ _ _=>False) NoX (fun _ _ _ _=>False))(hbody:∀(l:Nat) (pre:List α) (x:α) (L':A5) (W:World),w.heap.size<=l->(∃r,W.heap[l]?=some (.loop r))->I pre W->AL x L' W->pre.length<xs.length ->
   CI l m P N body [] L' W (fun _ _ W'=>KeepsFrom w.heap.size W W'/\K W W'/\I (pre++[x]) W') (fun _ _ W'=>KeepsFrom w.heap.size W W'/\Ix (pre++[x]) W') NoX (fun _ _ _ _=>False))(hdone:∀(W:World),I xs W->A ds L W)(S:∀pre W,¬Ix pre W):
  CI l0 (m+2) P N (.rangeFunc g #[p,p2] assign body) ds L w A B X Z:=by
 intro a Q
 obtain⟨r0,Y⟩:=hrec0
 refine wpIn_rangeFunc_ownN (F:=FW l0) (n:=m+2) (l₀:=l0) rfl Y (by omega) (Q.eval z) trivial eg V (fun h k=>M h k) b (Below.refl _ _) (fun x=>rfl) I (fun c pre W=>c=.ret/\Ix pre W) hI
  (fun c s W W' row O U G=>⟨O.1,d s W W' row O.2 U G⟩) h0 (fun x a' W=>∃L',Knows N [] L' a'/\AL x L' W) (fun x a' s W W' row O U G=>?_) ?_ ?_ ?_ ?_
 . obtain⟨L',J,q⟩:=O
   exact⟨L',J,f x L' () W W' row q U G⟩
 . intro l pre x W K' hi hK
   have hk:Knows N [] ((p2,val2 x)::(p,val x)::L) { tmps:=(a.tmps.setIfInBounds p (val x)).setIfInBounds p2 (val2 x),defers:=[] }:=by
    have J:=(show Knows N [] L { a with defers:=[] } from⟨Q.size,rfl,Q.val⟩).put y (val x);exact J.put R (val2 x)
   have u:(Array.foldl (fun (t:Array Value) (x:Tmp×Value)=>match x with|(p,v)=>t.setIfInBounds p v) a.tmps (#[p,p2].zip #[val x,val2 x]))=(a.tmps.setIfInBounds p (val x)).setIfInBounds p2 (val2 x):=by simp
   rw[u]
   refine wpIn_mono (hassign l pre x W hi _ hk) fun e a' W' H=>?_
   cases e with
   |normal=>obtain⟨ds',L',J,rfl,E,j,h5,h6⟩:=H;exact hK a' W' E j h5 ⟨L',J,h6⟩
   |ret=>obtain⟨_,_,_,h⟩:=H;exact h.elim
   |exit i=>obtain⟨_,_,_,h⟩:=H;exact h.elim
   |panic c=>obtain⟨_,_,_,h⟩:=H;exact h.elim
   |goto l=>exact H.elim
   |outgrown=>exact H.elim
 . intro l pre x a' W T D hi hA hl
   obtain⟨L',J,q⟩:=hA
   refine wpIn_mono (hbody l pre x L' W T D hi q hl a' J) fun e a' W' H=>?_
   cases e with
   |normal=>obtain⟨ds',L',J,E⟩:=H;exact E
   |ret=>obtain⟨ds',L',J,E,j⟩:=H;exact⟨E,rfl,j⟩
   |exit i=>obtain⟨_,_,_,h⟩:=H;exact h.elim
   |panic c=>obtain⟨_,_,_,h⟩:=H;exact h.elim
   |goto l=>exact H.elim
   |outgrown=>exact H.elim
 . intro ys W hy hi
   subst hy
   exact⟨_,L,Q,hdone W hi⟩
 . intro c pre W hy hi
   exact absurd hi.2 (S _ _)
end Go.Sx
namespace Go.Proofs.YtgioiejbphljoaaGreatDoor
open Go Go.Sx Go.Rx Go.RowKit
theorem AQZ:prog.cellsOf 116=2:=by kernel_rfl
theorem AUK:prog.keyType 116=true:=by kernel_rfl
theorem AUL:prog.cellsOf 3=1:=by kernel_rfl
def K116:Ky prog 116 (Int×Int):=ASs (show laidOutB prog=true by kernel_rfl) (m:=2) (by omega) (AYZ (by kernel_rfl)) (by kernel_rfl) (by rw[underlying116]) (fun x=>.agg (toArray [.int .i64 x.1,.int .i64 x.2])) (fun x=>InK .i64 x.1/\InK .i64 x.2)
 (fun {x} h=>by
  exact AVB underlying116 underlying3 AQZ AUL AUK (AYZ (by kernel_rfl)) h.1 h.2)
 (fun {a b} _ _ h=>by
  cases a;cases b;simp at h;simp[h])
abbrev MP(bd:Nat)(f:A2 (Int×Int) Int):List Res:=[mapO K116 (B2 .i64) false bd f]
theorem V7{M':List Nat}{W W':World}{B:Nat}(h:Adv M' M' W W')(U:∀b∈M',b<B)(V:B<=W.heap.size):KeepsFrom B W W'/\KI M' B W W':=
 ⟨⟨h.kp.size,fun k o hk I _=>(h.kp.block k (J6 I) fun hm=>by have:=U k hm;omega).trans I⟩,h.kp.os,h.kp.tape,h.kp.output,h.kp.size,fun b H J=>h.kp.block b (AYn H V) J⟩
theorem AG9{M:List Nat}{W W':World}{b o:Nat}{cs:List Value}{row:Option Nat}(h:RdC M W b o cs)(J:W.grownBy W' row)(I:∀r,row=some r->∃o:Obj,W.heap[r]?=some o/\o.isCells=false):RdC M W' b o cs:=by
 obtain⟨H,_⟩:=ADe (B:=0) J fun r e=>⟨AY0 _,I r e⟩;exact⟨h.out,AYn h.lt H.1,H.cells h.cells⟩
structure D16(M':List Nat)(W:World)(x:Desk_99)(al:List Asked)(l:List Report)(p8 p4 p13:Value)(b14 bd:Nat):Prop where
 g:GlOk (P:=prog) M' W
 h8:Ok (P:=prog) (fun _=>undef) (fun _=>none) M' W (.rp (.str 10 x) 0) p8
 h4:Ok (P:=prog) (fun _=>undef) (fun _=>none) M' W (.rp (.dat (.sl (.st 5)) al) 0) p4
 h13:Ok (P:=prog) (fun _=>undef) (fun _=>none) M' W (.rp (.dat (.sl (.st 1)) l) 0) p13
 h14:RdC M' W b14 0 [.map (some bd)]
theorem D16.adv{M':List Nat}{W W':World}{x:Desk_99}{al:List Asked}{l:List Report}{p8 p4 p13:Value}{b14 bd:Nat}(h:D16 M' W x al l p8 p4 p13 b14 bd)(H:Adv M' M' W W'):D16 M' W' x al l p8 p4 p13 b14 bd:=
 ⟨h.g.adv H,Ok.adv H _ h.h8,Ok.adv H _ h.h4,Ok.adv H _ h.h13,h.h14.adv H⟩
def inB(x:Desk_99)(l:List Report)(y:Dispute)(v:Verdict)(now:Report)(is_:Bool)(f:A2 (Int×Int) Int)(a:Int×Asked):Option (A2 (Int×Int) Int):=(AAa x l y v now is_ a.2).bind fun b=>some (match b with
 |.inl true=>B9 f (y.id,a.2.who) a.2.id
 |_=>f)
def AH7(a:Asked):List Value:=[.int .i64 a.id,.int .i64 a.who,.int .i64 a.account,.int .i64 a.day]
noncomputable def AUM:Code:=match f16.body with
 |some (.seq _ (.seq _ (.seq _ (.seq _ (.seq _ (.seq _ (.seq _ (.seq _ (.seq _ (.seq (.seq _ (.block _ (.rangeFunc _ _ _ (.block _ c)))) _))))))))))=>c
 |_=>.skip
noncomputable def AUN:Code:=match AUM with
 |.seq _ (.seq _ (.block _ c))=>c
 |_=>.skip
noncomputable def ANo:Code:=match AUN with
 |.rangeFunc _ _ _ (.block _ c)=>c
 |_=>.skip
def AQa(σ:AS):Option (Bool⊕Unit):=match A0 σ.env 153 with
 |some (.bool b)=>some (.inl b)
 |_=>none
def ANp(x:Desk_99)(l:List Report)(y:Dispute)(v:Verdict)(now:Report)(is_:Bool)(a:Asked):List (Nat×SV):=[(8,.rp (.str 10 x) 0),(13,.rp (.dat (.sl (.st 1)) l) 0),(15,.rp (.str 2 y) 0),(16,.rp (.str 12 v) 0),(17,.rp (.str 1 now) 0),(18,.rp (.bool is_) 0),(20,.rp (.str 5 a) 0)]
def AQb:Gx:={ gxb with fs:=[(46,ctr46)] }
theorem AMb:GxOk prog AQb:=A8 ⟨⟨ok46,call46⟩,trivial⟩
theorem AUO(x:Desk_99)(l:List Report)(y:Dispute)(v:Verdict)(now:Report)(is_:Bool)(a:Asked):exec AQb 181 (fun _=>(none:Option Unit)) (N3 2 ANo) AG8 AQa (fun i _=>bif beq i 5 then some (.inr ()) else none) (fun _=>none) ⟨ANp x l y v now is_ a,[],[],[]⟩=AAa x l y v now is_ a:=by kernel_rfl
def AXs(M':List Nat)(Lb:Sx.A5)(a:Int×Asked)(L:Sx.A5)(W:World):Prop:=∃b20,L=(20,.pointer (some ⟨b20,0,none⟩))::(98,K8 (.st 5) a.2)::(97,K8 (.int .i64) a.1)::Lb/\RdC M' W b20 0 (AH7 a.2)
theorem ASS{l0:Nat}{w wi:World}{M:List Nat}{bd b14:Nat}{x:Desk_99}{al:List Asked}{l:List Report}{y:Dispute}{v:Verdict}{now:Report}{is_:Bool}{p8 p4 p13 p15 p16 p17 p18 pb:Value}{f f':A2 (Int×Int) Int}{Li:Sx.A5}{ds:List Deferred}{A B:A3}{X:Nat->A3}{Z:List PanicEntry->A3}(hbd:bd<wi.heap.size)(hI:Hp w [] M (MP bd f) wi)(N:∃r,wi.heap[l0]?=some (.loop r))(hD:D16 (bd::M) wi x al l p8 p4 p13 b14 bd)(q:Ok (P:=prog) (fun _=>undef) (fun _=>none) (bd::M) wi (.rp (.str 2 y) 0) p15)(h16:Ok (P:=prog) (fun _=>undef) (fun _=>none) (bd::M) wi (.rp (.str 12 v) 0) p16)(h17:Ok (P:=prog) (fun _=>undef) (fun _=>none) (bd::M) wi (.rp (.str 1 now) 0) p17)(h18:Ok (P:=prog) (fun _=>undef) (fun _=>none) (bd::M) wi (.rp (.bool is_) 0) p18)(hpb:Ok (P:=prog) (fun _=>undef) (fun _=>none) (bd::M) wi (.rp (.dat (.sl (.st 5)) al) 0) pb)(hky:InK .i64 y.id)(l8:Sx.A4 Li 8=some p8)(l13:Sx.A4 Li 13=some p13)(l14:Sx.A4 Li 14=some (.pointer (some ⟨b14,0,none⟩)))(l15:Sx.A4 Li 15=some p15)(l16:Sx.A4 Li 16=some p16)(l17:Sx.A4 Li 17=some p17)(l18:Sx.A4 Li 18=some p18)(l96:Sx.A4 Li 96=some (.func (.func 85) #[] #[pb]))(hbs:∀a∈bwN al al.length,ADd [.int .i64,.st 5] a)(G:ABp (inB x l y v now is_) f (bwN al al.length)=some f')(hA:∀W,Hp w [] M (MP bd f') W->Adv (bd::M) (bd::M) wi W->A ds Li W):CI l0 3 prog 181 AUN ds Li wi A B X Z:=by
 obtain⟨ho1,ho2⟩:=AFF G;have V:MLt (bd::M) wi:=hI.mlt;have hwi:w.heap.size<=wi.heap.size:=hI.kp.size;let I:List {x // x∈bwN al al.length}->World->Prop:=fun pre W=>∃g,List.foldlM (inB x l y v now is_) f (pre.map Subtype.val)=some g/\Hp w [] M (MP bd g) W/\Adv (bd::M) (bd::M) wi W;refine ANn 1 (val:=fun a:{x // x∈bwN al al.length}=>K8 (.int .i64) a.1.1) (val2:=fun a=>K8 (.st 5) a.1.2) (K:=KI (bd::M) wi.heap.size) (xs:=(bwN al al.length).attach) N l96 call85 rfl rfl (AIg 2 V hD.g hpb Subtype.val _ (AY8 _)) (fun h k=>h.trans k) (fun W k o o' hk _ _ _=>KI.putObj hk) I (fun _ _=>False) ?_ (fun _ _ _ _ h _ _=>h.elim) ⟨f,rfl,hI,Adv.refl _ _⟩ (fun a L' W=>AXs (bd::M) Li a.1 L' W) ?_ ?_ ?_ ?_ (fun _ _ h=>h)
 . rintro pre W W' row ⟨g,e1,e2,e3⟩ D G;exact⟨g,e1,Hp.turn (fun h=>h) e3.kp.size hwi (AQs hbd tn0) e2 D G,Adv.turn (fun h=>h) e3 D G⟩
 . rintro a L' _ W W' row ⟨b20,e1,e2⟩ D G;exact⟨b20,e1,AG9 e2 D fun r e=>(G r e).2⟩
 . rintro k pre a W ⟨g,e1,e2,e3⟩;refine ABK rfl ?_;refine ACn e2 zeroValue47 rfl rfl ?_;intro b20 w5 hI5 x5;refine ABd 0 (vs:=AH7 a.1.2) hI5 rfl rfl rfl rfl sizeOf47 rfl rfl (D5 rfl (D5 rfl (D5 rfl (D5 rfl ACj)))) ?_;intro w6 F x6;have F:Hp w [] M (rowR 47 b20 (AH7 a.1.2)::MP bd g) w6:=F;have hA:Adv (bd::M) (bd::M) W w6:=x5.trans (x6.trans (G2 (σ:=rowR 47 b20 (AH7 a.1.2)::MP bd g) 0));obtain⟨k1,k2⟩:=V7 hA V e3.kp.size;exact Reg.nil ⟨rfl,k1,k2,⟨g,e1,F.erase 0,e3.trans hA⟩,b20,rfl,F.freezeRow 0 rfl⟩
 . rintro k pre a L' W hwl hrk ⟨g,e1,e2,e3⟩ ⟨b20,rfl,e5⟩ hlt;obtain⟨g',U,hfold⟩:=ho2 (pre.map Subtype.val) a.1 g (by simpa using hlt) (fun y hy=>by obtain⟨z,_,rfl⟩:=mem_map.1 hy;exact z.2) a.2 e1;unfold inB at U;obtain⟨z,hz,U⟩:=U2 U;have U:=AYS U;have Q:=hD.adv e3;have hMW:MLt (bd::M) W:=e2.mlt;have S:okI (.st 5) a.1.2:=(hbs a.1 a.2).2;have hst:Holds (P:=prog) W [] (bd::M) ⟨ANp x l y v now is_ a.1.2,[],[],[]⟩ ((20,.pointer (some ⟨b20,0,none⟩))::(98,K8 (.st 5) a.1.2)::(97,K8 (.int .i64) a.1.1)::Li) W:=by
    refine Holds.start hMW (fun t s H=>?_) ⟨trivial,Q.g⟩;unfold ANp at H;rw[fnd_cons]at H;split at H
    . rename_i e;subst e;cases H;exact⟨_,l8,Q.h8⟩
    rw[fnd_cons]at H;split at H
    . rename_i e;subst e;cases H;exact⟨_,l13,Q.h13⟩
    rw[fnd_cons]at H;split at H
    . rename_i e;subst e;cases H;exact⟨_,l15,Ok.adv e3 _ q⟩
    rw[fnd_cons]at H;split at H
    . rename_i e;subst e;cases H;exact⟨_,l16,Ok.adv e3 _ h16⟩
    rw[fnd_cons]at H;split at H
    . rename_i e;subst e;cases H;exact⟨_,l17,Ok.adv e3 _ h17⟩
    rw[fnd_cons]at H;split at H
    . rename_i e;subst e;cases H;exact⟨_,l18,Ok.adv e3 _ h18⟩
    rw[fnd_cons]at H;split at H
    . rename_i e;subst e;cases H;exact⟨_,rfl,b20,0,_,AH7 a.1.2,rfl,e5,AEA (.st 5) S,rfl⟩
    cases H
   refine AEQ ?_;refine AGy (l:=k) ?_;refine ALM AMb 2 ANo AG8 (KN:=AQa) (KX:=fun i _=>bif beq i 5 then some (.inr ()) else none) ?_ rfl ((AUO x l y v now is_ a.1.2).trans hz) hst (fun σ' L2 W2 hK m O=>?_) (fun i σ' L2 W2 hK m O=>?_)
   . exact fun L w v T t L2 ds H hl hx=>((PZ.no (Z:=fun _ _ _ _=>False) (ds:=ds)).block (i:=5) rfl).z T t L L2 w v H hl hx
   . have C:Ext W W2:=O.ends;have j:Hp w [] M (MP bd g) W2:=e2.ext C;have J:Adv (bd::M) (bd::M) W W2:=Adv.of_ext C;have lk:∀t,t∈[14,15,20]->Sx.A4 L2 t=Sx.A4 ((20,.pointer (some ⟨b20,0,none⟩))::(98,K8 (.st 5) a.1.2)::(97,K8 (.int .i64) a.1.1)::Li) t:=fun t H=>m t fun hm=>(by decide:∀t∈[14,15,20],t∉D6 (N3 2 ANo)++D4 AG8) t H hm;obtain⟨b,hb,u⟩:∃b,A0 σ'.env 153=some (.bool b)/\z=.inl b:=by
      unfold AQa at hK;split at hK
      . rename_i b hb;exact⟨b,hb,(AYS hK).symm⟩
      . cases hK
     subst u;have l153:=O.slotB hb;show CI k 1 prog 181 (AJf 2 ANo) [] L2 W2 _ _ _ _;refine ARZ l153 (fun hbt=>?_) (fun hbf=>?_)
     . subst hbt;subst U;have n:=Q.adv J;obtain⟨b15,o15,u15,vs15,rfl,c15,R,c⟩:=Ok.adv (e3.trans J) _ q;obtain⟨cs15,d,hcs15⟩:=R;obtain rfl:vs15=[.int .i64 y.id,.int .i64 y.report,.int .i64 y.day]:=by
        obtain⟨rfl,_⟩:=(DisputeE_R (x:=y)).1 d;rcases hcs15 with⟨_,rfl⟩|⟨h,_⟩
        . simpa[Value.cells] using c.symm
        . cases h
       refine ABK rfl ?_;refine W7 ((lk 14 (by decide)).trans l14) ((n.h14).cells.at 0 rfl) isAgg106 rfl ?_;refine ABc ((lk 15 (by decide)).trans l15) underlying53 rfl sizeOf3 rfl ?_;refine W7 rfl (c15.cells.at 0 rfl) isAgg3 rfl ?_;refine ABc (lk 20 (by decide)) underlying47 rfl sizeOf3 rfl ?_;refine W7 rfl ((e5.adv J).cells.at 1 rfl) isAgg3 rfl ?_;refine ASt zeroValue116 rfl underlying116 sizeOf3 rfl rfl rfl rfl rfl ?_;refine ABc (lk 20 (by decide)) underlying47 rfl sizeOf3 rfl ?_;refine W7 rfl ((e5.adv J).cells.at 0 rfl) isAgg3 rfl ?_;obtain⟨ka,kb,_,_⟩:InK .i64 a.1.2.id/\InK .i64 a.1.2.who/\InK .i64 a.1.2.account/\InK .i64 a.1.2.day:=S;refine AMo (K:=K116) (E:=B2 .i64) (ag:=false) 0 j rfl rfl (a:=(y.id,a.1.2.who)) rfl ⟨hky,kb⟩ rfl (z:=a.1.2.id) ⟨[_],⟨rfl,ka⟩,.inr ⟨rfl,rfl⟩⟩ underlying106 ?_;intro w9 Y x9;have Y:Hp w [] M (MP bd (B9 g (y.id,a.1.2.who) a.1.2.id)) w9:=Y;have p:Adv (bd::M) (bd::M) W w9:=J.trans x9;obtain⟨k1,k2⟩:=V7 p V e3.kp.size;exact Reg.nil ⟨k1,k2,_,by rw[AYp];exact hfold,Y,e3.trans p⟩
     . subst hbf;subst U;obtain⟨k1,k2⟩:=V7 J V e3.kp.size;exact ARY ⟨k1,k2,g,by rw[AYp];exact hfold,j,e3.trans J⟩
   . have C:Ext W W2:=O.ends;have J:Adv (bd::M) (bd::M) W W2:=Adv.of_ext C;cases hi:beq i 5 with
     |false=>
      have hK:(bif beq i 5 then some (Sum.inr ()) else none)=some z:=hK
      rw[hi]at hK;cases hK
     |true=>
      have hK:(bif beq i 5 then some (Sum.inr ()) else none)=some z:=hK
      rw[hi]at hK
      have hK:Sum.inr ()=z:=AYS hK
      subst hK
      subst U
      obtain rfl:=AYa hi
      obtain⟨k1,k2⟩:=V7 J V e3.kp.size
      exact T8 ⟨k1,k2,g,by rw[AYp];exact hfold,e2.ext C,e3.trans J⟩
 . rintro W ⟨g,e1,e2,e3⟩;rw[AY8,ho1]at e1;cases e1
   exact hA W e2 e3
def AHA(x:Desk_99)(al:List Asked)(l:List Report)(f:A2 (Int×Int) Int)(y:Dispute×Verdict):Option (A2 (Int×Int) Int):=(AAu l y.1 y.2).bind fun n=>(U6 al).bind fun bs=>ABp (inB x l y.1 y.2 n.1 n.2) f bs
noncomputable def AQc:Code:=match AUM with
 |.seq c _=>c
 |_=>.skip
noncomputable def AXt:Code:=match f16.body with
 |some (.seq _ (.seq _ (.seq _ (.seq _ (.seq _ (.seq _ (.seq _ (.seq _ (.seq _ (.seq (.seq _ (.block _ c)) _))))))))))=>c
 |_=>.skip
def AUP(σ:AS):Option (Report×Bool):=match A0 σ.env 17,A0 σ.env 18,A0 σ.res 17,A0 σ.res 18 with
 |some (.ptr 17 0),some (.ptr 18 0),some (.row 45 c),some (.row 4 [.bool b])=>match B0 (.agg c) with
  |[]=>match C4 (A0 σ.res) (.st 1) (.agg c) with
   |some r=>some (r,b)
   |none=>none
  |_=>none
 |_,_,_,_=>none
def ANq(l:List Report)(y:Dispute)(v:Verdict):List (Nat×SV):=[(13,.rp (.dat (.sl (.st 1)) l) 0),(15,.rp (.str 2 y) 0),(16,.rp (.str 12 v) 0)]
theorem AWW(l:List Report)(y:Dispute)(v:Verdict):exec AQb 181 (fun _=>(none:Option Unit)) AQc AIl AUP (fun _ _=>none) (fun _=>none) ⟨ANq l y v,[],[],[]⟩=AAu l y v:=by kernel_rfl
def ALo(M':List Nat)(Lb:Sx.A5)(y:Dispute×Verdict)(L:Sx.A5)(W:World):Prop:=∃b15 b16,L=(16,.pointer (some ⟨b16,0,none⟩))::(15,.pointer (some ⟨b15,0,none⟩))::(84,K8 (.st 12) y.2)::(83,K8 (.st 2) y.1)::Lb/\RdC M' W b15 0 (ABm y.1)/\RdC M' W b16 0 (ADn y.2)
theorem AST{w wl:World}{M:List Nat}{bd b14:Nat}{x:Desk_99}{day:Int}{al:List Asked}{l:List Report}{p8 p4 p13 p1 p2:Value}{f f':A2 (Int×Int) Int}{ys:List (Dispute×Verdict)}{Lb:Sx.A5}{ds:List Deferred}{A B:A3}{X:Nat->A3}{Z:List PanicEntry->A3}(hbd:bd<wl.heap.size)(hI:Hp w [] M (MP bd f) wl)(hD:D16 (bd::M) wl x al l p8 p4 p13 b14 bd)(h1:Ok (P:=prog) (fun _=>undef) (fun _=>none) (bd::M) wl (.rp (.str 10 x) 0) p1)(h2:Ok (P:=prog) (fun _=>undef) (fun _=>none) (bd::M) wl (.rp (.int .i64 day) 0) p2)(l4:Sx.A4 Lb 4=some p4)(l8:Sx.A4 Lb 8=some p8)(l13:Sx.A4 Lb 13=some p13)(l14:Sx.A4 Lb 14=some (.pointer (some ⟨b14,0,none⟩)))(l82:Sx.A4 Lb 82=some (.func (.func 84) #[] #[p1,p2]))(hys:AFZ x day x.desk.disputes=some ys)(hok:∀y∈ys,ADd [.st 2,.st 12] y)(p:ABp (AHA x al l) f ys=some f')(hA:∀D W,wl.heap.size<=D->Hp w [] M (MP bd f') W->Adv (bd::M) (bd::M) wl W->W.heap[D]?=some (.deferred (some []))->A ({ target:=.collected D,args:=#[] }::ds) Lb W):CW prog 181 AXt ds Lb wl A B X Z:=by
 obtain⟨ho1,ho2⟩:=AFF p;have E:MLt (bd::M) wl:=hI.mlt;have hwl:w.heap.size<=wl.heap.size:=hI.kp.size;let I:List {x // x∈ys}->World->Prop:=fun pre W=>∃g,List.foldlM (AHA x al l) f (pre.map Subtype.val)=some g/\Hp w [] M (MP bd g) W/\Adv (bd::M) (bd::M) wl W;refine ANm 3 (val:=fun a:{x // x∈ys}=>K8 (.st 2) a.1.1) (val2:=fun a=>K8 (.st 12) a.1.2) (K:=KI (bd::M) wl.heap.size) (xs:=ys.attach) l82 call84 rfl rfl (AEx 4 E hD.g h1 h2 hys Subtype.val _ (AY8 _)) (fun h k=>h.trans k) (fun W k o o' hk _ _ _=>KI.putObj hk) I (fun _ _=>False) ?_ (fun _ _ _ _ h _ _=>h.elim) ⟨f,rfl,hI,Adv.refl _ _⟩ (fun a L' W=>ALo (bd::M) Lb a.1 L' W) ?_ ?_ ?_ ?_ (fun _ _ _ _ _ h _=>h.elim)
 . rintro pre W W' row ⟨g,e1,e2,e3⟩ C p;exact⟨g,e1,Hp.turn (fun h=>h) e3.kp.size hwl (AQs hbd tn0) e2 C p,Adv.turn (fun h=>h) e3 C p⟩
 . rintro a L' _ W W' row ⟨b15,b16,e1,e2,e3⟩ C p;exact⟨b15,b16,e1,AG9 e2 C fun r e=>(p r e).2,AG9 e3 C fun r e=>(p r e).2⟩
 . rintro k pre a W ⟨g,e1,e2,e3⟩;refine AHO ?_;refine ABK rfl ?_;refine ACn e2 zeroValue53 rfl rfl ?_;intro b15 w5 hI5 x5;refine ABd 0 (vs:=ABm a.1.1) hI5 rfl rfl rfl rfl sizeOf53 rfl rfl (D5 rfl (D5 rfl (D5 rfl ACj))) ?_;intro w6 Y x6;have Y:Hp w [] M (rowR 53 b15 (ABm a.1.1)::MP bd g) w6:=Y;have hA6:Adv (bd::M) (bd::M) W w6:=x5.trans (x6.trans (G2 (σ:=rowR 53 b15 (ABm a.1.1)::MP bd g) 0));have hC6:RdC (bd::M) w6 b15 0 (ABm a.1.1):=Y.freezeRow 0 rfl;have hI6':Hp w [] M (MP bd g) w6:=Y.erase 0;refine Reg.nil ?_;refine ABK rfl ?_;refine ACn hI6' zeroValue111 rfl rfl ?_;intro b16 w7 hI7 x7;refine ABd 0 (vs:=ADn a.1.2) hI7 rfl rfl rfl rfl sizeOf111 rfl rfl (D5 rfl (D5 rfl (D5 rfl (D5 rfl (D5 rfl (D5 rfl (D5 rfl (D5 rfl ACj)))))))) ?_;intro w8 T x8;have T:Hp w [] M (rowR 111 b16 (ADn a.1.2)::MP bd g) w8:=T;have hA8:Adv (bd::M) (bd::M) w6 w8:=x7.trans (x8.trans (G2 (σ:=rowR 111 b16 (ADn a.1.2)::MP bd g) 0));have hA:=hA6.trans hA8;obtain⟨k1,k2⟩:=V7 hA E e3.kp.size;exact Reg.nil ⟨rfl,k1,k2,⟨g,e1,T.erase 0,e3.trans hA⟩,b15,b16,rfl,hC6.adv hA8,T.freezeRow 0 rfl⟩
 . rintro k pre a L' W hwlk O ⟨g,e1,e2,e3⟩ ⟨b15,b16,rfl,e5,e6⟩ hlt;obtain⟨g',U,hfold⟩:=ho2 (pre.map Subtype.val) a.1 g (by simpa using hlt) (fun y hy=>by obtain⟨z,_,rfl⟩:=mem_map.1 hy;exact z.2) a.2 e1;unfold AHA at U;obtain⟨n,hn,U⟩:=U2 U;obtain⟨bs,Q,U⟩:=U2 U;obtain⟨hbok,rfl⟩:(∀y∈bwN al al.length,ADd [.int .i64,.st 5] y)/\bwN al al.length=bs:=by
    unfold U6 at Q;split at Q
    . rename_i h;exact⟨h,AYS Q⟩
    . cases Q
   have hDW:=hD.adv e3;have hMW:MLt (bd::M) W:=e2.mlt;have V:=hok a.1 a.2;have o15:Ok (P:=prog) (fun _=>undef) (fun _=>none) (bd::M) W (.rp (.str 2 a.1.1) 0) (.pointer (some ⟨b15,0,none⟩)):=⟨b15,0,_,ABm a.1.1,rfl,e5,AEA (.st 2) V.1,rfl⟩;have o16:Ok (P:=prog) (fun _=>undef) (fun _=>none) (bd::M) W (.rp (.str 12 a.1.2) 0) (.pointer (some ⟨b16,0,none⟩)):=⟨b16,0,_,ADn a.1.2,rfl,e6,AEA (.st 12) V.2,rfl⟩;have hst:Holds (P:=prog) W [] (bd::M) ⟨ANq l a.1.1 a.1.2,[],[],[]⟩ ((16,.pointer (some ⟨b16,0,none⟩))::(15,.pointer (some ⟨b15,0,none⟩))::(84,K8 (.st 12) a.1.2)::(83,K8 (.st 2) a.1.1)::Lb) W:=by
    refine Holds.start hMW (fun t s J=>?_) ⟨trivial,hDW.g⟩;unfold ANq at J;rw[fnd_cons]at J;split at J
    . rename_i e;subst e;cases J;exact⟨_,l13,hDW.h13⟩
    rw[fnd_cons]at J;split at J
    . rename_i e;subst e;cases J;exact⟨_,rfl,o15⟩
    rw[fnd_cons]at J;split at J
    . rename_i e;subst e;cases J;exact⟨_,rfl,o16⟩
    cases J
   refine AEQ ?_;refine AHO ?_;refine AGy (l:=k) (I7 AMb AQc AIl _ _ _ _ _ _ _ _ _ _ _ _ _ ((AWW l a.1.1 a.1.2).trans hn) hst (fun σ' L2 W2 hK _ hE2 hH2=>?_) (fun i σ2 L2 w2 h2=>by cases h2) (fun r σ2 L2 w2 h2 h3 _ hH2=>by cases h2) ((PZ.no (Z:=fun _ _ _ _=>False)).block (i:=3) rfl));obtain⟨S,ρ,γ,μ,ι,d⟩:=hH2;have F:Ext W W2:=d.hp.kp;obtain⟨c,b,r,h17,h18,q17,q18,R,htd,rfl⟩:∃c b r,A0 σ'.env 17=some (.ptr 17 0)/\A0 σ'.env 18=some (.ptr 18 0)/\A0 σ'.res 17=some (.row 45 c)/\A0 σ'.res 18=some (.row 4 [.bool b])/\B0 (.agg c)=[]/\C4 (A0 σ'.res) (.st 1) (.agg c)=some r/\n=(r,b):=by
    unfold AUP at hK;split at hK
    . rename_i c b g1 g2 g3 g4;split at hK
      . rename_i g5;split at hK
        . rename_i r g6;exact⟨c,b,r,g1,g2,g3,g4,g5,g6,(AYS hK).symm⟩
        . cases hK
      . cases hK
    . cases hK
   obtain⟨v17,l17,b17,L,rfl⟩:=d.env 17 (.ptr 17 0) h17;obtain⟨v18,l18,b18,N,rfl⟩:=d.env 18 (.ptr 18 0) h18;obtain⟨b17',hb17',r17,o17,i17⟩:=d.rowAt q17;obtain⟨b18',hb18',r18,o18,i18⟩:=d.rowAt q18;rw[L]at hb17';cases hb17';rw[N]at hb18';cases hb18';have ok17:Ok (P:=prog) (fun _=>undef) (fun _=>none) (bd::M) W2 (.rp (.str 1 r) 0) (.pointer (some ⟨b17,0,none⟩)):=⟨b17,0,.agg (toArray (γ 17)),γ 17,rfl,H3 (d.hp.sepM _ (AYU i17) b17 (mem_singleton.2 rfl)) r17,H8 (M:=mm S (bd::M)) (fun b hb=>mem_mm.2 (.inr hb)) (.st 1) (.agg c) (fun i hi=>by rw[R]at hi;cases hi) htd ⟨γ 17,rfl,o17⟩,rfl⟩;have ok18:Ok (P:=prog) (fun _=>undef) (fun _=>none) (bd::M) W2 (.rp (.bool b) 0) (.pointer (some ⟨b18,0,none⟩)):=by
    obtain⟨u,cu,q,e9,hu,v,hq⟩:=o18;have hu:u=.bool b:=hu;have hq:q=[]:=hq;subst hu hq;have v:#[Value.bool b]=toArray cu:=v;have:cu=[Value.bool b]:=by simpa using v.symm
    subst this;have e9:γ 18=[.bool b]:=e9;exact⟨b18,0,.bool b,[.bool b],rfl,e9▸H3 (d.hp.sepM _ (AYU i18) b18 (mem_singleton.2 rfl)) r18,rfl,rfl⟩
   have lk:∀t,t∈[4,8,13,14,15,16]->Sx.A4 L2 t=Sx.A4 ((16,.pointer (some ⟨b16,0,none⟩))::(15,.pointer (some ⟨b15,0,none⟩))::(84,K8 (.st 12) a.1.2)::(83,K8 (.st 2) a.1.1)::Lb) t:=fun t J=>hE2 t fun hm=>(by decide:∀t∈[4,8,13,14,15,16],t∉D6 AQc++D4 AIl) t J hm;clear hE2 hK h17 h18 q17 q18 R htd L N r17 r18 o17 o18 i17 i18 d;have hA2:Adv (bd::M) (bd::M) W W2:=Adv.of_ext F;have j:=hDW.adv hA2;obtain⟨b4,o4,u4,vs4,hp4,c4,hu4,hc4⟩:=j.h4;obtain⟨sa4,n4,hsl4,_⟩:=(OkD.rds hu4.2).shape;obtain rfl:vs4=[u4]:=by
    subst hsl4;exact(AYe Array.toList hc4).symm
   have l4':=(lk 4 (by decide)).trans (show _=some p4 from l4);rw[hp4]at l4';show CI k 3 prog 181 _ [] L2 W2 _ _ _ _;refine AHO ?_;refine ABK rfl ?_;refine W7 l4' (c4.cells.at 0 rfl) isAgg29 rfl ?_;refine AAC rfl call47 rfl ?_;refine(C47 (hMW.ext F) hu4.2).mono ?_;rintro _ W3 ⟨pb,rfl,hpb,x3⟩;refine⟨_,rfl,?_⟩;refine Reg.nil ?_;refine AEQ ?_;have G:Adv (bd::M) (bd::M) W2 W3:=Adv.of_ext x3;have H:=hA2.trans G;refine ASS (w:=w) (wi:=W3) (f:=g) (f':=g') (AYn (hMW bd (AYX ..)) H.kp.size) (e2.ext (F.trans x3)) ?_ (j.adv G) (Ok.adv H _ o15) (Ok.adv H _ o16) (Ok.adv G _ ok17) (Ok.adv G _ ok18) hpb V.1.1 ((lk 8 (by decide)).trans l8) ((lk 13 (by decide)).trans l13) ((lk 14 (by decide)).trans l14) (lk 15 (by decide)) (lk 16 (by decide)) l17 l18 rfl hbok U fun W4 hI4 hA4=>?_
   . obtain⟨rk,O⟩:=O;exact⟨rk,((F.trans x3).block k (J6 O) (by simp)).trans O⟩
   . have m:=H.trans hA4;obtain⟨k1,k2⟩:=V7 m E e3.kp.size;exact⟨k1,k2,g',by rw[AYp];exact hfold,hI4,e3.trans m⟩
 . rintro D W hDw ⟨g,e1,e2,e3⟩ hdef;rw[AY8,ho1]at e1;cases e1
   exact hA D W hDw e2 e3 hdef
def AEq(ls:List Letter)(y:(Int×Int)×Int):Option (List Letter):=appo 24 ls [Letter.mk y.1.1 y.1.2 y.2]
noncomputable def AUQ:Code:=match f16.body with
 |some (.seq _ (.seq _ (.seq _ (.seq _ (.seq _ (.seq _ (.seq _ (.seq _ (.seq _ (.seq _ c))))))))))=>c
 |_=>.skip
noncomputable def AXu:Code:=match AUQ with
 |.seq _ (.seq c _)=>c
 |_=>.skip
noncomputable def AUR:Code:=match AUQ with
 |.seq _ (.seq _ c)=>c
 |_=>.skip
def Dok(D:Nat)(M:List Nat)(W:World):Prop:=D∉M/\W.heap[D]?=some (.deferred (some []))
theorem Dok.adv{D:Nat}{M M':List Nat}{W W':World}(h:Dok D M W)(k:Adv M M' W W'):Dok D M' W':=by
 have H:D<W.heap.size:=J6 h.2;exact⟨fun hm=>(k.new D hm).elim h.1 fun I=>by omega,(k.kp.block D H h.1).trans h.2⟩
theorem AUS{w wt:World}{M:List Nat}{D bd b14:Nat}{f:A2 (Int×Int) Int}{Lb:Sx.A5}{ds:List Deferred}{A B:A3}{X:Nat->A3}{Z:List PanicEntry->A3}{z:List Letter×Int}(hI:Hp w [] M [ownR [] LetterE 70 (.slice none 0 0) []] wt)(hm:RdF K116 (B2 .i64) false M wt (.map (some bd)) f)(h14:RdC M wt b14 0 [.map (some bd)])(hDk:Dok D M wt)(hz:AAg f (fun xs=>(List.foldlM AEq [] xs).bind K1)=some z)(l14:Sx.A4 Lb 14=some (.pointer (some ⟨b14,0,none⟩)))(l23:Sx.A4 Lb 23=some (.slice none 0 0))(hA:∀L' W v ls,K1 ls=some z->Hp w [] M [ownR [] LetterE 70 v ls] W->Sx.A4 L' 23=some v->Adv M (mm [ownR [] LetterE 70 v ls] M) wt W->Dok D (mm [ownR [] LetterE 70 v ls] M) W->A ds L' W):CW prog 181 AXu ds Lb wt A B X Z:=by
 have j:RdF K116 (B2 .i64) false (mm [ownR [] LetterE 70 (.slice none 0 0) ([]:List Letter)] M) wt (.map (some bd)) f:=hm;refine A6 ?_;refine A9 ?_;refine W7 l14 (h14.cells.at 0 rfl) isAgg106 rfl ?_;refine ASp hI j rfl underlying106 rfl ?_;intro r b c es xs w1 hX hL hI1 P;refine Reg.nil ?_;obtain⟨Bd,hBd,V⟩:=AJ0 hz hL;subst hBd;have N:Adv M (mm (U3 r b c es xs none xs::[ownR [] LetterE 70 (.slice none 0 0) ([]:List Letter)]) M) wt w1:=P;refine G7 ?_;refine ABb (ι:=A5×Value×List Letter×List ((Int×Int)×Int)×List ((Int×Int)×Int)) (fun q=>q.1) (fun q W=>(Sx.A4 q.1 163=some (.pointer (some ⟨r,0,none⟩))/\Sx.A4 q.1 23=some q.2.1)/\(q.2.2.2.1++q.2.2.2.2).Perm xs/\List.foldlM AEq [] q.2.2.2.1=some q.2.2.1/\Hp w [] M [U3 r b c es xs none q.2.2.2.2,ownR [] LetterE 70 q.2.1 q.2.2.1] W/\RdX K116 (B2 .i64) false (mm [U3 r b c es xs none q.2.2.2.2,ownR [] LetterE 70 q.2.1 q.2.2.1] M) W b es c xs/\Adv M (mm [U3 r b c es xs none q.2.2.2.2,ownR [] LetterE 70 q.2.1 q.2.2.1] M) wt W) (fun q=>q.2.2.2.2.length) ((163,.pointer (some ⟨r,0,none⟩))::(162,.map (some bd))::Lb,.slice none 0 0,[],[],xs) ⟨⟨rfl,l23⟩,AZh _,rfl,hI1,hX.adv P,N⟩ (Sub.refl _) ?_;rintro⟨L1,v,ls,d,l⟩ W1 ⟨⟨k1,k2⟩,k3,k4,k5,k6,k7⟩;dsimp only at k1 k2 k3 k4 k5 k6 k7 ⊢;refine A6 ?_;refine A9 ?_;refine ASq 0 k5 k6 rfl k1 rfl (fun hl=>?_) (fun y l' k v' W2 e Q R=>?_)
 . refine AGM (vs:=[.bool false]) rfl rfl rfl ?_;refine Reg.nil ?_;refine A6 ?_;refine ABa rfl ?_;refine ABZ (T8 ?_);subst hl;obtain⟨s,F,a⟩:=V d (by simpa using k3);rw[k4]at F;cases F
   have G:Adv M (mm [ownR [] LetterE 70 v ls] M) wt W1:=k7.trans (G2 (σ:=[U3 r b c es xs none ([]:List ((Int×Int)×Int)),ownR [] LetterE 70 v ls]) 0);exact hA _ W1 v ls a (k5.erase 0) k2 G (hDk.adv G)
 . refine AGM (vs:=[.bool true,k,v']) rfl rfl rfl ?_;refine Reg.nil ?_;refine A6 ?_;refine ACk rfl ?_;refine R7 ?_;refine G7 ?_;refine A6 ?_;refine A9 ?_;have hX2:=k6.adv R;refine ASr 0 Q hX2 rfl k1 rfl fun v2 g L=>?_;obtain⟨o,n⟩:InK .i64 y.1.1/\InK .i64 y.1.2:=g;obtain⟨rfl,m⟩:v2=.int .i64 y.2/\InK .i64 y.2:=by
    obtain⟨cs,⟨h1,h2⟩,⟨S,_⟩|⟨_,S⟩⟩:=L
    . cases S
    . rw[h1]at S;exact⟨(List.singleton_inj.1 S).symm,h2⟩
   refine AGM (vs:=[K116.val y.1,.int .i64 y.2]) rfl rfl rfl ?_;refine AGM (vs:=[K116.val y.1,.int .i64 y.2]) rfl rfl rfl ?_;refine ACn Q zeroValue116 rfl rfl ?_;intro b24 w5 hI5 x5;refine ABd 0 (vs:=[.int .i64 y.1.1,.int .i64 y.1.2]) hI5 rfl rfl rfl rfl sizeOf116 rfl rfl (D5 rfl (D5 rfl ACj)) ?_;intro w6 I x6;have I:Hp w [] M (rowR 116 b24 [.int .i64 y.1.1,.int .i64 y.1.2]::[U3 r b c es xs (some y) l',ownR [] LetterE 70 v ls]) w6:=I;refine H2 rfl rfl ?_;refine Reg.nil ?_;refine A9 ?_;have C:RdC [] w6 b24 0 ([y.1.1,y.1.2].map (Value.int .i64)):=H3 (fun h=>by cases h) (I.row 0 rfl);obtain⟨s0,H,_⟩:=V (d++(y::l')) (((AZh d).append e.symm).trans k3);rw[AZa,k4]at H;simp only[Option.bind_eq_bind,Option.bind_some,List.foldlM_cons]at H;obtain⟨ls',U,H⟩:=U2 H;obtain⟨x,J⟩:=AEK U;refine K4 k2 rfl ?_;refine AQp (i:=0) (z:=y.1.1) C rfl rfl rfl underlying116 rfl sizeOf3 rfl fun u=>?_;refine W7 rfl (u.cells.at 0 rfl) isAgg3 rfl ?_;refine AQp (i:=1) (z:=y.1.2) C rfl rfl rfl underlying116 rfl sizeOf3 rfl fun t=>?_;refine W7 rfl (t.cells.at 0 rfl) isAgg3 rfl ?_;refine K4 rfl rfl ?_;refine ASl [(0,1),(1,1),(2,1)] zeroValue70 rfl underlying70 (fun _=>by simp[sizeOf3]) rfl (Cls.cons rfl (Cls.cons rfl (Cls.cons rfl Cls.nil))) rfl rfl ?_;refine AMl (E:=LetterE) (xs:=[Letter.mk y.1.1 y.1.2 y.2]) rsl37 I rfl rfl (Cls.cons rfl Cls.nil) (Chs.cons (LetterE_R.2 ⟨rfl,o,n,m⟩) Chs.nil) rfl rfl ?_;intro v8 w8 O x8;have p:=O.freeze 0 rfl;have hI9:=O.erase 0;refine AHK 2 rsl37 hI9 rfl rfl rfl p x rfl ?_;intro v10 w10 T x10;refine H2 rfl rfl ?_;have K:Hp w [] M [U3 r b c es xs (some y) l',ownR [] LetterE 70 v10 ls'] w10:=by rw[J];exact T.erase 0
   have hIb:Hp w [] M [U3 r b c es xs none l',ownR [] LetterE 70 v10 ls'] w10:=K.upd 0 rfl (Kp.refl _ _) (fun b hb=>.inl hb) rfl fun M' hM'=>by
    obtain⟨seen,q1,q2,_⟩:=K.get 0 rfl;exact⟨seen,q1,q2,fun _ h=>by cases h⟩
   have Y:Adv (mm [U3 r b c es xs none l,ownR [] LetterE 70 v ls] M) (mm [U3 r b c es xs none l',ownR [] LetterE 70 v10 ls'] M) W1 w10:=by
    have h1:=R.trans (x5.trans (x6.trans (x8.trans ((G2 (σ:=ownR [] LetterE 70 v8 [Letter.mk y.1.1 y.1.2 y.2]::rowR 116 b24 [.int .i64 y.1.1,.int .i64 y.1.2]::[U3 r b c es xs (some y) l',ownR [] LetterE 70 v ls]) 0).trans (x10.trans (G2 (σ:=rowR 116 b24 [.int .i64 y.1.1,.int .i64 y.1.2]::[U3 r b c es xs (some y) l',ownR [] LetterE 70 v10 (ls++[Letter.mk y.1.1 y.1.2 y.2])]) 0))))));rw[J];exact h1
   refine Reg.nil ⟨rfl,(_,v10,ls',d++[y],l'),?_,Sub.refl _,?_⟩
   . refine⟨⟨k1,rfl⟩,?_,?_,hIb,k6.adv Y,k7.trans Y⟩
     . rw[AYv];exact((AZh d).append e.symm).trans k3
     . rw[AZa,k4];simp only[Option.bind_eq_bind,Option.bind_some,List.foldlM_cons,U,List.foldlM_nil];rfl
   . have:=e.length_eq;simp at this;dsimp only;omega
end Go.Proofs.YtgioiejbphljoaaGreatDoor
namespace Go.Rx
open Go Go.Sx Go.RowKit
theorem HS.rdsM[Trk][Sg][Sf]{P:Program}[Se P][Anch]{w0 w:World}{M:List Nat}{σ:AS}{L:A5}{S:List Res}{ρ:Nat->Value}{γ:Nat->List Value}{μ:Nat->List Nat}{ι:Nat->Nat}(h:HS (P:=P) w0 [] M σ L w S ρ γ μ ι)(I:List Nat):Rds (P:=P) ρ (A0 σ.res) M w I:=fun i _ p c x V=>by
 have D:=h.res i _ V;have hm:=AYU D;have H:=h.hp.all _ hm;have U:=h.hp.sepM _ hm;have C:=h.row i _ V;cases c with
 |sl e t=>
  have H:Sx.Own (enc (P:=P) t) e 0 (mm S M) w (ρ i) x:=H
  have W:=(H.mon fun b J=>.inr (mem_mm.2 (.inr J))).rd fun b J=>U b (by
   show b∈(G3 (P:=P) _ (ρ i) (.sl e t) x).fp;rw[AAI];exact J)
  exact⟨[ρ i],⟨_,rfl,W⟩,.inr ⟨rfl,rfl⟩⟩
 |mp m k v=>
  obtain⟨b,J⟩:=C
  have H:(mapRes (P:=P) (bif p then μ i else []) m k v (blk (ρ i)) x).holds (mm S M) w:=H
  have U:∀b'∈(mapRes (P:=P) (bif p then μ i else []) m k v (blk (ρ i)) x).fp,b'∉M:=U
  rw[J]at H U ⊢
  unfold mapRes at H U
  cases hK:Se.ky (P:=P) m k with
  |none=>rw[hK]at H;exact H.elim
  |some K=>
   rw[hK]at H U
   obtain⟨es,c,xs,g1,g2,g3,g4⟩:=H
   exact⟨[_],⟨_,K,rfl,hK,b,rfl,U b (mem_singleton.2 rfl),es,c,xs,g1,g2,g3.mon fun b J=>.inl (mem_mm.2 (.inr J)),g4⟩,.inr ⟨rfl,rfl⟩⟩
end Go.Rx
namespace Go.Proofs.YtgioiejbphljoaaGreatDoor
open Go Go.Sx Go.Rx Go.RowKit
noncomputable def c16:Code:=match f16.body with
 |some c=>c
 |none=>.skip
def KNp(σ:AS):Option ((Desk_99×List Asked×List Report×Int)⊕(List Letter×Int)):=match A0 σ.env 4,A0 σ.env 8,A0 σ.env 13,A0 σ.env 2,A0 σ.res 4,A0 σ.res 8,A0 σ.res 13 with
 |some (.ptr 4 0),some (.ptr 8 0),some (.ptr 13 0),some (.int .i64 k),some (.row 29 [s4]),some (.row 99 c8),some (.row 24 [s13])=>match C4 (A0 σ.res) (.st 10) (.agg c8),C4 (A0 σ.res) (.sl (.st 5)) s4,C4 (A0 σ.res) (.sl (.st 1)) s13 with
  |some x,some a,some l=>some (.inl (x,a,l,k))
  |_,_,_=>none
 |_,_,_,_,_,_,_=>none
def cs16:List Ck:=[.own (.sl 70 (.st 6)),.d (.int .i64)]
def ANr:Gx:={ gxb with fs:=[(40,ctr40),(41,ctr41),(44,ctr44)] }
theorem AMc:GxOk prog ANr:=A8 ⟨⟨ok40,call40⟩,⟨ok41,call41⟩,⟨ok44,call44⟩,trivial⟩
def AJi:Gx:={ gxb with fs:=[(49,ctr49),(50,ctr50)],fm:=[(48,ctrm48)] }
theorem AHB:GxOk prog AJi:=AHv ⟨⟨ok49,call49⟩,⟨ok50,call50⟩,trivial⟩ trivial ⟨⟨okm48,call48⟩,trivial⟩
theorem AWX(d:Desk)(asked:List Asked)(day:Int):X4 ANr 181 (V2 ANr cs16 f16.results.toList) (N3 7 c16) AMa KNp (fun r=>some (.inr r)) ⟨[(0,.str 4 d),(1,.dat (.sl (.st 5)) asked),(2,.int .i64 day)],[],[],[]⟩=Y7 d asked day:=by kernel_rfl
theorem AUT(l:List Letter):exec AJi 181 (V2 AJi cs16 f16.results.toList) AUR ALK (V2 AJi cs16 f16.results.toList) (fun _ _=>none) some ⟨[(23,.own 23)],[(23,.own false (.sl 70 (.st 6)) l)],[],[]⟩=K1 l:=by kernel_rfl
def F1(d:Desk)(asked:List Asked)(day:Int):Option (List Letter×Int):=(Y7 d asked day).bind fun z=>Sum.elim (fun q=>(D3 q.1 q.2.2.2).bind fun ys=>(ABp (AHA q.1 q.2.1 q.2.2.1) fnone ys).bind fun f=>AAg f fun xs=>(List.foldlM AEq [] xs).bind K1) (fun r=>some r) z
def ctr16:Ctr:=⟨[.d (.st 4),.d (.sl (.st 5)),.d (.int .i64)],cs16,fun a=>F1 a.1 a.2.1 a.2.2.1⟩
theorem ok16:Ctr.ok prog 16 ctr16:=by
 refine⟨by decide,fun M w a vals r hM hg ha I=>?_⟩;obtain⟨d,asked,day,_⟩:=a;obtain⟨vd,_,rfl,O,va,_,rfl,Q,vk,_,rfl,K,rfl⟩:=ha;have O:OkD (P:=prog) M w (.st 4) d vd:=O;have Q:OkD (P:=prog) M w (.sl (.st 5)) asked va:=Q;have K:OkD (P:=prog) M w (.int .i64) day vk:=K;have I:F1 d asked day=some r:=I;unfold F1 at I;obtain⟨z,hz,I⟩:=U2 I;have h0:Holds (P:=prog) w [] M ⟨[(0,.str 4 d),(1,.dat (.sl (.st 5)) asked),(2,.int .i64 day)],[],[],[]⟩ [(0,vd),(1,va),(2,vk)] w:=by
  refine Holds.start hM (fun t s H=>?_) ⟨trivial,hg⟩;rw[fnd_cons]at H;split at H
  . rename_i e;subst e;cases H;exact⟨vd,rfl,O⟩
  rw[fnd_cons]at H;split at H
  . rename_i e;subst e;cases H;exact⟨va,rfl,rfl,Q⟩
  rw[fnd_cons]at H;split at H
  . rename_i e;subst e;cases H;exact⟨vk,rfl,E5 (.int .i64) K⟩
  . cases H
 refine AFD (l:=[vd,va,vk]) (fn:=f16) func16 rfl rfl rfl ?_;refine ADD (P:=prog) (pr:=V2 ANr cs16 f16.results.toList) AMc 7 c16 AMa (by decide) ((AWX d asked day).trans hz) h0 (fun σ' L' w1 hK hE hH=>?_) (fun r' σ' L' w' hp hk hH=>?_);rotate_left
 . have hk:Sum.inr r'=z:=AYS hk;subst hk;have I:some r'=some r:=I;cases I
   exact FinM.of (AOz AMc (by decide) hp hH)
 clear hE h0;obtain⟨S,ρ,γ,μ,ι,J⟩:=hH;obtain⟨c8,s4,s13,x,al,l,k,g4,g8,g13,g2,r4,r8,r13,t8,t4,t13,rfl⟩:∃c8 s4 s13 x al l k,A0 σ'.env 4=some (.ptr 4 0)/\A0 σ'.env 8=some (.ptr 8 0)/\A0 σ'.env 13=some (.ptr 13 0)/\A0 σ'.env 2=some (.int .i64 k)/\A0 σ'.res 4=some (.row 29 [s4])/\A0 σ'.res 8=some (.row 99 c8)/\A0 σ'.res 13=some (.row 24 [s13])/\C4 (A0 σ'.res) (.st 10) (.agg c8)=some x/\C4 (A0 σ'.res) (.sl (.st 5)) s4=some al/\C4 (A0 σ'.res) (.sl (.st 1)) s13=some l/\z=.inl (x,al,l,k):=by
  unfold KNp at hK;split at hK
  . rename_i k s4 c8 s13 q1 q2 q3 q4 q5 q6 q7;split at hK
    . rename_i x a l q8 q9 q10;exact⟨c8,s4,s13,x,a,l,k,q1,q2,q3,q4,q5,q6,q7,q8,q9,q10,(AYS hK).symm⟩
    . cases hK
  . cases hK
 have I:((D3 x k).bind fun ys=>(ABp (AHA x al l) fnone ys).bind fun f=>AAg f fun xs=>(List.foldlM AEq [] xs).bind K1)=some r:=I;obtain⟨ys,G,I⟩:=U2 I;obtain⟨f,hf,I⟩:=U2 I;obtain⟨hok,R⟩:(∀y∈ys,ADd [.st 2,.st 12] y)/\AFZ x k x.desk.disputes=some ys:=by
  unfold D3 at G;obtain⟨ys',h1,B⟩:=U2 G;split at B
  . rename_i h3;cases B;exact⟨h3,h1⟩
  . cases B
 obtain⟨v4,l4,b4,g,rfl⟩:=J.env 4 (.ptr 4 0) g4;obtain⟨v8,l8,b8,L,rfl⟩:=J.env 8 (.ptr 8 0) g8;obtain⟨v13,l13,b13,E,rfl⟩:=J.env 13 (.ptr 13 0) g13;obtain⟨v2,l2,rfl,hkk⟩:=J.env 2 (.int .i64 k) g2;obtain⟨b4',e4,row4,o4,i4⟩:=J.rowAt r4;obtain⟨b8',e8,row8,o8,i8⟩:=J.rowAt r8;obtain⟨b13',e13,row13,o13,i13⟩:=J.rowAt r13;rw[g]at e4;cases e4;rw[L]at e8;cases e8;rw[E]at e13;cases e13;have memM:∀b∈M,b∈mm S M:=fun b m=>mem_mm.2 (.inr m);have one:∀{s:SV} {vs:List Value} {t:Ty} {y:List (den t)},OkL (P:=prog) ρ (A0 σ'.res) (mm S M) w1 [s] vs->C4 (A0 σ'.res) (.sl t) s=some y->∃u,vs=[u]/\OkD (P:=prog) M w1 (.sl t) y u/\u.cells=toArray vs:=fun {s vs t y} h H=>by
  obtain⟨u,c,q,rfl,hu,hc,hq⟩:=h;have hq:q=[]:=hq;subst hq;have hd:=H8 (M:=mm S M) memM (.sl t) s (J.rdsM _) H hu;obtain⟨sa,n,hsl,_⟩:=(OkD.rds hd).shape;have:c=[u]:=by
   subst hsl;exact(AYe Array.toList hc).symm
  subst this;exact⟨u,rfl,hd,hc⟩
 have d8:Ok (P:=prog) (fun _=>undef) (fun _=>none) M w1 (.rp (.str 10 x) 0) (.pointer (some ⟨b8,0,none⟩)):=⟨b8,0,.agg (toArray (γ 8)),γ 8,rfl,H3 (J.hp.sepM _ (AYU i8) b8 (mem_singleton.2 rfl)) row8,H8 (M:=mm S M) memM (.st 10) (.agg c8) (J.rdsM _) t8 ⟨γ 8,rfl,o8⟩,rfl⟩;obtain⟨u4,eu4,du4,cu4⟩:=one o4 t4;obtain⟨u13,eu13,du13,cu13⟩:=one o13 t13;have d4:Ok (P:=prog) (fun _=>undef) (fun _=>none) M w1 (.rp (.dat (.sl (.st 5)) al) 0) (.pointer (some ⟨b4,0,none⟩)):=⟨b4,0,u4,γ 4,rfl,H3 (J.hp.sepM _ (AYU i4) b4 (mem_singleton.2 rfl)) row4,⟨rfl,du4⟩,cu4⟩;have d13:Ok (P:=prog) (fun _=>undef) (fun _=>none) M w1 (.rp (.dat (.sl (.st 1)) l) 0) (.pointer (some ⟨b13,0,none⟩)):=⟨b13,0,u13,γ 13,rfl,H3 (J.hp.sepM _ (AYU i13) b13 (mem_singleton.2 rfl)) row13,⟨rfl,du13⟩,cu13⟩;have hI1:Hp w [] M [] w1:=J.hp.sel [] rfl;have X:GlOk (P:=prog) M w1:=J.anch.2.adv (Adv.drop memM);clear one hK J g4 g8 g13 g2 r4 r8 r13 t8 t4 t13 row4 row8 row13 o4 o8 o13 i4 i8 i13 g L E eu4 eu13 cu4 cu13;refine A6 ?_;refine A9 ?_;refine AQo K116 (B2 .i64) false hI1 rfl ?_;intro bd w2 hI2 x2;refine ACn hI2 zeroValue106 rfl rfl ?_;intro b14 w3 hI3 x3;refine ABd 0 (vs:=[.map (some bd)]) hI3 rfl rfl rfl rfl sizeOf106 rfl rfl (D5 rfl ACj) ?_;intro w4 C x4;have C:Hp w [] M (rowR 106 b14 [.map (some bd)]::MP bd fnone) w4:=C;refine Reg.nil ?_;have h14:RdC (bd::M) w4 b14 0 [.map (some bd)]:=C.freezeRow 0 rfl;have V:Hp w [] M (MP bd fnone) w4:=C.erase 0;have U:Adv M (bd::M) w1 w4:=x2.trans (x3.trans (x4.trans (G2 (σ:=rowR 106 b14 [.map (some bd)]::MP bd fnone) 0)));have hD5:D16 (bd::M) w4 x al l (.pointer (some ⟨b8,0,none⟩)) (.pointer (some ⟨b4,0,none⟩)) (.pointer (some ⟨b13,0,none⟩)) b14 bd:=⟨X.adv U,Ok.adv U _ d8,Ok.adv U _ d4,Ok.adv U _ d13,h14⟩;have hx8:=hD5.h8;obtain⟨b8',o8,u8,vs8,hp8,c8',hu8,hc8⟩:=hx8;obtain⟨cs8,o,N⟩:=hu8;obtain rfl:u8=.agg (toArray cs8):=N.elim (fun h=>h.2) fun h=>by cases h.1
 obtain rfl:cs8=vs8:=AYe Array.toList hc8;cases hp8
 refine A6 ?_;refine A6 ?_;refine A9 ?_;refine ABF l8 c8'.cells isAgg99 ((enc (P:=prog) (.st 10)).len o) sizeOf99 rfl ?_;refine K4 l2 rfl ?_;refine AAC rfl call45 rfl ?_;refine(C45 V.mlt ⟨cs8,o,.inl ⟨rfl,rfl⟩⟩ hkk).mono ?_;rintro _ w5 ⟨p1,p2,rfl,hp1,hp2,x5⟩;refine⟨_,rfl,?_⟩;refine Reg.nil ?_;refine G7 ?_;have A:Adv (bd::M) (bd::M) w4 w5:=Adv.of_ext x5;refine AST (w:=w) (wl:=w5) (f:=fnone) (f':=f) (AYn (V.mlt bd (AYX ..)) x5.size) (V.ext x5) (hD5.adv A) hp1 hp2 l4 l8 l13 rfl rfl R hok hf fun D W hDw p hA7 Z=>?_;refine A6 ?_;refine A9 ?_;refine H2 rfl rfl ?_;refine Reg.nil ?_;have F:w.heap.size<=D:=AYk (AYk V.kp.size x5.size) hDw;have hDk:Dok D M W:=⟨fun hm=>by have:=hM D hm;omega,Z⟩;have h14W:RdC M W b14 0 [.map (some bd)]:=(h14.adv (A.trans hA7)).adv (Adv.drop fun b m=>AYT _ m);have hm:=p.freezeM 0 rfl;have hI8:Hp w [] M [ownR [] LetterE 70 (.slice none 0 0) []] W:=(p.erase 0).addNil LetterE 70;have hg8:GlOk (P:=prog) M W:=(X.adv (U.trans (A.trans hA7))).adv (Adv.drop fun b m=>AYT _ m);refine A6 ?_;refine AUS (f:=f) hI8 hm h14W hDk I rfl rfl fun L9 W9 v9 ls hls T l23 hA9 v=>?_;letI:Anch:=AHq D
 have hst:Holds (P:=prog) w [] M ⟨[(23,.own 23)],[(23,.own false (.sl 70 (.st 6)) ls)],[],[]⟩ L9 W9:=by
  refine⟨[ownR [] LetterE 70 v9 ls],fun _=>v9,fun _=>[],fun _=>[],fun _=>0,T,fun i a hi=>?_,fun i j a b hi hj _=>?_,fun i a hi=>?_,fun t s H=>?_,v,hg8.adv hA9⟩
  . rw[fnd_cons]at hi;split at hi
    . rename_i e;subst e;cases hi;rfl
    . cases hi
  . rw[fnd_cons]at hi hj;split at hi<;>split at hj
    . rename_i e1 e2;rw[<-e1,<-e2]
    . cases hj
    . cases hi
    . cases hi
  . rw[fnd_cons]at hi;split at hi
    . rename_i e;subst e;cases hi;trivial
    . cases hi
  . rw[fnd_cons]at H;split at H
    . rename_i e;subst e;cases H;exact⟨v9,l23,rfl,Own.cells1 (T.ownAt 0 rfl),Own.oneC (T.ownAt 0 rfl)⟩
    . cases H
 exact AAW (n:=3) (AC8 (I7 AHB AUR ALK _ _ _ _ _ _ _ _ _ _ _ _ _ ((AUT ls).trans hls) hst (fun σ2 L2 w2 B _ _ Y=>AF8 (fun h=>h) AHB (by decide) rfl F B Y) (fun i σ2 L2 w2 B=>by cases B) (fun r' σ2 L2 w2 hp hk _ Y=>by
  have hk:r'=r:=AYS hk;subst hk;exact AF8 (fun h=>h) AHB (by decide) rfl F hp Y) PZ.no))
def N4(d:Desk)(day:Int):Option ((List Report)×Int):=(M4 d day).bind fun (r1,r2)=>cond ((!decide (r2=0))) (some (([]:List Report),r2)) ((F3 r1 day).bind fun (r3,r4)=>some (r3,r4))
def AXv:An:=.x
def ctr14:Ctr:=⟨[.d (.st 4),.d (.int .i64)],[.own (.sl 45 (.st 1)),.d (.int .i64)],fun a=>N4 a.1 a.2.1⟩
theorem ok14:Ctr.ok prog 14 ctr14:=A7 (G:={ gxb with fs:=[(40,ctr40),(41,ctr41)] }) (an:=AXv) (A8 ⟨⟨ok40,call40⟩,⟨ok41,call41⟩,trivial⟩) func14 rfl rfl rfl rfl (fun a=>by kernel_rfl)
def U1(d:Desk)(asked:List Asked)(day:Int):Option Bool:=Option.bind (α:=Bool) ((ACI d).bind fun r2=>cond (r2) (some true) (some (decide (60<(asked.length:Int))))) ((fun x3=>cond (x3) (some true) ((ABT d).bind fun r4=>(appo 32 ([]:List Asked) asked).bind fun l5=>(N4 r4 day).bind fun (r6,r7)=>(AAY d day).bind fun (r8,r9)=>(F1 r4 l5 day).bind fun (r10,r11)=>(AAA d asked day).bind fun (r12,r13)=>Option.bind (α:=Bool) ((N1 r6 r8).bind fun r16=>cond (r16) (cond (decide (r7=r9)) ((R3 r10 r12).bind fun r17=>cond (r17) (some (decide (r11=r13))) (some false)) (some false)) (some false)) ((fun x18=>(B5 (S:=(Int×(List Report))) (R:=Unit) (fun (x28,x29)=>cond (decide (x28<(r6.length:Int))) ((ixo x29 x28).bind fun y30=>(seto x29 x28 (Report.mk 0 0 0 0 0 0 0 0)).bind fun l31=>(chk .i64 (x28+1)).bind fun n32=>some (Sum.inl (n32,l31))) (some (Sum.inr ()))) ((0:Int),r6)).bind ((fun _=>(B5 (S:=(Bool×Int)) (R:=Bool) (fun (x39,x40)=>cond (decide (x40<(asked.length:Int))) (Option.bind (α:=Bool) (cond (x39) ((ixo l5 x40).bind fun y41=>(ixo asked x40).bind fun y42=>some (decide (y41=y42))) (some false)) ((fun x43=>(chk .i64 (x40+1)).bind fun n44=>some (Sum.inl (x43,n44))))) (some (Sum.inr x39))) (x18,(0:Int))).bind ((fun x45=>Option.bind (α:=Bool) (cond (x45) ((ABU r4 d).bind fun r47=>some r47) (some false)) ((fun x48=>some x48)))))))))))
def an3:An:=.nd .x (.nd (.nd (.jn [.norm ⟨[(.slot 26,.d .bool)],[3]⟩] .x) .x) (.nd .x (.nd .x (.nd .x (.nd .x (.nd .x (.nd (.jn [.norm ⟨[(.slot 17,.d .bool)],[35,7,3]⟩] .x) (.nd (.nd .x (.lp ⟨[(.slot 78,.d (.int .i64)),(.cont 35,.own (.sl 45 (.st 1)))],[35,7,3]⟩ [.exit 0 ⟨[],[7,3]⟩] .x)) (.nd (.nd .x (.lp ⟨[(.slot 17,.d .bool),(.slot 88,.d (.int .i64))],[7,3]⟩ [.exit 2 ⟨[(.slot 17,.d .bool)],[7,3]⟩] (.nd .x (.nd .x (.nd (.nd .x (.jn [.norm ⟨[(.slot 17,.d .bool)],[7,3]⟩] .x)) .x))))) (.nd (.jn [.norm ⟨[(.slot 6,.d .bool)],[]⟩] .x) .x))))))))))
def AXw:Ctr:=⟨[.d (.st 4),.d (.sl (.st 5)),.d (.int .i64)],[.d .bool],fun a=>U1 a.1 a.2.1 a.2.2.1⟩
theorem ok3:Ctr.ok prog 3 AXw:=A7 (G:={ gxb with fs:=[(12,ctr12),(13,ctr13),(14,ctr14),(15,ctr15),(16,ctr16),(17,ctr17),(18,ctr18),(19,ctr19),(20,ctr20)] }) (an:=an3) (A8 ⟨⟨ok12,call12⟩,⟨ok13,call13⟩,⟨ok14,call14⟩,⟨ok15,call15⟩,⟨ok16,call16⟩,⟨ok17,call17⟩,⟨ok18,call18⟩,⟨ok19,call19⟩,⟨ok20,call20⟩,trivial⟩) func3 rfl rfl rfl rfl (fun a=>by kernel_rfl)
end Go.Proofs.YtgioiejbphljoaaGreatDoor
namespace Go.Proofs.YtgioiejbphljoaaGreatDoor
open Go Go.Sx Go.Rx
namespace S
def ANs{α:Type}(first:Int)(less:List α->Int->Option Bool):Int×List α->Option ((Int×List α)⊕List α):=fun (x121,x122)=>Option.bind (α:=Bool) (cond (decide (first<x121)) (less x122 x121) (some false)) ((fun x127=>cond (x127) ((chk .i64 (x121-1)).bind fun n128=>(chk .i64 (x121-1)).bind fun n129=>(ixo x122 n129).bind fun y130=>(ixo x122 x121).bind fun y131=>(ixo x122 x121).bind fun y132=>(seto x122 x121 y130).bind fun l133=>(ixo l133 n128).bind fun y134=>(seto l133 n128 y131).bind fun l135=>(chk .i64 (x121-1)).bind fun n136=>some (Sum.inl (n136,l135))) (some (Sum.inr x122))))
theorem ALN{α:Type}{k1 k2:α->Int}{less:List α->Int->Option Bool}{pre X:List α}{y:α}{first:Int}(W:first=(pre.length:Int))(hl:(pre++X).length<=1000000)(U:X.Pairwise (N8 k1 k2))(hless:∀(A B:List α) (a:α),A.length<=1000000->∃b,less (A++a::y::B) ((A.length:Int)+1)=some b/\(b=true↔lt2 k1 k2 y a)){Q:List α->Prop}(q:∀X',X'.Perm (X++[y])->X'.Pairwise (N8 k1 k2)->Q (pre++X')){i:Int}{l:List α}(hi:i=((pre++X).length:Int))(D:l=pre++(X++[y])):Ret (B5 (ANs first less) (i,l)) Q:=by
 subst W hi D;refine AWU (k1:=k1) (k2:=k2) (fun i l=>(i,l)) (fun l=>l) hl U (fun B=>?_) (fun A B a V hA H=>?_) (fun A B a V hA H=>?_) q
 . unfold ANs;dsimp only;rw[AYY (by omega)];rfl
 . obtain⟨b,J,I⟩:=hless A B a hA;unfold ANs;dsimp only;rw[AYc (by omega),J];have:b=false:=by
    cases b with
    |false=>rfl
    |true=>exact absurd (I.1 rfl) H
   rw[this];rfl
 . obtain⟨b,J,I⟩:=hless A B a hA;unfold ANs;dsimp only;have C:chk .i64 ((A.length:Int)+1-1)=some (A.length:Int):=by
    rw[show(A.length:Int)+1-1=(A.length:Int) by omega];exact AH9 (by omega)
   rw[AYc (by omega),J,I.2 H];dsimp only[cond];rw[bindS,C,bindS,bindS,ix_a,bindS,ix_y,bindS,bindS,set_y,bindS,ix_a,bindS,set_a,bindS,bindS]
theorem ASU{l:List Report}(hl:l.length<=60)(D:ADm l){known:Int}:Ret (AAs l known) fun K=>(∀r,r∈K↔r∈l/\r.made<=known)/\(K.map (·.id)).Nodup/\K.length<=l.length:=by
 unfold AAs;refine Ret.bind (B3 l.length (fun n (t:List Report×Int)=>t.2=n/\(∀r,r∈t.1↔r∈l.take n/\r.made<=known)/\(t.1.map (·.id)).Nodup/\t.1.length<=n) ⟨rfl,by simp,by simp,by simp⟩ ?_ ?_)
 . rintro n H ⟨K,_⟩ ⟨rfl,hm,hnd,I⟩;dsimp only at hm hnd I;refine Ret.condT (K5 H) (Ret.bind (Ret.mono (Q:=fun b:Bool=>(b=true/\l[n].made<=known/\∀r∈K,r.id≠l[n].id)\/(b=false/\(l[n].made<=known->l[n]∈K))) ?_ fun b C=>?_))
   . refine Ret.bind (C0 H (Ret.cond (fun e=>Ret.bind (C0 H ?_)) fun e=>Ret.ok (.inr ⟨rfl,fun h=>absurd h (AYb e)⟩)));rw[At3];refine Ret.bind (AAB (fun _ _=>rfl) (by omega) (fun h=>Ret.ok (.inl ⟨by decide,AYZ e,fun r V=>AYb (h r V)⟩)) fun k hk h F=>Ret.ok (.inr ⟨AYY (by omega),fun _=>?_⟩));have V:K[k]∈K:=AYg hk;have:=D _ (AZI ((hm _).1 V).1) l[n] (AYg H) (AYZ h);rw[<-this];exact V
   . rcases C with⟨rfl,W,E⟩|⟨rfl,W⟩
     . refine Ret.bind (Ret.condT rfl (Ret.bind (C0 H (Ret.bind (Ret.appo (by simp only[List.length_singleton];omega) (by simp only[List.length_singleton];omega) (Ret.ok (Ret.bind (Ret.chk (by omega) (Ret.next ⟨by dsimp only;omega,fun r=>?_,?_,by simp only[List.length_append,List.length_singleton];omega⟩)))))))))
       . dsimp only;rw[B6 H,AYx,hm,AZs];constructor
         . rintro (⟨J,U⟩|rfl)
           . exact⟨.inl J,U⟩
           . exact⟨.inr rfl,W⟩
         . rintro⟨J|J,U⟩
           . exact .inl ⟨J,U⟩
           . exact .inr J
       . dsimp only;rw[AYp,AZ9];refine⟨hnd,by simp,fun x hx y hy=>?_⟩;obtain⟨r,V,rfl⟩:=mem_map.1 hx;have:y=l[n].id:=by simpa using hy
         rw[this];exact E r V
     . refine Ret.bind (Ret.condF rfl (Ret.ok (Ret.bind (Ret.chk (by omega) (Ret.next ⟨by dsimp only;omega,fun r=>?_,hnd,by dsimp only;omega⟩)))));dsimp only;rw[B6 H,hm];constructor
       . rintro⟨J,U⟩;exact⟨.inl J,U⟩
       . rintro⟨J|J,U⟩
         . exact⟨J,U⟩
         . subst J;exact(hm _).1 (W U)
 . rintro⟨K,_⟩ ⟨rfl,hm,hnd,I⟩;dsimp only at hm hnd I;rw[AYo]at hm;exact Ret.condF (K6 (AYh _)) (Ret.done (Ret.ok ⟨hm,hnd,I⟩))
section
variable{K:List Report}(hK:Ok K)
include hK
theorem APB{r:Report}:Ret (AAM K r) fun b=>b=true↔∃o,Aim K r o:=by
 have hl:=hK.len;unfold AAM;rw[At3];refine Ret.bind (AAB (fun _ _=>rfl) (by omega) (fun h=>?_) fun k hk h U=>?_)
 . refine Ret.bind (Ret.condF (by decide) (Ret.ok (Ret.ok ⟨(fun h=>by cases h),?_⟩)));rintro⟨o,J,I,_⟩;exact absurd I (AYb (h o J))
 . have h:=AYZ h;have one:∀o,Aim K r o->o=K[k]:=fun o H=>hK.one H.1 (AYg hk) (by rw[H.2.1,h]);refine Ret.bind (Ret.condT (AYc (by omega)) (Ret.bind (C0 hk (Ret.cond (fun c=>Ret.bind (C0 hk (Ret.ok (Ret.ok ⟨fun I=>⟨K[k],AYg hk,h,AYZ c,AYZ I⟩,?_⟩)))) fun c=>Ret.ok (Ret.ok ⟨(fun h=>by cases h),?_⟩)))))
   . rintro⟨o,H⟩;have e:=one o H;subst e;exact AYc H.2.2.2
   . rintro⟨o,H⟩;have e:=one o H;subst e;exact absurd H.2.2.1 (AYb c)
theorem AIm{o:Report}(H:o∈K){Q:Int->Prop}(h:∀(k:Nat) (hk:k<K.length),K[k]=o->Q k):Ret (G4 K o.id) Q:=by
 have hl:=hK.len;rw[At3];exact AAB (fun _ _=>rfl) (by omega) (fun h=>absurd rfl (AYb (h o H))) fun k hk I _=>h k hk (hK.one (AYg hk) H (AYZ I))
theorem AGL{o:Report}(F:o∈K):Ret (O7 K o.id) fun z=>∃w,z=w.getD (-1)/\WdR K o.id w:=by
 have hl:=hK.len;unfold O7;refine Ret.bind (AIm hK F fun k hk E=>Ret.bind (B3 K.length (fun n (t:Int×Int)=>t.2=n/\∃w,t.1=w.getD (-1)/\Least (Wd K o.id) (K.take n) w) ⟨rfl,none,rfl,fun r D=>by simp at D⟩ ?_ ?_))
 . rintro n H ⟨_,_⟩ ⟨rfl,w,rfl,V⟩;obtain⟨p1,p2,p3⟩:=V.push K[n];rw[<-T3 H]at p1 p2 p3;have D:K[n]∈K:=AYg H;refine Ret.condT (K5 H) (Ret.bind (Ret.mono (Q:=fun b:Bool=>(b=true/\Wd K o.id K[n]/\(w=none\/∃y,w=some y/\K[n].id<y))\/(b=false/\(¬Wd K o.id K[n]\/Wd K o.id K[n]/\∃y,w=some y/\y<=K[n].id))) ?_ fun b W=>?_))
   . have no:¬Wd K o.id K[n]->Ret (some false) fun b:Bool=>(b=true/\Wd K o.id K[n]/\(w=none\/∃y,w=some y/\K[n].id<y))\/(b=false/\(¬Wd K o.id K[n]\/Wd K o.id K[n]/\∃y,w=some y/\y<=K[n].id)):=fun h=>Ret.ok (.inr ⟨rfl,.inl h⟩);refine Ret.bind (C0 H (Ret.cond (fun c1=>Ret.bind (C0 H (Ret.cond (fun c2=>Ret.bind (C0 hk ?_)) fun c2=>no fun h=>AYb c2 h.2.2.1))) fun c1=>no fun h=>AYb c1 h.2.1));rw[E];have c1:=AYZ c1;have c2:=AYZ c2;have one:∀o2,Aim K K[n] o2->o2=o:=fun o2 h=>hK.one h.1 F (by rw[h.2.1,c2]);refine Ret.cond (fun c3=>?_) fun c3=>no ?_
     . have c3:¬o.kind=9:=by simpa using c3
       refine Ret.bind (C0 H (D0 (APB hK) fun b W=>?_));cases b with
       |false=>
        refine Ret.condF rfl (no fun h=>?_)
        obtain⟨_,_,_,o2,I,_⟩:=h
        have:=W.2 ⟨o2,I⟩
        cases this
       |true=>
        obtain⟨o2,I⟩:=W.1 rfl
        have J:Wd K o.id K[n]:=⟨D,c1,c2,o2,I,by rw[one o2 I];exact c3⟩
        refine Ret.condT rfl ?_
        cases w with
        |none=>exact Ret.condT (by decide) (Ret.ok (.inl ⟨rfl,J,.inl rfl⟩))
        |some y=>
         have hy:0<=y:=by
          obtain⟨r,C,_,rfl,_⟩:=V;exact(hK.v r (AZI C)).2.1.1
         refine Ret.condF (AYY (by simp only[Option.getD_some];omega)) (Ret.bind (C0 H (Ret.ok ?_)))
         by_cases c4:K[n].id<y
         . exact .inl ⟨AYc c4,J,.inr ⟨y,rfl,c4⟩⟩
         . exact .inr ⟨AYY c4,.inr ⟨J,y,rfl,by omega⟩⟩
     . rintro⟨_,_,_,o2,I,O⟩;have c3:o.kind=9:=by simpa using c3
       exact O (by rw[one o2 I];exact c3)
   . rcases W with⟨rfl,U,I⟩|⟨rfl,U⟩
     . exact Ret.bind (Ret.condT rfl (Ret.bind (C0 H (Ret.ok (Ret.bind (Ret.chk (by omega) (Ret.next ⟨by dsimp only;omega,some K[n].id,rfl,p2 U I⟩)))))))
     . refine Ret.bind (Ret.condF rfl (Ret.ok (Ret.bind (Ret.chk (by omega) (Ret.next ⟨by dsimp only;omega,w,rfl,?_⟩)))));rcases U with U|⟨U,y,I,T⟩
       . exact p1 U
       . exact p3 U y I T
 . rintro⟨_,_⟩ ⟨rfl,w,rfl,V⟩;rw[AYo]at V;exact Ret.condF (K6 (AYh _)) (Ret.done (Ret.ok ⟨w,rfl,V⟩))
theorem ARK{o:Report}{w:Option Int}(H:WdR K o.id w):0<=w.getD (-1)↔P4 K o.id=true:=by
 cases w with
 |none=>
  rw[gone_iff.2 H]
  constructor
  . intro h;exact absurd h (by decide)
  . intro h;cases h
 |some y=>
  have J:P4 K o.id=true:=by
   cases h:P4 K o.id with
   |true=>rfl
   |false=>
    have:=Least.uniq (gone_iff.1 h) H
    cases this
  rw[J]
  obtain⟨r,I,_,rfl,_⟩:=H
  have:=(hK.v r I).2.1.1
  exact⟨fun _=>rfl,fun _=>this⟩
theorem ALf{o:Report}(F:o∈K)(R:o.kind<=7):Ret (U5 K o.id) fun z=>∃w:Option Report,z=(w.map (·.id)).getD (-1)/\Latest (Co K o) K w:=by
 have hl:=hK.len;unfold U5;refine Ret.bind (AIm hK F fun k hk O=>Ret.bind (B3 K.length (fun n (t:Int×Int)=>t.2=n/\∃w:Option Report,t.1=(w.map (·.id)).getD (-1)/\Latest (Co K o) (K.take n) w) ⟨rfl,none,rfl,fun r E=>by simp at E⟩ ?_ ?_))
 . rintro n H ⟨_,_⟩ ⟨rfl,w,rfl,W⟩;obtain⟨p1,p2,p3⟩:=W.push K[n];rw[<-T3 H]at p1 p2 p3;have E:K[n]∈K:=AYg H;have fin:∀w':Option Report,Latest (Co K o) (K.take (n+1)) w'->Ret ((chk .i64 ((n:Int)+1)).bind fun n86=>some (Sum.inl ((w'.map (·.id)).getD (-1),n86):(Int×Int)⊕Int)) (Nxt (fun t:Int×Int=>t.2=((n+1:Nat):Int)/\∃w:Option Report,t.1=(w.map (·.id)).getD (-1)/\Latest (Co K o) (K.take (n+1)) w) fun a=>Ret (some a) fun z=>∃w:Option Report,z=(w.map (·.id)).getD (-1)/\Latest (Co K o) K w):=fun w' h=>Ret.bind (Ret.chk (by omega) (Ret.next ⟨by dsimp only;omega,w',rfl,h⟩));refine Ret.condT (K5 H) (Ret.bind (Ret.bind (Ret.mono (Q:=fun b:Bool=>b=false↔Co K o K[n]) ?_ fun b J=>?_)))
   . have no:¬Co K o K[n]->Ret (some true) fun b:Bool=>b=false↔Co K o K[n]:=fun h=>Ret.ok ⟨(fun h=>by cases h),fun U=>absurd U h⟩;refine Ret.bind (C0 H (Ret.cond (fun c1=>no fun h=>?_) fun c1=>Ret.bind (C0 H (Ret.cond (fun c2=>no fun h=>?_) fun c2=>Ret.bind (C0 H (D0 (APB hK) fun b J=>?_))))))
     . have c1:¬K[n].kind=8:=by simpa using c1
       exact c1 h.1
     . have c2:¬K[n].of_=o.id:=by simpa using c2
       exact c2 h.2.1.2.1.symm
     have c1:K[n].kind=8:=by simpa using c1
     have c2:K[n].of_=o.id:=by simpa using c2
     cases b with
     |false=>
      refine Ret.condT rfl (no fun h=>?_)
      have:=J.2 ⟨o,h.2.1⟩
      cases this
     |true=>
      obtain⟨o2,U⟩:=J.1 rfl
      have e2:o2=o:=hK.one U.1 F (by rw[U.2.1,c2])
      subst e2
      refine Ret.condF rfl (Ret.bind (C0 H (D0 (AGL hK E) fun z G=>?_)))
      obtain⟨wd,rfl,D⟩:=G
      have B:=ARK hK D
      refine Ret.cond (fun c3=>no fun h=>?_) fun c3=>Ret.bind (C0 hk (Ret.bind (C0 H ?_)))
      . have:=B.1 (AYZ c3)
        rw[gone_iff.2 h.2.2.2]at this;cases this
      . have c3:=AYb c3
        have C:WdR K K[n].id none:=gone_iff.1 (by
         cases h:P4 K K[n].id with
         |false=>rfl
         |true=>exact absurd (B.2 h) c3)
        rw[O]
        have Z:=(hK.v o2 F).1
        rw[AK6 (by omega),bindS]
        refine Ret.ok ?_
        cases V:inB 0 (most o2.kind) K[n].cents with
        |true=>exact⟨fun _=>⟨c1,U,C9 V,C⟩,fun _=>rfl⟩
        |false=>exact⟨(fun h=>by cases h),fun h=>by rw[C6 h.2.2.1]at V;cases V⟩
   . cases b with
     |true=>
      refine Ret.condT rfl (Ret.ok (fin w (p1 fun h=>?_)))
      have:=J.2 h
      cases this
     |false=>
      have V:=J.1 rfl
      refine Ret.condF rfl (Ret.bind (Ret.mono (Q:=fun b:Bool=>(b=true/\(w=none\/∃y,w=some y/\(y.made<K[n].made\/y.made=K[n].made/\y.id<K[n].id)))\/(b=false/\∃y,w=some y/\¬(y.made<K[n].made\/y.made=K[n].made/\y.id<K[n].id))) ?_ fun b J=>?_))
      . cases w with
        |none=>exact Ret.condT (by decide) (Ret.ok (.inl ⟨rfl,.inl rfl⟩))
        |some y=>
         have I:y∈K:=AZI W.1
         have X:=(hK.v y I).2.1.1
         refine Ret.condF (AYY (show ¬y.id<0 by omega)) (Ret.bind (C0 H (Ret.bind (AIm hK I fun k2 Y e2=>Ret.bind (C0 Y ?_)))))
         rw[e2]
         refine Ret.cond (fun c5=>Ret.ok (.inl ⟨rfl,.inr ⟨y,rfl,.inl (AYZ c5)⟩⟩)) fun c5=>Ret.bind (C0 H (Ret.bind (AIm hK I fun k3 T e3=>Ret.bind (C0 T ?_))))
         rw[e3]
         have c5:=AYb c5
         refine Ret.cond (fun c6=>Ret.bind (C0 H (Ret.ok ?_))) fun c6=>Ret.ok (.inr ⟨rfl,y,rfl,?_⟩)
         . have c6:=AYZ c6
           by_cases c7:y.id<K[n].id
           . exact .inl ⟨AYc c7,.inr ⟨y,rfl,.inr ⟨c6.symm,c7⟩⟩⟩
           . exact .inr ⟨AYY c7,y,rfl,by omega⟩
         . have c6:=AYb c6
           omega
      . rcases J with⟨rfl,A⟩|⟨rfl,y,A,U⟩
        . exact Ret.bind (Ret.condT rfl (Ret.bind (C0 H (Ret.ok (Ret.ok (fin (some K[n]) (p2 V A)))))))
        . exact Ret.bind (Ret.condF rfl (Ret.ok (Ret.ok (fin w (p3 V y A U)))))
 . rintro⟨_,_⟩ ⟨rfl,w,rfl,W⟩;rw[AYo]at W;exact Ret.condF (K6 (AYh _)) (Ret.done (Ret.ok ⟨w,rfl,W⟩))
theorem ANt:Ret (X5 K) fun out=>out.Perm (T K)/\out.Pairwise (N8 (·.about) (·.id)):=by
 have hl:=hK.len;unfold X5;refine Ret.bind (B3 K.length (fun n (t:List Report×Int)=>t.2=n/\t.1.Perm (((K.take n).filter fun o=>decide (o.kind<=7)&&!P4 K o.id).map (fix K))/\t.1.Pairwise (N8 (·.about) (·.id))) ⟨rfl,by simp,List.Pairwise.nil⟩ ?_ ?_)
 . rintro n H ⟨X,_⟩ ⟨rfl,I,V⟩;dsimp only at I V;have O:K[n]∈K:=AYg H;have P:X.length<=n:=by
    rw[I.length_eq,AY1];exact AYk (AZZ _ _) (List.length_take_le ..)
   have hstep:∀b,(decide (K[n].kind<=7)&&!P4 K K[n].id)=b->(K.take (n+1)).filter (fun o=>decide (o.kind<=7)&&!P4 K o.id)=(K.take n).filter (fun o=>decide (o.kind<=7)&&!P4 K o.id)++(if b then [K[n]] else []):=fun b U=>by
    rw[T3 H,AZ6];congr 1;cases b with
    |true=>simp[U]
    |false=>simp[U]
   have fin:∀X',X'.Perm (((K.take (n+1)).filter fun o=>decide (o.kind<=7)&&!P4 K o.id).map (fix K))->X'.Pairwise (N8 (·.about) (·.id))->Ret ((chk .i64 ((n:Int)+1)).bind fun n139=>some (Sum.inl (X',n139):(List Report×Int)⊕List Report)) (Nxt (fun t:List Report×Int=>t.2=((n+1:Nat):Int)/\t.1.Perm (((K.take (n+1)).filter fun o=>decide (o.kind<=7)&&!P4 K o.id).map (fix K))/\t.1.Pairwise (N8 (·.about) (·.id))) fun a=>Ret (some a) fun out=>out.Perm (T K)/\out.Pairwise (N8 (·.about) (·.id))):=fun X' C W=>Ret.bind (Ret.chk (by omega) (Ret.next ⟨by dsimp only;omega,C,W⟩));refine Ret.condT (K5 H) (Ret.bind (Ret.bind (C0 H (Ret.bind (Ret.mono (Q:=fun b:Bool=>(decide (K[n].kind<=7)&&!P4 K K[n].id)=!b) ?_ fun b U=>?_)))))
   . refine Ret.cond (fun c=>Ret.ok ?_) fun c=>D0 (AGL hK O) fun z E=>Ret.ok ?_
     . have c:=AYZ c;rw[AYY (by omega)];rfl
     . obtain⟨w,rfl,D⟩:=E;have c:=AYb c;rw[AYc (show K[n].kind<=7 by omega),Bool.true_and];have:=ARK hK D;cases N:P4 K K[n].id with
       |true=>rw[AYc (this.2 N)]
       |false=>
        rw[AYY fun h=>by
         have:=this.1 h;rw[N]at this;cases this]
   . cases b with
     |true=>exact Ret.condT rfl (Ret.ok (fin X (by rw[hstep _ U];simpa using I) V))
     |false=>
      have Z:decide (K[n].kind<=7)=true:=by
       cases h:decide (K[n].kind<=7) with
       |true=>rfl
       |false=>rw[h]at U;cases U
      have S:=AYZ Z
      refine Ret.condF rfl (D0 (ALf hK O S) fun z E=>?_)
      obtain⟨w,rfl,D⟩:=E
      have hbest:=AMU hK O D
      refine Ret.bind (Ret.mono (Q:=fun t:Int×Int=>Report.mk K[n].id K[n].source K[n].account K[n].made t.1 K[n].kind t.2 K[n].of_=fix K K[n]) ?_ fun t R=>?_)
      . unfold fix
        rw[hbest]
        cases w with
        |none=>exact Ret.condF (by decide) (Ret.ok rfl)
        |some y=>
         have J:y∈K:=D.1
         have F:=(hK.v y J).2.1.1
         refine Ret.condT (AYc (show 0<=y.id from F)) (Ret.bind (AIm hK J fun k2 G e2=>Ret.bind (C0 G (Ret.bind (AIm hK J fun k3 Y e3=>Ret.bind (C0 Y (Ret.ok ?_)))))))
         rw[e2,e3]
      . obtain⟨t1,t2⟩:=t
        dsimp only at R ⊢
        rw[R]
        refine Ret.bind (Ret.appo (by simp only[List.length_singleton];omega) (by simp only[List.length_singleton];omega) (Ret.bind (Ret.chk (by simp only[List.length_append,List.length_singleton];omega) (Ret.bind ?_))))
        refine ALN (k1:=fun r:Report=>r.about) (k2:=fun r:Report=>r.id) (pre:=[]) (X:=X) (y:=fix K K[n]) (less:=fun x122 x121=>(ixo x122 x121).bind fun y123=>(chk .i64 (x121-1)).bind fun n124=>(ixo x122 n124).bind fun y125=>(AAZ y123 y125).bind fun r126=>some r126) rfl (by simp;omega) V (fun A B a hA=>?_) (fun X' C W=>?_) (by simp) (by simp)
        . refine⟨decide (lt2 (fun r:Report=>r.about) (fun r:Report=>r.id) (fix K K[n]) a),?_,decide_eq_true_iff⟩
          rw[ix_y,bindS,show(A.length:Int)+1-1=(A.length:Int) by omega,AH9 (by omega),bindS,ix_a,bindS]
          unfold AAZ lt2
          by_cases C:(fix K K[n]).about<a.about
          . simp[C]
          . by_cases W:(fix K K[n]).about=a.about
            . simp[W]
            . simp[C,W]
        . rw[AYq]
          refine Ret.ok (fin X' (C.trans ?_) W)
          rw[hstep true U,AYf (rfl:true=true),AYp,AYr,AZ5]
          exact List.Perm.append_right [fix K K[n]] I
 . rintro⟨X,_⟩ ⟨rfl,I,V⟩;dsimp only at I V;rw[AYo]at I;exact Ret.condF (K6 (AYh _)) (Ret.done (Ret.ok ⟨I,V⟩))
end
theorem ASV{l:List Report}(h:VL l){known:Int}(hk:0<=known/\known<=100000):Ret (X6 l known) fun z=>z.2=0/\St l known z.1:=by
 have hl:=h.len;unfold X6;rw[AMX (fun r I=>by have:=(h.v r I).1;omega),code3_0.2 h,bindS];refine Ret.condF rfl ?_;rw[AEB,C6 hk,bindS];refine Ret.condF rfl (D0 (ASU hl h.cons) fun K U=>?_);obtain⟨hm,hnd,W⟩:=U;have H:Ok K:=⟨fun r I=>h.v r ((hm r).1 I).1,hnd,by omega⟩;refine D0 (ANt H) fun out V=>Ret.ok ⟨rfl,?_,V.2⟩;refine V.1.trans ?_;have J:=ACb h known;exact(AY9 (AH6 (AG5 H)) (AH6 (AG5 J))).2 fun r=>AUF (fun r=>by rw[hm,kn_mem]) H r
end S
namespace S
def ABW(d:Desk)(day:Int):List (Dispute×Verdict):=(d.disputes.filter fun x=>decide (3<=wh d x day)).map fun x=>(x,dec d x)
variable{d:Desk}{day:Int}{D:Desk_99}{x:Dispute}{v:Verdict}
theorem decd_mem{y:Dispute×Verdict}:y∈ABW d day↔y.1∈d.disputes/\3<=wh d y.1 day/\y.2=dec d y.1:=by
 unfold ABW;rw[AZY];constructor
 . rintro⟨x,hx,rfl⟩;obtain⟨I,H⟩:=List.mem_filter.1 hx;exact⟨I,AYZ H,rfl⟩
 . rintro⟨I,H,J⟩;exact⟨y.1,List.mem_filter.2 ⟨I,AYc H⟩,by rw[<-J]⟩
theorem T7{x:Int}(h:-1000000000000000<=x/\x<=1000000000000000):InK .i64 x:=InK.i64.2 (by omega)
theorem ANu{x:Int}(h:0<=x/\x<=255):InK .u8 x:=InK.u8.2 (by omega)
theorem AUU(hv:Vd d){a:Answer}(J:a∈d.answers):(0<=a.id/\a.id<=999999)/\(0<=a.dispute/\a.dispute<=999999)/\(0<=a.day/\a.day<=100000)/\(1<=a.says/\a.says<=3)/\(0<=a.about/\a.about<=100000)/\(0<=a.cents/\a.cents<=1000000000000):=by
 obtain⟨v1,v2,v3,x,H,v4,v5,v6⟩:=hv.a.v a J;obtain⟨x1,_,f,I,_⟩:=hv.x.v x H;have hm:most f.kind<=1000000000000:=by unfold most;split<;>(try split)<;>omega
 refine⟨v1,by rw[<-v4];exact x1,v2,v3,?_⟩;by_cases e:a.says=2
 . have:=v6 e f I;omega
 . have:=v5 e;omega
theorem ARL(hv:Vd d)(x:Dispute):(0<=(dec d x).by_.id/\(dec d x).by_.id<=999999)/\(0<=(dec d x).by_.dispute/\(dec d x).by_.dispute<=999999)/\(0<=(dec d x).by_.day/\(dec d x).by_.day<=100000)/\(0<=(dec d x).by_.says/\(dec d x).by_.says<=3)/\(0<=(dec d x).by_.about/\(dec d x).by_.about<=100000)/\(0<=(dec d x).by_.cents/\(dec d x).by_.cents<=1000000000000):=by
 by_cases c:(dec d x).is_=5
 . have e:(dec d x).by_=zeroA:=by rw[((AEE hv x).is5 c).1]
   rw[e];unfold zeroA;dsimp only;omega
 . have:=AUU hv (List.mem_filter.1 ((AEE hv x).by_ c).2.1).1;omega
theorem AJK(hD:Dw d D)(hv:Vd d):D3 D day=some (ABW d day):=by
 have key:∀l:List Dispute,(∀x∈l,x∈d.disputes)->AFZ D day l=some ((l.filter fun x=>decide (3<=wh d x day)).map fun x=>(x,dec d x)):=by
  intro l;induction l with
  |nil=>intro _;rfl
  |cons x l ih=>
   intro h
   unfold AFZ
   rw[ASN hD hv (h x (AYX ..)),bindS,ih (fun y hy=>h y (AYT _ hy)),bindS]
   congr 1
   rw[AZg]
   by_cases c:3<=wh d x day
   . rw[AYf (show decide (3<=wh d x day)=true from AYc c),AYr]
     exact AYf c
   . rw[if_neg (show ¬decide (3<=wh d x day)=true from fun h=>c (AYZ h))]
     exact if_neg c
 unfold D3;rw[hD.d,key _ fun _ h=>h,bindS];refine AYf fun y hy=>?_;obtain⟨U,K,C⟩:=decd_mem.1 hy;obtain⟨x1,x2,f,V,x3,x4⟩:=hv.x.v _ U;have I:=O2 V;have H:=hv.r.v f I.1;have E:=hv.t.1;have hk:=ALC hv y.1;have W:=AFb hv U;have F:=ARL hv y.1;have J:0<=y.1.report/\y.1.report<=999999:=by rw[<-I.2.1];exact H.2.1
 have hmade:=H.2.2.2.2.2.1;have e:ADd [.st 2,.st 12] y↔(InK .i64 y.1.id/\InK .i64 y.1.report/\InK .i64 y.1.day)/\(InK .i64 y.2.day/\InK .u8 y.2.is_/\InK .i64 y.2.by_.id/\InK .i64 y.2.by_.dispute/\InK .i64 y.2.by_.day/\InK .u8 y.2.by_.says/\InK .i64 y.2.by_.about/\InK .i64 y.2.by_.cents):=AaU;rw[e,C];exact⟨⟨T7 (by omega),T7 (by omega),T7 (by omega)⟩,T7 (by omega),ANu (by omega),T7 (by omega),T7 (by omega),T7 (by omega),ANu (by omega),T7 (by omega),T7 (by omega)⟩
def ADY:Report:=Report.mk 0 0 0 0 0 0 0 0
def Z3(d:Desk)(x:Dispute)(v:Verdict):Report:=
 let f:=(fct d.reports x.report).getD ADY
 if v.is_=3 then Report.mk x.id f.source f.account v.day v.by_.about 8 v.by_.cents f.id else Report.mk x.id f.source f.account v.day 0 9 0 f.id
theorem ASW(hD:Dw d D){l:List Report}(hl:l.length<=1000000):V6 D x v l=some (l++[Z3 d x v]):=by
 unfold V6 Z3;rw[hD.f,hD.d];by_cases c:v.is_=3
 . rw[AYc c,condT,bindS,AYf c];exact Ret.eq (Ret.bind (Ret.appo (by simp only[List.length_singleton];omega) (by simp only[List.length_singleton];omega) (Ret.ok rfl)))
 . rw[AYY c,condF,bindS,if_neg c];exact Ret.eq (Ret.bind (Ret.appo (by simp only[List.length_singleton];omega) (by simp only[List.length_singleton];omega) (Ret.ok rfl)))
def ABn(d:Desk)(day:Int):List Report:=(ABW d day).map fun y=>Z3 d y.1 y.2
theorem ALO:(Z3 d x v).id=x.id:=by unfold Z3;split<;>rfl
theorem AQd:(Z3 d x v).made=v.day:=by unfold Z3;split<;>rfl
theorem AEr:(ABW d day).length<=d.disputes.length:=by
 unfold ABW;rw[AY1];exact AZZ ..
theorem AIn(hv:Vd d):((ABn d day).map (·.id)).Nodup:=by
 unfold ABn ABW;rw[AY3,AY3];rw[show(((fun r:Report=>r.id) ∘ fun y:Dispute×Verdict=>Z3 d y.1 y.2) ∘ fun x=>(x,dec d x))=fun x:Dispute=>x.id from funext fun x=>ALO];exact(AZ1 _ AZG).nodup hv.x.nd
def ADo(d:Desk)(day:Int)(r:List Report×Int):Prop:=(60<d.reports.length+(ABn d day).length/\r=([],9))\/(d.reports.length+(ABn d day).length<=60/\∃m:List Report,m.Perm (ABn d day)/\m.Pairwise (N8 (·.made) (·.id))/\r=(d.reports++m,0))
theorem AQe{a b:List Report}(C:a.length<=100000)(W:b.length<=100000):T4 [a,b]=some (a++b):=by
 refine Ret.eq ?_;unfold T4;refine Ret.bind (B3 2 (fun n (t:Int×Int)=>t.1=n/\(n=0->t.2=0)/\(n=1->t.2=a.length)/\(n=2->t.2=a.length+b.length)) ⟨rfl,fun _=>rfl,fun h=>by omega,fun h=>by omega⟩ ?_ ?_)
 . rintro n U ⟨_,s⟩ ⟨rfl,J,I,H⟩;have:n=0\/n=1:=by omega
   rcases this with rfl|rfl
   . have:s=0:=J rfl;subst this;exact Ret.condT rfl (Ret.bind (Ret.val (show ixo [a,b] 0=some a from rfl) (Ret.bind (Ret.chk (by omega) (Ret.condF (AYY (by omega)) (Ret.bind (Ret.chk (by decide) (Ret.next ⟨rfl,fun h=>by omega,fun _=>by dsimp only;omega,fun h=>by omega⟩))))))))
   . have:s=a.length:=I rfl;subst this;exact Ret.condT rfl (Ret.bind (Ret.val (show ixo [a,b] 1=some b from rfl) (Ret.bind (Ret.chk (by omega) (Ret.condF (AYY (by omega)) (Ret.bind (Ret.chk (by decide) (Ret.next ⟨rfl,fun h=>by omega,fun h=>by omega,fun _=>rfl⟩))))))))
 rintro⟨_,s⟩ ⟨rfl,J,I,H⟩;have:s=a.length+b.length:=H rfl;subst this;have V:M5 () ((a.length:Int)+b.length)=some []:=by
  unfold M5;exact AYf ⟨by omega,by omega⟩
 refine Ret.condF rfl (Ret.done ?_);rw[V,bindS];refine Ret.bind (B3 2 (fun n (t:Int×List Report)=>t.1=n/\(n=0->t.2=[])/\(n=1->t.2=a)/\(n=2->t.2=a++b)) ⟨rfl,fun _=>rfl,fun h=>by omega,fun h=>by omega⟩ ?_ ?_)
 . rintro n U ⟨_,s⟩ ⟨rfl,J,I,H⟩;have:n=0\/n=1:=by omega
   rcases this with rfl|rfl
   . have:s=[]:=J rfl;subst this;exact Ret.condT rfl (Ret.bind (Ret.val (show ixo [a,b] 0=some a from rfl) (Ret.bind (Ret.appo (by simp only[List.length_nil];omega) (by simp only[List.length_nil];omega) (Ret.bind (Ret.chk (by decide) (Ret.next ⟨rfl,fun h=>by omega,fun _=>rfl,fun h=>by omega⟩)))))))
   . have:s=a:=I rfl;subst this;exact Ret.condT rfl (Ret.bind (Ret.val (show ixo [s,b] 1=some b from rfl) (Ret.bind (Ret.appo (by omega) (by omega) (Ret.bind (Ret.chk (by decide) (Ret.next ⟨rfl,fun h=>by omega,fun h=>by omega,fun _=>rfl⟩)))))))
 . rintro⟨_,s⟩ ⟨rfl,J,I,H⟩;have:s=a++b:=H rfl;subst this;exact Ret.condF rfl (Ret.done (Ret.ok rfl))
theorem ALP(hD:Dw d D)(hv:Vd d):Ret (F3 D day) (ADo d day):=by
 have J:=hv.x.len;have W:=hv.r.len;have I:(ABn d day).length<=20:=by
  unfold ABn;rw[AY1];exact AYk AEr J
 unfold F3;rw[AJK hD hv,bindS];refine Ret.bind (Ret.over (fun pre (l:List Report)=>l=pre.map fun y=>Z3 d y.1 y.2) rfl (fun pre y s U F hy H=>?_) fun s H=>?_)
 . subst H;rw[ASW hD (by rw[AY1];have:=AEr (d:=d) (day:=day);omega)];exact Ret.ok (by rw[AYp];rfl)
 . subst H;show Ret (AAt D (ABn d day)) (ADo d day);unfold AAt;rw[hD.d];refine Ret.bind (Ret.chk (by omega) (Ret.cond (fun c=>Ret.ok (.inl ⟨?_,rfl⟩)) fun c=>?_))
   . have c:=AYZ c;omega
   have c:=AYb c;have V:=ANg (x:=ABn d day) (cmp:=fun a b=>J3 a b [78,79]) (k1:=(·.made)) (k2:=(·.id)) (fun a b=>AIi (D:=fd160.D) (fun _=>rfl) (fun _=>rfl)) (fun a b E C _ e=>AB4 (AIn hv) a b E C e) (by omega);refine Ret.bind (Ret.bind (V.mono fun m hm=>Ret.ok ?_));have I:=hm.1.length_eq;dsimp only;rw[AQe (a:=d.reports) (b:=m) (by omega) (by omega),bindS];exact Ret.ok (.inr ⟨by omega,m,hm.1,hm.2,rfl⟩)
theorem AQf(hv:Vd d)(hd:0<=day/\day<=100000):Ret (N4 d day) (ADo d day):=by
 obtain⟨D,I,hD⟩:=ALB hv hd;unfold N4;rw[I,bindS];exact Ret.condF (by decide) (Ret.bind ((ALP hD hv).mono fun r H=>Ret.ok H))
theorem ALQ(hv:Vd d){r r':List Report×Int}(h:ADo d day r)(E:ADo d day r'):r=r':=by
 rcases h with⟨D,rfl⟩|⟨D,m,H,C,rfl⟩<;>rcases E with⟨W,rfl⟩|⟨W,m',V,U,rfl⟩
 . rfl
 . omega
 . omega
 . rw[AG4 (H.trans V.symm) C U fun a b J I _ e=>AB4 (AIn hv) a b (H.mem_iff.1 J) (H.mem_iff.1 I) e]
end S
namespace S
def stF(l:List Report)(day i:Int):Option Report:=(T (knS l day)).find? fun r=>decide (r.id=i)
theorem ALR{l:List Report}(I:(l.map (·.id)).Nodup){i:Int}{r:Report}:(l.find? fun r=>decide (r.id=i))=some r↔r∈l/\r.id=i:=by
 constructor
 . intro h;exact⟨AZm h,AYZ (AaG (p:=fun r:Report=>decide (r.id=i)) h)⟩
 . rintro⟨h,rfl⟩;cases H:l.find? fun s=>decide (s.id=r.id) with
   |none=>exact absurd (AYc rfl) (List.find?_eq_none.1 H r h)
   |some g=>rw[AB4 I g r (AZm H) h (AYZ (AaG (p:=fun s:Report=>decide (s.id=r.id)) H))]
theorem AIo{l:List Report}(h:VL l){day i:Int}{r:Report}:stF l day i=some r↔r∈T (knS l day)/\r.id=i:=ALR (AG5 (ACb h day))
theorem AMd{l:List Report}(h:VL l){day:Int}(hd:0<=day/\day<=100000):T5 l day=some (stF l day):=by
 refine Ret.eq ?_;unfold T5;refine D0 (ANi h hd) fun z W=>?_;obtain⟨out,e⟩:=z;obtain⟨rfl,U,_⟩:=W;have V:=U.length_eq;have C:=AJh (ACb h day);have hnd:(out.map (·.id)).Nodup:=(U.map _).nodup_iff.2 (AG5 (ACb h day));refine Ret.bind (B3 out.length (fun n (t:Int×A2 Int Report)=>t.1=n/\∀i r,t.2 i=some r↔r∈out.take n/\r.id=i) ⟨rfl,fun i r=>by simp[fnone]⟩ ?_ ?_)
 . rintro n H ⟨_,m⟩ ⟨rfl,hm⟩;dsimp only at hm H;refine Ret.condT (K5 H) (Ret.bind (C0 H (Ret.bind (Ret.chk (by dsimp only at *;omega) (Ret.next ⟨by dsimp only;omega,fun i r=>?_⟩)))));dsimp only[B9];rw[B6 H];by_cases e:i=out[n].id
   . subst e;rw[AYf rfl];constructor
     . intro I;cases I;exact⟨.inr rfl,rfl⟩
     . rintro⟨I|I,J⟩
       . rw[AB4 hnd r _ (AZI I) (AYg H) J]
       . rw[I]
   . rw[if_neg e,hm];constructor
     . rintro⟨I,J⟩;exact⟨.inl I,J⟩
     . rintro⟨I|rfl,J⟩
       . exact⟨I,J⟩
       . exact absurd J.symm e
 . rintro⟨_,m⟩ ⟨rfl,hm⟩;dsimp only at hm;rw[AYo]at hm;refine Ret.condF (K6 (AYh _)) (Ret.done (Ret.ok ?_));funext i;apply AaP;intro r;rw[hm,AIo h,U.mem_iff]
def P5(d:Desk)(l:List Report)(x:Dispute)(a:Asked):Bool:=
 decide (a.account=((fct d.reports x.report).getD ADY).account)&&(decide (a.day<(dec d x).day)&&(decide ((dec d x).day-a.day<=d.terms.lately)&&(match stF l a.day x.report with
  |none=>false
  |some was=>decide (was.about<=a.day)&&(match stF l (dec d x).day x.report with
   |none=>true
   |some now=>!decide (was=now)))))
structure AskV(asked:List Asked):Prop where
 len:asked.length<=40
 v:∀a∈asked,(0<=a.id/\a.id<=999999)/\(0<=a.who/\a.who<=999999)/\(0<=a.account/\a.account<=999999)/\(0<=a.day/\a.day<=100000)
 up:∀(n:Nat) (h:n+1<asked.length),asked[n].id<asked[n+1].id
def P6(d:Desk)(l:List Report)(x:Dispute)(f:A2 (Int×Int) Int)(a:Asked):A2 (Int×Int) Int:=if P5 d l x a then B9 f (x.id,a.who) a.id else f
def ABX(d:Desk)(l:List Report)(asked:List Asked)(f:A2 (Int×Int) Int)(y:Dispute×Verdict):A2 (Int×Int) Int:=asked.reverse.foldl (P6 d l y.1) f
def ANv(d:Desk)(l:List Report)(asked:List Asked)(day:Int):A2 (Int×Int) Int:=(ABW d day).foldl (ABX d l asked) fnone
theorem APC:∀(l:List Asked) (n:Nat),n<=l.length->(bwN l n).map (·.2)=(l.take n).reverse
 |l,0,_=>rfl
 |l,n+1,h=>by
  have H:n<l.length:=by omega
  unfold bwN;rw[AYd H];show l[n]::(bwN l n).map (·.2)=_;rw[APC l n (by omega),T3 H,List.reverse_append];rfl
theorem ALS:∀(l:List Asked) (n:Nat) (y:Int×Asked),n<=l.length->y∈bwN l n->y.2∈l/\0<=y.1/\y.1<n
 |l,0,y,_,h=>by cases h
 |l,n+1,y,I,h=>by
  have H:n<l.length:=by omega
  unfold bwN at h;rw[AYd H]at h;rcases mem_cons.1 h with rfl|h
  . exact⟨AYg H,by dsimp only;omega,by dsimp only;omega⟩
  . have:=ALS l n y (by omega) h;exact⟨this.1,this.2.1,by omega⟩
theorem ANw{asked:List Asked}(H:AskV asked):U6 asked=some (bwN asked asked.length):=by
 unfold U6;refine AYf fun y hy=>?_;obtain⟨I,U,J⟩:=ALS asked asked.length y (AYh _) hy;have hl:=H.len;obtain⟨v1,v2,v3,v4⟩:=H.v _ I;have e:ADd [.int .i64,.st 5] y↔InK .i64 y.1/\(InK .i64 y.2.id/\InK .i64 y.2.who/\InK .i64 y.2.account/\InK .i64 y.2.day):=AaU;rw[e];exact⟨T7 (by omega),T7 (by omega),T7 (by omega),T7 (by omega),T7 (by omega)⟩
section
variable{d:Desk}{D:Desk_99}(hD:Dw d D)(hv:Vd d){l:List Report}(hl:VL l)
include hD hv hl
variable{x:Dispute}{f:A2 (Int×Int) Int}
theorem AWY(hx:x∈d.disputes):AAu l x (dec d x)=some ((stF l (dec d x).day x.report).getD ADY,(stF l (dec d x).day x.report).isSome):=by
 unfold AAu;rw[AMd hl (AFb hv hx),bindS];rfl
theorem AWZ(hx:x∈d.disputes){a:Int×Asked}(J:0<=a.2.day/\a.2.day<=100000):Go.Proofs.YtgioiejbphljoaaGreatDoor.inB D l x (dec d x) ((stF l (dec d x).day x.report).getD ADY) ((stF l (dec d x).day x.report).isSome) f a=some (P6 d l x f a.2):=by
 have I:=AFb hv hx;unfold Go.Proofs.YtgioiejbphljoaaGreatDoor.inB P6;have key:∃b:Bool⊕Unit,AAa D l x (dec d x) ((stF l (dec d x).day x.report).getD ADY) ((stF l (dec d x).day x.report).isSome) a.2=some b/\(P5 d l x a.2=true↔b=.inl true):=by
  show Ret _ fun b:Bool⊕Unit=>P5 d l x a.2=true↔b=.inl true;unfold AAa P5;rw[hD.f,hD.d];have no:∀{o:Option (Bool⊕Unit)} {b:Bool},b=false->Ret (cond true (some (Sum.inr ())) o) fun c:Bool⊕Unit=>b=true↔c=.inl true:=fun {o b} h=>Ret.condT rfl (Ret.ok (by subst h;exact⟨(fun h=>by cases h),(fun h=>by cases h)⟩));refine Ret.bind (Ret.cond (fun c=>Ret.ok (no ?_)) fun c=>Ret.cond (fun c2=>Ret.ok (no ?_)) fun c2=>Ret.bind (Ret.chk (by omega) (Ret.ok ?_)))
  . have c:decide (a.2.account=((fct d.reports x.report).getD ADY).account)=false:=by
     rw[Bool.not_eq_true']at c;exact c
    rw[c];rfl
  . have c2:=AYZ c2;rw[AYY (show ¬a.2.day<(dec d x).day by omega)];simp
  have c:decide (a.2.account=((fct d.reports x.report).getD ADY).account)=true:=by
   rw[Bool.not_eq_false']at c;exact c
  have c2:=AYb c2;rw[c,AYc (show a.2.day<(dec d x).day by omega),Bool.true_and,Bool.true_and];refine Ret.cond (fun c3=>Ret.ok ?_) fun c3=>?_
  . have c3:=AYZ c3;rw[AYY (show ¬(dec d x).day-a.2.day<=d.terms.lately by omega)];exact⟨(fun h=>by cases h),(fun h=>by cases h)⟩
  have c3:=AYb c3;rw[AYc (show(dec d x).day-a.2.day<=d.terms.lately by omega),Bool.true_and];rw[AMd hl J,bindS];have fin:∀{b b':Bool},b=b'->Ret (some (Sum.inl b':Bool⊕Unit)) fun c:Bool⊕Unit=>b=true↔c=.inl true:=fun {b b'} h=>Ret.ok (by subst h;exact⟨fun h=>by rw[h],fun h=>by injection h⟩);refine Ret.bind ?_;cases V:stF l a.2.day x.report with
  |none=>exact Ret.condF rfl (Ret.ok (fin rfl))
  |some was=>
   refine Ret.condT rfl (Ret.cond (fun c4=>?_) fun c4=>Ret.ok (fin ?_))
   . have c4:decide (was.about<=a.2.day)=true:=c4
     dsimp only
     rw[c4,Bool.true_and]
     cases W:stF l (dec d x).day x.report with
     |none=>exact Ret.condT rfl (Ret.ok (fin rfl))
     |some now=>exact Ret.condF rfl (Ret.ok (fin rfl))
   . have c4:decide (was.about<=a.2.day)=false:=c4
     dsimp only
     rw[c4];rfl
 obtain⟨b,U,H⟩:=key;rw[U,bindS];congr 1;by_cases c:P5 d l x a.2=true
 . rw[AYf c,H.1 c]
 . rw[if_neg c];cases b with
   |inr u=>rfl
   |inl b=>
    cases b with
    |false=>rfl
    |true=>exact absurd (H.2 rfl) c
theorem AUV{asked:List Asked}(J:AskV asked){y:Dispute×Verdict}{day:Int}(hy:y∈ABW d day):AHA D asked l f y=some (ABX d l asked f y):=by
 obtain⟨U,E,W⟩:=decd_mem.1 hy;refine Ret.eq ?_;unfold AHA;rw[W,AWY hD hv hl U,bindS,ANw J,bindS];refine Ret.over (fun pre (g:A2 (Int×Int) Int)=>g=(pre.map (·.2)).foldl (P6 d l y.1) f) rfl (fun pre a s V C I H=>?_) fun s H=>?_
 . have:=J.v _ (ALS asked asked.length a (AYh _) I).1;rw[AWZ hD hv hl U this.2.2.2];refine Ret.ok ?_;rw[AYp,AZz,<-H];rfl
 . rw[H,APC asked _ (AYh _),AYo];rfl
end
theorem ANx{κ α:Type}[DecidableEq κ]{f:A2 κ α}{l:List (κ×α)}(h:Lists f l)(a:κ)(z:α):∃l',Lists (B9 f a z) l'/\l'.length<=l.length+1:=by
 by_cases c:∃x∈l,x.1=a
 . obtain⟨⟨a',y⟩,hx,rfl⟩:=c;obtain⟨j,H⟩:=AY2 hx;exact⟨_,h.set H z,by rw[AZ3];omega⟩
 . exact⟨_,h.push z fun x hx e=>c ⟨x,hx,e⟩,by simp⟩
theorem AJL{d:Desk}{l:List Report}{asked:List Asked}:∀(ys:List (Dispute×Verdict)) (f:A2 (Int×Int) Int) (xs:List ((Int×Int)×Int)),Lists f xs->∃xs',Lists (ys.foldl (ABX d l asked) f) xs'/\xs'.length<=xs.length+ys.length*asked.length:=by
 have inner:∀(aq:List Asked) (x:Dispute) (f:A2 (Int×Int) Int) (xs:List ((Int×Int)×Int)),Lists f xs->∃xs',Lists (aq.foldl (P6 d l x) f) xs'/\xs'.length<=xs.length+aq.length:=by
  intro aq;induction aq with
  |nil=>intro x f xs h;exact⟨xs,h,by simp⟩
  |cons a aq ih=>
   intro x f xs h
   have:∃xs',Lists (P6 d l x f a) xs'/\xs'.length<=xs.length+1:=by
    unfold P6;split
    . exact ANx h _ _
    . exact⟨xs,h,by omega⟩
   obtain⟨xs',I,J⟩:=this
   obtain⟨xs2,H,U⟩:=ih x _ xs' I
   exact⟨xs2,H,by simp only[List.length_cons];omega⟩
 intro ys;induction ys with
 |nil=>intro f xs h;exact⟨xs,h,by simp⟩
 |cons y ys ih=>
  intro f xs h
  obtain⟨xs',I,J⟩:=inner asked.reverse y.1 f xs h
  obtain⟨xs2,H,U⟩:=ih _ xs' I
  refine⟨xs2,H,?_⟩
  rw[List.length_reverse]at J
  simp only[List.length_cons,Nat.add_mul,Nat.one_mul]
  omega
def mkL(y:(Int×Int)×Int):Letter:=Letter.mk y.1.1 y.1.2 y.2
structure LetS(F:A2 (Int×Int) Int)(out:List Letter):Prop where
 mem:∀z:Letter,z∈out↔F (z.dispute,z.who)=some z.asked
 nd:(out.map fun z=>(z.dispute,z.who)).Nodup
 ord:out.Pairwise (N8 (·.dispute) (·.who))
variable{F:A2 (Int×Int) Int}{asked:List Asked}{d:Desk}{day:Int}
theorem AMe{out:List Letter}(h:(out.map fun z=>(z.dispute,z.who)).Nodup):∀a b,a∈out->b∈out->a.dispute=b.dispute->a.who=b.who->a=b:=fun a b J I e1 e2=>by
 rw[List.Nodup,AZd]at h;obtain⟨i,hi,rfl⟩:=AZL J;obtain⟨j,H,rfl⟩:=AZL I;rw[AZN]at h;have e:(out[i].dispute,out[i].who)=(out[j].dispute,out[j].who):=by rw[e1,e2]
 rcases AZw i j with c|c|c
 . exact absurd e (h i j hi H c)
 . subst c;rfl
 . exact absurd e.symm (h j i H hi c)
theorem ALT{a b:List Letter}(H:LetS F a)(I:LetS F b):a=b:=by
 have nd:∀{x:List Letter},LetS F x->x.Nodup:=fun h=>(List.pairwise_map.1 h.nd).imp fun h e=>h (by rw[e]);refine AG4 ((AY9 (nd H) (nd I)).2 fun z=>by rw[H.mem,I.mem]) H.ord I.ord (AMe H.nd)
theorem APE{xs0:List ((Int×Int)×Int)}(I:Lists F xs0)(hl:xs0.length<=100000):Ret (AAg F fun xs=>(List.foldlM AEq [] xs).bind K1) fun r=>r.2=0/\LetS F r.1:=by
 have each:∀xs,Lists F xs->Ret ((List.foldlM AEq [] xs).bind K1) fun r=>r=(r.1,0)/\LetS F r.1:=fun xs H=>by
  have W:xs.Perm xs0:=(AY9 ((List.pairwise_map.1 H.1).imp fun h e=>h (by rw[e])) ((List.pairwise_map.1 I.1).imp fun h e=>h (by rw[e]))).2 fun y=>(H.2 y.1 y.2).trans (I.2 y.1 y.2).symm;have J:=W.length_eq;have fold:∀(l:List ((Int×Int)×Int)) (pre:List Letter),pre.length+l.length<=1000000->List.foldlM AEq pre l=some (pre++l.map mkL):=by
   intro l;induction l with
   |nil=>intro pre _;simp
   |cons y l ih=>
    intro pre h
    rw[AZP]at h
    rw[AZf]
    have:AEq pre y=some (pre++[mkL y]):=AAR (by simp;omega) (by simp;omega)
    rw[this]
    show List.foldlM AEq (pre++[mkL y]) l=_
    rw[ih _ (by simp;omega)]
    simp
  rw[fold xs [] (by simp;omega),AYq,bindS];unfold K1;have hnd:((xs.map mkL).map fun z=>(z.dispute,z.who)).Nodup:=by
   rw[AY3];exact H.1
  have C:=ANg (x:=xs.map mkL) (cmp:=fun a b=>J4 a b [49,50]) (k1:=(·.dispute)) (k2:=(·.who)) (fun a b=>AIi (D:=fd118.D) (fun _=>rfl) (fun _=>rfl)) (AMe hnd) (by rw[AY1];omega);refine Ret.bind (Ret.bind (C.mono fun m hm=>Ret.ok (Ret.ok ⟨rfl,fun z=>?_,(hm.1.map _).nodup_iff.2 hnd,hm.2⟩)));rw[hm.1.mem_iff,AZY,<-H.2];constructor
  . rintro⟨y,hy,rfl⟩;exact hy
  . intro h;exact⟨_,h,rfl⟩
 obtain⟨r,Q,V,U⟩:=each _ I;refine⟨r,AIE I fun xs H=>?_,by rw[V],U⟩;obtain⟨r',O,K,E⟩:=each xs H;rw[O,K,V,ALT E U]
theorem ASX(hl:asked.length<=1000000):Ret (J8 asked) fun b=>b=true->AskV asked:=by
 unfold J8;refine Ret.cond (fun _=>Ret.ok fun h=>by cases h) fun c1=>?_;have c1:=AYb c1;refine Ret.bind (B3 asked.length (fun n (t:Int)=>t=n/\(∀a∈asked.take n,(0<=a.id/\a.id<=999999)/\(0<=a.who/\a.who<=999999)/\(0<=a.account/\a.account<=999999)/\(0<=a.day/\a.day<=100000))/\∀(m:Nat) (h:m+1<asked.length),m+1<n->asked[m].id<asked[m+1].id) ⟨rfl,fun a h=>by simp at h,fun m _ h=>by omega⟩ ?_ ?_)
 . rintro n H _ ⟨rfl,hv,U⟩;have bad:∀{o:Option (Int⊕(Unit⊕Bool))} {N:Int->Prop},Ret (cond true (some (Sum.inr (Sum.inr false))) o) (Nxt N (fun a=>Ret (Sum.elim (fun _=>some true) (fun r27=>some r27) a) fun b=>b=true->AskV asked)):=fun {o N}=>Ret.condT rfl (Ret.done (C1 (Ret.ok fun h=>by cases h)));refine Ret.condT (K5 H) (Ret.bind (C0 H (Ret.bind ?_)));rw[within5,bindS];refine Ret.no bad fun c2=>?_;rw[within5,bindS];refine Ret.no bad fun c3=>?_;rw[within5,bindS];refine Ret.no bad fun c4=>?_;rw[within5,bindS];refine Ret.no bad fun c5=>?_;have J:∀a∈asked.take (n+1),(0<=a.id/\a.id<=999999)/\(0<=a.who/\a.who<=999999)/\(0<=a.account/\a.account<=999999)/\(0<=a.day/\a.day<=100000):=fun a I=>by
    rw[B6 H]at I;rcases I with I|rfl
    . exact hv a I
    . exact⟨C9 c2,C9 c3,C9 c4,C9 c5⟩
   have go:(∀(m:Nat) (h:m+1<asked.length),m+1<n+1->asked[m].id<asked[m+1].id)->Ret (cond false (some (Sum.inr (Sum.inr false))) ((chk .i64 ((n:Int)+1)).bind fun n20=>some (Sum.inl n20))) (Nxt (fun (t:Int)=>t=((n+1:Nat):Int)/\(∀a∈asked.take (n+1),(0<=a.id/\a.id<=999999)/\(0<=a.who/\a.who<=999999)/\(0<=a.account/\a.account<=999999)/\(0<=a.day/\a.day<=100000))/\∀(m:Nat) (h:m+1<asked.length),m+1<n+1->asked[m].id<asked[m+1].id) (fun a=>Ret (Sum.elim (fun (_:Unit)=>some true) (fun r27=>some r27) a) fun b=>b=true->AskV asked)):=fun h=>Ret.condF rfl (Ret.bind (Ret.chk (by omega) (Ret.next ⟨by omega,J,h⟩)));refine Ret.cond (fun c6=>?_) fun c6=>Ret.ok (go fun m h hm=>?_)
   . have c6:=AYZ c6;obtain⟨k,rfl⟩:∃k,n=k+1:=⟨n-1,by omega⟩;have hk:k<asked.length:=by omega
     refine Ret.bind (Ret.chk (by omega) (Ret.bind ?_));rw[show((k+1:Nat):Int)-1=(k:Int) by omega];refine C0 hk (Ret.ok ?_);by_cases c7:asked[k+1].id<=asked[k].id
     . rw[AYc c7];exact bad
     . rw[AYY c7];refine go fun m h hm=>?_;by_cases e:m=k
       . subst e;omega
       . exact U m h (by omega)
   . have c6:=AYb c6;omega
 . rintro _ ⟨rfl,hv,U⟩;rw[AYo]at hv;exact Ret.condF (K6 (AYh _)) (Ret.done (B8 (Ret.ok fun _=>⟨by omega,hv,fun n h=>U n h h⟩)))
def LtS(d:Desk)(asked:List Asked)(day:Int)(r:List Letter×Int):Prop:=∃z,ADo d day z/\((z.2=9/\r=([],9))\/(z.2=0/\r.2=0/\LetS (ANv d z.1 asked day) r.1))
theorem ALU(hv:Vd d){z:List Report×Int}(E:ADo d day z)(K:z.2=0):VL z.1:=by
 rcases E with⟨_,rfl⟩|⟨F,m,C,Q,rfl⟩
 . cases K
 have mm:∀r∈m,∃x∈d.disputes,r=Z3 d x (dec d x)/\3<=(dec d x).is_:=fun r H=>by
  have H:=C.mem_iff.1 H;unfold ABn at H;obtain⟨y,hy,rfl⟩:=mem_map.1 H;obtain⟨y1,y2,y3⟩:=decd_mem.1 hy;refine⟨y.1,y1,by rw[y3],?_⟩;unfold wh at y2;split at y2
  . exact y2
  . split at y2<;>omega
 refine⟨?_,fun r H=>?_,fun a J b I e=>?_⟩
 . dsimp only;rw[AYj,C.length_eq];exact F
 . rcases mem_append.1 H with H|H
   . exact hv.r.v r H
   . obtain⟨x,hx,rfl,O⟩:=mm r H;obtain⟨x1,x2,f,D,x3,x4⟩:=hv.x.v x hx;have V:=O2 D;obtain⟨u1,u2,u3,u4,u5,u6,u7,u8,_⟩:=hv.r.v f V.1;have W:=AFb hv hx;have I:=ARL hv x;have U:f.id≠x.id:=x2 f V.1;unfold Z3;rw[D];dsimp only[Option.getD_some];split
     . exact⟨(show(1:Int)<=8/\(8:Int)<=9 from by decide),x1,u3,u4,u2,W,I.2.2.2.2.1,I.2.2.2.2.2,(fun h=>absurd (show(8:Int)<=7 from h) (by decide)),(fun _=>U),(fun h=>absurd (show(8:Int)=9 from h) (by decide))⟩
     . exact⟨(show(1:Int)<=9/\(9:Int)<=9 from by decide),x1,u3,u4,u2,W,(show(0:Int)<=0/\(0:Int)<=100000 from by decide),(show(0:Int)<=0/\(0:Int)<=0 from by decide),(fun h=>absurd (show(9:Int)<=7 from h) (by decide)),(fun _=>U),(fun _=>rfl)⟩
 . rcases mem_append.1 J with J|J<;>rcases mem_append.1 I with I|I
   . exact hv.r.cons a J b I e
   . obtain⟨x,hx,rfl,_⟩:=mm b I;rw[ALO]at e;exact absurd e ((hv.x.v x hx).2.1 a J)
   . obtain⟨x,hx,rfl,_⟩:=mm a J;rw[ALO]at e;exact absurd e.symm ((hv.x.v x hx).2.1 b I)
   . exact AB4 (AIn hv) a b (C.mem_iff.1 J) (C.mem_iff.1 I) e
theorem APG(hv:Vd d)(I:AskV asked)(hd:0<=day/\day<=100000):Ret (F1 d asked day) (LtS d asked day):=by
 obtain⟨D,B,hD⟩:=ALB hv hd;have O:=I.len;unfold F1;refine Ret.bind ?_;unfold Y7;rw[B,bindS];refine Ret.condF (by decide) (Ret.bind (B3 asked.length (fun n (t:Int×Int)=>t.2=n/\-1<=t.1/\t.1<=999999/\∀(h:n<asked.length),t.1<asked[n].id) ⟨rfl,by decide,by decide,fun h=>?_⟩ ?_ ?_))
 . have:=(I.v _ (AYg h)).1;dsimp only;omega
 . rintro n H ⟨p,_⟩ ⟨rfl,F,E,K⟩;dsimp only at K F E;have C:=K H;obtain⟨v1,v2,v3,v4⟩:=I.v _ (AYg H);refine Ret.condT (K5 H) (Ret.bind (C0 H (Ret.bind (Ret.bind (Ret.chk (by omega) ?_)))));rw[d_in1,C6 (by omega),bindS];refine Ret.condF rfl ?_;rw[d_in2,C6 v2,C6 v3,bindS];refine Ret.condF rfl ?_;rw[d_in1,C6 v4,bindS];refine Ret.ok (Ret.condF rfl (Ret.bind (Ret.chk (by omega) (Ret.next ⟨by dsimp only;omega,by dsimp only;omega,by dsimp only;omega,fun h=>I.up n h⟩))))
 . rintro⟨p,_⟩ ⟨rfl,_⟩;refine Ret.condF (K6 (AYh _)) (Ret.done (B8 (Ret.condF (AYY (by omega)) (D0 (ALP hD hv (day:=day)) fun z J=>?_))));obtain⟨l,e⟩:=z;rcases id J with⟨g1,g2⟩|⟨g1,m,g2,g3,g4⟩
   . obtain⟨rfl,rfl⟩:=AZU g2;exact Ret.condT rfl (Ret.ok (C1 (Ret.ok ⟨_,J,.inl ⟨rfl,rfl⟩⟩)))
   . obtain⟨rfl,rfl⟩:=AZU g4;have Q:=ALU hv J rfl;refine Ret.condF rfl (Ret.ok (B8 ?_));dsimp only;rw[AJK hD hv,bindS];refine Ret.bind (Ret.over (fun pre (f:A2 (Int×Int) Int)=>f=pre.foldl (ABX d (d.reports++m) asked) fnone) rfl (fun pre y s C K hy W=>?_) fun s W=>?_)
     . rw[AUV hD hv Q I hy];refine Ret.ok ?_;rw[AZz,<-W];rfl
     . obtain⟨xs,V,U⟩:=AJL (d:=d) (l:=d.reports++m) (asked:=asked) (ABW d day) fnone [] ⟨AZk,fun a y=>by simp[fnone]⟩;have A:=AEr (d:=d) (day:=day);have Y:=hv.x.len;have:(ABW d day).length*asked.length<=20*40:=Nat.mul_le_mul (by omega) O;rw[W];exact(APE V (by simp only[List.length_nil]at U;omega)).mono fun r T=>⟨_,J,.inr ⟨rfl,T.1,T.2⟩⟩
end S
namespace S
theorem AFd{a:List Report}(hl:a.length<=1000000):N1 a a=some true:=by
 refine Ret.eq ?_;unfold N1;refine Ret.condF (by simp) (Ret.bind (B3 a.length (fun n (t:Int)=>t=n) rfl ?_ ?_))
 . rintro n H _ rfl;exact Ret.condT (K5 H) (Ret.bind (C0 H (Ret.bind (C0 H (Ret.condF (by simp) (Ret.bind (Ret.chk (by omega) (Ret.next (by omega)))))))))
 . rintro _ rfl;exact Ret.condF (K6 (AYh _)) (Ret.done (B8 (Ret.ok rfl)))
theorem ALV{a:List Letter}(hl:a.length<=1000000):R3 a a=some true:=by
 refine Ret.eq ?_;unfold R3;refine Ret.condF (by simp) (Ret.bind (B3 a.length (fun n (t:Int)=>t=n) rfl ?_ ?_))
 . rintro n H _ rfl;exact Ret.condT (K5 H) (Ret.bind (C0 H (Ret.bind (C0 H (Ret.condF (by simp) (Ret.bind (Ret.chk (by omega) (Ret.next (by omega)))))))))
 . rintro _ rfl;exact Ret.condF (K6 (AYh _)) (Ret.done (B8 (Ret.ok rfl)))
end S
namespace S
variable{d:Desk}{asked:List Asked}{day:Int}
theorem ASY(hv:Vd d){r r':List Letter×Int}(h:LtS d asked day r)(D:LtS d asked day r'):r=r':=by
 obtain⟨z,U,V⟩:=h;obtain⟨z',I,J⟩:=D;have:=ALQ hv I U;subst this;obtain⟨a,e⟩:=r;obtain⟨b,f⟩:=r';rcases V with⟨C,H⟩|⟨C,H,W⟩<;>rcases J with⟨g1,g2⟩|⟨g1,g2,g3⟩
 . rw[H,g2]
 . omega
 . omega
 . have H:e=0:=H;have g2:f=0:=g2;have:a=b:=ALT W g3;rw[H,g2,this]
theorem AUW(hv:Vd d)(F:asked.length<=40){r:List Letter×Int}(h:LtS d asked day r):r.1.length<=1000000:=by
 obtain⟨z,K,E⟩:=h;obtain⟨out,e⟩:=r;rcases E with⟨_,V⟩|⟨_,_,H⟩
 . show out.length<=_;rw[(AZU V).1];exact AY0 _
 dsimp only at H ⊢;obtain⟨xs,q1,q2⟩:=AJL (d:=d) (l:=z.1) (asked:=asked) (S.ABW d day) fnone [] ⟨AZk,fun a y=>by simp[fnone]⟩;have C:(out.map fun z=>((z.dispute,z.who),z.asked)).Perm xs:=(AY9 ?_ ((List.pairwise_map.1 q1.1).imp fun h e=>h (by rw[e]))).2 fun y=>?_
 . have U:=C.length_eq;rw[AY1]at U;have D:=AEr (d:=d) (day:=day);have W:=hv.x.len;have V:(S.ABW d day).length*asked.length<=20*40:=Nat.mul_le_mul (by omega) F;simp only[List.length_nil]at q2;omega
 . rw[List.Nodup,AZd];exact(List.pairwise_map.1 H.nd).imp fun h e=>h (AZU e).1
 . obtain⟨⟨a,b⟩,c⟩:=y;rw[AZY];have U:=H.mem (Letter.mk a b c);refine Iff.trans ?_ (q1.2 (a,b) c).symm;constructor
   . rintro⟨w,J,I⟩;obtain⟨w1,w2⟩:=AZU I;obtain⟨w3,w4⟩:=AZU w1;have:=(H.mem w).1 J;rw[w3,w4,w2]at this;exact this
   . exact fun J=>⟨_,U.2 J,rfl⟩
theorem ASZ(hv:Vd d){z:List Report×Int}(h:ADo d day z):z.1.length<=1000000:=by
 rcases id h with⟨_,rfl⟩|⟨J,m,I,H,rfl⟩
 . decide
 . have:=(ALU hv h rfl).len;dsimp only at this ⊢;omega
theorem ALW{x:Dispute}{A:Int}{l l':List Answer}{v v':Verdict}(h:DecL x A l v)(V:DecL x A l' v')(H:∀a∈l',a∈l)(W:∀a∈l,Y6 x (x.day+A) a=true->a.day<=v.day->a∈l')(nd:∀a∈l,∀b∈l,a.id=b.id->a=b):v'=v:=by
 by_cases c:v.is_=5
 . obtain⟨U,J⟩:=h.is5 c;by_cases c':v'.is_=5
   . rw[U,(V.is5 c').1]
   . obtain⟨_,g2,g3,_⟩:=V.by_ c';rw[J _ (H _ g2)]at g3;cases g3
 . obtain⟨U,J,I,C⟩:=h.by_ c;have hd:v.day=v.by_.day:=by rw[U]
   have hm:=W _ J I (by omega);by_cases c':v'.is_=5
   . rw[(V.is5 c').2 _ hm]at I;cases I
   . obtain⟨g1,g2,g3,g4⟩:=V.by_ c';have e1:=AYb (C _ (H _ g2) g3);have e2:=AYb (g4 _ hm I);have:v'.by_=v.by_:=nd _ (H _ g2) _ J (by omega);rw[g1,U,this]
end S
end Go.Proofs.YtgioiejbphljoaaGreatDoor
end
