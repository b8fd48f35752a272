/-
  Part DisputeLate 8 of the texts that the statement's proof stands on: what memory holds, how code is walked, what the functions reckon. In the order in which they build.
-/
import Derived.Test.YtgioiejbphljoaaGreatDoorRows
import Derived.WalkKit
import Derived.ProofKit
import Derived.OpenShut
import Derived.ChangeOld
import Derived.Below
import Derived.LaidMore
import Derived.LaidSub
import Derived.WideKeyMaps
import Derived.Stop.Joined
import Derived.Test.YtgioiejbphljoaaGreatDoorDiDisputeLate7
set_option linter.unusedVariables false
set_option linter.unusedSectionVars false
set_option maxRecDepth 100000
namespace Go.Proofs.YtgioiejbphljoaaGreatDoor
open Go Go.Sx Go.Rx Go.ChangeShapes Go.WideShapes Go.ChangeAt Go.RowKit
namespace frame
theorem own:ownKnob Tryz.prog.godebug=none:=by kernel_rfl
theorem AD1:laidOutB Tryz.prog=true:=by kernel_rfl
abbrev laid3:List (String×DataW Unit):=[("goodname/account.most",Rows.laid_goodname_account_most),("goodname/dispute.steps",Rows.laid_goodname_dispute_steps),("goodname/dispute.outcomes",Rows.laid_goodname_dispute_outcomes)]
theorem g0:Tryz.prog.globalNamed "goodname/account.most" = some 0:=by kernel_rfl
theorem t0:(Tryz.prog.globals[0]?).map (·.type)=some 181:=by kernel_rfl
theorem g1:Tryz.prog.globalNamed "goodname/dispute.steps" = some 1:=by kernel_rfl
theorem t1:(Tryz.prog.globals[1]?).map (·.type)=some 184:=by kernel_rfl
theorem g2:Tryz.prog.globalNamed "goodname/dispute.outcomes" = some 2:=by kernel_rfl
theorem t2:(Tryz.prog.globals[2]?).map (·.type)=some 202:=by kernel_rfl
theorem APh (os:Os) (args:Array Value):laidMetH Tryz.prog laid3 ((World.doorLaid Tryz.prog 400 os).forCall (fun _ _=>0) ⟨#[],args,[]⟩).memory:=
 laidMetH_of_parts3 (fuel:=8) (laidMet_of_run' 8 (by kernel_rfl) (by kernel_rfl)) (by kernel_rfl) (by kernel_rfl)
theorem AMu {W:World} {b:Nat} {cs:List Value} (h0:0 < cs.length) (hc:∀ j v,cs[j]?=some v->W.cell? ⟨b,0+j,none⟩=some v):RdC [] W b 0 cs:=by
 refine⟨by simp,?_,hc⟩
 have h0:=hc 0 cs[0] (List.getElem?_eq_getElem h0)
 rcases Nat.lt_or_ge b W.heap.size with h|h
 . exact h
 . have:W.heap[b]?=none:=Array.getElem?_eq_none (by omega)
   simp[World.cell?,this] at h0
theorem ARe {W:World} (h:laidMet Tryz.prog [("goodname/account.most",Rows.laid_goodname_account_most),("goodname/dispute.outcomes",Rows.laid_goodname_dispute_outcomes)] W):RdC [] W 0 0 (glob0.map (Value.int .i64)):=by
 obtain⟨ps,⟨q0,u0,cs0,f0,p0,r0,hg0,ht0,hv0,hd0,_,_⟩,_,_⟩:=h
 obtain rfl:=Option.some.inj (g0.symm.trans hg0)
 obtain rfl:=Option.some.inj (t0.symm.trans ht0)
 obtain⟨xs,m,rfl,hx,hlen,hn,hel⟩:=DataW.trod_array Tryz.underlying181 hd0
 have c3:Tryz.prog.cellsOf 3=1:=by kernel_rfl
 have hxs:xs.map (·.1)=glob0.map fun n=>DataW.lit (.int .i64 n):=by
  have:=congrArg Prod.fst hx
  simp only[Rows.laid_goodname_account_most,DataW.agg.injEq] at this
  exact this.symm
 refine AMu (by decide) fun j v hj=>?_
 have hj10:j < 10:=by
  have:=(List.getElem?_eq_some_iff.1 hj).1
  simpa[glob0] using this
 have h1:=hel j hj10
 rw[c3,Nat.mul_one] at h1
 obtain⟨x,hxj⟩:∃ x,xs[j]?=some x:=⟨_,List.getElem?_eq_getElem (by omega)⟩
 obtain⟨n,e1,e2,_⟩:=DataW.trod_int Tryz.underlying3 (h1.trans hxj)
 have e3:(xs.map (·.1))[j]?=some (DataW.lit (.int .i64 n)):=by rw[List.getElem?_map,hxj,e2];rfl
 rw[hxs,List.getElem?_map] at e3
 rw[List.getElem?_map] at hj
 cases hg:glob0[j]? with
 |none=>rw[hg] at e3;cases e3
 |some y=>
  rw[hg] at e3 hj
  simp at e3 hj
  subst e3 hj
  have:=World.var?_cell hg0 hv0 j
  rw[Nat.zero_add,this]
  have h9:=congrArg (fun l:List Value=>l[0]?) e1
  simpa[List.getElem?_take,List.getElem?_drop] using h9
def stepN:List (List UInt8):=[[103,111,111,100,110,97,109,101,47,100,105,115,112,117,116,101,46,115,116,101,112,115,36,49],[103,111,111,100,110,97,109,101,47,100,105,115,112,117,116,101,46,115,116,101,112,115,36,50],[103,111,111,100,110,97,109,101,47,100,105,115,112,117,116,101,46,115,116,101,112,115,36,51],[103,111,111,100,110,97,109,101,47,100,105,115,112,117,116,101,46,115,116,101,112,115,36,52]]
theorem APi {W:World} (h:laidMetH Tryz.prog laid3 W):RdC [] W 1 0 [.func (.func 202) #[] #[],.func (.func 203) #[] #[],.func (.func 204) #[] #[],.func (.func 208) #[] #[]]:=by
 obtain⟨q1,u1,cs1,f1,p1,hg1,ht1,hv1,hd1⟩:=laidMetH.funcs h (List.mem_cons_of_mem _ (List.mem_cons_self ..))
 obtain rfl:=Option.some.inj (g1.symm.trans hg1)
 obtain rfl:=Option.some.inj (t1.symm.trans ht1)
 obtain⟨xs,m,rfl,hx,hlen,hn,hel⟩:=DataW.trod_array Tryz.underlying184 hd1
 have c3:Tryz.prog.cellsOf 183=1:=by kernel_rfl
 have hxs:xs.map (·.1)=stepN.map DataW.held:=by
  have:=congrArg Prod.fst hx
  simp only[DataW.agg.injEq,DataW.funcsOut] at this
  exact this.symm
 have cell:∀ (j:Nat) (b:UInt8) (r:List UInt8) (f0:FuncId),j < 4->stepN[j]?=some (b :: r)->((List.range Tryz.prog.funcs.size).filter fun f=>(Tryz.prog.funcs[f]?).any (·.name.toUTF8.data.toList==b :: r))=[f0]->W.cell? ⟨1,0+j,none⟩=some (.func (.func f0) #[] #[]):=fun j b r f0 hj hs hone=>by
  have h1:=hel j hj
  rw[c3,Nat.mul_one] at h1
  obtain⟨x,hxj⟩:∃ x,xs[j]?=some x:=⟨_,List.getElem?_eq_getElem (by omega)⟩
  have e3:(xs.map (·.1))[j]?=some (DataW.held (b :: r)):=by rw[hxs,List.getElem?_map,hs];rfl
  rw[List.getElem?_map,hxj] at e3
  have e3:x.1=DataW.held (b :: r):=Option.some.inj e3
  have h2:=h1.trans hxj
  have hcl:cs1.toList.length=4:=hlen.trans (by kernel_rfl)
  have hc:(cs1.toList.drop j).take 1=[cs1.toList[j]'(by omega)]:=by
   rw[List.drop_eq_getElem_cons (by omega)];rfl
  rw[hc] at h2
  obtain⟨x1,x2⟩:=x
  have e3:x1=DataW.held (b :: r):=e3
  subst e3
  have:=func_of_trod Tryz.underlying183 hone h2
  have h9:=World.var?_cell hg1 hv1 j
  rw[Nat.zero_add,h9]
  have hjs:j < cs1.size:=by simpa using (show j < cs1.toList.length by omega)
  rw[Array.getElem?_eq_getElem hjs]
  congr 1
 refine AMu (by decide) fun j v hj=>?_
 match j,hj with
 |0,hj=>cases hj;exact cell 0 _ _ _ (by decide) rfl (by kernel_rfl)
 |1,hj=>cases hj;exact cell 1 _ _ _ (by decide) rfl (by kernel_rfl)
 |2,hj=>cases hj;exact cell 2 _ _ _ (by decide) rfl (by kernel_rfl)
 |3,hj=>cases hj;exact cell 3 _ _ _ (by decide) rfl (by kernel_rfl)
 |n+4,hj=>cases hj
theorem AGG {H:Type} (x:Lit×DataW H):∀ l:List (Lit×DataW H),(DataW.insert x l).Perm (x :: l)
 |[]=>.refl _
 |y :: r=>by
  unfold DataW.insert
  split
  . exact .refl _
  . exact ((AGG x r).cons y).trans (.swap x y r)
theorem AHq {H:Type}:∀ l:List (Lit×DataW H),(l.foldr DataW.insert []).Perm l
 |[]=>.refl _
 |x :: l=>(AGG x _).trans ((AHq l).cons x)
def W6 (x:Int×Int):Lit×DataW Unit:=(.int .u8 x.1,.lit (.int .u8 x.2))
def AQS:Value->Int
 |.int _ n=>n
 |_=>0
def O2 (e:MapEntry):Int×Int:=(AQS e.key,AQS e.val)
theorem ALt {W:World}:∀ l:List MapEntry,(∀ e∈l,(e.key=.int .u8 (O2 e).1/\InK .u8 (O2 e).1)/\e.val=.int .u8 (O2 e).2/\InK .u8 (O2 e).2)->EntK (V2 (P:=Tryz.prog) (kt:=5) .u8 Tryz.underlying5) (B3 .u8) false [] W l (l.map O2)
 |[],_=>trivial
 |e :: l,h=>by
  obtain⟨h1,h2,h3⟩:=h e (List.mem_cons_self ..)
  exact⟨h1,⟨[e.val],⟨by rw[<-h2],h3⟩,.inr ⟨rfl,rfl⟩⟩,ALt l fun e he=>h e (List.mem_cons_of_mem _ he)⟩
theorem ARf {v:Value} {l:Lit} (h:keyOf Tryz.prog 5 v=some l):∃ n,v=.int .u8 n/\l=.int .u8 n/\(Lit.int .u8 n).wf=true:=by
 rw[keyOf_int Tryz.underlying5] at h
 cases v <;> simp[mapKey,Tryz.underlying5] at h
 obtain⟨⟨rfl,h1⟩,rfl⟩:=h
 exact⟨_,rfl,rfl,h1⟩
theorem ATa {W:World} (h:laidMet Tryz.prog [("goodname/account.most",Rows.laid_goodname_account_most),("goodname/dispute.outcomes",Rows.laid_goodname_dispute_outcomes)] W):∃ bm,RdC [] W 2 0 [.map (some bm)]/\MapH (V2 (P:=Tryz.prog) (kt:=5) .u8 Tryz.underlying5) (B3 .u8) false [] W bm AFz:=by
 obtain⟨ps,⟨_,_,_,_,_,_,_,_,_,_,⟨q2,u2,cs2,f2,p2,r2,hg2,ht2,hv2,hd2,_,_⟩,_⟩,_,_⟩:=h
 obtain rfl:=Option.some.inj (g2.symm.trans hg2)
 obtain rfl:=Option.some.inj (t2.symm.trans ht2)
 rcases WideMaps.open_map (P:=Tryz.prog) Tryz.underlying202 Tryz.underlying5 hd2 with⟨_,hx⟩|⟨bm,es,clock,hcs,hb,_,F,hx⟩
 . have:=congrArg Prod.fst hx
   cases this
 refine⟨bm,AMu Nat.one_pos fun j v hj=>?_,es,clock,es.toList.map O2,hb,?_,?_,?_⟩
 . match j,hj with
   |0,hj=>
    cases hj
    have:=World.var?_cell hg2 hv2 0
    rw[Nat.zero_add,this,Array.eq_one_of_toList hcs]
    rfl
   |n+1,hj=>cases hj
 . obtain⟨s1,s2,_⟩:=(Go.MapKept.stamped_iff es clock).1 F.stamped
   exact⟨s2,s1⟩
 all_goals
  have ent:∀ e∈es.toList,((e.key=.int .u8 (O2 e).1/\InK .u8 (O2 e).1)/\e.val=.int .u8 (O2 e).2/\InK .u8 (O2 e).2)/\WideMaps.rg Unit Tryz.prog 5 .u8 e=W6 (O2 e):=fun e he=>by
   obtain⟨y,hy⟩:=F.reads e he
   obtain⟨n,v1,v2,v3⟩:=WideMaps.rd_val hy
   have hk:=WideMaps.rd_key hy
   obtain⟨m,e2,e3,hw⟩:=ARf hk
   have p1:O2 e=(m,n):=by unfold O2;rw[e2,v1];rfl
   rw[p1,WideMaps.rg_of hy]
   exact⟨⟨⟨e2,AJr hw⟩,v1,AJr v3⟩,Prod.ext e3 v2⟩
 . exact ALt _ fun e he=>(ent e he).1
 . have hE:es.toList.map (WideMaps.rg Unit Tryz.prog 5 .u8)=(es.toList.map O2).map W6:=by
    rw[List.map_map]
    exact List.map_congr_left fun e he=>(ent e he).2
   have hx1:Rows.laid_goodname_dispute_outcomes=DataW.map ((es.toList.map (WideMaps.rg Unit Tryz.prog 5 .u8)).foldr DataW.insert []):=congrArg Prod.fst hx
   have hx2:[W6 (1,2),W6 (2,3),W6 (3,4)]=(es.toList.map (WideMaps.rg Unit Tryz.prog 5 .u8)).foldr DataW.insert []:=DataW.map.inj hx1
   have hp:((es.toList.map O2).map W6).Perm [W6 (1,2),W6 (2,3),W6 (3,4)]:=by
    rw[<-hE,hx2];exact (AHq _).symm
   generalize es.toList.map O2=xs at hp
   have inj:∀ a b,W6 a=W6 b->a=b:=fun a b h=>by
    obtain⟨h1,h2⟩:=Prod.mk.inj h
    injection h1 with _ h1
    injection h2 with h2
    injection h2 with _ h2
    exact Prod.ext h1 h2
   refine⟨?_,fun a y=>?_⟩
   . have h1:=(hp.map Prod.fst).nodup_iff.2 (by simp[W6])
     rw[List.map_map] at h1
     have e:(Prod.fst ∘ W6)=(fun n:Int=>Lit.int .u8 n) ∘ (fun x:Int×Int=>x.1):=rfl
     rw[e,<-List.map_map] at h1
     exact (List.pairwise_map.1 h1).imp fun h9 h8=>h9 (by rw[h8])
   . have h1:(a,y)∈xs↔W6 (a,y)∈xs.map W6:=by
      constructor
      . exact fun h=>List.mem_map.2 ⟨_,h,rfl⟩
      . intro h
        obtain⟨x,hx,e⟩:=List.mem_map.1 h
        rw[<-inj _ _ e];exact hx
     rw[h1,hp.mem_iff]
     have h2:W6 (a,y)∈[W6 (1,2),W6 (2,3),W6 (3,4)]↔(a,y)∈[((1:Int),(2:Int)),(2,3),(3,4)]:=by
      simp only[List.mem_cons,List.not_mem_nil,or_false]
      constructor
      . rintro (h|h|h)
        . exact .inl (inj _ _ h)
        . exact .inr (.inl (inj _ _ h))
        . exact .inr (.inr (inj _ _ h))
      . rintro (h|h|h) <;> rw[h] <;> simp
     rw[h2]
     unfold AFz B7 fnone
     simp only[List.mem_cons,List.not_mem_nil,or_false,Prod.mk.injEq]
     by_cases c3:a=3
     . subst c3;simp[eq_comm]
     . by_cases c2:a=2
       . subst c2;simp[eq_comm]
       . by_cases c1:a=1
         . subst c1;simp[eq_comm]
         . simp[c1,c2,c3]
theorem ARg {W:World} (h:laidMetH Tryz.prog laid3 W):GlOk (P:=Tryz.prog) [] W:=by
 have hs:=APi h
 have h1:=(laidMetH_iff.1 h).1
 rw[show (laid3.filter fun x=>x.2.handleName?.isNone)=[("goodname/account.most",Rows.laid_goodname_account_most),("goodname/dispute.outcomes",Rows.laid_goodname_dispute_outcomes)] from by kernel_rfl] at h1
 have hm:=ARe h1
 obtain⟨bm,ho,hmap⟩:=ATa h1
 intro g s hg ρ R
 match g,hg with
 |0,hg=>
  cases hg
  exact⟨0,0,.agg (List.toArray (glob0.map (Value.int .i64))),_,rfl,hm,⟨_,⟨by decide,rfl,rfl,by decide⟩,.inl ⟨rfl,rfl⟩⟩,rfl⟩
 |1,hg=>
  cases hg
  exact⟨1,0,.agg (List.toArray [.func (.func 202) #[] #[],.func (.func 203) #[] #[],.func (.func 204) #[] #[],.func (.func 208) #[] #[]]),_,rfl,hs,⟨_,rfl,⟨_,[_],_,rfl,⟨[],rfl,rfl⟩,rfl,⟨_,[_],_,rfl,⟨[],rfl,rfl⟩,rfl,⟨_,[_],_,rfl,⟨[],rfl,rfl⟩,rfl,⟨_,[_],_,rfl,⟨[],rfl,rfl⟩,rfl,rfl⟩⟩⟩⟩⟩,rfl⟩
 |2,hg=>
  cases hg
  exact⟨2,0,.map (some bm),_,rfl,ho,⟨rfl,⟨_,⟨_,_,rfl,rfl,⟨bm,rfl,by simp,hmap⟩⟩,.inr ⟨rfl,rfl⟩⟩⟩,rfl⟩
 |n+3,hg=>cases hg
end frame
end Go.Proofs.YtgioiejbphljoaaGreatDoor
set_option maxRecDepth 20000
set_option maxHeartbeats 1000000
set_option linter.unusedVariables false
namespace Go.Sx
theorem D3 {S R:Type} {body:S->Option (S⊕R)} {s0:S} {Q:R->Prop} (N:Nat) (I:Nat->S->Prop) (h0:I 0 s0) (step:∀ n < N,∀ s,I n s->Ret (body s) (Nxt (I (n+1)) Q)) (fin:∀ s,I N s->Ret (body s) (Nxt (fun _=>False) Q)):Ret (B8 body s0) Q:=by
 have key:∀ (m n:Nat) (s:S),n+m=N->I n s->Ret (B8 body s) Q:=by
  intro m
  induction m with
  |zero=>
   intro n s hn hs
   have:n=N:=by omega
   subst this
   obtain⟨r,h1,h2⟩:=fin s hs
   cases r with
   |inl s'=>exact h2.elim
   |inr r=>exact⟨r,AC4 h1,h2⟩
  |succ m ih=>
   intro n s hn hs
   obtain⟨r,h1,h2⟩:=step n (by omega) s hs
   cases r with
   |inl s'=>rw[AJc h1];exact ih (n+1) s' (by omega) h2
   |inr r=>exact⟨r,AC4 h1,h2⟩
 exact key N 0 s0 (by omega) h0
theorem Ret.eq {α:Type} {o:Option α} {a:α} (h:Ret o (·=a)):o=some a:=by
 obtain⟨b,h1,rfl⟩:=h;exact h1
theorem J4 {α β:Type} {o:Option α} {K:α->Option β} {Q':α->Prop} {Q:β->Prop} (h:Ret o Q') (hk:∀ a,Q' a->Ret (K a) Q):Ret (Option.bind o K) Q:=Ret.bind (h.mono hk)
theorem ABn {α β:Type} {o:Option α} {K:α->Option β} {a:α} {Q:β->Prop} (h:o=some a) (hk:Ret (K a) Q):Ret (Option.bind o K) Q:=Ret.bind (Ret.val h hk)
end Go.Sx
namespace Go.Proofs.YtgioiejbphljoaaGreatDoor
open Go Go.Sx Go.Rx
namespace S
theorem bindS {α β:Type} (a:α) (f:α->Option β):Option.bind (some a) f=f a:=rfl
theorem AAA {α:Type} {l:List α} {n:Nat} (h:n < l.length):l.take (n+1)=l.take n++[l[n]]:=by
 rw[List.take_add_one,List.getElem?_eq_getElem h];rfl
theorem F4 {α:Type} {l:List α} {n:Nat} (h:n < l.length) {x:α}:x∈l.take (n+1)↔x∈l.take n\/x=l[n]:=by
 rw[AAA h,List.mem_append,List.mem_singleton]
theorem N6 {α:Type} {l:List α} {n:Nat} {Q:α->Prop} (h:n < l.length) (q:Q l[n]):Ret (ixo l (n:Int)) Q:=Ret.ixo (List.getElem?_eq_getElem h) q
theorem ltT {n m:Nat} (h:n < m):decide ((n:Int) < (m:Int))=true:=decide_eq_true (by omega)
theorem ltF {n m:Nat} (h:m<=n):decide ((n:Int) < (m:Int))=false:=decide_eq_false (by omega)
noncomputable def AGv {α:Type} (s:List α) (f:α->Option Bool):Option Int:=Option.bind (B8 (S:=(Int)) (R:=(Unit⊕Int)) (fun x5=>cond (decide (x5 < (s.length:Int))) (Option.bind (ixo s x5) fun y6=>Option.bind (f y6) fun y7=>cond (y7) (some (Sum.inr (Sum.inr x5))) (Option.bind (chk .i64 (x5+1)) fun n8=>some (Sum.inl n8))) (some (Sum.inr (Sum.inl ())))) (0:Int)) ((Sum.elim (fun _=>some ((-1):Int)) (fun r9=>some r9)))
theorem ADM {α:Type} {s:List α} {f:α->Option Bool} {g:α->Bool} (h:∀ x∈s,f x=some (g x)) (hl:s.length<=1000000) {Q:Int->Prop} (h1:(∀ x∈s,g x=false)->Q (-1)) (h2:∀ (n:Nat) (hn:n < s.length),g s[n]=true->(∀ x∈s.take n,g x=false)->Q n):Ret (AGv s f) Q:=by
 unfold AGv
 refine Ret.bind (D3 s.length (fun n (t:Int)=>t=n/\∀ x∈s.take n,g x=false) ⟨rfl,fun x hx=>by simp at hx⟩ ?_ ?_)
 . rintro n hlt _ ⟨rfl,hp⟩
   refine Ret.condT (ltT hlt) (Ret.bind (N6 hlt (ABn (h _ (List.getElem_mem hlt)) ?_)))
   refine Ret.cond (fun h3=>Ret.done (E1 (Ret.ok (h2 n hlt h3 hp)))) fun h3=>?_
   refine Ret.bind (Ret.chk (by omega) (Ret.next ⟨by omega,fun x hx=>?_⟩))
   rw[F4 hlt] at hx
   rcases hx with hx|rfl
   . exact hp x hx
   . exact h3
 . rintro _ ⟨rfl,hp⟩
   rw[List.take_length] at hp
   exact Ret.condF (ltF (Nat.le_refl _)) (Ret.done (C5 (Ret.ok (h1 hp))))
theorem AMv {α:Type} {s:List α} {f:α->Option Bool} {g:α->Bool} (h:∀ x∈s,f x=some (g x)) (hl:s.length<=1000000):Option.bind (AGv s f) (fun r1=>some (decide (0<=r1)))=some (s.any g):=by
 refine Ret.eq (Ret.bind (ADM h hl (fun h1=>Ret.ok ?_) fun n hn h1 _=>Ret.ok ?_))
 . have:s.any g=false:=by
    rw[List.any_eq_false]
    intro x hx
    rw[h1 x hx];decide
   rw[this];decide
 . have:s.any g=true:=List.any_eq_true.2 ⟨_,List.getElem_mem hn,h1⟩
   rw[this];exact decide_eq_true (by omega)
def inB (lo hi n:Int):Bool:=decide (lo<=n/\n<=hi)
theorem AAM {lo hi n:Int} (h:lo<=n/\n<=hi):inB lo hi n=true:=decide_eq_true h
theorem F0 {lo hi n:Int} (h:inB lo hi n=true):lo<=n/\n<=hi:=of_decide_eq_true h
theorem AOL {lo hi:Int} {all:List Int}:(!all.any fun n=>!inB lo hi n)=all.all (inB lo hi):=by
 rw[List.any_eq_not_all_not]
 simp
theorem AIR {lo hi:Int} {all:List Int} (hl:all.length<=1000000):J9 lo hi all=some (all.all (inB lo hi)):=by
 have:=AMv (s:=all) (f:=fun a1=>P9 a1 lo hi) (g:=fun n=>!inB lo hi n) (fun x _=>?_) hl
 . unfold J9
   rw[show G7 all (fun a1=>P9 a1 lo hi)=_ from this,bindS,AOL]
 . unfold P9
   by_cases h:x < lo
   . simp[h,inB] <;> omega
   . by_cases h2:hi < x
     . simp[h,h2,inB] <;> omega
     . simp[h,h2,inB] <;> omega
theorem ATb {lo hi:Int} {all:List Int} (hl:all.length<=1000000):D4 lo hi all=some (all.all (inB lo hi)):=by
 have:=AMv (s:=all) (f:=fun a1=>P7 a1 lo hi) (g:=fun n=>!inB lo hi n) (fun x _=>?_) hl
 . unfold D4
   rw[show G7 all (fun a1=>P7 a1 lo hi)=_ from this,bindS,AOL]
 . unfold P7
   by_cases h:x < lo
   . simp[h,inB] <;> omega
   . by_cases h2:hi < x
     . simp[h,h2,inB] <;> omega
     . simp[h,h2,inB] <;> omega
theorem d_in1 {lo hi n:Int}:D4 lo hi [n]=some (inB lo hi n):=by
 rw[ATb (by simp)];simp
theorem d_in2 {lo hi a b:Int}:D4 lo hi [a,b]=some (inB lo hi a&&inB lo hi b):=by
 rw[ATb (by simp)];simp
theorem AIS {n lo hi:Int}:D8 n lo hi=some (inB lo hi n):=by
 unfold D8
 by_cases h:lo<=n
 . by_cases h2:n<=hi <;> simp[h,h2,inB]
 . simp[h,inB]
theorem within5 {n lo hi:Int}:B6 n lo hi=some (inB lo hi n):=by
 unfold B6
 by_cases h:lo<=n
 . by_cases h2:n<=hi <;> simp[h,h2,inB]
 . simp[h,inB]
def most (k:Int):Int:=if k=1\/k=7\/k=9 then 0 else if k=5 then 10000 else 1000000000000
theorem AOM {k:Int} (h:1<=k/\k<=9) {γ:Type} {K:Int->Option γ}:(Option.bind (ixA 10 k) fun i=>Option.bind (ixo glob0 (i * 1)) K)=K (most k):=by
 have:k=1\/k=2\/k=3\/k=4\/k=5\/k=6\/k=7\/k=8\/k=9:=by omega
 rcases this with rfl|rfl|rfl|rfl|rfl|rfl|rfl|rfl|rfl <;> rfl
def V (r:Report):Prop:=(1<=r.kind/\r.kind<=9)/\(0<=r.id/\r.id<=999999)/\(0<=r.source/\r.source<=999999)/\(0<=r.account/\r.account<=999999)/\(0<=r.of_/\r.of_<=999999)/\(0<=r.made/\r.made<=100000)/\(0<=r.about/\r.about<=100000)/\(0<=r.cents/\r.cents<=most r.kind) /\
 (r.kind<=7->r.of_=0)/\(8<=r.kind->r.of_≠r.id)/\(r.kind=9->r.about=0)
theorem ARh {r:Report} (h:V r):R7 r=some true:=by
 obtain⟨c1,c2,c3,c4,c5,c6,c7,c8,c9,c10,c11⟩:=h
 refine Ret.eq ?_
 unfold R7
 refine Ret.bind (Ret.bind (Ret.chk (by omega) ?_))
 rw[AIR (by simp),bindS]
 refine Ret.condF (by simp[inB,c1]) ?_
 rw[AIR (by simp),bindS]
 refine Ret.condF (by simp[inB,c2,c3,c4,c5]) ?_
 rw[AIR (by simp),bindS]
 refine Ret.condF (by simp[inB,c6,c7]) ?_
 rw[AOM c1,AIR (by simp),bindS]
 refine Ret.ok (Ret.condF (by simp[inB,c8]) ?_)
 unfold J3
 rw[bindS]
 refine Ret.cond (fun h=>?_) fun h=>?_
 . exact Ret.ok (decide_eq_true (c9 (of_decide_eq_true h)))
 . have h:=of_decide_eq_false h
   have hx:(cond (decide (r.kind=9)) (some (!decide (r.about=0))) (some false):Option Bool)=some false:=by
    by_cases c:r.kind=9
    . simp[c,c11 c]
    . simp[c]
   refine ABn hx (Ret.condF rfl (Ret.ok ?_))
   rw[decide_eq_false (c10 (by omega))];rfl
theorem ATc {k n:Int} (hk:1<=k/\k<=8):AAg k n=some (inB 0 (most k) n):=by
 unfold AAg
 rw[AIS,AIS]
 have:k=1\/k=2\/k=3\/k=4\/k=5\/k=6\/k=7\/k=8:=by omega
 rcases this with rfl|rfl|rfl|rfl|rfl|rfl|rfl|rfl <;> simp[most,inB] <;> (rw[Bool.eq_iff_iff];simp;omega)
theorem ATd {k n:Int} (hk:1<=k/\k<=8):AAj k n=some (inB 0 (most k) n):=by
 unfold AAj
 rw[within5,within5]
 have:k=1\/k=2\/k=3\/k=4\/k=5\/k=6\/k=7\/k=8:=by omega
 rcases this with rfl|rfl|rfl|rfl|rfl|rfl|rfl|rfl <;> simp[most,inB] <;> (rw[Bool.eq_iff_iff];simp;omega)
theorem Ret.no {b:Bool} {o:Option Bool} {Q:Bool->Prop} (h1:Q true) (h2:b=true->Ret o Q):Ret (cond (!b) (some true) o) Q:=by
 cases b with
 |true=>exact h2 rfl
 |false=>exact Ret.ok h1
theorem Ret.last {b:Bool} {Q:Bool->Prop} (h1:Q true) (h2:b=true->Q false):Ret (some (!b)) Q:=by
 cases b with
 |true=>exact Ret.ok (h2 rfl)
 |false=>exact Ret.ok h1
theorem ARi {r:Report} (hk:0<=r.kind/\r.kind<=255):Ret (AAh r) fun b=>b=true->V r:=by
 unfold AAh
 simp only[AIS,bindS]
 have bad:∀ {o:Option Bool},Ret (cond true (some false) o) fun b=>b=true->V r:=fun {o}=>Ret.condT rfl (Ret.ok fun h=>by cases h)
 refine Ret.bind (Ret.no bad fun c2=>Ret.no bad fun c3=>Ret.no bad fun c4=>Ret.no bad fun c6=>Ret.no bad fun c7=>Ret.bind (Ret.chk (by omega) (Ret.last bad fun c1=>Ret.condF rfl ?_)))
 have c1:=F0 c1;have c2:=F0 c2;have c3:=F0 c3;have c4:=F0 c4;have c6:=F0 c6;have c7:=F0 c7
 refine Ret.cond (fun h=>?_) fun h=>?_
 . have h:=of_decide_eq_true h
   rw[ATc (by omega),bindS]
   refine Ret.bind (Ret.cond (fun c8=>Ret.ok (Ret.ok fun h9=>?_)) fun _=>Ret.ok (Ret.ok fun h=>by cases h))
   have h9:=of_decide_eq_true h9
   exact⟨c1,c2,c3,c4,by omega,c6,c7,F0 c8,fun _=>h9,fun h=>by omega,fun h=>by omega⟩
 . have h:=of_decide_eq_false h
   refine Ret.bind (Ret.no bad fun c5=>Ret.ok ?_)
   have c5:=F0 c5
   refine Ret.cond (fun _=>Ret.ok fun h=>by cases h) fun c10=>?_
   have c10:=of_decide_eq_false c10
   refine Ret.cond (fun c=>?_) fun c=>?_
   . have c:=of_decide_eq_true c
     refine Ret.ok fun c8=>?_
     have c8:=F0 c8
     exact⟨c1,c2,c3,c4,c5,c6,c7,by rw[show most r.kind=1000000000000 by simp[most,c]];exact c8,fun h=>by omega,fun _=>c10,fun h=>by omega⟩
   . have c:=of_decide_eq_false c
     have c9:r.kind=9:=by omega
     refine Ret.bind (Ret.cond (fun c8=>Ret.ok (Ret.ok fun c11=>?_)) fun _=>Ret.ok (Ret.ok fun h=>by cases h))
     have c8:=of_decide_eq_true c8
     have c11:=of_decide_eq_true c11
     exact⟨c1,c2,c3,c4,c5,c6,c7,by rw[show most r.kind=0 by simp[most,c9]];omega,fun h=>by omega,fun _=>c10,fun _=>c11⟩
end S
end Go.Proofs.YtgioiejbphljoaaGreatDoor
set_option maxRecDepth 20000
set_option maxHeartbeats 1000000
set_option linter.unusedVariables false
namespace Go.Proofs.YtgioiejbphljoaaGreatDoor
open Go Go.Sx Go.Rx
namespace S
def AMw (l:List Report):Prop:=∀ a∈l,∀ b∈l,a.id=b.id->a=b
structure VL (l:List Report):Prop where
 len:l.length<=60
 v:∀ r∈l,V r
 cons:AMw l
theorem APj {l:List Report} (hk:∀ r∈l,0<=r.kind/\r.kind<=255):Ret (AAi l) fun e=>e=0->VL l:=by
 unfold AAi
 refine Ret.cond (fun _=>Ret.ok fun h=>by cases h) fun c1=>?_
 have c1:=of_decide_eq_false c1
 refine Ret.bind (D3 l.length (fun n (t:Int)=>t=n/\∀ r∈l.take n,V r) ⟨rfl,fun r hr=>by simp at hr⟩ ?_ ?_)
 . rintro n hlt _ ⟨rfl,hv⟩
   refine Ret.condT (ltT hlt) (Ret.bind (N6 hlt (Ret.bind ((ARi (hk _ (List.getElem_mem hlt))).mono fun b hb=>?_))))
   cases b with
   |false=>exact Ret.condT rfl (Ret.done (E1 (Ret.ok fun h=>by cases h)))
   |true=>
    refine Ret.condF rfl (Ret.bind (Ret.chk (by omega) (Ret.next ⟨by omega,fun r hr=>?_⟩)))
    rw[F4 hlt] at hr
    rcases hr with hr|rfl
    . exact hv r hr
    . exact hb rfl
 rintro _ ⟨rfl,hv⟩
 rw[List.take_length] at hv
 refine Ret.condF (ltF (Nat.le_refl _)) (Ret.done (C5 (Ret.bind (D3 l.length (fun n (t:Int)=>t=n/\AMw (l.take n)) ⟨rfl,fun a ha=>by simp at ha⟩ ?_ ?_))))
 . rintro n hlt _ ⟨rfl,hc⟩
   refine Ret.condT (ltT hlt) (Ret.bind (D3 n (fun m (t:Int)=>t=m/\∀ r∈l.take m,l[n].id=r.id->l[n]=r) ⟨rfl,fun r hr=>by simp at hr⟩ ?_ ?_))
   . rintro m hm _ ⟨rfl,hq⟩
     have hml:m < l.length:=by omega
     refine Ret.condT (decide_eq_true (by omega)) (Ret.bind (Ret.bind (N6 hlt (Ret.bind (N6 hml (Ret.cond (fun h1=>?_) fun h1=>?_))))))
     . refine Ret.bind (N6 hlt (Ret.bind (N6 hml (Ret.ok ?_))))
       by_cases e:l[n]=l[m]
       . refine Ret.condF (by rw[decide_eq_true e];rfl) (Ret.bind (Ret.chk (by omega) (Ret.next ⟨by omega,fun r hr hi=>?_⟩)))
         rw[F4 hml] at hr
         rcases hr with hr|rfl
         . exact hq r hr hi
         . exact e
       . exact Ret.condT (by rw[decide_eq_false e];rfl) (Ret.done (E1 (Ret.done (E1 (Ret.ok fun h=>by cases h)))))
     . have h1:=of_decide_eq_false h1
       refine Ret.ok (Ret.condF rfl (Ret.bind (Ret.chk (by omega) (Ret.next ⟨by omega,fun r hr hi=>?_⟩))))
       rw[F4 hml] at hr
       rcases hr with hr|rfl
       . exact hq r hr hi
       . exact absurd hi h1
   . rintro _ ⟨rfl,hq⟩
     refine Ret.condF (decide_eq_false (by omega)) (Ret.done (C5 (Ret.bind (Ret.chk (by omega) (Ret.next ⟨by omega,fun a ha b hb hab=>?_⟩)))))
     rw[F4 hlt] at ha hb
     rcases ha with ha|rfl <;> rcases hb with hb|rfl
     . exact hc a ha b hb hab
     . exact (hq a ha hab.symm).symm
     . exact hq b hb hab
     . rfl
 . rintro _ ⟨rfl,hc⟩
   rw[List.take_length] at hc
   exact Ret.condF (ltF (Nat.le_refl _)) (Ret.done (C5 (Ret.ok fun _=>⟨by omega,hv,hc⟩)))
theorem AIT {l:List Report} (h:VL l):N9 l=some 0:=by
 refine Ret.eq ?_
 unfold N9
 have hl:=h.len
 refine Ret.condF (decide_eq_false (by omega)) ?_
 have h1:P8 l (fun a1=>Y0 a1)=some (l.any fun _=>false):=AMv (fun r hr=>by
  show Option.bind (R7 r) _=_
  rw[ARh (h.v r hr),bindS];rfl) (by omega)
 rw[h1,bindS]
 refine Ret.condF (by simp) (Ret.bind (D3 l.length (fun n (t:Int×A4 Int Report)=>t.1=n/\∀ i r,t.2 i=some r->r∈l.take n/\r.id=i) ⟨rfl,fun i r hr=>by cases hr⟩ ?_ ?_))
 . rintro n hlt ⟨_,m⟩ ⟨rfl,hm⟩
   dsimp only at hm
   refine Ret.condT (ltT hlt) (Ret.bind (N6 hlt (Ret.bind (Ret.val (a:=false) ?_ (Ret.condF rfl (Ret.bind (Ret.chk (by omega) (Ret.next ⟨by dsimp only;omega,fun i r hr=>?_⟩))))))))
   . cases hq:m l[n].id with
     |none=>rfl
     |some y=>
      obtain⟨h2,h3⟩:=hm _ _ hq
      have:y=l[n]:=h.cons y (List.mem_of_mem_take h2) _ (List.getElem_mem hlt) h3
      show some (!decide (y=l[n]))=_
      rw[decide_eq_true this];rfl
   . dsimp only[B7] at hr
     rw[F4 hlt]
     split at hr
     . rename_i e
       cases hr;exact⟨.inr rfl,e.symm⟩
     . obtain⟨h2,h3⟩:=hm _ _ hr
       exact⟨.inl h2,h3⟩
 . rintro⟨_,m⟩ ⟨rfl,hm⟩
   exact Ret.condF (ltF (Nat.le_refl _)) (Ret.done (C5 (Ret.ok rfl)))
def Y9 (l:List Report) (i:Int):Option Report:=match l.find? fun r=>decide (r.id=i) with
 |some f=>if f.kind<=7 then some f else none
 |none=>none
theorem ARj {α:Type} {l:List α} {g:α->Bool} {n:Nat} (hn:n < l.length) (h:g l[n]=true) (hp:∀ x∈l.take n,g x=false):l.find? g=some l[n]:=by
 have e:l=l.take n++l[n] :: l.drop (n+1):=by rw[List.getElem_cons_drop hn,List.take_append_drop]
 have:∀ (p q:List α) (x:α),(∀ y∈p,g y=false)->g x=true->(p++x :: q).find? g=some x:=by
  intro p q x hp hx
  rw[List.find?_append,List.find?_eq_none.2 (fun y hy=>by rw[hp y hy];decide)]
  simp[List.find?,hx]
 conv=>lhs;rw[e]
 exact this _ _ _ hp h
theorem ARk {α:Type} {l:List α} {g:α->Bool} (hp:∀ x∈l,g x=false):l.find? g=none:=List.find?_eq_none.2 fun y hy=>by rw[hp y hy];decide
theorem At3 {l:List Report} {i:Int}:ACL l i=AGv l fun r=>some (decide (r.id=i)):=rfl
theorem At5 {d:Desk} {i:Int}:ABG d i=AGv d.disputes fun r=>some (decide (r.id=i)):=rfl
theorem AON {l:List Report} (hl:l.length<=1000000) {i:Int} {Q:Int->Prop} (h1:Y9 l i=none->Q (-1)) (h2:∀ (n:Nat) (hn:n < l.length),Y9 l i=some l[n]->Q n):Ret (Z8 l i) Q:=by
 unfold Z8
 rw[At3]
 refine Ret.bind (ADM (fun _ _=>rfl) hl (fun h=>?_) fun n hn h hp=>?_)
 . exact Ret.bind (Ret.condF (by decide) (Ret.ok (Ret.condF rfl (Ret.ok (h1 (by unfold Y9;rw[ARk h]))))))
 . have hf:Y9 l i=if l[n].kind<=7 then some l[n] else none:=by unfold Y9;rw[ARj hn h hp]
   refine Ret.bind (Ret.condT (decide_eq_true (by omega)) (Ret.bind (N6 hn (Ret.ok ?_))))
   refine Ret.cond (fun h3=>Ret.ok (h1 ?_)) fun h3=>Ret.ok (h2 n hn ?_)
   . have h3:=of_decide_eq_true h3
     rw[hf,if_neg (by omega)]
   . have h3:=of_decide_eq_false h3
     rw[hf,if_pos (by omega)]
theorem AAN {l:List Report} {i:Int} {f:Report} (h:Y9 l i=some f):f∈l/\f.id=i/\f.kind<=7:=by
 unfold Y9 at h
 split at h
 . rename_i g hg
   split at h
   . cases h
     exact⟨List.mem_of_find?_eq_some hg,of_decide_eq_true (List.find?_some (p:=fun r:Report=>decide (r.id=i)) hg),by assumption⟩
   . cases h
 . cases h
theorem ATf {l:List Report} (hc:AMw l) {f:Report} (h:f∈l) (hk:f.kind<=7):Y9 l f.id=some f:=by
 unfold Y9
 cases hg:l.find? fun r=>decide (r.id=f.id) with
 |none=>exact absurd (decide_eq_true rfl) (List.find?_eq_none.1 hg f h)
 |some g=>
  have:g=f:=hc g (List.mem_of_find?_eq_some hg) f h (of_decide_eq_true (List.find?_some (p:=fun r:Report=>decide (r.id=f.id)) hg))
  subst this
  show (if g.kind<=7 then some g else none)=_
  rw[if_pos hk]
def TV (t:Terms):Prop:=(0<=t.answer/\t.answer<=1000)/\(0<=t.mark/\t.mark<=100000)/\(0<=t.lately/\t.lately<=100000)
def XV (d:Desk) (x:Dispute):Prop:=(0<=x.id/\x.id<=999999)/\(∀ r∈d.reports,r.id≠x.id)/\∃ f,Y9 d.reports x.report=some f/\f.made<=x.day/\x.day<=100000 - d.terms.answer - 1
structure DV (d:Desk):Prop where
 len:d.disputes.length<=20
 v:∀ x∈d.disputes,XV d x
 nd:(d.disputes.map (·.id)).Nodup
theorem AQT {α:Type} {l:List α} {k:α->Int} (h:∀ (n:Nat) (hn:n < l.length),∀ x∈l.take n,k x≠k l[n]):(l.map k).Nodup:=by
 rw[List.Nodup,List.pairwise_map,List.pairwise_iff_getElem]
 intro i j hi hj hij
 exact h j hj _ (List.mem_take_iff_getElem.2 ⟨i,by omega,rfl⟩)
theorem AMx {d:Desk} (hl:d.reports.length<=1000000) (hld:d.disputes.length<=1000000) (ht:TV d.terms) (hr:VL d.reports):Ret (V8 d) fun b=>b=true->DV d:=by
 unfold V8
 obtain⟨t1,t2,t3⟩:=ht
 refine Ret.cond (fun _=>Ret.ok fun h=>by cases h) fun c1=>?_
 have c1:=of_decide_eq_false c1
 refine Ret.bind (D3 d.disputes.length (fun n (t:Int)=>t=n/\(∀ x∈d.disputes.take n,XV d x)/\∀ (m:Nat) (hm:m < n) (hml:m < d.disputes.length),∀ x∈d.disputes.take m,x.id≠d.disputes[m].id) ⟨rfl,fun r hr=>by simp at hr,fun m hm=>by omega⟩ ?_ ?_)
 . rintro n hlt _ ⟨rfl,hv,hn⟩
   have bad:∀ {o:Option (Int⊕(Unit⊕Bool))} {N:Int->Prop},Ret (cond true (some (Sum.inr (Sum.inr false))) o) (Nxt N (fun a=>Ret (Sum.elim (fun _=>some true) (fun r27=>some r27) a) fun b=>b=true->DV d)):=fun {o N}=>Ret.condT rfl (Ret.done (E1 (Ret.ok fun h=>by cases h)))
   refine Ret.condT (ltT hlt) (Ret.bind (N6 hlt (Ret.bind ?_)))
   rw[within5,bindS]
   refine Ret.no bad fun c2=>?_
   have c2:=F0 c2
   rw[At5]
   refine Ret.bind (ADM (fun _ _=>rfl) hld (fun h=>Ret.condT (by rw[decide_eq_false (by omega)];rfl) (Ret.ok bad)) fun k hk h hp=>?_)
   by_cases e:k=n
   rotate_left
   . exact Ret.condT (by rw[decide_eq_false (by omega)];rfl) (Ret.ok bad)
   subst e
   refine Ret.condF (by rw[decide_eq_true rfl];rfl) ?_
   rw[At3]
   refine Ret.bind (ADM (fun _ _=>rfl) hl (fun h2=>Ret.ok ?_) fun m hm _ _=>Ret.ok ?_)
   rotate_left
   . rw[decide_eq_true (by omega:(0:Int)<=(m:Int))];exact bad
   refine Ret.condF (by decide) (Ret.bind (AON hl (fun h3=>Ret.bind (Ret.condT (by decide) (Ret.ok bad))) fun m hm h3=>Ret.bind (Ret.condF (decide_eq_false (by omega)) (Ret.bind (N6 hm (Ret.bind (Ret.chk (by omega) (Ret.bind (Ret.chk (by omega) ?_)))))))))
   rw[within5,bindS]
   refine Ret.last bad fun c4=>?_
   have c4:=F0 c4
   refine Ret.condF rfl (Ret.bind (Ret.chk (by omega) (Ret.next ⟨by omega,fun x hx=>?_,fun j hj hjl=>?_⟩)))
   . rw[F4 hlt] at hx
     rcases hx with hx|rfl
     . exact hv x hx
     . exact⟨c2,fun r hr=>of_decide_eq_false (h2 r hr),_,h3,c4.1,c4.2⟩
   . by_cases e:j < k
     . exact hn j e hjl
     . have:j=k:=by omega
       subst this
       exact fun x hx=>of_decide_eq_false (hp x hx)
 . rintro _ ⟨rfl,hv,hn⟩
   rw[List.take_length] at hv
   exact Ret.condF (ltF (Nat.le_refl _)) (Ret.done (C5 (Ret.ok fun _=>⟨by omega,hv,AQT fun n hn2=>hn n hn2 hn2⟩)))
def AV (d:Desk) (a:Answer):Prop:=(0<=a.id/\a.id<=999999)/\(0<=a.day/\a.day<=100000)/\(1<=a.says/\a.says<=3)/\∃ x∈d.disputes,x.id=a.dispute/\(a.says≠2->a.about=0/\a.cents=0)/\(a.says=2->∀ f,Y9 d.reports x.report=some f->(0<=a.about/\a.about<=100000)/\0<=a.cents/\a.cents<=most f.kind)
structure WV (d:Desk):Prop where
 len:d.answers.length<=40
 v:∀ a∈d.answers,AV d a
 nd:(d.answers.map (·.id)).Nodup
theorem AOO {d:Desk} (hs:∀ a∈d.answers,0<=a.says/\a.says<=255) (hr:VL d.reports) (hd:DV d):Ret (Y8 d) fun b=>b=true->WV d:=by
 unfold Y8
 have hrl:=hr.len
 have hdl:=hd.len
 refine Ret.cond (fun _=>Ret.ok fun h=>by cases h) fun c1=>?_
 have c1:=of_decide_eq_false c1
 refine Ret.bind (D3 d.answers.length (fun n (t:Int)=>t=n/\(∀ x∈d.answers.take n,AV d x)/\∀ (m:Nat) (hm:m < n) (hml:m < d.answers.length),∀ x∈d.answers.take m,x.id≠d.answers[m].id) ⟨rfl,fun r hr=>by simp at hr,fun m hm=>by omega⟩ ?_ ?_)
 . rintro n hlt _ ⟨rfl,hv,hn⟩
   refine Ret.condT (ltT hlt) (Ret.bind (Ret.bind (N6 hlt (Ret.bind (D3 n (fun m (t:Int)=>t=m/\∀ r∈d.answers.take m,r.id≠d.answers[n].id) ⟨rfl,fun r hr=>by simp at hr⟩ ?_ ?_)))))
   . rintro m hm _ ⟨rfl,hq⟩
     have hml:m < d.answers.length:=by omega
     refine Ret.condT (decide_eq_true (by omega)) (Ret.bind (N6 hml (Ret.cond (fun h1=>?_) fun h1=>?_)))
     . exact Ret.done (E1 (Ret.ok (E1 (Ret.done (E1 (Ret.ok fun h=>by cases h))))))
     . refine Ret.bind (Ret.chk (by omega) (Ret.next ⟨by omega,fun r hr=>?_⟩))
       rw[F4 hml] at hr
       rcases hr with hr|rfl
       . exact hq r hr
       . exact of_decide_eq_false h1
   rintro _ ⟨rfl,hq⟩
   refine Ret.condF (decide_eq_false (by omega)) (Ret.done (C5 (Ret.bind ?_)))
   have bad:∀ {o:Option (Unit⊕Bool)} {N:Int->Prop},Ret (cond true (some (Sum.inr false)) o) fun a=>Ret (Sum.elim (fun _=>Option.bind (chk .i64 ((n:Int)+1)) fun n68=>some (Sum.inl n68)) (fun r69=>(some (Sum.inr (Sum.inr r69)):Option (Int⊕(Unit⊕Bool)))) a) (Nxt N (fun a=>Ret (Sum.elim (fun (_:Unit)=>some true) (fun r70=>some r70) a) fun b=>b=true->WV d)):=fun {o N}=>Ret.condT rfl (Ret.ok (E1 (Ret.done (E1 (Ret.ok fun h=>by cases h)))))
   rw[within5,bindS]
   refine Ret.no bad fun c2=>?_
   rw[within5,bindS]
   refine Ret.no bad fun c3=>Ret.bind (Ret.chk (by have:=hs _ (List.getElem_mem hlt);omega) ?_)
   rw[within5,bindS]
   refine Ret.last bad fun c4=>Ret.condF rfl ?_
   have c2:=F0 c2;have c3:=F0 c3;have c4:=F0 c4
   have fin:(∃ x∈d.disputes,x.id=d.answers[n].dispute/\(d.answers[n].says≠2->d.answers[n].about=0/\d.answers[n].cents=0)/\(d.answers[n].says=2->∀ f,Y9 d.reports x.report=some f->(0<=d.answers[n].about/\d.answers[n].about<=100000)/\0<=d.answers[n].cents/\d.answers[n].cents<=most f.kind))->Ret (Sum.elim (fun _=>Option.bind (chk .i64 ((n:Int)+1)) fun n68=>some (Sum.inl n68)) (fun r69=>some (Sum.inr (Sum.inr r69))) (Sum.inl ():Unit⊕Bool)) (Nxt (fun (t:Int)=>t=((n+1:Nat):Int)/\(∀ x∈d.answers.take (n+1),AV d x)/\∀ (m:Nat) (hm:m < n+1) (hml:m < d.answers.length),∀ x∈d.answers.take m,x.id≠d.answers[m].id) (fun a=>Ret (Sum.elim (fun (_:Unit)=>some true) (fun r70=>some r70) a) fun b=>b=true->WV d)):=fun hx=>by
    refine C5 (Ret.bind (Ret.chk (by omega) (Ret.next ⟨by omega,fun x hx2=>?_,fun j hj hjl=>?_⟩)))
    . rw[F4 hlt] at hx2
      rcases hx2 with hx2|rfl
      . exact hv x hx2
      . exact⟨c2,c3,c4,hx⟩
    . by_cases e:j < n
      . exact hn j e hjl
      . have:j=n:=by omega
        subst this
        exact hq
   rw[At5]
   refine Ret.bind (ADM (fun _ _=>rfl) (by omega) (fun h=>Ret.condT (by decide) (Ret.ok (E1 (Ret.done (E1 (Ret.ok fun h=>by cases h)))))) fun k hk h hp=>Ret.condF (decide_eq_false (by omega)) ?_)
   have h:=of_decide_eq_true h
   refine Ret.cond (fun h1=>?_) fun h1=>?_
   . have h1:¬ d.answers[n].says=2:=of_decide_eq_false (by simpa using h1)
     refine Ret.bind (Ret.cond (fun _=>Ret.ok bad) fun h2=>Ret.ok ?_)
     have h2:d.answers[n].about=0:=by simpa using h2
     by_cases h3:d.answers[n].cents=0
     . exact Ret.condF (by rw[decide_eq_true h3];rfl) (Ret.ok (fin ⟨_,List.getElem_mem hk,h,fun _=>⟨h2,h3⟩,fun h=>absurd h h1⟩))
     . rw[decide_eq_false h3];exact bad
   . have h1:d.answers[n].says=2:=by simpa using h1
     obtain⟨_,_,f,hf,_⟩:=hd.v _ (List.getElem_mem hk)
     refine Ret.bind (N6 hk (Ret.bind (AON (by omega) (fun h3=>by rw[hf] at h3;cases h3) fun m hm h3=>Ret.bind (N6 hm (Ret.bind ?_)))))
     rw[within5,bindS]
     refine Ret.no bad fun c5=>?_
     have c5:=F0 c5
     have hfk:=(AAN h3).2.2
     have hfv:=(hr.v _ (AAN h3).1).1
     rw[ATd (by omega),bindS]
     refine Ret.last bad fun c6=>Ret.condF rfl (Ret.ok (fin ⟨_,List.getElem_mem hk,h,fun h=>absurd h1 h,fun _ g hg=>?_⟩))
     rw[h3] at hg
     cases hg
     exact⟨c5,F0 c6⟩
 . rintro _ ⟨rfl,hv,hn⟩
   rw[List.take_length] at hv
   exact Ret.condF (ltF (Nat.le_refl _)) (Ret.done (C5 (Ret.ok fun _=>⟨by omega,hv,AQT fun n hn2=>hn n hn2 hn2⟩)))
structure Vd (d:Desk):Prop where
 t:TV d.terms
 r:VL d.reports
 x:DV d
 a:WV d
structure InD (d:Desk):Prop where
 k:∀ r∈d.reports,0<=r.kind/\r.kind<=255
 s:∀ a∈d.answers,0<=a.says/\a.says<=255
theorem AKw {d:Desk} (hin:InD d) (hlx:d.disputes.length<=1000000):Ret (X3 d) fun e=>e=0->Vd d:=by
 unfold X3
 have bad:∀ {o:Option Int},Ret (cond true (some (50:Int)) o) fun e=>e=0->Vd d:=fun {o}=>Ret.condT rfl (Ret.ok fun h=>by cases h)
 rw[within5,within5,within5]
 refine Ret.bind ?_
 rw[bindS]
 refine Ret.no bad fun c1=>?_
 rw[bindS]
 refine Ret.no bad fun c2=>?_
 rw[bindS]
 refine Ret.last bad fun c3=>Ret.condF rfl ?_
 have ht:TV d.terms:=⟨F0 c1,F0 c2,F0 c3⟩
 refine J4 (APj hin.k) fun e he=>?_
 by_cases e0:e=0
 rotate_left
 . exact Ret.condT (by rw[decide_eq_false e0];rfl) (Ret.ok fun h=>absurd h e0)
 subst e0
 have hr:=he rfl
 refine Ret.condF (by decide) (J4 (AMx (by have:=hr.len;omega) hlx ht hr) fun b hb=>?_)
 cases b with
 |false=>exact Ret.condT rfl (Ret.ok fun h=>by cases h)
 |true=>
  have hx:=hb rfl
  refine Ret.condF rfl (J4 (AOO hin.s hr hx) fun b hb=>?_)
  cases b with
  |false=>exact Ret.condT rfl (Ret.ok fun h=>by cases h)
  |true=>exact Ret.condF rfl (Ret.ok fun _=>⟨ht,hr,hx,hb rfl⟩)
theorem ARl {d:Desk} (hin:InD d) {day:Int}:Ret (AAk d day) fun b=>b=true->Vd d/\0<=day/\day<=100000:=by
 unfold AAk AB1
 have no:Ret (some false) fun b=>b=true->Vd d/\0<=day/\day<=100000:=Ret.ok fun h=>by cases h
 refine Ret.bind (Ret.bind (Ret.bind (Ret.cond (fun _=>Ret.ok (Ret.ok (Ret.condF rfl (Ret.ok no)))) fun c1=>Ret.cond (fun _=>Ret.ok (Ret.ok (Ret.condF rfl (Ret.ok no)))) fun c2=>?_)))
 have c2:=of_decide_eq_false c2
 by_cases c3:(60:Int) < (d.answers.length:Int)
 . rw[decide_eq_true c3];exact Ret.ok (Ret.ok (Ret.condF rfl (Ret.ok no)))
 rw[decide_eq_false c3]
 refine Ret.ok (Ret.ok (Ret.condT rfl (J4 (AKw hin (by omega)) fun e he=>Ret.cond (fun e0=>?_) fun _=>Ret.ok no)))
 refine Ret.cond (fun c4=>Ret.ok (Ret.ok fun c5=>⟨he (of_decide_eq_true e0),of_decide_eq_true c4,of_decide_eq_true c5⟩)) fun _=>Ret.ok no
end S
end Go.Proofs.YtgioiejbphljoaaGreatDoor
namespace Go.Proofs.YtgioiejbphljoaaGreatDoor
open Go Go.Sx Go.Rx
namespace frame
theorem ALu {α:Type} {E:Enc α} {p:α->Prop} (hE:∀ {M w cs x},E.R M w cs x->p x) {M:List Nat} {w:World} {v:Value} {xs:List α} (h:RdS E M w v xs):∀ x∈xs,p x:=fun r hr=>by
 obtain⟨a,c,_,_,_,h4⟩:=h
 rcases h4 with rfl|⟨b,o,_,_,_,h5⟩
 . cases hr
 . obtain⟨i,hi,rfl⟩:=List.getElem_of_mem hr
   obtain⟨cs,hR,_⟩:=h5 i hi
   exact hE hR
theorem inD {M:List Nat} {w:World} {cs:List Value} {d:Desk} (h:DeskE.R M w cs d):S.InD d:=by
 obtain⟨_,_,_,_,h⟩:=h
 obtain⟨_,_,_,_,h⟩:=h
 obtain⟨_,_,_,_,h⟩:=h
 obtain⟨_,_,_,⟨_,_,h1⟩,h⟩:=h
 obtain⟨_,_,_,_,⟨_,_,h2⟩⟩:=h
 exact⟨ALu (fun h=>by have:=(ReportE_R.1 h).2.2.2.2.2.2.1;rw[InK.u8] at this;exact this) h1,ALu (fun h=>by have:=(AnswerE_R.1 h).2.2.2.2.1;rw[InK.u8] at this;exact this) h2⟩
theorem AXB {M:List Nat} {w:World} {cs:List Value} {x:Answer} (h:AnswerE.R M w cs x):0<=x.says/\x.says<=255:=InK.u8.1 (AnswerE_R.1 h).2.2.2.2.1
theorem ATh {α:Type} {E:Enc α} {M:List Nat} {w:World} {cs:List Value} {xs:List α} (h:(E0 E).R M w cs xs):xs.length<=9223372036854775807:=by
 obtain⟨v,_,a,c,_,h2,h3,_⟩:=h
 have:maxLen=9223372036854775807:=rfl
 omega
def DeskBE:Enc Desk:=Q2 (fun x=>(x.terms,(x.reports,(x.disputes,x.answers)))) (B2 TermsE (B2 (E0 ReportE) (B2 (E0 DisputeE) (E0 AnswerE))))
theorem ARm {M:List Nat} {w:World} {cs:List Value} {d:Desk} (h:DeskBE.R M w cs d):DeskE.R M w cs d:=by
 obtain⟨c1,c2,rfl,⟨d1,d2,rfl,h1,⟨d3,d4,rfl,h2,h3⟩⟩,h⟩:=h
 exact⟨d1,d3++(d4++c2),by simp,h1,⟨d3,d4++c2,rfl,h2,⟨d4,c2,rfl,h3,h⟩⟩⟩
end frame
end Go.Proofs.YtgioiejbphljoaaGreatDoor
set_option maxRecDepth 20000
set_option maxHeartbeats 4000000
namespace Go.Proofs.YtgioiejbphljoaaGreatDoor
open Go Go.Sx Go.Rx Go.RowKit
noncomputable def Y2 (d:Desk_139):Option (List Report×Int×Int):=AAV d.store.reports fun l21=>Option.bind (List.foldlM (m:=Option) (s:=((A4 Int Report))) (α:=Int×Report) (fun x14 (k15,v16)=>Option.bind (α:=(Int×Int)) (cond ((d.fixed k15).isSome) (some (((d.store.reports ((d.fixed k15).getD 0)).getD (Report.mk 0 0 0 0 0 0 0 0)).about,((d.store.reports ((d.fixed k15).getD 0)).getD (Report.mk 0 0 0 0 0 0 0 0)).cents)) (some (v16.about,v16.cents))) ((fun (x17,x18)=>Option.bind (J3 (Report.mk v16.id v16.source v16.account v16.made x17 v16.kind x18 v16.of_)) fun r19=>Option.bind (α:=((A4 Int Report))) (cond (r19) (some (B7 x14 k15 (Report.mk v16.id v16.source v16.account v16.made x17 v16.kind x18 v16.of_))) (some x14)) ((fun x20=>some x20))))) (fnone:(A4 Int Report)) l21) fun x22=>AAV d.gone fun l31=>Option.bind (List.foldlM (m:=Option) (s:=((A4 Int Report))) (α:=Int×Int) (fun x28 (k29,v30)=>some (Z2 x28 k29)) x22 l31) fun x32=>AAV x32 fun l41=>Option.bind (List.foldlM (m:=Option) (s:=((List Report))) (α:=Int×Report) (fun x37 (k38,v39)=>Option.bind (appo 64 x37 ([v39])) fun l40=>some l40) ([]:(List Report)) l41) fun x42=>Option.bind (E7 ([(107:Nat),(108:Nat)]) x42) fun (_,m43)=>some (m43,(m43.length:Int),0)
def AKx:An:=.nd (.x) (.nd (.lp ⟨[(.cont 14,.own (.mp 3 (.int .i64) (.st 1)))],[14]⟩ [] (.nd (.nd (.x) (.nd (.x) (.jn [.norm ⟨[(.cell 5 4,.d (.int .i64)),(.cell 5 6,.d (.int .i64))],[5,14]⟩] (.x)))) (.nd (.x) (.jn [.norm ⟨[(.cont 14,.own (.mp 3 (.int .i64) (.st 1)))],[14]⟩] (.x))))) (.nd (.lp ⟨[(.cont 14,.own (.mp 3 (.int .i64) (.st 1)))],[14]⟩ [] (.x)) (.nd (.x) (.nd (.lp ⟨[(.slot 9,.own (.sl 45 (.st 1)))],[]⟩ [] (.x)) (.x)))))
noncomputable def T2 (l:List Report) (known:Int):Option ((List Report×Int)⊕(List Report×Int)):=Option.bind (N9 l) fun r1=>cond ((!decide (r1=0))) (some (Sum.inr (([]:(List Report)),r1))) (Option.bind (J9 (0:Int) (100000:Int) ([known])) fun r2=>cond ((!r2)) (some (Sum.inr (([]:(List Report)),(2:Int)))) (some (Sum.inl (l,known))))
def ALv:An:=.x
noncomputable def R8 (d:Desk):Option (A4 Int Report):=Option.bind (B8 (S:=(Int×(A4 Int Report))) (R:=((A4 Int Report))) (fun (x10,x11)=>cond (decide (x10 < (d.reports.length:Int))) (Option.bind (ixo d.reports x10) fun y12=>Option.bind (α:=((A4 Int Report))) (cond (decide (y12.kind<=7)) (some (B7 x11 y12.id y12)) (some x11)) ((fun x13=>Option.bind (chk .i64 (x10+1)) fun n14=>some (Sum.inl (n14,x13))))) (some (Sum.inr x11))) ((0:Int),(fnone:(A4 Int Report)))) ((fun x15=>some (x15)))
def anpre70:An:=.nd (.x) (.nd (.x) (.nd (.x) (.lp ⟨[(.slot 19,.d (.int .i64)),(.cont 13,.own (.mp 3 (.int .i64) (.st 1)))],[4,14,13,2,1]⟩ [.exit 0 ⟨[(.cont 13,.own (.mp 3 (.int .i64) (.st 1)))],[4,14,13,2,1]⟩] (.nd (.x) (.nd (.x) (.nd (.nd (.x) (.nd (.x) (.jn [.norm ⟨[(.cont 13,.own (.mp 3 (.int .i64) (.st 1)))],[4,14,13,2,1]⟩] (.x)))) (.x)))))))
end Go.Proofs.YtgioiejbphljoaaGreatDoor
namespace Go.Rx
open Go Go.Sx Go.RowKit
def N0:Nat->Code->Code
 |0,.seq a _=>a
 |n+1,.seq a b=>.seq a (N0 n b)
 |_,c=>c
def AJS:Nat->Code->Code
 |0,.seq _ b=>b
 |n+1,.seq _ b=>AJS n b
 |_,_=>.skip
def AKy:Nat->Code->Bool
 |0,.seq _ _=>true
 |n+1,.seq a b=>(match AAs a (N0 n b) with
  |some _=>false
  |none=>true)&&AKy n b
 |_,_=>false
section
variable [Trk] [Sg] [Sf] {P:Program} [Se P] [Anch] {w0 w:World} {M:List Nat} {N:Nat} {Γ:Type} {pr:AS->Option Γ} {ds:List Deferred}
theorem AMy [Sl (P:=P)] {G:Gx} (hG:GxOk P G) (c:Code) (an:An) {Y:Type} {KN:AS->Option Y} {KR:Γ->Option Y} {σ:AS} {L:A7} {w:World} {z:Y} {A B:A3} {X:Nat->A3} {Z:List PanicEntry->A3} (h:exec G N pr c an KN (fun _ _=>none) KR σ=some z) (hH:Holds (P:=P) w0 [] M σ L w)
  (hA:∀ σ' L' w',KN σ'=some z->EnvS (C8 c++C6 an) L L'->Holds (P:=P) w0 [] M σ' L' w'->A ds L' w') (hB:∀ r σ' L' w',pr σ'=some r->KR r=some z->Holds (P:=P) w0 [] M σ' L' w'->B ds L' w'):CW P N c ds L w A B X Z:=
 X8 (n:=3) (ACt (G9 hG c an _ _ _ _ _ _ _ _ _ _ _ _ _ h hH (fun σ1 L1 w1 h1 _ hE1 hH1=>hA σ1 L1 w1 h1 hE1 hH1) (fun i σ2 L2 w2 h2=>by cases h2) (fun r σ2 L2 w2 h2 h3 _ hH2=>hB r σ2 L2 w2 h2 h3 hH2) PZ.no))
theorem ACz [Sl (P:=P)] {G:Gx} (hG:GxOk P G):∀ (n:Nat) (c:Code) (an:An) {Y:Type} {KN:AS->Option Y} {KR:Γ->Option Y} {σ:AS} {L:A7} {w:World} {z:Y} {A B:A3} {X:Nat->A3} {Z:List PanicEntry->A3},AKy n c=true->V7 G N pr (N0 n c) an KN KR σ=some z->Holds (P:=P) w0 [] M σ L w ->
  (∀ σ' L' w',KN σ'=some z->EnvS (wrE (N0 n c) an) L L'->Holds (P:=P) w0 [] M σ' L' w'->CW P N (AJS n c) ds L' w' A B X Z)->(∀ r σ' L' w',pr σ'=some r->KR r=some z->Holds (P:=P) w0 [] M σ' L' w'->B ds L' w')->CW P N c ds L w A B X Z
 |0,.seq a b,an,Y,KN,KR,σ,L,w,z,A,B,X,Z,_,h,hH,hA,hB=>A6 (AGt hG a an h hH hA hB)
 |n+1,.seq a b,an,Y,KN,KR,σ,L,w,z,A,B,X,Z,hc,h,hH,hA,hB=>by
  have hc:((match AAs a (N0 n b) with
   |some _=>false
   |none=>true)&&AKy n b)=true:=hc
  have h:(match AAs a (N0 n b) with
   |some u=>mapM G N pr u an KN σ
   |none=>match ABb a with
    |true=>V7 G N pr a an.l (fun σ'=>V7 G N pr (N0 n b) an.r KN KR σ') KR σ
    |false=>exec G N pr a an.l (fun σ'=>V7 G N pr (N0 n b) an.r KN KR σ') (fun _ _=>none) KR σ)=some z:=h
  have hw:wrE (.seq a (N0 n b)) an=(match (generalizing:=false) AAs a (N0 n b) with
   |some u=>match (generalizing:=false) an with
    |.lp hd _ l=>C2 u.pre++(u.t :: F6 u hd l)
    |_=>[]
   |none=>match (generalizing:=false) ABb a with
    |true=>wrE a an.l++wrE (N0 n b) an.r
    |false=>(C8 a++C6 an.l)++wrE (N0 n b) an.r):=rfl
  cases hu:AAs a (N0 n b) with
  |some u=>rw[hu] at hc;cases hc
  |none=>
   rw[hu] at h hw hc
   simp only[Bool.true_and] at h hw hc
   cases ha:ABb a with
   |true=>
    rw[ha] at h hw
    exact A6 (AGt hG a an.l h hH (fun σ1 L1 w1 h1 hE1 hH1=>ACz hG n b an.r hc h1 hH1 (fun σ2 L2 w2 h2 hE2 hH2=>hA σ2 L2 w2 h2 (by show EnvS (wrE (.seq a (N0 n b)) an) L L2;rw[hw];exact (hE1.mono fun t ht=>List.mem_append_left _ ht).trans (hE2.mono fun t ht=>List.mem_append_right _ ht)) hH2) hB) hB)
   |false=>
    rw[ha] at h hw
    exact A6 (AMy hG a an.l h hH (fun σ1 L1 w1 h1 hE1 hH1=>ACz hG n b an.r hc h1 hH1 (fun σ2 L2 w2 h2 hE2 hH2=>hA σ2 L2 w2 h2 (by show EnvS (wrE (.seq a (N0 n b)) an) L L2;rw[hw];exact (hE1.mono fun t ht=>List.mem_append_left _ ht).trans (hE2.mono fun t ht=>List.mem_append_right _ ht)) hH2) hB) hB)
 |0,.skip,_,_,_,_,_,_,_,_,_,_,_,_,h,_,_,_,_|0,.region _ _ _,_,_,_,_,_,_,_,_,_,_,_,_,h,_,_,_,_|0,.cond _ _ _,_,_,_,_,_,_,_,_,_,_,_,_,h,_,_,_,_|0,.loop _,_,_,_,_,_,_,_,_,_,_,_,_,h,_,_,_,_|0,.exit _,_,_,_,_,_,_,_,_,_,_,_,_,h,_,_,_,_|0,.ret,_,_,_,_,_,_,_,_,_,_,_,_,h,_,_,_,_
 |0,.scope _,_,_,_,_,_,_,_,_,_,_,_,_,h,_,_,_,_|0,.label _,_,_,_,_,_,_,_,_,_,_,_,_,h,_,_,_,_|0,.goto _,_,_,_,_,_,_,_,_,_,_,_,_,h,_,_,_,_|0,.refuse _,_,_,_,_,_,_,_,_,_,_,_,_,h,_,_,_,_|0,.block _ _,_,_,_,_,_,_,_,_,_,_,_,_,h,_,_,_,_|0,.rangeFunc _ _ _ _,_,_,_,_,_,_,_,_,_,_,_,_,h,_,_,_,_
 |_+1,.skip,_,_,_,_,_,_,_,_,_,_,_,_,h,_,_,_,_|_+1,.region _ _ _,_,_,_,_,_,_,_,_,_,_,_,_,h,_,_,_,_|_+1,.cond _ _ _,_,_,_,_,_,_,_,_,_,_,_,_,h,_,_,_,_|_+1,.loop _,_,_,_,_,_,_,_,_,_,_,_,_,h,_,_,_,_|_+1,.exit _,_,_,_,_,_,_,_,_,_,_,_,_,h,_,_,_,_|_+1,.ret,_,_,_,_,_,_,_,_,_,_,_,_,h,_,_,_,_
 |_+1,.scope _,_,_,_,_,_,_,_,_,_,_,_,_,h,_,_,_,_|_+1,.label _,_,_,_,_,_,_,_,_,_,_,_,_,h,_,_,_,_|_+1,.goto _,_,_,_,_,_,_,_,_,_,_,_,_,h,_,_,_,_|_+1,.refuse _,_,_,_,_,_,_,_,_,_,_,_,_,h,_,_,_,_|_+1,.block _ _,_,_,_,_,_,_,_,_,_,_,_,_,h,_,_,_,_|_+1,.rangeFunc _ _ _ _,_,_,_,_,_,_,_,_,_,_,_,_,h,_,_,_,_=>by cases h
theorem Holds.packed [Sl (P:=P)] {sh:Sh} {σ:AS} {L:A7} {w:World} {x:N2 sh.cs} (h:Holds (P:=P) w0 [] M σ L w) (hp:H6 sh σ=some x):Holds (P:=P) w0 [] M (B5 [] sh σ x) L w:=by
 obtain⟨S,ρ,γ,μ,ι,hS⟩:=h
 exact R5 hS (Rel.refl _) hp
end
theorem AKz [Trk] [Sg] [Sf] {P:Program} [Se P] [Sl (P:=P)] [Anch] {G:Gx} (hG:GxOk P G) {f:Func} {cs:List Ck} {M:List Nat} {w:World} {r:D7 cs} (hn:Nat.ble cs.length 4=true) {σ':AS} {L':A7} {w':World} (h1:U0 G cs f.results.toList σ'=some r) (hH:Holds (P:=P) w [] M σ' L' w'):ABL P f (fun e w'=>∃ vs,e=.returned (ABz vs)/\KsOk (P:=P) M (X0 cs vs++M) w w' cs r vs/\Ext w w') [] L' w':=by
 obtain⟨S,ρ,γ,μ,ι,hS⟩:=hH
 unfold U0 at h1
 cases hk:okK (P6 G σ' cs f.results.toList) (ABU G σ' cs f.results.toList)&&npK cs (P6 G σ' cs f.results.toList) with
 |false=>rw[hk] at h1;exact (A2 h1).elim
 |true=>
  rw[hk] at h1
  simp only[Bool.and_eq_true] at hk
  obtain⟨vs,h2,h3,h4,h5⟩:=AFw hS hG (mv:=P6 G σ' cs f.results.toList) (AGs h1) cs f.results.toList (fun _ h=>h) (AAK hk.1) hk.2 h1
  refine M9 (by simp) h2 (by rw[h3];exact hn) ⟨vs,by rw[AEa],h4 _ (fun b hb=>?_),?_⟩
  . exact (List.mem_append.1 hb).elim (h5 b) fun h=>mem_mm.2 (.inr h)
  . exact hS.hp.kp
end Go.Rx
set_option maxRecDepth 20000
set_option maxHeartbeats 4000000
namespace Go.Proofs.YtgioiejbphljoaaGreatDoor
open Go Go.Sx Go.Rx Go.RowKit
def AB2 (r:Report):List Value:=[.int .i64 r.id,.int .i64 r.source,.int .i64 r.account,.int .i64 r.made,.int .i64 r.about,.int .u8 r.kind,.int .i64 r.cents,.int .i64 r.of_]
def InR (r:Report):Prop:=InK .i64 r.id/\InK .i64 r.source/\InK .i64 r.account/\InK .i64 r.made/\InK .i64 r.about/\InK .u8 r.kind/\InK .i64 r.cents/\InK .i64 r.of_
noncomputable def ATi:Code:=match Tryz.f105.body with
 |some c=>c
 |none=>.skip
def AVo:Sh:=⟨[(.slot 72,.own (.sl 45 (.st 1))),(.slot 73,.d (.int .i64)),(.slot 74,.d (.int .i64))],[]⟩
noncomputable def AQV:Gx:={ gxb with fs:=[(72,ctr72),(107,ctr107),(108,ctr108)],fm:=[(106,ctrm106)] }
theorem APk:GxOk Tryz.prog AQV:=ACy ⟨⟨ok72,Tryz.call72⟩,⟨⟨ok107,Tryz.call107⟩,⟨⟨ok108,Tryz.call108⟩,trivial⟩⟩⟩ trivial ⟨⟨okm106,Tryz.call106⟩,trivial⟩
noncomputable def K1 (d:Desk_139):Option (List Report):=Option.bind (Y2 d) fun x=>cond (decide (x.2.1=(x.1.length:Int))&&decide (x.2.2=0)) (some x.1) none
def DkOk (M:List Nat) (w:World) (v:Value) (d:Desk_139):Prop:=Ok (P:=Tryz.prog) (fun _=>undef) (fun _=>none) M w (.rp (.str 14 d) 0) v
theorem ATj (d:Desk_139):V7 AQV 83 (fun _=>(none:Option Unit)) (N0 5 ATi) AKx (H6 AVo) (fun _=>none) ⟨[(1,.rp (.str 14 d) 0)],[],[],[]⟩=Y2 d:=by kernel_rfl
theorem AHr {M:List Nat} {w:World} (hM:MLt M w) (hg:GlOk (P:=Tryz.prog) M w) {vp:Value} {d:Desk_139} (hd:DkOk M w vp d) {r0:List Report} (h:K1 d=some r0) {b2:Nat} (hb2:b2 < w.heap.size) (hg2:∀ g,gOf w b2=some g->g < w.heap.size) {n lp:Nat} {J Jx:List Report->World->Prop} (hJ:AbidesFrom w.heap.size J)
  (hY:∀ (pre:List Report) (x:Report) (W1:World),J pre W1->pre.length < r0.length->r0[pre.length]?=some x->YieldAt Fence.wide (n - 1) Tryz.prog lp #[.agg (AB2 x).toArray] W1 fun e W'=>(e=.returned (.bool true)/\J (pre++[x]) W'/\KB b2 W1 W')\/(e=.returned (.bool false)/\Jx (pre++[x]) W')) (h0:J [] w) :
  Calls Tryz.prog 105 (List.toArray [.func (.yield lp) #[] #[],vp]) w fun e W'=>(∃ v,e=.returned v)/\((∃ xs,xs=r0/\J xs W')\/(∃ pre,pre <+: r0/\Jx pre W')):=by
 unfold K1 at h
 obtain⟨⟨r1,p,q⟩,hp,h⟩:=Q1 h
 obtain⟨hpq,rfl,rfl⟩:r1=r0/\p=(r0.length:Int)/\q=0:=by
  cases hc:(decide (p=(r1.length:Int))&&decide (q=0)) with
  |false=>rw[show (decide (p=(r1.length:Int))&&decide (q=0))=false from hc] at h;cases h
  |true=>
   rw[show (decide (p=(r1.length:Int))&&decide (q=0))=true from hc] at h
   have h:r1=r0:=Option.some.inj h
   simp only[Bool.and_eq_true,decide_eq_true_eq] at hc
   subst h
   exact⟨rfl,hc.1,hc.2⟩
 subst hpq
 have h0':Holds (P:=Tryz.prog) w [] M ⟨[(1,.rp (.str 14 d) 0)],[],[],[]⟩ [(0,.func (.yield lp) #[] #[]),(1,vp)] w:=by
  refine⟨[],fun _=>undef,fun _=>[],fun _=>[],fun _=>0,⟨Hp.start hM,(fun i a h=>by cases h),(fun i j a b h=>by cases h),(fun i a h=>by cases h),fun t s ht=>?_,⟨trivial,hg⟩⟩⟩
  rw[fnd_cons] at ht
  split at ht
  . rename_i e;subst e;cases ht;exact⟨vp,rfl,hd⟩
  . cases ht
 refine F9 (l:=[.func (.yield lp) #[] #[],vp]) (fn:=Tryz.f105) Tryz.func105 rfl rfl rfl ?_
 refine ACz (P:=Tryz.prog) (pr:=fun _=>(none:Option Unit)) APk 5 ATi AKx (by decide) ((ATj d).trans hp) h0' (fun σ' L' w1 hK hE hH=>?_) (fun r _ _ _ hr _ _=>by cases hr)
 have hH2:=hH.packed hK
 clear hH hK
 obtain⟨S,ρ,γ,μ,ι,hS⟩:=hH2
 obtain⟨v72,l72,e72,_⟩:=hS.env 72 (.own 72) rfl
 obtain⟨v73,l73,e73,_⟩:=hS.env 73 (.int .i64 (r1.length:Int)) rfl
 obtain⟨v74,l74,e74,_⟩:=hS.env 74 (.int .i64 0) rfl
 subst e73 e74
 have l0:Sx.A5 L' 0=some (.func (.yield lp) #[] #[]):=hE 0 (by decide)
 have hi72:S[ι 72]?=some (ownR [] ReportE 45 v72 r1):=by rw[e72];exact hS.res 72 _ rfl
 have hI:Hp w [] M S w1:=hS.hp
 have hRD:=hI.freeze _ hi72
 have hge_:∀ b∈ob v72,w.heap.size<=b:=fun b hb=>((hI.own _ (List.mem_of_getElem? hi72)).2 b hb).resolve_left (fun h=>by cases h)
 refine G5 ?_
 have hgB:∀ g,gOf w1 b2=some g->g < w.heap.size:=fun g hg=>(KB.of_ext hI.kp hb2).gof g hg |>.elim (hg2 g) fun h=>by
  have h5:gOf w b2=some g:=by
   unfold gOf at hg ⊢
   rw[World.cell?_of_block (a:=⟨b2,0,none⟩) (w:=w) (hI.kp.block b2 hb2 (by simp))] at hg
   exact hg
  exact hg2 g h5
 have hlen_:=RdS.inK hRD
 refine ASB (L:=[(74,_),(72,_),(73,_),(0,_)]) (Sub.cons l74 (Sub.cons l72 (Sub.cons l73 (Sub.cons l0 (Sub.nil _))))) ?_
 refine AOg 1 (ι:=Nat) (fun i=>[(74,.int .i64 i)]) (fun i W_=>i<=r1.length/\J (r1.take i) W_/\KB b2 w1 W_) (fun i=>r1.length - i) 0 ⟨Nat.zero_le _,hJ _ _ _ none h0 (Ext.grownBy hI.kp) (fun r hr=>by cases hr),KB.refl _ _⟩ (Sub.cons rfl (Sub.cons rfl (Sub.cons rfl (Sub.cons rfl (Sub.nil _))))) (fun i W_ hW_=>?_)
 obtain⟨hi,hJi,hKi⟩:=hW_
 refine A6 ?_
 refine A9 ?_
 refine AG6 rfl rfl rfl ?_
 refine Reg.nil ?_
 refine A6 ?_
 refine AAC rfl (fun hc=>?_) (fun hc=>?_)
 . have hlt:i < r1.length:=by have:=of_decide_eq_true hc;omega
   refine O6 ?_
   refine A6 ?_
   refine G5 ?_
   obtain⟨b,o,c,cs,hv,hbM,hbl,hR,hC⟩:=hRD.at i hlt
   obtain⟨rfl,r0_,r1_,r2_,r3_,r4_,r5_,r6_,r7_⟩:=ReportE_R.1 hR
   obtain⟨_,_,hs_,hle_,_⟩:=(hRD).shape
   rw[hv] at hs_
   cases hs_
   obtain⟨c9,rfl⟩:∃ c9,c=c9+1:=⟨c - 1,by omega⟩
   have hbw:w.heap.size<=b:=hge_ b (by rw[hv];simp[ob])
   have hb2':b≠b2:=by omega
   have hbg:gOf w1 b2≠some b:=fun e=>by have:=hgB b e;omega
   have hCi:Cells W_ b (o+i * 8) (AB2 r1[i]):=fun j u hj=>hKi.cell b _ u hb2' hbg (hC j u hj)
   refine A6 ?_
   refine A9 ?_
   refine Reg.val (.pointer (some ⟨b,o+i * 8,none⟩)) rfl rfl rfl (fun a ha w9 _=>?_) ?_
   . have hx:ev [(73,Value.int IntKind.i64 (r1.length:Int)),(0,Value.func (.func 0) #[] #[])] (.tmp 73)=some (.int .i64 (r1.length:Int)):=rfl
     have h1:=ha.eval (x:=.tmp 72) (v:=v72) rfl
     have h2:=ha.eval (x:=.tmp 74) (v:=.int .i64 (i:Int)) rfl
     rw[hv] at h1
     have h3:(i:Int) < (r1.length:Int):=by omega
     simp[execOp,h1,h2,Instr.indexAt,asIntOf,run_underlying Tryz.underlying24,h3,Tryz.sizeOf45,add_none]
     intro h9_;exact absurd h9_ (by omega)
   refine AA3 rfl hCi Tryz.isAgg45 rfl Tryz.sizeOf45 rfl ?_
   refine ASF Tryz.zeroValue45 rfl rfl (fun bt w3 hbt ex3 hlt3 hRt=>?_)
   have hRt':Row 45 w3 bt [.int .i64 0,.int .i64 0,.int .i64 0,.int .i64 0,.int .i64 0,.int .u8 0,.int .i64 0,.int .i64 0]:=hRt
   refine AOj rfl rfl rfl hRt' Tryz.sizeOf45 rfl rfl (C7 rfl (C7 rfl (C7 rfl (C7 rfl (C7 rfl (C7 rfl (C7 rfl (C7 rfl ACU)))))))) (fun w4 hr4 hk4=>?_)
   have e24:Ext W_ w4:=ex3.tail hk4 fun c hc=>by
    have:c=bt:=by simpa using hc
    omega
   refine Reg.nil ?_
   have hr4':Row 45 w4 bt (AB2 r1[i]):=hr4
   have hJ4:J (r1.take i) w4:=hJ _ _ _ none hJi (Ext.grownBy e24) (fun r hr=>by cases hr)
   have hY4:=hY (r1.take i) r1[i] w4 hJ4 (by rw[List.length_take];omega) (by rw[List.length_take,Nat.min_eq_left (by omega)];exact List.getElem?_eq_getElem hlt)
   have htk:r1.take (i+1)=r1.take i++[r1[i]]:=by rw[List.take_add_one,List.getElem?_eq_getElem hlt];rfl
   have hK4:KB b2 w1 w4:=hKi.trans (KB.of_ext e24 (Nat.lt_of_lt_of_le hb2 (Nat.le_trans hI.kp.size hKi.size)))
   refine A6 ?_
   refine AH6 n ?_
   refine Rgi.val (.func (.yield lp) #[] #[]) rfl rfl rfl rfl (fun a ha=>by simp[execOp,ha.eval (x:=.tmp 0) (v:=.func (.yield lp) #[] #[]) rfl]) ?_
   refine Rgi.val (.agg (AB2 r1[i]).toArray) rfl rfl rfl rfl (fun a ha=>by
    have:=run_loadCells_list (P:=Tryz.prog) w4 ⟨bt,0,none⟩ (AB2 r1[i]) (fun j v hj=>by rw[add_none];exact hr4'.rd.cells j v hj)
    have h9:=ha.eval (x:=.tmp 13) (v:=.pointer (some ⟨bt,0,none⟩)) rfl
    simp only[AB2] at this ⊢
    simp at this
    simp[execOp,h9,Instr.loadAt,Instr.sureAddr,loadVar,Tryz.isAgg45,Tryz.sizeOf45,this]) ?_
   refine Rgi.yield rfl rfl rfl hY4 ?_
   rintro e w5 (⟨rfl,hJ5,hK5⟩|⟨rfl,hJ5⟩)
   . refine⟨_,rfl,?_⟩
     refine Rgi.val (.bool false) rfl rfl rfl rfl (fun a ha=>by
      have h9:=ha.eval (x:=.tmp 80) (v:=.bool true) rfl
      simp[execOp,h9,Op.unary]) ?_
     refine Rgi.nil ?_
     refine ABJ rfl ?_
     refine O6 ?_
     refine A9 ?_
     refine AP6 (n:=((i+1:Nat):Int)) rfl rfl rfl ⟨by omega,by rw[InK.i64] at hlen_ ⊢;omega⟩ ?_
     refine H9 rfl rfl ?_
     refine Reg.nil ?_
     exact⟨rfl,i+1,⟨by omega,by rw[htk];exact hJ5,hK4.trans hK5⟩,Sub.cons rfl (Sub.cons rfl (Sub.cons rfl (Sub.cons rfl (Sub.nil _)))),by omega⟩
   . refine⟨_,rfl,?_⟩
     refine Rgi.val (.bool true) rfl rfl rfl rfl (fun a ha=>by
      have h9:=ha.eval (x:=.tmp 80) (v:=.bool false) rfl
      simp[execOp,h9,Op.unary]) ?_
     refine Rgi.nil ?_
     refine ACV rfl ?_
     refine J0 ?_
     refine ASC Tryz.results105 ?_
     exact⟨⟨_,rfl⟩,.inr ⟨_,List.take_prefix (i+1) _,by rw[htk];exact hJ5⟩⟩
 . have hge:¬ (i:Int) < (r1.length:Int):=of_decide_eq_false hc
   have hi':i=r1.length:=by omega
   subst hi'
   refine ABI ?_
   refine S8 ?_
   refine ASC Tryz.results105 ?_
   exact⟨⟨_,rfl⟩,.inl ⟨_,rfl,by rwa [List.take_length] at hJi⟩⟩
end Go.Proofs.YtgioiejbphljoaaGreatDoor
set_option maxRecDepth 20000
set_option maxHeartbeats 4000000
namespace Go.Proofs.YtgioiejbphljoaaGreatDoor
open Go Go.Sx Go.Rx Go.RowKit
theorem DkOk.adv {M M':List Nat} {w w':World} {v:Value} {d:Desk_139} (h:DkOk M w v d) (ha:Adv M M' w w'):DkOk M' w' v d:=Ok.adv ha _ h
def ItF (M:List Nat) (w:World) (v:Value) (d:Desk_139):Prop:=∃ p,v=.func (.func 105) #[] [p].toArray/\DkOk M w p d
theorem ItF.adv {M M':List Nat} {w w':World} {v:Value} {d:Desk_139} (h:ItF M w v d) (ha:Adv M M' w w'):ItF M' w' v d:=by
 obtain⟨p,h0,h1⟩:=h
 exact⟨p,h0,h1.adv ha⟩
abbrev AEc:={ r:Report // InR r }
theorem ALw {a b:List AEc} (h:a.map Subtype.val=b.map Subtype.val):a=b:=(List.map_inj_right (fun _ _ h=>Subtype.ext h)).1 h
theorem AMz {F:Fence} {m:Nat} {P:Program} {l:Nat} {args:Array Value} {W:World} {R R':Ending->World->Prop} (h:YieldAt F m P l args W R) (hr:∀ e w,R e w->R' e w):YieldAt F m P l args W R':=by
 obtain⟨fn,tmps,assign,body,h1,h2⟩:=h
 exact⟨fn,tmps,assign,body,h1,h2.mono hr⟩
theorem ALK (n:Nat) {M:List Nat} {w:World} (hM:MLt M w) (hgl:GlOk (P:=Tryz.prog) M w) {v:Value} {d:Desk_139} (hf:ItF M w v d) {l:List AEc} (h:K1 d=some (l.map Subtype.val)) {b2:Nat} (hb2:b2 < w.heap.size) (hg2:∀ g,gOf w b2=some g->g < w.heap.size) :
  ∃ lb,v=.func (.func 105) #[] lb/\SeqStopsK Fence.wide n Tryz.prog 105 lb (fun r:AEc=>#[.agg (AB2 r.1).toArray]) (KB b2) (fun ys=>ys=l) (fun pre=>pre <+: l) l.length w:=by
 obtain⟨p,rfl,hf⟩:=hf
 refine⟨_,rfl,fun lp J Jx W hW hJ _ hY h0=>?_⟩
 have hE:Ext w W:=ABw hW (fun h=>h)
 have hA:Adv M M w W:=Adv.of_ext hE
 have hg2':∀ g,gOf W b2=some g->g < W.heap.size:=fun g hg=>by
  rcases (KB.of_ext hE hb2).gof g hg with h1|h1
  . exact Nat.lt_of_lt_of_le (hg2 g h1) hE.size
  . have h5:gOf w b2=some g:=by
     unfold gOf at hg ⊢
     rw[World.cell?_of_block (a:=⟨b2,0,none⟩) (w:=w) (hE.block b2 hb2 (by simp))] at hg
     exact hg
    exact Nat.lt_of_lt_of_le (hg2 g h5) hE.size
 refine callsIn_wide.2 ((AHr (hM.ext hE) (hgl.adv hA) (DkOk.adv hf hA) h (Nat.lt_of_lt_of_le hb2 hE.size) hg2' (n:=n) (lp:=lp)
  (J:=fun pre W=>∃ pre':List AEc,pre'.map Subtype.val=pre/\J pre' W) (Jx:=fun pre W=>∃ pre':List AEc,pre'.map Subtype.val=pre/\Jx pre' W) ?_ ?_ ⟨[],rfl,h0⟩).mono ?_)
 . rintro s W1 W2 row ⟨pre',h1,h2⟩ hg hr
   exact⟨pre',h1,hJ _ _ _ row h2 hg hr⟩
 . rintro pre x W1 ⟨pre',rfl,h2⟩ hlt hx
   rw[List.length_map] at hlt
   rw[List.length_map] at hx
   rw[List.getElem?_map] at hx
   obtain⟨x',hx',rfl⟩:=Option.map_eq_some_iff.1 hx
   refine AMz (hY pre' x' W1 h2 (by rw[List.length_map] at hlt;exact hlt)) ?_
   rintro e W' (⟨rfl,h3,h4⟩|⟨rfl,h3⟩)
   . exact .inl ⟨rfl,⟨_,by simp,h3⟩,h4⟩
   . exact .inr ⟨rfl,_,by simp,h3⟩
 . rintro e W' ⟨hv,⟨xs,rfl,pre',h1,h2⟩|⟨pre,hp,pre',rfl,h2⟩⟩
   . exact⟨hv,.inl ⟨_,ALw h1,h2⟩⟩
   . refine⟨hv,.inr ⟨pre',?_,h2⟩⟩
     obtain⟨t,ht⟩:=hp
     refine⟨l.drop pre'.length,ALw ?_⟩
     rw[List.map_append,List.map_drop,<-ht]
     simp
theorem AQW:AJu ReportE:=fun h=>ReportE_R.2 (ReportE_R.1 h)
def AlR (M:List Nat) (b2:Nat) (x:AEc) (L:Sx.A7) (W:World):Prop:=∃ b5 u,Sub [(2,.pointer (some ⟨b2,0,none⟩)),(5,.pointer (some ⟨b5,0,none⟩))] L/\Row 45 W b5 (AB2 x.1)/\Row 24 W b2 [u]/\b5∉ob u/\b5≠b2/\b5∉M
theorem AFQ {M:List Nat} {w:World} (hM:MLt M w) (hgl:GlOk (P:=Tryz.prog) M w) {v:Value} {d:Desk_139} (hf:ItF M w v d) {l:List AEc} (h:K1 d=some (l.map Subtype.val)) (hl:l.length * 64<=140737488355328) :
  Calls Tryz.prog 102 (List.toArray [.slice none 0 0,v]) w fun e w'=>∃ v':Value,e=.returned v'/\(Sx.Own ReportE 45 0 M w' v' (l.map Subtype.val)/\∀ b∈ob v',w.heap.size<=b)/\Ext w w':=by
 refine ABe Tryz.func102 rfl Tryz.ntmps102 rfl ?_
 have hI:=Hp.start (Mu:=[]) hM
 refine A6 ?_
 refine A9 ?_
 refine AAE hI rfl rfl rfl ?_
 intro b2 w2 hI2 x2
 refine G0 rfl rfl ?_
 refine Reg.nil ?_
 refine A6 ?_
 refine A6 ?_
 refine A9 ?_
 refine H9 rfl rfl ?_
 refine Reg.nil ?_
 have hI3:Hp w [] M (E9 ReportE 45 24 b2 (.slice none 0 0) []) w2:=hI2.addNil ReportE 45
 have hb2:b2 < w2.heap.size:=hI3.mlt b2 (by simp[mm,rowR])
 have hgn:gOf w2 b2=none:=by rw[hI3.gof];rfl
 obtain⟨lb,hv,hseq⟩:=ALK 2 hI2.mlt (hgl.adv hI2.adv) (hf.adv hI2.adv) h hb2 (fun g hg=>by rw[hgn] at hg;cases hg)
 subst hv
 refine G5 ?_
 refine ANc (val:=fun r:AEc=>.agg (AB2 r.1).toArray) (K:=KB b2) (xs:=l) rfl Tryz.call105 rfl hseq (fun h k=>h.trans k) (fun W lp o o' hlp ho hc _=>KB.putObj ho hc (by omega))
  (fun pre W=>∃ v',Hp w [] M (E9 ReportE 45 24 b2 v' (pre.map Subtype.val)) W/\w2.heap.size<=W.heap.size/\pre.length<=l.length) (fun _ _=>False) ?_ (fun _ _ _ _ h _ _=>h.elim) ⟨_,hI3,Nat.le_refl _,Nat.zero_le _⟩ (AlR M b2) ?_ ?_ ?_ ?_ (fun _ _ _ _ _ h _=>h.elim)
 . rintro pre W W' row ⟨v',h1,h2,h3⟩ hg hr
   exact⟨v',h1.turnG AQW (fun h=>h) hg (fun r e=>⟨Nat.le_trans hI3.kp.size (hr r e).1,(hr r e).2⟩),Nat.le_trans h2 hg.size,h3⟩
 . rintro x L' _ W W' row ⟨b5,u,h1,h2,h3,h4,h5,h6⟩ hg hr
   have hcl:∀ (b:Nat) (o:Obj),W.heap[b]?=some o->o.isCells=true->W'.heap[b]?=W.heap[b]?:=fun b o hb hc=>hg.block b (J1 hb) fun e=>by
    obtain⟨_,o',g1,g2⟩:=hr b e.symm
    rw[hb] at g1;cases g1
    rw[hc] at g2;cases g2
   exact⟨b5,u,h1,(hcl b5 _ h2 rfl).trans h2,(hcl b2 _ h3 rfl).trans h3,h4,h5,h6⟩
 . rintro l' pre x W ⟨v',h1,h2,h3⟩
   refine AA8 rfl ?_
   refine ACZ h1 Tryz.zeroValue45 rfl rfl ?_
   intro b5 w5 hI5 x5
   refine ABN 0 hI5 rfl rfl rfl rfl Tryz.sizeOf45 rfl rfl (C7 rfl (C7 rfl (C7 rfl (C7 rfl (C7 rfl (C7 rfl (C7 rfl (C7 rfl ACU)))))))) ?_
   intro w6 hI6 x6
   have hI6':Hp w [] M (rowR 45 b5 (AB2 x.1) :: E9 ReportE 45 24 b2 v' (pre.map Subtype.val)) w6:=hI6
   have hI7:Hp w [] M (E9 ReportE 45 24 b2 v' (pre.map Subtype.val)) w6:=hI6'.erase 0
   have hA:Adv (mm (E9 ReportE 45 24 b2 v' (pre.map Subtype.val)) M) (mm (E9 ReportE 45 24 b2 v' (pre.map Subtype.val)) M) W w6:=x5.trans (x6.trans (F8 (σ:=rowR 45 b5 (AB2 x.1) :: E9 ReportE 45 24 b2 v' (pre.map Subtype.val)) 0))
   obtain⟨hk1,hk2⟩:=h1.kb hI7 hA
   refine Reg.nil ⟨rfl,⟨hk2.size,fun k o hB=>hk2.same k o (Nat.le_trans hI3.kp.size hB)⟩,hk1,⟨v',hI7,Nat.le_trans h2 hA.kp.size,h3⟩,b5,v',Sub.cons rfl (Sub.cons rfl (Sub.nil _)),hI6'.row 0 rfl,hI6'.row 2 rfl,?_,?_,?_⟩
   . intro hb
     exact hI6'.dis 0 1 _ _ rfl rfl (by omega) b5 (by simp[rowR]) hb
   . intro hb
     exact hI6'.dis 0 2 _ _ rfl rfl (by omega) b5 (by simp[rowR]) (by simp[rowR,hb])
   . exact hI6'.sepM _ (List.mem_cons_self ..) b5 (by simp[rowR])
 . rintro l' pre x L' W ⟨v',h1,h2,h3⟩ ⟨b5,u,hs,hr5,hru,h5u,h52,h5M⟩ hlt
   have huv:u=v':=by
    have e1:W.heap[b2]?=_:=hru
    have e2:W.heap[b2]?=_:=h1.row 1 rfl
    rw[e1] at e2
    have:=Option.some.inj e2
    injection this with h9
    simpa using h9
   subst huv
   refine ASS hs ?_
   refine AEE ?_
   have hC5:RdC (mm (E9 ReportE 45 24 b2 u (pre.map Subtype.val)) M) W b5 0 (AB2 x.1):=G8 (fun hb=>by
    simp only[mm,ownR,rowR,List.mem_append,List.mem_cons,List.not_mem_nil,or_false] at hb
    rcases hb with h9|h9|h9
    . exact h5u h9
    . exact h52 h9
    . exact h5M h9) hr5
   obtain⟨q0,q1,q2,q3,q4,q5,q6,q7⟩:=x.2
   refine AA8 rfl ?_
   refine V0 rfl ((h1.row 1 rfl).rd.cells.at 0 rfl) Tryz.isAgg24 rfl ?_
   refine AA3 rfl hC5.cells Tryz.isAgg45 rfl Tryz.sizeOf45 rfl ?_
   refine AJe (E:=ReportE) (xs:=[x.1]) ATV h1 rfl rfl (Cls.cons rfl Cls.nil) (Chs.cons (ReportE_R.2 ⟨rfl,q0,q1,q2,q3,q4,q5,q6,q7⟩) Chs.nil) rfl rfl ?_
   intro v8 w8 hI8 x8
   have hf9:=hI8.freeze 0 rfl
   have hI9:=hI8.erase 0
   have hlen:(pre.map Subtype.val).length+[x.1].length<=l.length:=by simp;omega
   refine AFc 0 ATV hI9 rfl rfl rfl hf9 ⟨?_,?_⟩ rfl ?_
   . omega
   . omega
   intro v10 w10 hI10 x10
   refine ABN 1 hI10 rfl rfl rfl (Own.cells1 (hI10.ownAt 0 rfl)) Tryz.sizeOf24 rfl rfl (C7 (Own.oneC (hI10.ownAt 0 rfl)) ACU) ?_
   intro w11 hI11 x11
   have hI12:Hp w [] M (E9 ReportE 45 24 b2 v10 ((pre++[x]).map Subtype.val)) w11:=by
    have h9:(pre++[x]).map Subtype.val=pre.map Subtype.val++[x.1]:=by simp
    rw[h9];exact hI11
   have hA:Adv (mm (E9 ReportE 45 24 b2 u (pre.map Subtype.val)) M) (mm (E9 ReportE 45 24 b2 v10 ((pre++[x]).map Subtype.val)) M) W w11:=by
    have h9:(pre++[x]).map Subtype.val=pre.map Subtype.val++[x.1]:=by simp
    rw[h9]
    exact x8.trans ((F8 (σ:=ownR [] ReportE 45 v8 [x.1] :: E9 ReportE 45 24 b2 u (pre.map Subtype.val)) 0).trans (x10.trans x11))
   obtain⟨hk1,hk2⟩:=h1.kb hI12 hA
   exact Reg.nil ⟨⟨hk2.size,fun k o hB=>hk2.same k o (Nat.le_trans hI3.kp.size hB)⟩,hk1,v10,hI12,Nat.le_trans h2 hA.kp.size,by simp;omega⟩
 . rintro D W hD ⟨v',h1,h2,h3⟩ hdef
   refine A6 ?_
   refine A9 ?_
   refine V0 rfl ((h1.row 1 rfl).rd.cells.at 0 rfl) Tryz.isAgg24 rfl ?_
   refine G0 rfl rfl ?_
   refine Reg.nil ?_
   refine J0 ?_
   have h9:=h1.turnG AQW (fun h=>h) (grownBy_putObj' W D (.deferred none)) fun j e=>by cases e;exact⟨Nat.le_trans hI3.kp.size hD,_,hdef,rfl⟩
   refine .inr ⟨D,_,rfl,run_takeDeferred hdef,v',fun a ha=>?_,v',rfl,h9.ownOut 0 rfl,h9.kp⟩
   rw[results_tmp Tryz.results102,ha.getD rfl]
end Go.Proofs.YtgioiejbphljoaaGreatDoor
set_option maxRecDepth 20000
set_option maxHeartbeats 4000000
namespace Go.Proofs.YtgioiejbphljoaaGreatDoor
open Go Go.Sx Go.Rx Go.RowKit
theorem AEd {M:List Nat} {w:World} (hM:MLt M w) {d:Desk_139} {v:Value} (hd:OkD (P:=Tryz.prog) M w (.st 14) d v) :
  Calls Tryz.prog 69 (List.toArray [v]) w fun e w'=>∃ v0:Value,e=.returned v0/\ItF M w' v0 d/\Ext w w':=by
 have hI:=Hp.start (Mu:=[]) hM
 have hd0:=hd
 obtain⟨cs,h1,h3⟩:=hd
 obtain rfl:v=.agg (List.toArray cs):=h3.elim (fun h=>h.2) fun h=>by cases h.1
 refine F9 (l:=[_]) (fn:=Tryz.f69) Tryz.func69 rfl Tryz.ntmps69 rfl ?_
 refine A6 ?_
 refine A9 ?_
 refine AAE hI rfl rfl rfl ?_
 intro b w2 hI2 x2
 refine G0 rfl rfl ?_
 refine Reg.nil ?_
 refine A6 ?_
 refine A9 ?_
 refine AD6 rfl rfl ?_
 refine G0 rfl rfl ?_
 refine Reg.nil ?_
 refine J0 ?_
 refine fin1 Tryz.results69 rfl ?_
 exact⟨_,rfl,⟨.pointer (some ⟨b,0,none⟩),rfl,b,0,_,_,rfl,(hI2.freezeRow 0 rfl).adv (Adv.refl _ _),OkD.adv hd0 (Adv.of_ext hI2.kp),rfl⟩,hI2.kp⟩
open Classical in
noncomputable def F2 (d:Desk_139):Option (List Report):=Option.bind (K1 d) fun l=>if l.length * 64<=140737488355328/\∀ r∈l,InR r then some l else none
theorem AGw {M:List Nat} {w:World} (hM:MLt M w) (hg:GlOk (P:=Tryz.prog) M w) {d:Desk_139} {v:Value} (hf:ItF M w v d) {r0:List Report} (h:F2 d=some r0) :
  Calls Tryz.prog 67 (List.toArray [v]) w fun e w'=>∃ v0_0:Value,e=.returned (v0_0)/\(Sx.Own ReportE 45 0 M w' v0_0 r0/\∀ b∈ob v0_0,w.heap.size<=b)/\Ext w w':=by
 unfold F2 at h
 obtain⟨l,hl,h⟩:=Q1 h
 split at h
 . rename_i hc
   obtain rfl:=Option.some.inj h
   obtain⟨xs,hxs⟩:∃ xs:List AEc,xs.map Subtype.val=l:=⟨l.attach.map fun r=>⟨r.1,hc.2 r.1 r.2⟩,by rw[List.map_map];exact List.attach_map_subtype_val l⟩
   refine F9 Tryz.func67 rfl Tryz.ntmps67 rfl ?_
   refine A6 ?_
   refine A9 ?_
   refine G0 rfl rfl ?_
   refine Reg.nil ?_
   refine A6 ?_
   refine A9 ?_
   refine H9 rfl rfl ?_
   refine W7 rfl Tryz.call102 rfl ?_
   refine (AFQ hM hg hf (l:=xs) (by rw[hxs];exact hl) (by have:=congrArg List.length hxs;rw[List.length_map] at this;rw[this];exact hc.1)).mono ?_
   rintro _ w2 ⟨v,rfl,ho,hx⟩
   refine⟨_,rfl,?_⟩
   refine G0 rfl rfl ?_
   refine Reg.nil ?_
   refine J0 ?_
   refine fin1 Tryz.results67 rfl ?_
   rw[hxs] at ho
   exact⟨_,rfl,ho,hx⟩
 . cases h
noncomputable def c29:Code:=match Tryz.f29.body with
 |some c=>c
 |none=>.skip
def ATk:Sh:=⟨[(.slot 0,.d (.sl (.st 1))),(.slot 1,.d (.int .i64))],[]⟩
noncomputable def AM0:Gx:={ gxb with fs:=[(65,ctr65),(66,ctr66)] }
theorem ALx:GxOk Tryz.prog AM0:=B1 ⟨⟨ok65,Tryz.call65⟩,⟨⟨ok66,Tryz.call66⟩,trivial⟩⟩
noncomputable def J5 (l:List Report) (known:Int):Option (List Report×Int):=Option.bind (T2 l known) fun x=>Sum.elim (fun y=>Option.bind (U1 y.1 y.2) fun d=>Option.bind (F2 d) fun r=>some ((r,(0:Int)):List Report×Int)) (fun r=>some r) x
def cs29:List Ck:=[.own (.sl 45 (.st 1)),.d (.int .i64)]
theorem AVp (l:List Report) (known:Int):V7 AM0 21 (U0 AM0 cs29 Tryz.f29.results.toList) (N0 2 c29) ALv (fun σ=>match H6 ATk σ with
 |some x=>some (Sum.inl x)
 |none=>none) (fun r=>some (Sum.inr r)) ⟨[(0,.dat (.sl (.st 1)) l),(1,.int .i64 known)],[],[],[]⟩=T2 l known:=by kernel_rfl
noncomputable def ctr29:Ctr:=⟨[.d (.sl (.st 1)),.d (.int .i64)],cs29,fun a=>J5 a.1 a.2.1⟩
theorem ok29:Ctr.ok Tryz.prog 29 ctr29:=by
 refine⟨by decide,fun M w a vals r hM hg ha hr=>?_⟩
 obtain⟨l,known,_⟩:=a
 obtain⟨vl,_,rfl,hvl,⟨vk,_,rfl,hvk,rfl⟩⟩:=ha
 have hr:J5 l known=some r:=hr
 unfold J5 at hr
 obtain⟨z,hz,hr⟩:=Q1 hr
 have hvl:OkD (P:=Tryz.prog) M w (.sl (.st 1)) l vl:=hvl
 have hvk:OkD (P:=Tryz.prog) M w (.int .i64) known vk:=hvk
 have h0:Holds (P:=Tryz.prog) w [] M ⟨[(0,.dat (.sl (.st 1)) l),(1,.int .i64 known)],[],[],[]⟩ [(0,vl),(1,vk)] w:=by
  refine⟨[],fun _=>undef,fun _=>[],fun _=>[],fun _=>0,⟨Hp.start hM,(fun i a h=>by cases h),(fun i j a b h=>by cases h),(fun i a h=>by cases h),fun t s ht=>?_,⟨trivial,hg⟩⟩⟩
  rw[fnd_cons] at ht
  split at ht
  . rename_i e;subst e;cases ht;exact⟨vl,rfl,rfl,hvl⟩
  rw[fnd_cons] at ht
  split at ht
  . rename_i e;subst e;cases ht;exact⟨vk,rfl,D6 (.int .i64) hvk⟩
  . cases ht
 refine F9 (l:=[vl,vk]) (fn:=Tryz.f29) Tryz.func29 rfl rfl rfl ?_
 refine ACz (P:=Tryz.prog) (pr:=U0 AM0 cs29 Tryz.f29.results.toList) ALx 2 c29 ALv (by decide) ((AVp l known).trans hz) h0 (fun σ' L' w1 hK hE hH=>?_) (fun r' σ' L' w' hp hk hH=>?_)
 . cases hpk:H6 ATk σ' with
   |none=>rw[hpk] at hK;cases hK
   |some x=>
   rw[hpk] at hK
   cases hK
   obtain⟨l,known⟩:=x
   have hH2:=hH.packed hpk
   obtain⟨S,ρ,γ,μ,ι,hS⟩:=hH2
   obtain⟨v0,l0,e0⟩:=hS.env 0 (.dat (.sl (.st 1)) l) rfl
   obtain⟨v1,l1,rfl,e1⟩:=hS.env 1 (.int .i64 known) rfl
   have hr:(Option.bind (U1 l known) fun d=>Option.bind (F2 d) fun r=>some ((r,(0:Int)):List Report×Int))=some r:=hr
   obtain⟨d,hd,hr⟩:=Q1 hr
   obtain⟨r1,hr1,hr⟩:=Q1 hr
   cases hr
   have hM1:MLt (mm S M) w1:=hS.hp.mlt
   have hg1:GlOk (P:=Tryz.prog) (mm S M) w1:=hS.anch.2
   refine A6 ?_
   refine A9 ?_
   refine H9 l0 rfl ?_
   refine H9 (v:=.int .i64 known) (by show Sx.A5 ((16,v0) :: L') 1=some (.int .i64 known);rw[look_cons,if_neg (by decide)];exact l1) rfl ?_
   refine W7 rfl Tryz.call68 rfl ?_
   refine (ok68.2 (mm S M) w1 (l,known,()) [v0,.int .i64 known] d hM1 hg1 ⟨v0,_,rfl,e0.2,_,[],rfl,⟨[_],⟨rfl,e1⟩,.inr ⟨rfl,rfl⟩⟩,rfl⟩ hd).mono ?_
   rintro _ w2 ⟨_,rfl,⟨v2,rfl,h2⟩,x2⟩
   refine⟨_,rfl,?_⟩
   have h2:OkD (P:=Tryz.prog) (mm S M) w2 (.st 14) d v2:=h2
   refine W7 rfl Tryz.call69 rfl ?_
   refine (AEd (hM1.ext x2) h2).mono ?_
   rintro _ w3 ⟨v3,rfl,h3,x3⟩
   refine⟨_,rfl,?_⟩
   refine W7 rfl Tryz.call67 rfl ?_
   refine (AGw ((hM1.ext x2).ext x3) ((hg1.adv (Adv.of_ext x2)).adv (Adv.of_ext x3)) h3 hr1).mono ?_
   rintro _ w4 ⟨v4,rfl,⟨h4,h5⟩,x4⟩
   refine⟨_,rfl,?_⟩
   refine G0 rfl rfl ?_
   refine G0 rfl rfl ?_
   refine Reg.nil ?_
   refine J0 ?_
   refine AWO Tryz.results29 rfl rfl ?_
   refine⟨[v4,.int .i64 0],rfl,⟨v4,_,rfl,⟨trivial,h4.mon fun b hb=>(List.mem_append.1 hb).imp id fun h=>mem_mm.2 (.inr h),fun b hb=>?_⟩,_,rfl,⟨[.int .i64 0],⟨rfl,(by decide:InK .i64 0)⟩,.inr ⟨rfl,rfl⟩⟩⟩,?_⟩
   . exact Nat.le_trans hS.hp.kp.size (Nat.le_trans x2.size (Nat.le_trans x3.size (h5 b hb)))
   . exact ((hS.hp.kp.trans x2).trans x3).trans x4
 . have hk:Sum.inr r'=z:=Option.some.inj hk
   subst hk
   have hr:some r'=some r:=hr
   cases hr
   exact AKz ALx (by decide) hp hH
end Go.Proofs.YtgioiejbphljoaaGreatDoor
set_option maxRecDepth 20000
set_option maxHeartbeats 4000000
namespace Go.Rx
open Go Go.Sx Go.RowKit
section
variable [Trk] [Sg] [Sf] {P:Program} [Se P] [Anch]
variable {w0 w:World} {Mu M:List Nat} {L:A7} {G:Gx} {N:Nat} {ds:List Deferred} {A B:A3} {X:Nat->A3} {Z:List PanicEntry->A3}
def AllE (env:List (Nat×SV)):List (Nat×SV)->Prop
 |[]=>True
 |p :: l=>A1 env p.1=some p.2/\AllE env l
theorem AllE.out {env:List (Nat×SV)} {t:Nat} {s:SV}:∀ {l:List (Nat×SV)},AllE env l->A1 l t=some s->A1 env t=some s
 |[],_,h=>by cases h
 |(k,u) :: l,⟨h1,h2⟩,h=>by
  rw[fnd_cons] at h
  split at h
  . rename_i e;subst e;cases h;exact h1
  . exact AllE.out h2 h
theorem Holds.fewer {env env':List (Nat×SV)} {res:List (Nat×AR)} {kl kl':List Nat} {ch ch':List (Nat×Nat)} (h:Holds (P:=P) w0 Mu M ⟨env,res,kl,ch⟩ L w) (hE:AllE env env'):Holds (P:=P) w0 Mu M ⟨env',res,kl',ch'⟩ L w:=by
 obtain⟨S,ρ,γ,μ,ι,hS⟩:=h
 exact⟨S,ρ,γ,μ,ι,hS.hp,hS.res,hS.inj,hS.row,fun t s ht=>hS.env t s (hE.out ht),hS.anch⟩
theorem AA1 [Sl (P:=P)] (hG:GxOk P G) {id:Nat} {ops:List Oper} {σ σ':AS} (h:C3 G N ops some ops σ=some σ') (hH:Holds (P:=P) w0 Mu M σ L w) (hA:∀ L' w',EnvS (C2 ops) L L'->Holds (P:=P) w0 Mu M σ' L' w'->A ds L' w'):CW P N (.region id (List.toArray ops) false) ds L w A B X Z:=
 A9 (R4 hG ops σ L w h (fun _ ht=>ht) hH fun σ1 L1 w1 h1 _ hE hH1=>by cases h1;exact hA L1 w1 hE hH1)
theorem Holds.slotB {σ:AS} {t:Nat} {b:Bool} (h:Holds (P:=P) w0 Mu M σ L w) (ht:A1 σ.env t=some (.bool b)):Sx.A5 L t=some (.bool b):=by
 obtain⟨S,ρ,γ,μ,ι,hS⟩:=h
 obtain⟨v,h1,h2⟩:=hS.env t _ ht
 have h2:v=.bool b:=h2
 subst h2;exact h1
theorem AM1 [Sl (P:=P)] (hG:GxOk P G) {id:Nat} {ops:List Oper} {σ σ':AS} {Y:Type} {o:Option Y} {x:Y} {K:Y->Option AS} (hb:o=some x) (h:C3 G N ops some ops σ=Option.bind o K) (hk:K x=some σ') (hH:Holds (P:=P) w0 Mu M σ L w) (hA:∀ L' w',EnvS (C2 ops) L L'->Holds (P:=P) w0 Mu M σ' L' w'->A ds L' w'):CW P N (.region id (List.toArray ops) false) ds L w A B X Z:=
 AA1 hG (by rw[h,hb];exact hk) hH hA
theorem Holds.ops [Sl (P:=P)] (hG:GxOk P G) {all l rest:List Oper} {σ σ':AS} (h:C3 G N all some l σ=some σ') (hH:Holds (P:=P) w0 Mu M σ L w) (hA:∀ L' w',EnvS (C2 l) L L'->Holds (P:=P) w0 Mu M σ' L' w'->Reg P N (List.toArray all) .seq rest ds L' w' A B X Z):Reg P N (List.toArray all) .seq (l++rest) ds L w A B X Z:=by
 have key:=R4 (P:=P) (ops:=all) (ds:=ds) (B:=B) (X:=X) (Z:=Z) (W:=C2 l) hG l σ L w h (fun _ ht=>ht) hH (A:=fun ds' L' w'=>Reg P N (List.toArray all) .seq rest ds' L' w' A B X Z) fun σ1 L1 w1 h1 _ hE hH1=>by cases h1;exact hA L1 w1 hE hH1
 exact fun a ha=>V6 (fun a w h=>by
  obtain⟨ds',L',hk,hr⟩:=h
  exact hr a hk) l a w (key a ha)
theorem Holds.toL {σ:AS} {L2:A7} (h:Holds (P:=P) w0 Mu M σ L w) (he:∀ t s,A1 σ.env t=some s->Sx.A5 L2 t=Sx.A5 L t):Holds (P:=P) w0 Mu M σ L2 w:=by
 obtain⟨S,ρ,γ,μ,ι,hS⟩:=h
 exact⟨S,ρ,γ,μ,ι,hS.envTo fun t s ht=>(he t s ht).symm⟩
end
section
variable [Trk] [Sg] [Sf] {P:Program} [Se P] [Anch]
variable {w0 w:World} {Mu M:List Nat} {σ:AS} {L:A7} {S:List Res} {ρ:Nat->Value} {γ:Nat->List Value} {μ:Nat->List Nat} {ι:Nat->Nat} {G:Gx} {N:Nat} {ds:List Deferred} {A B:A3} {X:Nat->A3} {Z:List PanicEntry->A3}
theorem Holds.res {env:List (Nat×SV)} {res res':List (Nat×AR)} {kl kl':List Nat} {ch ch':List (Nat×Nat)} (h:Holds (P:=P) w0 Mu M ⟨env,res,kl,ch⟩ L w) (hr:∀ j,A1 res' j=A1 res j):Holds (P:=P) w0 Mu M ⟨env,res',kl',ch'⟩ L w:=by
 obtain⟨S,ρ,γ,μ,ι,hS⟩:=h
 have e:A1 res'=A1 res:=funext hr
 refine⟨S,ρ,γ,μ,ι,hS.hp,fun i a h=>hS.res i a ((hr i).symm.trans h),fun i j a b h1 h2=>hS.inj i j a b ((hr i).symm.trans h1) ((hr j).symm.trans h2),fun i a h=>?_,fun t s ht=>?_,hS.anch⟩
 . have:=hS.row i a ((hr i).symm.trans h)
   show RowOk ρ (A1 res') _ _ _ _ _
   rw[e];exact this
 . obtain⟨v,h1,h2⟩:=hS.env t s ht
   refine⟨v,h1,?_⟩
   show Ok ρ (A1 res') _ _ _ _
   rw[e];exact h2
end
section
variable [Trk] [Sg] [Sf] {P:Program} [Se P]
theorem Holds.start [Anch] {M:List Nat} {w:World} {env:List (Nat×SV)} {L:A7} (hM:MLt M w) (hE:∀ t s,A1 env t=some s->∃ v,Sx.A5 L t=some v/\Ok (P:=P) (fun _=>undef) (fun _=>none) M w s v) (hA:AnOk M w):Holds (P:=P) w [] M ⟨env,[],[],[]⟩ L w:=
 ⟨[],fun _=>undef,fun _=>[],fun _=>[],fun _=>0,⟨Hp.start hM,(fun i a h=>by cases h),(fun i j a b h=>by cases h),(fun i a h=>by cases h),hE,hA⟩⟩
theorem Holds.ends [Anch] {M:List Nat} {w w':World} {Mu:List Nat} {σ:AS} {L:A7} (h:Holds (P:=P) w Mu M σ L w'):Kp Mu w w':=by
 obtain⟨S,ρ,γ,μ,ι,hS⟩:=h
 exact hS.hp.kp
end
section
variable {P:Program}
theorem ABH [Trk] [Sg] [Sf] [Se P] [Sl (P:=P)] [Anch] {w0 w:World} {Mu M:List Nat} {L:A7} {G:Gx} {N:Nat} {ds:List Deferred} {A B:A3} {X:Nat->A3} {Z:List PanicEntry->A3} {id:Nat} {ops:List Oper} {σ σ':AS} {Y:Type} {o:Option Y} {x:Y} {K:Y->Option AS} (hG:GxOk P G) (hH:Holds (P:=P) w0 Mu M σ L w) (hb:o=some x) (h:C3 G N ops some ops σ=Option.bind o K) (hk:K x=some σ') (hA:∀ L' w',EnvS (C2 ops) L L'->Holds (P:=P) w0 Mu M σ' L' w'->A ds L' w'):CW P N (.region id (List.toArray ops) false) ds L w A B X Z:=
 AM1 hG hb h hk hH hA
theorem AEe [Trk] [Sg] [Sf] [Se P] [Anch] {w0 w:World} {Mu M:List Nat} {L:A7} {σ:AS} {env':List (Nat×SV)} {res':List (Nat×AR)} (h:Holds (P:=P) w0 Mu M σ L w) (hE:AllE σ.env env') (hr:∀ j,A1 res' j=A1 σ.res j) (kl':List Nat:=[]) (ch':List (Nat×Nat):=[]):Holds (P:=P) w0 Mu M ⟨env',res',kl',ch'⟩ L w:=by
 obtain⟨e,r,kl,ch⟩:=σ
 exact Holds.res (kl:=kl') (ch:=ch') (h.fewer hE) hr
end
end Go.Rx
namespace Go.Sx
open Go Go.RowKit
variable [Trk]
section
variable {n:Nat} {P:Program} {N:Nat} {ops:Array Oper} {rest:List Oper} {ds:List Deferred} {L:A7} {w:World} {A B:A3} {X:Nat->A3} {Z:List PanicEntry->A3}
theorem AHs {f x y:Operand} {l d:Nat} {v u:Value} {ts:Array TypeId} {ty:TypeId} {pos:String} {af:Array Edge} {R:Ending->World->Prop} (hf:ev L f=some (.func (.yield l) #[] #[])) (hx:ev L x=some v) (hy:ev L y=some u) (hN:Nat.blt d N=true)
  (hY:YieldAt Fence.wide (n - 1) P l #[v,u] w R) (h:∀ e w',R e w'->∃ q,e=.returned q/\Rgi n P N ops rest ds ((d,q) :: L) w' A B X Z) :
  Rgi n P N ops (⟨some d,.call ⟨.value f,#[x,y],ts⟩,ty,pos,af,none⟩ :: rest) ds L w A B X Z:=fun a ha=>by
 obtain⟨fn,tmps,assign,body,hy',hR⟩:=hY
 unfold wpListIn
 rw[if_pos (by rfl)]
 refine⟨fun _ _=>trivial,?_⟩
 have hs:∀ o:Oper,J2 o.op=true->Oper.semAt Fence.wide.round a.eval o=execOp a.eval o:=fun o hdf=>Oper.semAt_eq _ _ _ fun c hc=>by rw[hc] at hdf;simp[J2] at hdf
 rw[hs _ rfl]
 have hrun:(execOp a.eval ⟨some d,.call ⟨.value f,#[x,y],ts⟩,ty,pos,af,none⟩).run P w=.ok (.round l fn tmps assign body) w:=by
  simp[execOp,resolve,ha.eval hf,ha.eval hx,ha.eval hy,Deferred.ofValue,invoke,hy']
 rw[hrun]
 refine⟨fun e=>(by cases e),hR.mono fun e w' h'=>?_⟩
 obtain⟨q,rfl,h2⟩:=h e w' h'
 exact h2 _ (ha.put hN q)
theorem Rgi.take {d:Option Tmp} {op:Op} {ty:TypeId} {pos:String} {after:Array Edge} {j t:Nat} {b:Bool} (hj:(ops[j]?).bind (·.dst)=some t) (ht:A5 L t=some (.bool b))
  (h:Rgi n P N ops (⟨d,op,ty,pos,after,none⟩ :: rest) ds L w A B X Z):Rgi n P N ops (⟨d,op,ty,pos,after,some (j,b)⟩ :: rest) ds L w A B X Z:=fun a ha=>by
 have:=h a ha
 have e:Region.wanted (⟨d,op,ty,pos,after,some (j,b)⟩:Oper) (yielded ops a.tmps)=true:=by simp only[Region.wanted,U9 ha hj ht,BEq.rfl]
 have e0:Region.wanted (⟨d,op,ty,pos,after,none⟩:Oper) (yielded ops a.tmps)=true:=rfl
 unfold wpListIn at this ⊢
 rw[if_pos e0] at this
 rw[if_pos e]
 exact this
theorem Rgi.pass {d:Nat} {op:Op} {ty:TypeId} {pos:String} {after:Array Edge} {j t:Nat} {b b':Bool} (hN:Nat.blt d N=true) (hj:(ops[j]?).bind (·.dst)=some t) (ht:A5 L t=some (.bool b')) (hb:(b'==b)=false)
  (h:Rgi n P N ops rest ds ((d,undef) :: L) w A B X Z):Rgi n P N ops (⟨some d,op,ty,pos,after,some (j,b)⟩ :: rest) ds L w A B X Z:=fun a ha=>by
 have hw:Region.wanted (⟨some d,op,ty,pos,after,some (j,b)⟩:Oper) (yielded ops a.tmps)=false:=by
  simp only[Region.wanted,U9 ha hj ht]
  simpa using hb
 unfold wpListIn
 rw[if_neg (by rw[hw];decide)]
 exact⟨fun _ _=>trivial,h _ (ha.put hN _)⟩
end
end Go.Sx
namespace Go.Rx
open Go Go.Sx Go.RowKit
variable [Trk] [Sg] [Sf]
section
variable {P:Program} [Se P] {N:Nat} {ds:List Deferred} {A B:A3} {X:Nat->A3} {Z:List PanicEntry->A3}
def AXC (ops:List Oper):Bool:=(List.range ops.length).all fun k=>match ops[k]? with
 |some o=>o.after.toList.all fun e=>!(Region.binds .any e)||Nat.blt e.on k
 |none=>true
theorem APl {ops:List Oper} (h:AXC ops=true):∀ (k:Nat) (o:Oper),ops[k]?=some o->∀ e∈o.after.toList,Region.binds .any e=true->e.on < k:=fun k o ho e he hb=>by
 have hk:k < ops.length:=(List.getElem?_eq_some_iff.1 ho).1
 have h1:=List.all_eq_true.1 h k (List.mem_range.2 hk)
 rw[ho] at h1
 have h2:=List.all_eq_true.1 h1 e he
 rw[hb] at h2
 simpa using h2
theorem AOP {id:Nat} {ops:List Oper} {L0:A7} {w0:World} (hm:P.follows .mixedOrders=true) (hd:ops.all (fun o=>J2 o.op)=true) (hg:ops.all (fun o=>o.guard.isNone)=true) (J:(Nat->Bool)->A7->World->Prop) (h0:J (fun _=>false) L0 { w0 with drawn:=w0.drawn+1 })
  (low:∀ k o,ops[k]?=some o->∀ e∈o.after.toList,Region.binds .any e=true->e.on < k)
  (step:∀ D L w k o,J D L w->D k=false->ops[k]?=some o->(∀ e∈o.after.toList,Region.binds .any e=true->D e.on=true)->Reg P N (List.toArray ops) .seq [o] ds L w (fun ds' L' w'=>ds'=ds/\J (fun j=>Nat.beq j k||D j) L' w') B X Z)
  (fin:∀ D L w,(∀ k,k < ops.length->D k=true)->J D L w->A ds L w):CW P N (.region id (List.toArray ops) true) ds L0 w0 A B X Z:=by
 refine X8 (n:=3) (AN6 hm hd fun a ha=>?_)
 have hsize:(List.toArray ops).size=ops.length:=by simp
 have key:∀ (n:Nat) (listed:Array Bool) (a:Act) (w:World) (L:A7),listed.size=ops.length->((List.range ops.length).filter fun k=>!listed.getD k false).length=n->Knows N ds L a->J (fun k=>listed.getD k false) L w->wpAny P .any (List.toArray ops) (Q3 N A B X Z) n listed a w:=by
  intro n
  induction n with
  |zero=>
   intro listed a w L hsz hn hk hJ
   have hall:∀ k,k < ops.length->listed.getD k false=true:=fun k hk=>by
    cases hb:listed.getD k false with
    |true=>rfl
    |false=>
     have:k∈(List.range ops.length).filter fun k=>!listed.getD k false:=List.mem_filter.2 ⟨List.mem_range.2 hk,by rw[hb];rfl⟩
     rw[List.eq_nil_of_length_eq_zero hn] at this
     cases this
   refine⟨List.eq_nil_iff_forall_not_mem.2 fun k hk=>?_,ds,L,hk,fin _ L w hall hJ⟩
   obtain⟨h0,o,ho,_⟩:=mem_ready.1 hk
   have hk':k < ops.length:=by rw[<-hsize];exact (Array.getElem?_eq_some_iff.1 ho).1
   have:=hall k hk'
   rw[ADd (by rw[hsz];exact hk') true false,this] at h0;cases h0
  |succ n ih=>
   intro listed a w L hsz hn hk hJ
   refine⟨fun hr=>?_,fun i hi=>?_⟩
   . have hall:∀ m k,k < ops.length->k < m->listed.getD k false=true:=by
      intro m
      induction m with
      |zero=>intro k _ hm;omega
      |succ m ihm=>
       intro k hk hm
       cases hb:listed.getD k false with
       |true=>rfl
       |false=>
        obtain⟨o,ho⟩:∃ o,ops[k]?=some o:=⟨ops[k],by simp[hk]⟩
        have:k∈Region.ready .any (List.toArray ops) listed:=mem_ready.2 ⟨by rw[ADd (by rw[hsz];exact hk) true false];exact hb,o,by rw[List.getElem?_toArray];exact ho,fun e he hbd=>by
         have:=low k o ho e (Array.mem_toList_iff.2 he) hbd
         exact ihm e.on (by omega) (by omega)⟩
        rw[hr] at this;cases this
     exact⟨ds,L,hk,fin _ L w (fun k hk=>hall (k+1) k hk (Nat.lt_succ_self k)) hJ⟩
   . obtain⟨hi0,o,hoi,hiall⟩:=mem_ready.1 hi
     have his:i < ops.length:=by rw[<-hsize];exact (Array.getElem?_eq_some_iff.1 hoi).1
     have hoi':ops[i]?=some o:=by rw[List.getElem?_toArray] at hoi;exact hoi
     rw[ADd (by rw[hsz];exact his) true false] at hi0
     have hlsz:i < listed.size:=by rw[hsz];exact his
     have h1:=step _ L w i o hJ hi0 hoi' (fun e he hbd=>hiall e (Array.mem_toList_iff.1 he) hbd) a hk
     have hgd:o.guard=none:=by
      have:=List.all_eq_true.1 hg o (List.mem_of_getElem? hoi')
      simpa using this
     have hw:Region.wanted o (yielded (List.toArray ops) a.tmps)=true:=by simp[Region.wanted,hgd]
     unfold wpOp
     rw[hoi]
     simp only[hw,if_true]
     left
     simp only[wpList] at h1
     rw[if_pos hw] at h1
     refine ACr (h1.resolve_right fun hh=>ABZ hh.2) ?_ (fun c a w hz=>hz) ABZ
     rintro a' w' ⟨ds',L',hk',rfl,hJ'⟩
     have hfun:(fun k=>(listed.setIfInBounds i true).getD k false)=fun j=>Nat.beq j i||listed.getD j false:=by
      funext k
      by_cases e:k=i
      . subst e
        simp[hlsz]
      . rw[getD_set_ne false (Ne.symm e)]
        have:Nat.beq k i=false:=by
         cases hb:Nat.beq k i with
         |false=>rfl
         |true=>exact absurd (Nat.eq_of_beq_eq_true hb) e
        rw[this,Bool.false_or]
     refine ih _ a' w' L' (by simp[hsz]) ?_ hk' (by rw[hfun];exact hJ')
     have hfil:((List.range ops.length).filter fun k=>!(listed.setIfInBounds i true).getD k false)=((List.range ops.length).filter fun k=>!listed.getD k false).erase i:=by
      rw[List.Nodup.erase_eq_filter (List.Pairwise.filter _ List.nodup_range),List.filter_filter]
      refine List.filter_congr fun k hk=>?_
      have:=congrFun hfun k
      rw[this]
      by_cases e:k=i
      . subst e;simp
      . have:Nat.beq k i=false:=by
         cases hb:Nat.beq k i with
         |false=>rfl
         |true=>exact absurd (Nat.eq_of_beq_eq_true hb) e
        simp[this,e]
     rw[hfil,List.length_erase_of_mem (List.mem_filter.2 ⟨List.mem_range.2 his,by rw[hi0];rfl⟩),hn]
     rfl
 have hz:(fun k=>(Array.replicate (List.toArray ops).size false).getD k false)=fun _=>false:=funext fun k=>by
  rw[Array.getD_eq_getD_getElem?,Array.getElem?_replicate]
  split <;> rfl
 refine key _ _ a _ L0 (by simp) ?_ ha (by rw[hz];exact h0)
 have:((List.range ops.length).filter fun k=>!(Array.replicate (List.toArray ops).size false).getD k false)=List.range ops.length:=List.filter_eq_self.2 fun k _=>by simp[Array.getD]
 rw[this];simp
end
end Go.Rx
set_option maxRecDepth 20000
set_option maxHeartbeats 4000000
namespace Go.Proofs.YtgioiejbphljoaaGreatDoor
open Go Go.Sx Go.Rx Go.RowKit
def K5:Enc Value:=⟨1,Nat.one_pos,fun _ _ cs x=>cs=[x]/\x.oneCell'=true,fun h=>by rw[h.1];rfl,fun _ h=>h,fun _ h=>h,fun h u hu=>by rw[h.1] at hu;rw[List.mem_singleton.1 hu];exact h.2⟩
noncomputable abbrev K3:Ky Tryz.prog 3 Int:=V2 .i64 Tryz.underlying3
def AFR (x:Answer):List Value:=[.int .i64 x.id,.int .i64 x.dispute,.int .i64 x.day,.int .u8 x.says,.int .i64 x.about,.int .i64 x.cents]
def InA (x:Answer):Prop:=InK .i64 x.id/\InK .i64 x.dispute/\InK .i64 x.day/\InK .u8 x.says/\InK .i64 x.about/\InK .i64 x.cents
theorem AXD {M:List Nat} {w:World} {x:Answer} (h:InA x):AnswerE.R M w (AFR x) x:=AnswerE_R.2 ⟨rfl,h⟩
noncomputable def r70:Code:=match Tryz.f70.body with
 |some (.seq _ (.seq _ (.seq _ (.seq _ (.seq (.seq _ (.block _ (.loop (.seq _ (.seq _ (.seq (.block _ (.seq _ r)) _)))))) _)))))=>r
 |_=>.skip
noncomputable def o70:List Oper:=match r70 with
 |.region _ l _=>l.toList
 |_=>[]
def AM2:List Nat:=[51,52,53,54,55,56,57,58,59,60,61,62]
def HA (w0 w:World) (M:List Nat) (σ σ':List Res) (W:World):Prop:=Hp w0 [] M σ' W/\Adv (mm σ M) (mm σ' M) w W
structure J70 (w0 w1:World) (M:List Nat) (σ:List Res) (i jm b4 b11 bm:Nat) (v:Value) (l:List Answer) (a:Answer) (g:A4 Int Value) (L0:A7) (D:Nat->Bool) (L:A7) (W:World):Prop where
 base:∀ t,t∉AM2->Sx.A5 L t=Sx.A5 L0 t
 f0:D 0=true->Sx.A5 L 51=some (.pointer (some ⟨b4,7,none⟩))
 f1:D 1=true->Sx.A5 L 52=some (.map (some bm))
 f2:D 2=true->Sx.A5 L 53=some (.pointer (some ⟨b11,1,none⟩))
 f3:D 3=true->Sx.A5 L 54=some (.int .i64 a.dispute)
 f4:D 4=true->Sx.A5 L 55=some (.pointer (some ⟨b4,7,none⟩))
 f5:D 5=true->Sx.A5 L 56=some (.map (some bm))
 f6:D 6=true->Sx.A5 L 57=some (.pointer (some ⟨b11,1,none⟩))
 f7:D 7=true->Sx.A5 L 58=some (.int .i64 a.dispute)
 f8:D 8=true->Sx.A5 L 59=some v
 f9:D 9=true->Sx.A5 L 60=some (.agg (List.toArray (AFR a)))
 r10:D 10=true->D 9=true
 r11:D 11=true->D 8=true/\D 9=true/\D 10=true
 r12:D 12=true->∀ j,j < 12->D j=true
 p0:D 11=false->HA w0 w1 M σ σ W
 p1:D 10=true->D 11=false->∃ vb,Sx.A5 L 61=some vb/\RdS AnswerE (mm σ M) W vb [a]
 p2:D 11=true->D 12=false->∃ v',Sx.A5 L 62=some v'/\v'.oneCell'=true/\HA w0 w1 M σ (σ.set i (ownR [] AnswerE 60 v' (l++[a]))) W
 p3:D 12=true->∃ v',HA w0 w1 M σ ((σ.set i (ownR [] AnswerE 60 v' (l++[a]))).set jm (mapO K3 K5 false bm (B7 g a.dispute v'))) W
theorem AM3 {w0:World} {M:List Nat} {σ:List Res} {w:World} {L:A7} {i jm j4 j11 b4 b11 bm:Nat} {v:Value} {l:List Answer} {a:Answer} {g:A4 Int Value} {cs4:List Value} {A B:A3} {X:Nat->A3} {Z:List PanicEntry->A3}
  (hI:Hp w0 [] M σ w) (hi:σ[i]?=some (ownR [] AnswerE 60 v l)) (hm:σ[jm]?=some (mapO K3 K5 false bm g)) (h4:σ[j4]?=some (rowR 99 b4 cs4)) (hc4:cs4[7]?=some (.map (some bm))) (h11:σ[j11]?=some (rowR 60 b11 (AFR a))) (hia:InA a) (hv:(g a.dispute).getD (.slice none 0 0)=v)
  (d1:i≠jm) (d2:i≠j4) (d3:i≠j11) (hlen:(l.length+1) * 48<=140737488355328) (l4:Sx.A5 L 4=some (.pointer (some ⟨b4,0,none⟩))) (l11:Sx.A5 L 11=some (.pointer (some ⟨b11,0,none⟩)))
  (hA:∀ v' L' w',(∀ t,t∉AM2->Sx.A5 L' t=Sx.A5 L t)->HA w0 w M σ ((σ.set i (ownR [] AnswerE 60 v' (l++[a]))).set jm (mapO K3 K5 false bm (B7 g a.dispute v'))) w'->A [] L' w'):CW Tryz.prog 65 r70 [] L w A B X Z:=by
 refine AOP (ops:=o70) gx_mix (by decide) (by decide) (J70 w0 w M σ i jm b4 b11 bm v l a g L) ?_ (APl (by decide)) ?_ ?_
 . exact⟨fun _ _=>rfl,(fun h=>by cases h),(fun h=>by cases h),(fun h=>by cases h),(fun h=>by cases h),(fun h=>by cases h),(fun h=>by cases h),(fun h=>by cases h),(fun h=>by cases h),(fun h=>by cases h),(fun h=>by cases h),(fun h=>by cases h),(fun h=>by cases h),(fun h=>by cases h),(fun _=>⟨hI.ext (Kp.drew _ _),Adv.of_ext (Kp.drew _ _)⟩),(fun h=>by cases h),(fun h=>by cases h),(fun h=>by cases h)⟩
 . intro D L' W k o hJ hk ho hdep
   have common:k < 12->D 12=false/\Row 99 W b4 cs4/\Row 60 W b11 (AFR a):=fun hlt=>by
    have hD12:D 12=false:=by
     cases hb:D 12 with
     |false=>rfl
     |true=>rw[hJ.r12 hb k hlt] at hk;cases hk
    cases h11':D 11 with
    |false=>exact⟨hD12,(hJ.p0 h11').1.row j4 h4,(hJ.p0 h11').1.row j11 h11⟩
    |true=>
     obtain⟨v',_,_,hp⟩:=hJ.p2 h11' hD12
     exact⟨hD12,hp.1.row j4 (by rw[List.getElem?_set_ne d2];exact h4),hp.1.row j11 (by rw[List.getElem?_set_ne d3];exact h11)⟩
   match k,hk,ho,hdep,common with
   |0,hk,ho,hdep,common=>
    obtain⟨hD12,row4,row11⟩:=common (by decide)
    clear common
    have ho:=Option.some.inj (show some _=some o from ho)
    subst ho
    refine ABM ((hJ.base 4 (by decide)).trans l4) Tryz.underlying99 rfl Tryz.sizeOf97 rfl ?_
    exact Reg.nil ⟨rfl,⟨fun t ht=>(by rw[look_cons,if_neg (fun e=>ht (by subst e;decide))];exact hJ.base t ht),fun _=>rfl,hJ.f1,hJ.f2,hJ.f3,hJ.f4,hJ.f5,hJ.f6,hJ.f7,hJ.f8,hJ.f9,hJ.r10,hJ.r11,fun h j hj=>by rw[hJ.r12 h j hj,Bool.or_true],hJ.p0,hJ.p1,hJ.p2,hJ.p3⟩⟩
   |1,hk,ho,hdep,common=>
    obtain⟨hD12,row4,row11⟩:=common (by decide)
    clear common
    have ho:=Option.some.inj (show some _=some o from ho)
    subst ho
    refine V0 (hJ.f0 (hdep _ (List.mem_of_getElem? (i:=0) rfl) rfl)) (row4.rd.cells.at 7 hc4) Tryz.isAgg97 rfl ?_
    exact Reg.nil ⟨rfl,⟨fun t ht=>(by rw[look_cons,if_neg (fun e=>ht (by subst e;decide))];exact hJ.base t ht),hJ.f0,fun _=>rfl,hJ.f2,hJ.f3,hJ.f4,hJ.f5,hJ.f6,hJ.f7,hJ.f8,hJ.f9,hJ.r10,hJ.r11,fun h j hj=>by rw[hJ.r12 h j hj,Bool.or_true],hJ.p0,hJ.p1,hJ.p2,hJ.p3⟩⟩
   |2,hk,ho,hdep,common=>
    obtain⟨hD12,row4,row11⟩:=common (by decide)
    clear common
    have ho:=Option.some.inj (show some _=some o from ho)
    subst ho
    refine ABM ((hJ.base 11 (by decide)).trans l11) Tryz.underlying60 rfl Tryz.sizeOf3 rfl ?_
    exact Reg.nil ⟨rfl,⟨fun t ht=>(by rw[look_cons,if_neg (fun e=>ht (by subst e;decide))];exact hJ.base t ht),hJ.f0,hJ.f1,fun _=>rfl,hJ.f3,hJ.f4,hJ.f5,hJ.f6,hJ.f7,hJ.f8,hJ.f9,hJ.r10,hJ.r11,fun h j hj=>by rw[hJ.r12 h j hj,Bool.or_true],hJ.p0,hJ.p1,hJ.p2,hJ.p3⟩⟩
   |3,hk,ho,hdep,common=>
    obtain⟨hD12,row4,row11⟩:=common (by decide)
    clear common
    have ho:=Option.some.inj (show some _=some o from ho)
    subst ho
    refine V0 (hJ.f2 (hdep _ (List.mem_of_getElem? (i:=0) rfl) rfl)) (row11.rd.cells.at 1 rfl) Tryz.isAgg3 rfl ?_
    exact Reg.nil ⟨rfl,⟨fun t ht=>(by rw[look_cons,if_neg (fun e=>ht (by subst e;decide))];exact hJ.base t ht),hJ.f0,hJ.f1,hJ.f2,fun _=>rfl,hJ.f4,hJ.f5,hJ.f6,hJ.f7,hJ.f8,hJ.f9,hJ.r10,hJ.r11,fun h j hj=>by rw[hJ.r12 h j hj,Bool.or_true],hJ.p0,hJ.p1,hJ.p2,hJ.p3⟩⟩
   |4,hk,ho,hdep,common=>
    obtain⟨hD12,row4,row11⟩:=common (by decide)
    clear common
    have ho:=Option.some.inj (show some _=some o from ho)
    subst ho
    refine ABM ((hJ.base 4 (by decide)).trans l4) Tryz.underlying99 rfl Tryz.sizeOf97 rfl ?_
    exact Reg.nil ⟨rfl,⟨fun t ht=>(by rw[look_cons,if_neg (fun e=>ht (by subst e;decide))];exact hJ.base t ht),hJ.f0,hJ.f1,hJ.f2,hJ.f3,fun _=>rfl,hJ.f5,hJ.f6,hJ.f7,hJ.f8,hJ.f9,hJ.r10,hJ.r11,fun h j hj=>by rw[hJ.r12 h j hj,Bool.or_true],hJ.p0,hJ.p1,hJ.p2,hJ.p3⟩⟩
   |5,hk,ho,hdep,common=>
    obtain⟨hD12,row4,row11⟩:=common (by decide)
    clear common
    have ho:=Option.some.inj (show some _=some o from ho)
    subst ho
    refine V0 (hJ.f4 (hdep _ (List.mem_of_getElem? (i:=0) rfl) rfl)) (row4.rd.cells.at 7 hc4) Tryz.isAgg97 rfl ?_
    exact Reg.nil ⟨rfl,⟨fun t ht=>(by rw[look_cons,if_neg (fun e=>ht (by subst e;decide))];exact hJ.base t ht),hJ.f0,hJ.f1,hJ.f2,hJ.f3,hJ.f4,fun _=>rfl,hJ.f6,hJ.f7,hJ.f8,hJ.f9,hJ.r10,hJ.r11,fun h j hj=>by rw[hJ.r12 h j hj,Bool.or_true],hJ.p0,hJ.p1,hJ.p2,hJ.p3⟩⟩
   |6,hk,ho,hdep,common=>
    obtain⟨hD12,row4,row11⟩:=common (by decide)
    clear common
    have ho:=Option.some.inj (show some _=some o from ho)
    subst ho
    refine ABM ((hJ.base 11 (by decide)).trans l11) Tryz.underlying60 rfl Tryz.sizeOf3 rfl ?_
    exact Reg.nil ⟨rfl,⟨fun t ht=>(by rw[look_cons,if_neg (fun e=>ht (by subst e;decide))];exact hJ.base t ht),hJ.f0,hJ.f1,hJ.f2,hJ.f3,hJ.f4,hJ.f5,fun _=>rfl,hJ.f7,hJ.f8,hJ.f9,hJ.r10,hJ.r11,fun h j hj=>by rw[hJ.r12 h j hj,Bool.or_true],hJ.p0,hJ.p1,hJ.p2,hJ.p3⟩⟩
   |7,hk,ho,hdep,common=>
    obtain⟨hD12,row4,row11⟩:=common (by decide)
    clear common
    have ho:=Option.some.inj (show some _=some o from ho)
    subst ho
    refine V0 (hJ.f6 (hdep _ (List.mem_of_getElem? (i:=0) rfl) rfl)) (row11.rd.cells.at 1 rfl) Tryz.isAgg3 rfl ?_
    exact Reg.nil ⟨rfl,⟨fun t ht=>(by rw[look_cons,if_neg (fun e=>ht (by subst e;decide))];exact hJ.base t ht),hJ.f0,hJ.f1,hJ.f2,hJ.f3,hJ.f4,hJ.f5,hJ.f6,fun _=>rfl,hJ.f8,hJ.f9,hJ.r10,hJ.r11,fun h j hj=>by rw[hJ.r12 h j hj,Bool.or_true],hJ.p0,hJ.p1,hJ.p2,hJ.p3⟩⟩
   |8,hk,ho,hdep,common=>
    obtain⟨hD12,row4,row11⟩:=common (by decide)
    clear common
    have ho:=Option.some.inj (show some _=some o from ho)
    subst ho
    have h11f:D 11=false:=by
     cases hb:D 11 with
     |false=>rfl
     |true=>rw[(hJ.r11 hb).1] at hk;cases hk
    refine ASK jm (hJ.p0 h11f).1 hm (hJ.f5 (hdep _ (List.mem_of_getElem? (i:=0) rfl) rfl)) (hJ.f7 (hdep _ (List.mem_of_getElem? (i:=1) rfl) rfl)) hia.2.1 Tryz.underlying97 Tryz.zeroValue26 (z0:=.slice none 0 0) ⟨[_],⟨rfl,rfl⟩,.inr ⟨rfl,rfl⟩⟩ rfl fun v9 hv9=>?_
    have e9:v9=v:=by
     obtain⟨cs,⟨h1,_⟩,⟨h2,_⟩|⟨_,h2⟩⟩:=hv9
     . cases h2
     . rw[h1] at h2;rw[<-hv];exact (List.singleton_inj.1 h2).symm
    subst e9
    exact Reg.nil ⟨rfl,⟨fun t ht=>(by rw[look_cons,if_neg (fun e=>ht (by subst e;decide))];exact hJ.base t ht),hJ.f0,hJ.f1,hJ.f2,hJ.f3,hJ.f4,hJ.f5,hJ.f6,hJ.f7,fun _=>rfl,hJ.f9,hJ.r10,fun h=>⟨rfl,(hJ.r11 h).2⟩,fun h j hj=>by rw[hJ.r12 h j hj,Bool.or_true],hJ.p0,hJ.p1,hJ.p2,hJ.p3⟩⟩
   |9,hk,ho,hdep,common=>
    obtain⟨hD12,row4,row11⟩:=common (by decide)
    clear common
    have ho:=Option.some.inj (show some _=some o from ho)
    subst ho
    refine AA3 ((hJ.base 11 (by decide)).trans l11) row11.rd.cells Tryz.isAgg60 rfl Tryz.sizeOf60 rfl ?_
    exact Reg.nil ⟨rfl,⟨fun t ht=>(by rw[look_cons,if_neg (fun e=>ht (by subst e;decide))];exact hJ.base t ht),hJ.f0,hJ.f1,hJ.f2,hJ.f3,hJ.f4,hJ.f5,hJ.f6,hJ.f7,hJ.f8,fun _=>rfl,fun _=>rfl,fun h=>⟨(hJ.r11 h).1,rfl,(hJ.r11 h).2.2⟩,fun h j hj=>by rw[hJ.r12 h j hj,Bool.or_true],hJ.p0,hJ.p1,hJ.p2,hJ.p3⟩⟩
   |10,hk,ho,hdep,common=>
    obtain⟨hD12,row4,row11⟩:=common (by decide)
    clear common
    have ho:=Option.some.inj (show some _=some o from ho)
    subst ho
    have h11f:D 11=false:=by
     cases hb:D 11 with
     |false=>rfl
     |true=>rw[(hJ.r11 hb).2.2] at hk;cases hk
    refine AJe (E:=AnswerE) (xs:=[a]) rsl26 (hJ.p0 h11f).1 rfl (show Sx.evs L' [.tmp 60]=some [_] by simp only[Sx.evs,Sx.ev,hJ.f9 (hdep _ (List.mem_of_getElem? (i:=0) rfl) rfl)];rfl) (Cls.cons rfl Cls.nil) (Chs.cons (AXD hia) Chs.nil) rfl rfl ?_
    intro vb w' hI' x'
    have hf':=hI'.freeze 0 rfl
    have hI2:HA w0 w M σ σ w':=⟨hI'.erase 0,(hJ.p0 h11f).2.trans (x'.trans (F8 (σ:=_ :: σ) 0))⟩
    exact Reg.nil ⟨rfl,⟨fun t ht=>(by rw[look_cons,if_neg (fun e=>ht (by subst e;decide))];exact hJ.base t ht),hJ.f0,hJ.f1,hJ.f2,hJ.f3,hJ.f4,hJ.f5,hJ.f6,hJ.f7,hJ.f8,hJ.f9,fun _=>hdep _ (List.mem_of_getElem? (i:=0) rfl) rfl,fun h=>⟨(hJ.r11 h).1,(hJ.r11 h).2.1,rfl⟩,fun h j hj=>by rw[hJ.r12 h j hj,Bool.or_true],fun _=>hI2,fun _ _=>⟨vb,rfl,hf'⟩,(fun h=>by rw[show D 11=true from h] at h11f;cases h11f),(fun h=>by rw[show D 12=true from h] at hD12;cases hD12)⟩⟩
   |11,hk,ho,hdep,common=>
    obtain⟨hD12,row4,row11⟩:=common (by decide)
    clear common
    have ho:=Option.some.inj (show some _=some o from ho)
    subst ho
    have hdep9:D 9=true:=hJ.r10 (hdep _ (List.mem_of_getElem? (i:=1) rfl) rfl)
    have hk11:D 11=false:=hk
    obtain⟨vb,hvb,hrb⟩:=hJ.p1 (hdep _ (List.mem_of_getElem? (i:=1) rfl) rfl) hk11
    refine AFc i rsl26 (hJ.p0 hk11).1 hi (hJ.f8 (hdep _ (List.mem_of_getElem? (i:=0) rfl) rfl)) hvb hrb ⟨hlen,Nat.le_trans (Nat.le_mul_of_pos_right _ (by decide)) hlen⟩ rfl ?_
    intro v' w' hI' x'
    have ho':=hI'.ownAt i (by rw[List.getElem?_set_self (List.getElem?_eq_some_iff.1 hi).1])
    exact Reg.nil ⟨rfl,⟨fun t ht=>(by rw[look_cons,if_neg (fun e=>ht (by subst e;decide))];exact hJ.base t ht),hJ.f0,hJ.f1,hJ.f2,hJ.f3,hJ.f4,hJ.f5,hJ.f6,hJ.f7,hJ.f8,hJ.f9,hJ.r10,fun _=>⟨(hdep _ (List.mem_of_getElem? (i:=0) rfl) rfl),hdep9,(hdep _ (List.mem_of_getElem? (i:=1) rfl) rfl)⟩,fun h j hj=>by rw[hJ.r12 h j hj,Bool.or_true],(fun h=>by cases h),(fun _ h=>by cases h),fun _ _=>⟨v',rfl,Own.oneC ho',hI',(hJ.p0 hk11).2.trans x'⟩,(fun h=>by rw[show D 12=true from h] at hD12;cases hD12)⟩⟩
   |12,hk,ho,hdep,common=>
    clear common
    have ho:=Option.some.inj (show some _=some o from ho)
    subst ho
    have e0:D 0=true:=(hdep _ (List.mem_of_getElem? (i:=4) rfl) rfl)
    have e1:D 1=true:=(hdep _ (List.mem_of_getElem? (i:=5) rfl) rfl)
    have e2:D 2=true:=(hdep _ (List.mem_of_getElem? (i:=6) rfl) rfl)
    have e3:D 3=true:=(hdep _ (List.mem_of_getElem? (i:=7) rfl) rfl)
    have e4:D 4=true:=(hdep _ (List.mem_of_getElem? (i:=8) rfl) rfl)
    have e5:D 5=true:=(hdep _ (List.mem_of_getElem? (i:=9) rfl) rfl)
    have e6:D 6=true:=(hdep _ (List.mem_of_getElem? (i:=10) rfl) rfl)
    have e7:D 7=true:=(hdep _ (List.mem_of_getElem? (i:=11) rfl) rfl)
    have e8:D 8=true:=(hdep _ (List.mem_of_getElem? (i:=12) rfl) rfl)
    have e9:D 9=true:=(hdep _ (List.mem_of_getElem? (i:=13) rfl) rfl)
    have e10:D 10=true:=(hdep _ (List.mem_of_getElem? (i:=14) rfl) rfl)
    have e11:D 11=true:=(hdep _ (List.mem_of_getElem? (i:=15) rfl) rfl)
    obtain⟨v',hv',ho',hp⟩:=hJ.p2 e11 hk
    refine AML (K:=K3) (E:=K5) (ag:=false) jm hp.1 (by rw[List.getElem?_set_ne d1];exact hm) (hJ.f1 e1) (hJ.f3 e3) hia.2.1 hv' (z:=v') ⟨[v'],⟨rfl,ho'⟩,.inr ⟨rfl,rfl⟩⟩ Tryz.underlying97 ?_
    intro w' hI' x'
    refine Reg.nil ⟨rfl,⟨hJ.base,hJ.f0,hJ.f1,hJ.f2,hJ.f3,hJ.f4,hJ.f5,hJ.f6,hJ.f7,hJ.f8,hJ.f9,hJ.r10,hJ.r11,fun _ j hj=>?_,(fun h=>by rw[show D 11=false from h] at e11;cases e11),(fun _ h=>by rw[show D 11=false from h] at e11;cases e11),(fun _ h=>by cases h),fun _=>⟨v',hI',hp.2.trans x'⟩⟩⟩
    have:D j=true:=by
     match j,hj with
     |0,_=>exact e0
     |1,_=>exact e1
     |2,_=>exact e2
     |3,_=>exact e3
     |4,_=>exact e4
     |5,_=>exact e5
     |6,_=>exact e6
     |7,_=>exact e7
     |8,_=>exact e8
     |9,_=>exact e9
     |10,_=>exact e10
     |11,_=>exact e11
    rw[this,Bool.or_true]
   |_+13,_,ho,_,_=>cases ho
 . intro D L' W hall hJ
   obtain⟨v',h⟩:=hJ.p3 (hall 12 (by decide))
   exact hA v' L' W hJ.base h
end Go.Proofs.YtgioiejbphljoaaGreatDoor
set_option maxRecDepth 20000
set_option maxHeartbeats 4000000
namespace Go.Proofs.YtgioiejbphljoaaGreatDoor
open Go Go.Sx Go.Rx Go.RowKit
def AIU:List Answer->A4 Int (List Answer)->Option (A4 Int (List Answer))
 |[],h=>some h
 |a :: l,h=>Option.bind (appo 48 ((h a.dispute).getD []) [a]) fun y=>AIU l (B7 h a.dispute y)
noncomputable def AXE:Code:=match Tryz.f70.body with
 |some (.seq _ (.seq _ (.seq _ (.seq _ (.seq c _)))))=>c
 |_=>.skip
def APm:List Nat:=[44,45,46,47,48,49,50,11,51,52,53,54,55,56,57,58,59,60,61,62,63]
abbrev Os:=List (Int×Value×List Answer)
def K6 (os:Os):List Res:=os.map fun o=>ownR [] AnswerE 60 o.2.1 o.2.2
theorem AI6 {κ α:Type} {f:A4 κ α} {l:List (κ×α)} (h:Lists f l) {i:Nat} {k:κ} {x:α} (hi:l[i]?=some (k,x)):f k=some x:=(h.2 k x).1 (List.mem_of_getElem? hi)
theorem AVq {w0:World} {M:List Nat} {S1:List Res} {W:World} {g:A4 Int Value} {f:A4 Int (List Answer)} {os:Os} (k:Int) (hg:Lists g (os.map fun o=>(o.1,o.2.1))) (hf:Lists f (os.map fun o=>(o.1,o.2.2))) (hI:Hp w0 [] M (K6 os++S1) W) :
  ∃ (os1:Os) (i:Nat) (v:Value) (l:List Answer),Hp w0 [] M (K6 os1++S1) W/\Adv (mm (K6 os++S1) M) (mm (K6 os1++S1) M) W W/\os1[i]?=some (k,v,l)/\(g k).getD (.slice none 0 0)=v/\(f k).getD []=l/\∀ v' l',Lists (B7 g k v') ((os1.set i (k,v',l')).map fun o=>(o.1,o.2.1))/\Lists (B7 f k l') ((os1.set i (k,v',l')).map fun o=>(o.1,o.2.2)):=by
 by_cases hk:∃ o∈os,o.1=k
 . obtain⟨⟨k',v,l⟩,ho,hkk⟩:=hk
   have hkk:k'=k:=hkk
   subst hkk
   obtain⟨i,hi⟩:=List.getElem?_of_mem ho
   have h1:(os.map fun o=>(o.1,o.2.1))[i]?=some (k',v):=by rw[List.getElem?_map,hi];rfl
   have h2:(os.map fun o=>(o.1,o.2.2))[i]?=some (k',l):=by rw[List.getElem?_map,hi];rfl
   refine⟨os,i,v,l,hI,Adv.refl _ _,hi,by rw[AI6 hg h1];rfl,by rw[AI6 hf h2];rfl,fun v' l'=>⟨?_,?_⟩⟩
   . rw[List.map_set];exact hg.set h1 v'
   . rw[List.map_set];exact hf.set h2 l'
 . have hg0:∀ x∈(os.map fun o=>(o.1,o.2.1)),x.1≠k:=fun x hx e=>by
    obtain⟨o,ho,rfl⟩:=List.mem_map.1 hx
    exact hk ⟨o,ho,e⟩
   have hf0:∀ x∈(os.map fun o=>(o.1,o.2.2)),x.1≠k:=fun x hx e=>by
    obtain⟨o,ho,rfl⟩:=List.mem_map.1 hx
    exact hk ⟨o,ho,e⟩
   refine⟨(k,.slice none 0 0,[]) :: os,0,_,[],hI.addNil AnswerE 60,hI.addNilH AnswerE 60,rfl,by rw[hg.none hg0];rfl,by rw[hf.none hf0];rfl,fun v' l'=>⟨?_,?_⟩⟩
   . exact (hg.push v' hg0).perm (by simp only[List.set_cons_zero,List.map_cons];exact (List.perm_append_singleton _ _).symm)
   . exact (hf.push l' hf0).perm (by simp only[List.set_cons_zero,List.map_cons];exact (List.perm_append_singleton _ _).symm)
theorem APo {w0:World} {M:List Nat} {S0:List Res} {w:World} {L:A7} {jm j4 j1 b4 b1 bm:Nat} {al:List Answer} {cs1 cs4:List Value} {va:Value} {h:A4 Int (List Answer)} {A B:A3} {X:Nat->A3} {Z:List PanicEntry->A3}
  (hI:Hp w0 [] M S0 w) (hm:S0[jm]?=some (mapO K3 K5 false bm fnone)) (h4:S0[j4]?=some (rowR 99 b4 cs4)) (hc4:cs4[7]?=some (.map (some bm))) (h1:S0[j1]?=some (rowR 28 b1 cs1)) (hc1:cs1[5]?=some va) (hva:RdS AnswerE (mm S0 M) w va al) (d4:j4≠jm) (hw:w0.heap.size<=w.heap.size)
  (l1:Sx.A5 L 1=some (.pointer (some ⟨b1,0,none⟩))) (l4:Sx.A5 L 4=some (.pointer (some ⟨b4,0,none⟩))) (hr:AIU al fnone=some h)
  (hA:∀ L' w' (g:A4 Int Value) (os:Os),(∀ t,t∉APm->Sx.A5 L' t=Sx.A5 L t)->Lists g (os.map fun o=>(o.1,o.2.1))->Lists h (os.map fun o=>(o.1,o.2.2))->HA w0 w M S0 (K6 os++S0.set jm (mapO K3 K5 false bm g)) w'->A [] L' w'):CW Tryz.prog 65 AXE [] L w A B X Z:=by
 obtain⟨a45,c45,rfl,hlen,hle⟩:=hva.shape
 have hlen_:InK .i64 ((al.length:Nat):Int):=hva.inK
 rw[InK.i64] at hlen_
 refine A6 ?_
 refine A9 ?_
 refine ABM l1 Tryz.underlying28 rfl Tryz.sizeOf26 rfl ?_
 refine V0 rfl ((hI.row j1 h1).rd.cells.at 5 hc1) Tryz.isAgg26 rfl ?_
 refine AEy rfl Tryz.underlying26 rfl ?_
 refine H9 rfl rfl ?_
 refine Reg.nil ?_
 refine G5 ?_
 refine ABK (ι:=A7×Nat×A4 Int Value×A4 Int (List Answer)×Os) (fun q=>q.1) (fun q W=>((∀ t,t∉APm->Sx.A5 q.1 t=Sx.A5 L t)/\Sx.A5 q.1 45=some (.slice a45 al.length c45)/\Sx.A5 q.1 46=some (.int .i64 (al.length:Nat))/\Sx.A5 q.1 47=some (.int .i64 (q.2.1:Nat)))/\q.2.1<=al.length/\AIU (al.drop q.2.1) q.2.2.2.1=some h/\Lists q.2.2.1 (q.2.2.2.2.map fun o=>(o.1,o.2.1))/\Lists q.2.2.2.1 (q.2.2.2.2.map fun o=>(o.1,o.2.2))/\HA w0 w M S0 (K6 q.2.2.2.2++S0.set jm (mapO K3 K5 false bm q.2.2.1)) W) (fun q=>al.length - q.2.1) (_,0,fnone,fnone,[]) ⟨⟨fun t ht=>?_,rfl,rfl,rfl⟩,Nat.zero_le _,by simpa using hr,Lists.nil,Lists.nil,?_⟩ (Sub.refl _) ?_
 . show Sx.A5 (_ :: _ :: _ :: _ :: L) t=_
   rw[look_cons,if_neg (fun e=>ht (by subst e;decide)),look_cons,if_neg (fun e=>ht (by subst e;decide)),look_cons,if_neg (fun e=>ht (by subst e;decide)),look_cons,if_neg (fun e=>ht (by subst e;decide))]
 . have e:K6 []++S0.set jm (mapO K3 K5 false bm fnone)=S0:=by
    show S0.set jm _=S0
    exact List.ext_getElem? fun j=>by
     rw[List.getElem?_set]
     split
     . rename_i e;subst e;rw[hm];rw[if_pos (List.getElem?_eq_some_iff.1 hm).1]
     . rfl
   exact⟨by rw[e];exact hI,by rw[e];exact Adv.refl _ _⟩
 rintro⟨L1,i,g,f,os⟩ W1 ⟨⟨lb,l45,l46,l47⟩,hi,hdi,hg,hf,hH⟩
 dsimp only at lb l45 l46 l47 hi hdi hg hf hH ⊢
 refine A6 ?_
 refine A9 ?_
 refine AG6 l47 l46 rfl ?_
 refine Reg.nil ?_
 refine A6 ?_
 refine AAC rfl (fun hlt=>?_) (fun hge=>?_)
 . have hlt:i < al.length:=by have:=of_decide_eq_true hlt;omega
   rw[List.drop_eq_getElem_cons hlt] at hdi
   obtain⟨y,hy,hdi⟩:=Q1 hdi
   obtain⟨hyl,rfl⟩:=ACY hy
   have hra:=hva.adv hH.2
   obtain⟨os1,i0,v,l,hI1,x1,ho,hgv,hfl,hset⟩:=AVq (al[i]).dispute hg hf hH.1
   rw[hfl] at hyl hdi
   refine O6 ?_
   refine A6 ?_
   refine G5 ?_
   refine A6 ?_
   refine A9 ?_
   refine ASH l45 l47 hra (z:=al[i]) (AHE (List.getElem?_eq_getElem hlt)) Tryz.underlying26 Tryz.sizeOf60 rfl ?_
   intro b9 o9 cs9 hR9 hC9
   obtain⟨rfl,hia⟩:=(AnswerE_R (x:=al[i])).1 hR9
   obtain⟨q0,q1,q2,q3,q4,q5⟩:=hia
   refine AA3 rfl hC9.cells Tryz.isAgg60 rfl Tryz.sizeOf60 rfl ?_
   refine ACZ hI1 Tryz.zeroValue60 rfl rfl ?_
   intro b11 w5 hI5 x5
   refine ABN 0 hI5 rfl rfl rfl rfl Tryz.sizeOf60 rfl rfl (C7 rfl (C7 rfl (C7 rfl (C7 rfl (C7 rfl (C7 rfl ACU)))))) ?_
   intro w6 hI6 x6
   have hI6:Hp w0 [] M (rowR 60 b11 (AFR al[i]) :: (K6 os1++S0.set jm (mapO K3 K5 false bm g))) w6:=hI6
   have x6:Adv (mm (rowR 60 b11 [.int .i64 0,.int .i64 0,.int .i64 0,.int .u8 0,.int .i64 0,.int .i64 0] :: (K6 os1++S0.set jm (mapO K3 K5 false bm g))) M) (mm (rowR 60 b11 (AFR al[i]) :: (K6 os1++S0.set jm (mapO K3 K5 false bm g))) M) w5 w6:=x6
   refine Reg.nil ?_
   have e4:K6 os1++S0.set jm (mapO K3 K5 false bm g)=K6 os1++S0.set jm (mapO K3 K5 false bm g):=rfl
   have hio:i0 < os1.length:=(List.getElem?_eq_some_iff.1 ho).1
   have hlo:(K6 os1).length=os1.length:=by simp[K6]
   have hjm:jm < S0.length:=(List.getElem?_eq_some_iff.1 hm).1
   refine AM3 hI6 (i:=i0+1) (jm:=os1.length+jm+1) (j4:=os1.length+j4+1) (j11:=0) (b4:=b4) (b11:=b11) (bm:=bm) (v:=v) (l:=l) (a:=al[i]) (g:=g) (cs4:=cs4) ?_ ?_ ?_ hc4 rfl ⟨q0,q1,q2,q3,q4,q5⟩ hgv (by omega) (by omega) (by omega) hyl.1 ?_ rfl ?_
   . rw[List.getElem?_cons_succ,List.getElem?_append_left (by rw[hlo];exact hio)]
     simp only[K6,List.getElem?_map,ho];rfl
   . rw[List.getElem?_cons_succ,List.getElem?_append_right (by rw[hlo];omega),hlo,Nat.add_sub_cancel_left,List.getElem?_set_self hjm]
   . rw[List.getElem?_cons_succ,List.getElem?_append_right (by rw[hlo];omega),hlo,Nat.add_sub_cancel_left,List.getElem?_set_ne (Ne.symm d4)]
     exact h4
   . exact (lb 4 (by decide)).trans l4
   . intro v' L5 w7 lb5 hH7
     have e7:((rowR 60 b11 (AFR al[i]) :: (K6 os1++S0.set jm (mapO K3 K5 false bm g))).set (i0+1) (ownR [] AnswerE 60 v' (l++[al[i]]))).set (os1.length+jm+1) (mapO K3 K5 false bm (B7 g (al[i]).dispute v'))=rowR 60 b11 (AFR al[i]) :: (K6 (os1.set i0 ((al[i]).dispute,v',l++[al[i]]))++S0.set jm (mapO K3 K5 false bm (B7 g (al[i]).dispute v'))):=by
      rw[List.set_cons_succ,List.set_cons_succ,List.set_append_left _ _ (by rw[hlo];exact hio),List.set_append_right _ _ (by rw[List.length_set,hlo];omega),List.length_set,hlo,Nat.add_sub_cancel_left,List.set_set]
      simp only[K6,List.map_set]
     rw[e7] at hH7
     have hH8:HA w0 w M S0 (K6 (os1.set i0 ((al[i]).dispute,v',l++[al[i]]))++S0.set jm (mapO K3 K5 false bm (B7 g (al[i]).dispute v'))) w7:=⟨hH7.1.erase 0,hH.2.trans (x1.trans (x5.trans (x6.trans (hH7.2.trans (F8 (σ:=_ :: _) 0)))))⟩
     refine A9 ?_
     refine AG7 ((lb5 47 (by decide)).trans l47) rfl rfl (InK.i64.2 (by omega)) ?_
     refine H9 rfl rfl ?_
     refine Reg.nil ⟨rfl,(_,i+1,B7 g (al[i]).dispute v',B7 f (al[i]).dispute (l++[al[i]]),os1.set i0 ((al[i]).dispute,v',l++[al[i]])),?_,Sub.refl _,by dsimp only;omega⟩
     refine⟨⟨fun t ht=>?_,(lb5 45 (by decide)).trans l45,(lb5 46 (by decide)).trans l46,rfl⟩,hlt,hdi,(hset v' _).1,(hset v' _).2,hH8⟩
     show Sx.A5 (_ :: _ :: L5) t=_
     rw[look_cons,if_neg (fun e=>ht (by subst e;decide)),look_cons,if_neg (fun e=>ht (by subst e;decide)),lb5 t (fun e=>ht ((by decide:∀ u∈AM2,u∈APm) t e))]
     show Sx.A5 (_ :: _ :: _ :: _ :: L1) t=_
     rw[look_cons,if_neg (fun e=>ht (by subst e;decide)),look_cons,if_neg (fun e=>ht (by subst e;decide)),look_cons,if_neg (fun e=>ht (by subst e;decide)),look_cons,if_neg (fun e=>ht (by subst e;decide))]
     exact lb t ht
 . have hge:¬ i < al.length:=by have:=of_decide_eq_false hge;omega
   obtain rfl:i=al.length:=by omega
   rw[List.drop_length] at hdi
   have hdi:=Option.some.inj hdi
   subst hdi
   refine ABI (S8 ?_)
   exact hA _ W1 g os (fun t ht=>by
    show Sx.A5 (_ :: L1) t=_
    rw[look_cons,if_neg (fun e=>ht (by subst e;decide))]
    exact lb t ht) hg hf hH
end Go.Proofs.YtgioiejbphljoaaGreatDoor
set_option maxRecDepth 20000
set_option maxHeartbeats 4000000
namespace Go.Proofs.YtgioiejbphljoaaGreatDoor
open Go Go.Sx Go.Rx Go.RowKit
theorem AEf:∀ {cs vs:List Value},cs.length=vs.length->B9 cs 0 vs=vs
 |[],[],_=>rfl
 |_ :: r,v :: vs,h=>by
  show v :: B9 r 0 vs=_
  rw[AEf (by simpa using h)]
 |[],_ :: _,h=>by cases h
 |_ :: _,[],h=>by cases h
noncomputable def AQX:Nat->Desk_99->Option Int
 |0=>M5
 |1=>M6
 |2=>M7
 |_=>M8
def stepG:Nat->Nat
 |0=>202
 |1=>203
 |2=>204
 |_=>208
noncomputable def ABo (x:Desk_99) (i:Nat):Nat->Option Int
 |0=>some 0
 |n+1=>Option.bind (AQX i x) fun e=>if e=0 then ABo x (i+1) n else some e
theorem AM4 (i:Nat) {M:List Nat} {w:World} (hM:MLt M w) (hg:GlOk (P:=Tryz.prog) M w) {x:Desk_99} {v:Value} (hx:OkD (P:=Tryz.prog) M w (.st 10) x v) {e:Int} (hr:AQX i x=some e) :
  CallsV Tryz.prog (.func (.func (stepG i)) #[] #[]) [v] w fun en w'=>en=.returned (.int .i64 e)/\InK .i64 e/\Ext w w':=by
 have fin:∀ {k:Nat} {c:Ctr},c.ps=[.d (.st 10)]->True:=fun _=>trivial
 have conv:∀ {k:Nat},Calls Tryz.prog k (List.toArray [v]) w (fun en w'=>∃ vs,en=.returned (ABz vs)/\KsOk (P:=Tryz.prog) M (X0 [.d (.int .i64)] vs++M) w w' [.d (.int .i64)] e vs/\Ext w w')->(∀ args w,(callFunc k args).run Tryz.prog w=.ok (.enter k args) w)->CallsV Tryz.prog (.func (.func k) #[] #[]) [v] w fun en w'=>en=.returned (.int .i64 e)/\InK .i64 e/\Ext w w':=fun {k} h hc=>by
  refine⟨k,#[],rfl,hc,?_⟩
  refine Calls.mono (by simpa using h) ?_
  rintro en w' ⟨vs,rfl,⟨u,rfl,hu⟩,hx⟩
  have hu:OkD (P:=Tryz.prog) M w' (.int .i64) e u:=hu
  obtain⟨rfl,hk⟩:=D6 (ρ:=fun _=>undef) (R:=fun _=>none) (.int .i64) hu
  exact⟨rfl,hk,hx⟩
 match i,hr with
 |0,hr=>exact conv (ok202.2 M w (x,()) [v] e hM hg ⟨v,[],rfl,hx,rfl⟩ hr) Tryz.call202
 |1,hr=>exact conv (ok203.2 M w (x,()) [v] e hM hg ⟨v,[],rfl,hx,rfl⟩ hr) Tryz.call203
 |2,hr=>exact conv (ok204.2 M w (x,()) [v] e hM hg ⟨v,[],rfl,hx,rfl⟩ hr) Tryz.call204
 |_+3,hr=>exact conv (ok208.2 M w (x,()) [v] e hM hg ⟨v,[],rfl,hx,rfl⟩ hr) Tryz.call208
noncomputable def AXF:Code:=match Tryz.f70.body with
 |some (.seq _ (.seq _ (.seq _ (.seq c _))))=>c
 |_=>.skip
def AM5:List Nat:=[32,33,34,35,8,36,37,38,9,39,40,41,42,3,43]
theorem AM6 {M:List Nat} {w:World} {L:A7} {x:Desk_99} {b2 b4:Nat} {cs2 cs4:List Value} {e:Int} {A B:A3} {X:Nat->A3} {Z:List PanicEntry->A3} (hM:MLt M w) (hg:GlOk (P:=Tryz.prog) M w) (h4:RdC M w b4 0 cs4) (hx:(enc (P:=Tryz.prog) (.st 10)).R M w cs4 x) (h2:Row 99 w b2 cs2) (hn2:cs2.length=8)
  (l2:Sx.A5 L 2=some (.pointer (some ⟨b2,0,none⟩))) (l4:Sx.A5 L 4=some (.pointer (some ⟨b4,0,none⟩))) (hr:ABo x 0 4=some e)
  (hok:e=0->∀ L' w',Ext w w'->(∀ t,t∉AM5->Sx.A5 L' t=Sx.A5 L t)->A [] L' w')
  (herr:e≠0->∀ L' w' w'',Ext w w'->Kp [b2] w' w''->Row 99 w'' b2 cs4->InK .i64 e->(∀ t,t∉AM5->Sx.A5 L' t=Sx.A5 L t)->Sx.A5 L' 3=some (.int .i64 e)->B [] L' w''):CW Tryz.prog 65 AXF [] L w A B X Z:=by
 obtain⟨bg,og,ug,vg,eg,hcg,⟨vs',rfl,hvs⟩,hug⟩:=hg 1 _ rfl (fun _=>undef) (fun _=>none)
 cases eg
 obtain rfl:vs'=vg:=by
  have h:List.toArray vs'=List.toArray vg:=hug
  simpa using h
 have hn4:cs4.length=8:=(enc (P:=Tryz.prog) (.st 10)).len hx
 have one4:∀ u∈cs4,u.oneCell'=true:=(enc (P:=Tryz.prog) (.st 10)).one hx
 have ei:vs'=[.func (.func 202) #[] #[],.func (.func 203) #[] #[],.func (.func 204) #[] #[],.func (.func 208) #[] #[]]:=by
  have one:∀ {g:Nat} {l:List SV} {vs:List Value},OkL (P:=Tryz.prog) (fun _=>undef) (fun _=>none) M w (.fn g [] :: l) vs->∃ r,vs=.func (.func g) #[] #[] :: r/\OkL (P:=Tryz.prog) (fun _=>undef) (fun _=>none) M w l r:=fun {g l vs} h=>by
   obtain⟨u,c,r,rfl,⟨ws,rfl,hws⟩,hc,hr⟩:=h
   have hws:ws=[]:=hws
   subst hws
   have hc:#[Value.func (.func g) #[] #[]]=List.toArray c:=hc
   have:c=[Value.func (.func g) #[] #[]]:=by simpa using hc.symm
   subst this
   exact⟨r,rfl,hr⟩
  obtain⟨r1,rfl,h1⟩:=one hvs
  obtain⟨r2,rfl,h2⟩:=one h1
  obtain⟨r3,rfl,h3⟩:=one h2
  obtain⟨r4,rfl,h4⟩:=one h3
  have h4:r4=[]:=h4
  rw[h4]
 subst ei
 refine A6 ?_
 refine A9 ?_
 refine AA3 rfl hcg.cells Tryz.isAgg184 rfl Tryz.sizeOf184 rfl ?_
 refine H9 rfl rfl ?_
 refine Reg.nil ?_
 refine G5 ?_
 refine ABK (ι:=A7×Nat) (fun q=>q.1) (fun q W=>((∀ t,t∉AM5->Sx.A5 q.1 t=Sx.A5 L t)/\Sx.A5 q.1 32=some (.agg #[.func (.func 202) #[] #[],.func (.func 203) #[] #[],.func (.func 204) #[] #[],.func (.func 208) #[] #[]])/\Sx.A5 q.1 33=some (.int .i64 (q.2:Nat)))/\q.2<=4/\ABo x q.2 (4 - q.2)=some e/\Ext w W) (fun q=>4 - q.2) (_,0) ⟨⟨fun t ht=>?_,rfl,rfl⟩,Nat.zero_le _,hr,Kp.refl _ _⟩ (Sub.refl _) ?_
 . show Sx.A5 (_ :: _ :: L) t=_
   rw[look_cons,if_neg (fun e=>ht (by subst e;decide)),look_cons,if_neg (fun e=>ht (by subst e;decide))]
 rintro⟨L1,i⟩ W1 ⟨⟨lb,l32,l33⟩,hi,hdi,hE⟩
 dsimp only at lb l32 l33 hi hdi ⊢
 refine A6 ?_
 refine A9 ?_
 refine AG6 l33 rfl rfl ?_
 refine Reg.nil ?_
 refine A6 ?_
 refine AAC rfl (fun hlt=>?_) (fun hge=>?_)
 . have hlt:i < 4:=by have:=of_decide_eq_true hlt;omega
   rw[show 4 - i=(4 - (i+1))+1 by omega] at hdi
   obtain⟨e1,he1,hdi⟩:=Q1 hdi
   refine O6 ?_
   refine A6 ?_
   refine G5 ?_
   refine A6 ?_
   refine A9 ?_
   refine Reg.val (.func (.func (stepG i)) #[] #[]) rfl rfl rfl (fun a ha w' _=>?_) ?_
   . have h7:=ha.eval (x:=.tmp 32) l32
     have h8:=ha.eval (x:=.tmp 33) l33
     have hi4:i=0\/i=1\/i=2\/i=3:=by omega
     rcases hi4 with rfl|rfl|rfl|rfl <;> simp[execOp,h7,h8,Instr.index,asIntOf,run_underlying Tryz.underlying184,part,Tryz.isAgg183,Tryz.sizeOf183,stepG]
   refine G0 rfl rfl ?_
   refine Reg.nil ?_
   refine A6 ?_
   refine A9 ?_
   refine H9 rfl rfl ?_
   refine AA3 ((lb 4 (by decide)).trans l4) (h4.adv (Adv.of_ext hE)).cells Tryz.isAgg99 hn4 Tryz.sizeOf99 rfl ?_
   refine ADe (vs:=[.agg cs4.toArray]) rfl rfl rfl ?_
   obtain⟨g9,c9,v9,hc9,hcall⟩:=AM4 i (hM.ext hE) (hg.adv (Adv.of_ext hE)) (v:=.agg cs4.toArray) ⟨cs4,(enc (P:=Tryz.prog) (.st 10)).adv hx (Adv.of_ext hE),.inl ⟨rfl,rfl⟩⟩ he1
   refine⟨g9,c9,v9,hc9,hcall.mono ?_⟩
   rintro _ W2 ⟨rfl,hk1,hE2⟩
   refine⟨_,rfl,?_⟩
   refine G0 rfl rfl ?_
   refine Reg.nil ?_
   refine A6 ?_
   refine A9 ?_
   refine H9 rfl rfl ?_
   refine AP5 rfl rfl rfl ?_
   refine Reg.nil ?_
   have lk9:∀ {a b c d f g h k:Value} (t:Nat),t∉AM5->Sx.A5 ((40,a) :: (39,b) :: (9,c) :: (38,d) :: (37,f) :: (36,g) :: (8,h) :: (35,k) :: (34,.bool (decide ((i:Int) < 4))) :: L1) t=Sx.A5 L t:=fun t ht=>by
    rw[look_cons,if_neg (fun e=>ht (by subst e;decide)),look_cons,if_neg (fun e=>ht (by subst e;decide)),look_cons,if_neg (fun e=>ht (by subst e;decide)),look_cons,if_neg (fun e=>ht (by subst e;decide)),look_cons,if_neg (fun e=>ht (by subst e;decide)),look_cons,if_neg (fun e=>ht (by subst e;decide)),look_cons,if_neg (fun e=>ht (by subst e;decide)),look_cons,if_neg (fun e=>ht (by subst e;decide)),look_cons,if_neg (fun e=>ht (by subst e;decide))]
    exact lb t ht
   have hEx:Ext w W2:=hE.trans hE2
   refine AAC rfl (fun hne=>?_) (fun heq=>?_)
   . have hne:e1≠0:=by simpa using hne
     rw[if_neg hne] at hdi
     cases hdi
     refine A6 ?_
     refine A9 ?_
     refine AA3 ((lk9 4 (by decide)).trans l4) (h4.adv (Adv.of_ext hEx)).cells Tryz.isAgg99 hn4 Tryz.sizeOf99 rfl ?_
     refine H9 rfl rfl ?_
     have hb2:b2 < w.heap.size:=J1 h2
     refine AOj (e:=99) (cs:=cs2) (vs:=cs4) ((lk9 2 (by decide)).trans l2) rfl rfl ((hEx.block b2 hb2 (by simp)).trans h2) Tryz.sizeOf99 hn4 (by rw[hn2,hn4];rfl) one4 ?_
     intro w3 hr3 hk3
     refine G0 rfl rfl ?_
     refine Reg.nil ?_
     refine J0 ?_
     have hset:B9 cs2 0 cs4=cs4:=AEf (by rw[hn2,hn4])
     rw[hset] at hr3
     exact herr hne _ W2 w3 hEx hk3 hr3 hk1 (fun t ht=>by
      show Sx.A5 (_ :: _ :: _ :: _) t=_
      rw[look_cons,if_neg (fun e=>ht (by subst e;decide)),look_cons,if_neg (fun e=>ht (by subst e;decide)),look_cons,if_neg (fun e=>ht (by subst e;decide))]
      exact lk9 t ht) rfl
   . have heq:e1=0:=by simpa using heq
     rw[if_pos heq] at hdi
     refine O6 ?_
     refine A9 ?_
     refine AG7 l33 rfl rfl (InK.i64.2 (by omega)) ?_
     refine H9 rfl rfl ?_
     refine Reg.nil ⟨rfl,(_,i+1),?_,Sub.refl _,by dsimp only;omega⟩
     refine⟨⟨fun t ht=>?_,l32,rfl⟩,hlt,hdi,hEx⟩
     show Sx.A5 (_ :: _ :: _) t=_
     rw[look_cons,if_neg (fun e=>ht (by subst e;decide)),look_cons,if_neg (fun e=>ht (by subst e;decide))]
     exact lk9 t ht
 . have hge:¬ i < 4:=by have:=of_decide_eq_false hge;omega
   obtain rfl:i=4:=by omega
   have he:e=0:=(Option.some.inj hdi).symm
   refine ABI (S8 ?_)
   exact hok he _ W1 hE (fun t ht=>by
    show Sx.A5 (_ :: L1) t=_
    rw[look_cons,if_neg (fun e=>ht (by subst e;decide))]
    exact lb t ht)
end Go.Proofs.YtgioiejbphljoaaGreatDoor
set_option maxRecDepth 20000
set_option maxHeartbeats 4000000
namespace Go.Rx
open Go Go.Sx Go.RowKit
section
variable [Trk] [Sg] [Sf] {P:Program} [Se P] [Anch] {w0 w:World} {M:List Nat} {N:Nat} {ds:List Deferred}
theorem AOR [Sl (P:=P)] {G:Gx} (hG:GxOk P G) (c:Code) (an:An) {sh:Sh} {σ:AS} {x:N2 sh.cs} {L:A7} {w:World} {A B:A3} {X:Nat->A3} {Z:List PanicEntry->A3} (h:exec G N (fun _=>(none:Option Unit)) c an (H6 sh) (fun _ _=>none) (fun _=>none) σ=some x) (hH:Holds (P:=P) w0 [] M σ L w)
  (hA:∀ L' w',EnvS (C8 c++C6 an) L L'->Holds (P:=P) w0 [] M (B5 (C8 c++C6 an) sh σ x) L' w'->A ds L' w'):CW P N c ds L w A B X Z:=
 X8 (n:=3) (ACt (G9 hG c an _ _ _ _ _ _ _ _ _ _ _ _ _ h hH (fun σ1 L1 w1 h1 hR hE1 hH1=>by
  obtain⟨S,ρ,γ,μ,ι,hS⟩:=hH1
  exact hA L1 w1 hE1 (R5 hS hR h1)) (fun i σ2 L2 w2 h2=>by cases h2) (fun r σ2 L2 w2 h2 h3 _ hH2=>by cases h2) PZ.no))
end
section
variable [Trk] [Sg] [Sf] {P:Program} [Se P] {ρ:Nat->Value} {R:Nat->Option AR} {M:List Nat} {w:World} {l:List SV} {vs:List Value}
theorem AAO {k:IntKind} {x:Int} (h:OkL (P:=P) ρ R M w (.int k x :: l) vs):∃ r,vs=.int k x :: r/\InK k x/\OkL (P:=P) ρ R M w l r:=by
 obtain⟨u,c,r,rfl,⟨rfl,hk⟩,hc,hr⟩:=h
 have hc:#[Value.int k x]=List.toArray c:=hc
 have:c=[Value.int k x]:=by simpa using hc.symm
 subst this
 exact⟨r,rfl,hk,hr⟩
theorem AD2 {t:Ty} {x:List (den t)} (h:OkL (P:=P) ρ R M w (.dat (.sl t) x :: l) vs):∃ v r,vs=v :: r/\OkD (P:=P) M w (.sl t) x v/\v.cells=#[v]/\OkL (P:=P) ρ R M w l r:=by
 obtain⟨u,c,r,rfl,⟨_,hd⟩,hc,hr⟩:=h
 obtain⟨a,n,rfl,_⟩:=(OkD.rds hd).shape
 have hc:#[Value.slice a x.length n]=List.toArray c:=hc
 have:c=[Value.slice a x.length n]:=by simpa using hc.symm
 subst this
 exact⟨_,r,rfl,hd,rfl,hr⟩
theorem AA2 {s:SV} (h:OkL (P:=P) ρ R M w (s :: l) vs) (hs:∀ u,Ok (P:=P) ρ R M w s u->u.cells=#[u]):∃ u r,vs=u :: r/\OkL (P:=P) ρ R M w l r:=by
 obtain⟨u,c,r,rfl,hu,hc,hr⟩:=h
 rw[hs u hu] at hc
 have:c=[u]:=by simpa using hc.symm
 subst this
 exact⟨u,r,rfl,hr⟩
theorem ACT {i:Nat} (h:OkL (P:=P) ρ R M w (.own i :: l) vs):∃ r,vs=ρ i :: r/\OkL (P:=P) ρ R M w l r:=by
 obtain⟨u,c,r,rfl,⟨rfl,h1,_⟩,hc,hr⟩:=h
 rw[h1] at hc
 have:c=[ρ i]:=by simpa using hc.symm
 subst this
 exact⟨r,rfl,hr⟩
end
end Go.Rx
namespace Go.Proofs.YtgioiejbphljoaaGreatDoor
open Go Go.Sx Go.Rx Go.RowKit
theorem ABp {P:Program} {kt:TypeId} {α β:Type} {K:Ky P kt Int} {E:Enc α} {E':Enc β} {ag ag':Bool} {M M':List Nat} {w:World} {b:Nat} {g:A4 Int α} {f:A4 Int β} (h:MapH K E ag M w b g) (hc:∀ k x v,g k=some x->Vl E ag M w v x->∃ y,f k=some y/\Vl E' ag' M' w v y) (hn:∀ k,g k=none->f k=none):MapH K E' ag' M' w b f:=by
 obtain⟨es,c,xs,h1,h2,h3,h4⟩:=h
 have key:∀ (es:List MapEntry) (xs:List (Int×α)),EntK K E ag M w es xs->(∀ x∈xs,g x.1=some x.2)->∃ ys:List (Int×β),EntK K E' ag' M' w es ys/\ys.map (·.1)=xs.map (·.1)/\∀ y∈ys,f y.1=some y.2:=by
  intro es
  induction es with
  |nil=>
   intro xs h _
   cases xs with
   |nil=>exact⟨[],trivial,rfl,fun _ h=>by cases h⟩
   |cons _ _=>exact h.elim
  |cons e es ih=>
   intro xs h hx
   cases xs with
   |nil=>exact h.elim
   |cons x xs=>
    obtain⟨k1,k2,k3⟩:=h
    obtain⟨ys,y1,y2,y3⟩:=ih xs k3 fun z hz=>hx z (List.mem_cons_of_mem _ hz)
    obtain⟨y,hy1,hy2⟩:=hc x.1 x.2 e.val (hx x (List.mem_cons_self ..)) k2
    exact⟨(x.1,y) :: ys,⟨k1,hy2,y1⟩,by simp[y2],fun z hz=>(List.mem_cons.1 hz).elim (fun e=>by subst e;exact hy1) (y3 z)⟩
 obtain⟨ys,y1,y2,y3⟩:=key _ _ h3 fun x hx=>(h4.2 x.1 x.2).1 hx
 refine⟨es,c,ys,h1,h2,y1,by rw[y2];exact h4.1,fun a y=>⟨fun hm=>y3 _ hm,fun hf=>?_⟩⟩
 cases hg:g a with
 |none=>rw[hn a hg] at hf;cases hf
 |some x=>
  have h5:(a,x)∈xs:=(h4.2 a x).2 hg
  have h6:a∈ys.map (·.1):=by rw[y2];exact List.mem_map.2 ⟨_,h5,rfl⟩
  obtain⟨z,hz,rfl⟩:=List.mem_map.1 h6
  have:=y3 z hz
  rw[hf] at this
  cases this
  exact hz
def s70 (d:Desk):AS:=⟨[(1,.ptr 1 0),(2,.ptr 2 0),(3,.int .i64 0),(4,.ptr 4 0)],
 [(4,.row 99 [.int .i64 d.terms.answer,.int .i64 d.terms.mark,.int .i64 d.terms.lately,.dat (.sl (.st 1)) d.reports,.dat (.sl (.st 2)) d.disputes,.dat (.sl (.st 3)) d.answers,.own 13,.own 14]),(14,.own false (.mp 3 (.int .i64) (.sl (.st 3))) (fnone:A4 Int (List Answer))),(13,.own false (.mp 3 (.int .i64) (.st 1)) (fnone:A4 Int Report)),
  (2,.row 99 [.int .i64 0,.int .i64 0,.int .i64 0,.nilS,.nilS,.nilS,.raw (.map none),.raw (.map none)]),(1,.row 28 [.int .i64 d.terms.answer,.int .i64 d.terms.mark,.int .i64 d.terms.lately,.dat (.sl (.st 1)) d.reports,.dat (.sl (.st 2)) d.disputes,.dat (.sl (.st 3)) d.answers])],[],[]⟩
noncomputable def AM7:Code:=match Tryz.f70.body with
 |some (.seq _ (.seq _ (.seq c _)))=>c
 |_=>.skip
def AM8:Sh:=⟨[(.cont 13,.own (.mp 3 (.int .i64) (.st 1)))],[4,14,13,2,1]⟩
theorem AF1:GxOk Tryz.prog gxb:=B1 trivial
theorem AVr (d:Desk):exec gxb 65 (fun _=>(none:Option Unit)) AM7 anpre70.r.r (H6 AM8) (fun _ _=>none) (fun _=>none) (s70 d)=R8 d:=by kernel_rfl
noncomputable def O7 (d:Desk):Option (Desk_99×Int):=Option.bind (R8 d) fun f=>Option.bind (ABo ⟨d,f,fnone⟩ 0 4) fun e=>if e=0 then Option.bind (AIU d.answers fnone) fun h=>some (⟨d,f,h⟩,0) else some (⟨d,f,fnone⟩,e)
noncomputable def ctr70:Ctr:=⟨[.d (.st 4)],[.d (.st 10),.d (.int .i64)],fun a=>O7 a.1⟩
theorem ALz {M:List Nat} {W:World} {d:Desk} {f:A4 Int Report} {h:A4 Int (List Answer)} {v3 v4 v5 v6 v7:Value} (k0:InK .i64 d.terms.answer) (k1:InK .i64 d.terms.mark) (k2:InK .i64 d.terms.lately) (k3:OkD (P:=Tryz.prog) M W (.sl (.st 1)) d.reports v3) (k4:OkD (P:=Tryz.prog) M W (.sl (.st 2)) d.disputes v4) (k5:OkD (P:=Tryz.prog) M W (.sl (.st 3)) d.answers v5) (k6:OkD (P:=Tryz.prog) M W (.mp 3 (.int .i64) (.st 1)) f v6) (k7:OkD (P:=Tryz.prog) M W (.mp 3 (.int .i64) (.sl (.st 3))) h v7)
  (c3:v3.cells=#[v3]) (c4:v4.cells=#[v4]) (c5:v5.cells=#[v5]) (c6:v6.cells=#[v6]) (c7:v7.cells=#[v7]) :
  OkD (P:=Tryz.prog) M W (.st 10) (⟨d,f,h⟩:Desk_99) (.agg (List.toArray [.int .i64 d.terms.answer,.int .i64 d.terms.mark,.int .i64 d.terms.lately,v3,v4,v5,v6,v7])):=
 H3 (ρ:=fun _=>undef) (R:=fun _=>none) (M:=M) (fun _ h=>h) (.st 10) (.agg [.int .i64 d.terms.answer,.int .i64 d.terms.mark,.int .i64 d.terms.lately,.dat (.sl (.st 1)) d.reports,.dat (.sl (.st 2)) d.disputes,.dat (.sl (.st 3)) d.answers,.dat (.mp 3 (.int .i64) (.st 1)) f,.dat (.mp 3 (.int .i64) (.sl (.st 3))) h]) (fun i hi=>by cases hi) rfl
  ⟨_,rfl,_,[_],_,rfl,⟨rfl,k0⟩,rfl,_,[_],_,rfl,⟨rfl,k1⟩,rfl,_,[_],_,rfl,⟨rfl,k2⟩,rfl,v3,[v3],_,rfl,⟨rfl,k3⟩,c3,v4,[v4],_,rfl,⟨rfl,k4⟩,c4,v5,[v5],_,rfl,⟨rfl,k5⟩,c5,v6,[v6],_,rfl,⟨rfl,k6⟩,c6,v7,[v7],_,rfl,⟨rfl,k7⟩,c7,rfl⟩
theorem ok70:Ctr.ok Tryz.prog 70 ctr70:=by
 refine⟨by decide,fun M w a vals r hM hg ha hr=>?_⟩
 obtain⟨d,_⟩:=a
 obtain⟨vd,_,rfl,hvd,rfl⟩:=ha
 have hvd:OkD (P:=Tryz.prog) M w (.st 4) d vd:=hvd
 have hr:O7 d=some r:=hr
 unfold O7 at hr
 obtain⟨f,hf,hr⟩:=Q1 hr
 obtain⟨e,he,hr⟩:=Q1 hr
 have h0:Holds (P:=Tryz.prog) w [] M ⟨[(0,.str 4 d)],[],[],[]⟩ [(0,vd)] w:=by
  refine Holds.start hM (fun t s ht=>?_) ⟨trivial,hg⟩
  rw[fnd_cons] at ht
  split at ht
  . rename_i e;subst e;cases ht;exact⟨vd,rfl,hvd⟩
  . cases ht
 refine F9 (l:=[vd]) (fn:=Tryz.f70) Tryz.func70 rfl rfl rfl ?_
 refine A6 ?_
 refine AA1 AF1 (by exact rfl) h0 fun L1 w1 hE1 h1=>?_
 refine A6 ?_
 refine AA1 AF1 (by exact rfl) h1 fun L2 w2 hE2 h2=>?_
 have h3:=AEe (env':=(s70 d).env) (res':=(s70 d).res) h2 ⟨rfl,rfl,rfl,rfl,trivial⟩ fun _=>rfl
 clear h1 h2
 refine A6 ?_
 refine AOR AF1 AM7 anpre70.r.r (sh:=AM8) (σ:=s70 d) ((AVr d).trans hf) h3 fun L3 w3 hE3 h4=>?_
 obtain⟨S,ρ,γ,μ,ι,hS⟩:=h4
 obtain⟨v4,l4,bb4,hb4,rfl⟩:=hS.env 4 (.ptr 4 0) rfl
 obtain⟨v2,l2,bb2,hb2,rfl⟩:=hS.env 2 (.ptr 2 0) rfl
 obtain⟨v1,l1,bb1,hb1,rfl⟩:=hS.env 1 (.ptr 1 0) rfl
 obtain⟨v3,l3,rfl,_⟩:=hS.env 3 (.int .i64 0) rfl
 obtain⟨b4,e4,r4,o4,i4⟩:=hS.rowAt (i:=4) (e:=99) (l:=[.int .i64 d.terms.answer,.int .i64 d.terms.mark,.int .i64 d.terms.lately,.dat (.sl (.st 1)) d.reports,.dat (.sl (.st 2)) d.disputes,.dat (.sl (.st 3)) d.answers,.own 13,.own 14]) rfl
 obtain⟨b2,e2,r2,o2,i2⟩:=hS.rowAt (i:=2) (e:=99) (l:=[.int .i64 0,.int .i64 0,.int .i64 0,.nilS,.nilS,.nilS,.raw (.map none),.raw (.map none)]) rfl
 obtain⟨b1,e1,r1,o1,i1⟩:=hS.rowAt (i:=1) (e:=28) (l:=[.int .i64 d.terms.answer,.int .i64 d.terms.mark,.int .i64 d.terms.lately,.dat (.sl (.st 1)) d.reports,.dat (.sl (.st 2)) d.disputes,.dat (.sl (.st 3)) d.answers]) rfl
 have i13:=hS.res 13 (.own false (.mp 3 (.int .i64) (.st 1)) f) rfl
 have i14:=hS.res 14 (.own false (.mp 3 (.int .i64) (.sl (.st 3))) (fnone:A4 Int (List Answer))) rfl
 obtain⟨b13,e13⟩:∃ b,ρ 13=.map (some b):=hS.row 13 _ rfl
 obtain⟨b14,e14⟩:∃ b,ρ 14=.map (some b):=hS.row 14 _ rfl
 rw[hb4] at e4;cases e4
 rw[hb2] at e2;cases e2
 rw[hb1] at e1;cases e1
 obtain⟨qa,g4,k0,oa⟩:=AAO o4
 obtain⟨qb,ea,k1,ob⟩:=AAO oa
 obtain⟨qc,eb,k2,oc⟩:=AAO ob
 obtain⟨vr,qd,ec,dr,cr,od⟩:=AD2 oc
 obtain⟨vx,qe,ed,dx,cx,oe⟩:=AD2 od
 obtain⟨vy,qf,ee,dy,cy,of⟩:=AD2 oe
 obtain⟨qg,ef,og⟩:=ACT of
 obtain⟨qh,eg,oh⟩:=ACT og
 have oh:qh=[]:=oh
 rw[oh] at eg
 rw[eg,e14] at ef
 rw[ef,e13] at ee
 rw[ee] at ed
 rw[ed] at ec
 rw[ec] at eb
 rw[eb] at ea
 rw[ea] at g4
 rw[g4] at r4 i4
 obtain⟨pa,g1,_,oa1⟩:=AAO o1
 obtain⟨pb,fa,_,ob1⟩:=AAO oa1
 obtain⟨pc,fb,_,oc1⟩:=AAO ob1
 obtain⟨vr1,pd,fc,_,_,od1⟩:=AD2 oc1
 obtain⟨vx1,pe,fd,_,_,oe1⟩:=AD2 od1
 obtain⟨va1,pf,fe,da1,_,of1⟩:=AD2 oe1
 have of1:pf=[]:=of1
 rw[of1] at fe
 rw[fe] at fd
 rw[fd] at fc
 rw[fc] at fb
 rw[fb] at fa
 rw[fa] at g1
 rw[g1] at r1 i1
 have hn2:(γ 2).length=8:=by
  obtain⟨_,t1,a1,u1⟩:=AA2 o2 fun u h=>by obtain⟨rfl,_⟩:=h;rfl
  obtain⟨_,t2,a2,u2⟩:=AA2 u1 fun u h=>by obtain⟨rfl,_⟩:=h;rfl
  obtain⟨_,t3,a3,u3⟩:=AA2 u2 fun u h=>by obtain⟨rfl,_⟩:=h;rfl
  obtain⟨_,t4,a4,u4⟩:=AA2 u3 fun u h=>by have h:u=.slice none 0 0:=h;rw[h];rfl
  obtain⟨_,t5,a5,u5⟩:=AA2 u4 fun u h=>by have h:u=.slice none 0 0:=h;rw[h];rfl
  obtain⟨_,t6,a6,u6⟩:=AA2 u5 fun u h=>by have h:u=.slice none 0 0:=h;rw[h];rfl
  obtain⟨_,t7,a7,u7⟩:=AA2 u6 fun u h=>by obtain⟨rfl,_⟩:=h;rfl
  obtain⟨_,t8,a8,u8⟩:=AA2 u7 fun u h=>by obtain⟨rfl,_⟩:=h;rfl
  have u8:t8=[]:=u8
  rw[a1,a2,a3,a4,a5,a6,a7,a8,u8];rfl
 have i13:S[ι 13]?=some (mapO K3 ReportE true b13 f):=by rw[i13];show some (mapRes (P:=Tryz.prog) [] 3 (.int .i64) (.st 1) (blk (ρ 13)) f)=_;rw[e13];rfl
 have i14:S[ι 14]?=some (mapO K3 (enc (P:=Tryz.prog) (.sl (.st 3))) false b14 fnone):=by rw[i14];show some (mapRes (P:=Tryz.prog) [] 3 (.int .i64) (.sl (.st 3)) (blk (ρ 14)) fnone)=_;rw[e14];rfl
 have hI:=hS.hp
 have hgl:=hS.anch.2
 have hne:∀ {i j:Nat} {a b:AR},A1 (B5 (C8 AM7++C6 anpre70.r.r) AM8 (s70 d) f).res i=some a->A1 (B5 (C8 AM7++C6 anpre70.r.r) AM8 (s70 d) f).res j=some b->i≠j->ι i≠ι j:=fun {i j a b} h1 h2 hn e=>hn (hS.inj _ _ _ _ h1 h2 e)
 have n4:ι 4≠ι 14:=hne (i:=4) (j:=14) rfl rfl (by decide)
 have n2:ι 2≠ι 14:=hne (i:=2) (j:=14) rfl rfl (by decide)
 have n1:ι 1≠ι 14:=hne (i:=1) (j:=14) rfl rfl (by decide)
 have n13:ι 13≠ι 14:=hne (i:=13) (j:=14) rfl rfl (by decide)
 have n24:ι 2≠ι 4:=hne (i:=2) (j:=4) rfl rfl (by decide)
 have n213:ι 2≠ι 13:=hne (i:=2) (j:=13) rfl rfl (by decide)
 clear hne hS o1 o4 oa ob oc od oe of og oa1 ob1 oc1 od1 oe1
 have hI1:Hp w [] M (S.set (ι 14) (mapO K3 K5 false b14 fnone)) w3:=hI.upd (ι 14) i14 (Kp.refl _ _) (fun b hb=>.inl hb) rfl fun M' hM'=>ABp (hI.mapAt' _ i14) (fun k x v h=>by cases h) (fun k _=>rfl)
 have x1:Adv (mm S M) (mm (S.set (ι 14) (mapO K3 K5 false b14 fnone)) M) w3 w3:=hI.updA (r':=mapO K3 K5 false b14 fnone) (ι 14) i14 (Kp.refl _ _) (fun b hb=>.inl hb)
 have memM2:∀ b∈bb2 :: M,b∈mm S M:=fun b hb=>mem_mm.2 ((List.mem_cons.1 hb).imp (fun e=>⟨_,List.mem_of_getElem? i2,by rw[e];exact List.mem_singleton.2 rfl⟩) id)
 have nin:∀ {b:Nat} {j:Nat} {r:Res},S[j]?=some r->b∈r.fp->ι 2≠j->b∉bb2 :: M:=fun {b j r} hj hb hn hm=>by
  rcases List.mem_cons.1 hm with e|hm
  . exact hI.dis (ι 2) j _ _ i2 hj hn bb2 (List.mem_singleton.2 rfl) (e▸hb)
  . exact hI.sepM _ (List.mem_of_getElem? hj) b hb hm
 have n214:ι 2≠ι 14:=n2
 have h4r:RdC (bb2 :: M) w3 bb4 0 _:=G8 (nin i4 (List.mem_singleton.2 rfl) n24) r4
 have d13:OkD (P:=Tryz.prog) (bb2 :: M) w3 (.mp 3 (.int .i64) (.st 1)) f (.map (some b13)):=⟨[_],⟨_,K3,rfl,rfl,b13,rfl,nin i13 (List.mem_singleton.2 rfl) n213,ABp (hI.mapAt' _ i13) (fun k x v h hv=>⟨x,h,hv.mon fun b hb=>.inl (memM2 b hb)⟩) (fun k h=>h)⟩,.inr ⟨rfl,rfl⟩⟩
 have d14:OkD (P:=Tryz.prog) (bb2 :: M) w3 (.mp 3 (.int .i64) (.sl (.st 3))) (fnone:A4 Int (List Answer)) (.map (some b14)):=⟨[_],⟨_,K3,rfl,rfl,b14,rfl,nin i14 (List.mem_singleton.2 rfl) n214,ABp (hI.mapAt' _ i14) (fun k x v h=>by cases h) (fun k h=>h)⟩,.inr ⟨rfl,rfl⟩⟩
 have hdesk:=ALz k0 k1 k2 (OkD.adv dr (Adv.drop memM2)) (OkD.adv dx (Adv.drop memM2)) (OkD.adv dy (Adv.drop memM2)) d13 d14 cr cx cy rfl rfl
 obtain⟨cs,hR,hcs⟩:=id hdesk
 have hcs:cs=[.int .i64 d.terms.answer,.int .i64 d.terms.mark,.int .i64 d.terms.lately,vr,vx,vy,.map (some b13),.map (some b14)]:=by
  rcases hcs with⟨_,h⟩|⟨h,_⟩
  . have h:=Value.agg.inj h
    simpa using h.symm
  . cases h
 subst hcs
 have hw3:w.heap.size<=w3.heap.size:=hI.kp.size
 have hb2:w.heap.size<=bb2:=((hI.own _ (List.mem_of_getElem? i2)).2 bb2 (List.mem_singleton.2 rfl)).resolve_left (fun h=>by cases h)
 refine A6 ?_
 refine AM6 (fun b hb=>hI.mlt b (memM2 b hb)) (hgl.adv (Adv.drop memM2)) h4r hR r2 ?_ l2 l4 he (fun he0 L4 w4 hE4 lk4=>?_) (fun hne L4 w4 w5 hE4 hk5 hr5 hke lk4 l34=>?_)
 . exact hn2
 . rw[if_pos he0] at hr
   obtain⟨h,hh,hr⟩:=Q1 hr
   cases hr
   refine A6 ?_
   have hw4:w.heap.size<=w4.heap.size:=Nat.le_trans hw3 hE4.size
   refine APo (S0:=S.set (ι 14) (mapO K3 K5 false b14 fnone)) (jm:=ι 14) (j4:=ι 4) (j1:=ι 1) (bm:=b14) (hI1.ext hE4) (List.getElem?_set_self (List.getElem?_eq_some_iff.1 i14).1) (by rw[List.getElem?_set_ne (Ne.symm n4)];exact i4) rfl (by rw[List.getElem?_set_ne (Ne.symm n1)];exact i1) rfl (OkD.rds (OkD.adv da1 (x1.trans (Adv.of_ext hE4)))) n4 hw4 ((lk4 1 (by decide)).trans l1) ((lk4 4 (by decide)).trans l4) hh fun L5 w5 g os lk5 hg5 hh5 hH5=>?_
   rw[List.set_set] at hH5
   have hlo:(K6 os).length=os.length:=by simp[K6]
   have at1:∀ {j:Nat} {q:Res},S[j]?=some q->j≠ι 14->(K6 os++S.set (ι 14) (mapO K3 K5 false b14 g))[os.length+j]?=some q:=fun {j q} hj hn=>by
    rw[List.getElem?_append_right (by rw[hlo];omega),hlo,Nat.add_sub_cancel_left,List.getElem?_set_ne (Ne.symm hn)]
    exact hj
   have at14:(K6 os++S.set (ι 14) (mapO K3 K5 false b14 g))[os.length+ι 14]?=some (mapO K3 K5 false b14 g):=by
    rw[List.getElem?_append_right (by rw[hlo];omega),hlo,Nat.add_sub_cancel_left,List.getElem?_set_self (List.getElem?_eq_some_iff.1 i14).1]
   refine A6 ?_
   refine A9 ?_
   refine AA3 ((lk5 4 (by decide)).trans ((lk4 4 (by decide)).trans l4)) (hH5.1.row _ (at1 i4 n4)).rd.cells Tryz.isAgg99 rfl Tryz.sizeOf99 rfl ?_
   refine ABN (os.length+ι 2) hH5.1 (at1 i2 n2) ((lk5 2 (by decide)).trans ((lk4 2 (by decide)).trans l2)) rfl rfl Tryz.sizeOf99 rfl (by rw[hn2];rfl) ((enc (P:=Tryz.prog) (.st 10)).one hR) ?_
   intro w6 hI6 x6
   refine G0 rfl rfl ?_
   refine Reg.nil ?_
   refine J0 ?_
   rw[AEf (by rw[hn2];rfl)] at hI6 x6
   have hx6:=x1.trans ((Adv.of_ext hE4).trans (hH5.2.trans x6))
   have keep:∀ {j:Nat} {q:Res},(K6 os++S.set (ι 14) (mapO K3 K5 false b14 g))[j]?=some q->j≠os.length+ι 2->((K6 os++S.set (ι 14) (mapO K3 K5 false b14 g)).set (os.length+ι 2) (rowR 99 bb2 [.int .i64 d.terms.answer,.int .i64 d.terms.mark,.int .i64 d.terms.lately,vr,vx,vy,.map (some b13),.map (some b14)]))[j]?=some q:=fun {j q} hj hn=>by
    rw[List.getElem?_set_ne (Ne.symm hn)];exact hj
   have f13:=keep (at1 i13 n13) (by omega)
   have f14:=keep at14 (by omega)
   have fown:∀ o∈os,RdS AnswerE M w6 o.2.1 o.2.2:=fun o ho=>by
    obtain⟨i,hi⟩:=List.getElem?_of_mem ho
    have hil:i < os.length:=(List.getElem?_eq_some_iff.1 hi).1
    have h1:(K6 os++S.set (ι 14) (mapO K3 K5 false b14 g))[i]?=some (ownR [] AnswerE 60 o.2.1 o.2.2):=by
     rw[List.getElem?_append_left (by rw[hlo];exact hil)]
     simp only[K6,List.getElem?_map,hi];rfl
    have h2:=keep h1 (by omega)
    exact ((hI6.ownAt i h2).mon fun b hb=>.inr (mem_mm.2 (.inr hb))).rd fun b hb=>hI6.sepM _ (List.mem_of_getElem? h2) b hb
   have c13:OkD (P:=Tryz.prog) M w6 (.mp 3 (.int .i64) (.st 1)) f (.map (some b13)):=⟨[_],⟨_,K3,rfl,rfl,b13,rfl,hI.sepM _ (List.mem_of_getElem? i13) b13 (List.mem_singleton.2 rfl),ABp (hI6.mapAt' _ f13) (fun k x v h hv=>⟨x,h,hv.mon fun b hb=>.inl (mem_mm.2 (.inr hb))⟩) (fun k h=>h)⟩,.inr ⟨rfl,rfl⟩⟩
   have c14:OkD (P:=Tryz.prog) M w6 (.mp 3 (.int .i64) (.sl (.st 3))) h (.map (some b14)):=⟨[_],⟨_,K3,rfl,rfl,b14,rfl,hI.sepM _ (List.mem_of_getElem? i14) b14 (List.mem_singleton.2 rfl),ABp (hI6.mapAt' _ f14) (fun k x v hk hv=>by
    obtain⟨o,ho,ho2⟩:=List.mem_map.1 ((hg5.2 k x).2 hk)
    cases ho2
    obtain⟨cs,⟨h1,_⟩,⟨h2,_⟩|⟨_,h2⟩⟩:=hv
    . cases h2
    . rw[h1] at h2
      have h2:=List.singleton_inj.1 h2
      subst h2
      exact⟨o.2.2,(hh5.2 o.1 o.2.2).1 (List.mem_map.2 ⟨o,ho,rfl⟩),[_],⟨_,rfl,fown o ho⟩,.inr ⟨rfl,rfl⟩⟩) (fun k hk=>by
    refine hh5.none fun x hx e=>?_
    obtain⟨o,ho,rfl⟩:=List.mem_map.1 hx
    have h1:=(hg5.2 o.1 o.2.1).1 (List.mem_map.2 ⟨o,ho,rfl⟩)
    rw[show o.1=k from e,hk] at h1
    cases h1)⟩,.inr ⟨rfl,rfl⟩⟩
   have memM:∀ b∈M,b∈mm ((K6 os++S.set (ι 14) (mapO K3 K5 false b14 g)).set (os.length+ι 2) (rowR 99 bb2 [.int .i64 d.terms.answer,.int .i64 d.terms.mark,.int .i64 d.terms.lately,vr,vx,vy,.map (some b13),.map (some b14)])) M:=fun b hb=>mem_mm.2 (.inr hb)
   have hfin:=ALz (d:=d) (f:=f) (h:=h) k0 k1 k2 ((OkD.adv dr hx6).mon memM) ((OkD.adv dx hx6).mon memM) ((OkD.adv dy hx6).mon memM) c13 c14 cr cx cy rfl rfl
   have r6:=hI6.row (os.length+ι 2) (List.getElem?_set_self (List.getElem?_eq_some_iff.1 (at1 i2 n2)).1)
   exact M9 (rs:=[.cell 2 99,.tmp 3]) (vs:=[_,_]) rfl (.cons (.agg ((lk5 2 (by decide)).trans ((lk4 2 (by decide)).trans l2)) r6.rd.cells Tryz.isAgg99 rfl Tryz.sizeOf99) (.cons (.tmp rfl) .nil)) rfl ⟨[_,_],rfl,⟨_,_,rfl,hfin,_,rfl,⟨[_],⟨rfl,(by decide:InK .i64 0)⟩,.inr ⟨rfl,rfl⟩⟩⟩,hI6.kp⟩
 . rw[if_neg hne] at hr
   cases hr
   have hA5:Adv (bb2 :: M) (bb2 :: M) w3 w5:=⟨(hE4.mono fun b hb=>by cases hb).trans (hk5.mono fun b hb=>.inl (List.mem_cons.2 (.inl (List.mem_singleton.1 hb)))),fun b hb=>.inl hb⟩
   refine M9 (rs:=[.cell 2 99,.tmp 3]) (vs:=[_,_]) rfl (.cons (.agg ((lk4 2 (by decide)).trans l2) hr5.rd.cells Tryz.isAgg99 rfl Tryz.sizeOf99) (.cons (.tmp l34) .nil)) rfl ⟨[_,_],rfl,⟨_,_,rfl,(OkD.adv hdesk hA5).mon fun b hb=>List.mem_cons_of_mem _ hb,_,rfl,⟨[_],⟨rfl,hke⟩,.inr ⟨rfl,rfl⟩⟩⟩,?_⟩
   exact (hI.kp.trans hE4).tail hk5 fun c hc=>by rw[List.mem_singleton.1 hc];exact .inr hb2
end Go.Proofs.YtgioiejbphljoaaGreatDoor
