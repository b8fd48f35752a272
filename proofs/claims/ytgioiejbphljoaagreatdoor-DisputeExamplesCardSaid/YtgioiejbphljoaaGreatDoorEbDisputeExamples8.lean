/-
  Part DisputeExamples 8 of the texts that the statement's proof stands on: what memory holds, how code is walked, what the functions reckon. In the order in which they build.
-/
import Derived.Test.YtgioiejbphljoaaGreatDoorRows
import Derived.WalkKit
import Derived.ProofKit
import Derived.OpenShut
import Derived.ChangeOld
import Derived.Below
import Derived.LaidMore
import Derived.LaidSub
import Derived.WideKeyMaps
import Derived.Stop.Joined
import Derived.Shelf.Spec.SlicesGrow
import Derived.Test.YtgioiejbphljoaaGreatDoorEbDisputeExamples7
open List (mem_append mem_cons mem_map mem_of_getElem? mem_singleton toArray)
open Nat (beq blt)
open Go.Proofs.Tryz
set_option linter.unusedVariables false
set_option linter.unusedSectionVars false
set_option maxRecDepth 100000
set_option maxHeartbeats 4000000
noncomputable section
namespace Go.Proofs.YtgioiejbphljoaaGreatDoor
open Go Go.Sx Go.Rx Go.ChangeShapes Go.WideShapes Go.ChangeAt Go.RowKit
namespace frame
variable{W:World}
theorem own:ownKnob prog.godebug=none:=by kernel_rfl
abbrev laid3:List (String×DataW Unit):=[("goodname/account.most",Rows.laid_goodname_account_most),("goodname/dispute.steps",Rows.laid_goodname_dispute_steps),("goodname/dispute.outcomes",Rows.laid_goodname_dispute_outcomes)]
theorem g0:prog.globalNamed "goodname/account.most" = some 0:=by kernel_rfl
theorem t0:(prog.globals[0]?).map (·.type)=some 181:=by kernel_rfl
theorem g1:prog.globalNamed "goodname/dispute.steps" = some 1:=by kernel_rfl
theorem t1:(prog.globals[1]?).map (·.type)=some 184:=by kernel_rfl
theorem g2:prog.globalNamed "goodname/dispute.outcomes" = some 2:=by kernel_rfl
theorem t2:(prog.globals[2]?).map (·.type)=some 202:=by kernel_rfl
theorem AP2(os:Os)(args:Array Value):laidMetH prog laid3 ((World.doorLaid prog 400 os).forCall (fun _ _=>0) ⟨#[],args,[]⟩).memory:=
 laidMetH_of_parts3 (fuel:=8) (laidMet_of_run' 8 (by kernel_rfl) (by kernel_rfl)) (by kernel_rfl) (by kernel_rfl)
theorem ANB{b:Nat}{cs:List Value}(H:0<cs.length)(I:∀j v,cs[j]?=some v->W.cell? ⟨b,0+j,none⟩=some v):RdC [] W b 0 cs:=by
 refine⟨by simp,?_,I⟩;have H:=I 0 cs[0] (AX7 H);rcases AYF b W.heap.size with h|h
 . exact h
 . have:W.heap[b]?=none:=AYq (by omega);simp[World.cell?,this]at H
theorem AR4(h:laidMet prog [("goodname/account.most",Rows.laid_goodname_account_most),("goodname/dispute.outcomes",Rows.laid_goodname_dispute_outcomes)] W):RdC [] W 0 0 (glob0.map (Value.int .i64)):=by
 obtain⟨ps,⟨q0,u0,cs0,f0,p0,r0,hg0,ht0,hv0,hd0,_,_⟩,_,_⟩:=h;obtain rfl:=AXz (g0.symm.trans hg0);obtain rfl:=AXz (t0.symm.trans ht0);obtain⟨xs,m,rfl,hx,hlen,hn,hel⟩:=DataW.trod_array underlying181 hd0;have c3:prog.cellsOf 3=1:=by kernel_rfl
 have hxs:xs.map (·.1)=glob0.map fun n=>DataW.lit (.int .i64 n):=by
  have:=AX9 Prod.fst hx;simp only[Rows.laid_goodname_account_most,DataW.agg.injEq]at this;exact this.symm
 refine ANB (by decide) fun j v hj=>?_;have hj10:j<10:=by
  have:=(List.getElem?_eq_some_iff.1 hj).1;simpa[glob0] using this
 have h1:=hel j hj10;rw[c3,Nat.mul_one]at h1;obtain⟨x,hxj⟩:∃x,xs[j]?=some x:=⟨_,AX7 (by omega)⟩;obtain⟨n,e1,e2,_⟩:=DataW.trod_int underlying3 (h1.trans hxj);have e3:(xs.map (·.1))[j]?=some (DataW.lit (.int .i64 n)):=by rw[AYc,hxj,e2];rfl
 rw[hxs,AYc]at e3;rw[AYc]at hj;cases hg:glob0[j]? with
 |none=>rw[hg]at e3;cases e3
 |some y=>
  rw[hg]at e3 hj
  simp at e3 hj
  subst e3 hj
  have:=World.var?_cell hg0 hv0 j
  rw[AYQ,this]
  have h9:=AX9 (fun l:List Value=>l[0]?) e1
  simpa[List.getElem?_take,List.getElem?_drop] using h9
def stepN:List (List UInt8):=[[103,111,111,100,110,97,109,101,47,100,105,115,112,117,116,101,46,115,116,101,112,115,36,49],[103,111,111,100,110,97,109,101,47,100,105,115,112,117,116,101,46,115,116,101,112,115,36,50],[103,111,111,100,110,97,109,101,47,100,105,115,112,117,116,101,46,115,116,101,112,115,36,51],[103,111,111,100,110,97,109,101,47,100,105,115,112,117,116,101,46,115,116,101,112,115,36,52]]
theorem AP3(h:laidMetH prog laid3 W):RdC [] W 1 0 [.func (.func 202) #[] #[],.func (.func 203) #[] #[],.func (.func 204) #[] #[],.func (.func 208) #[] #[]]:=by
 obtain⟨q1,u1,cs1,f1,p1,V,E,D,O⟩:=laidMetH.funcs h (AX0 _ (AX4 ..));obtain rfl:=AXz (g1.symm.trans V);obtain rfl:=AXz (t1.symm.trans E);obtain⟨xs,m,rfl,hx,U,X,K⟩:=DataW.trod_array underlying184 O;have c3:prog.cellsOf 183=1:=by kernel_rfl
 have C:xs.map (·.1)=stepN.map DataW.held:=by
  have:=AX9 Prod.fst hx;simp only[DataW.agg.injEq,DataW.funcsOut]at this;exact this.symm
 have cell:∀(j:Nat) (b:UInt8) (r:List UInt8) (f0:FuncId),j<4->stepN[j]?=some (b::r)->((List.range prog.funcs.size).filter fun f=>(prog.funcs[f]?).any (·.name.toUTF8.data.toList==b::r))=[f0]->W.cell? ⟨1,0+j,none⟩=some (.func (.func f0) #[] #[]):=fun j b r f0 H Y J=>by
  have T:=K j H;rw[c3,Nat.mul_one]at T;obtain⟨x,I⟩:∃x,xs[j]?=some x:=⟨_,AX7 (by omega)⟩;have e3:(xs.map (·.1))[j]?=some (DataW.held (b::r)):=by rw[C,AYc,Y];rfl
  rw[AYc,I]at e3;have e3:x.1=DataW.held (b::r):=AXz e3;have Q:=T.trans I;have A:cs1.toList.length=4:=U.trans (by kernel_rfl);have B:(cs1.toList.drop j).take 1=[cs1.toList[j]'(by omega)]:=by
   rw[AZW (by omega)];rfl
  rw[B]at Q;obtain⟨x1,x2⟩:=x;have e3:x1=DataW.held (b::r):=e3;subst e3;have:=func_of_trod underlying183 J Q;have G:=World.var?_cell V D j;rw[AYQ,G];have F:j<cs1.size:=by simpa using (show j<cs1.toList.length by omega)
  rw[AY3 F];congr 1
 refine ANB (by decide) fun j v H=>?_;match j,H with
 |0,H=>cases H;exact cell 0 _ _ _ (by decide) rfl (by kernel_rfl)
 |1,H=>cases H;exact cell 1 _ _ _ (by decide) rfl (by kernel_rfl)
 |2,H=>cases H;exact cell 2 _ _ _ (by decide) rfl (by kernel_rfl)
 |3,H=>cases H;exact cell 3 _ _ _ (by decide) rfl (by kernel_rfl)
 |n+4,H=>cases H
theorem AF7{H:Type}(x:Lit×DataW H):∀l:List (Lit×DataW H),(DataW.insert x l).Perm (x::l)
 |[]=>.refl _
 |y::r=>by
  unfold DataW.insert;split
  . exact .refl _
  . exact((AF7 x r).cons y).trans (.swap x y r)
theorem AHe{H:Type}:∀l:List (Lit×DataW H),(l.foldr DataW.insert []).Perm l
 |[]=>.refl _
 |x::l=>(AF7 x _).trans ((AHe l).cons x)
def X4(x:Int×Int):Lit×DataW Unit:=(.int .u8 x.1,.lit (.int .u8 x.2))
def AQp:Value->Int
 |.int _ n=>n
 |_=>0
def P0(e:MapEntry):Int×Int:=(AQp e.key,AQp e.val)
theorem AL4{W:World}:∀l:List MapEntry,(∀e∈l,(e.key=.int .u8 (P0 e).1/\InK .u8 (P0 e).1)/\e.val=.int .u8 (P0 e).2/\InK .u8 (P0 e).2)->EntK (W5 (P:=prog) (kt:=5) .u8 underlying5) (B1 .u8) false [] W l (l.map P0)
 |[],_=>trivial
 |e::l,h=>by
  obtain⟨U,J,I⟩:=h e (AX4 ..);exact⟨U,⟨[e.val],⟨by rw[<-J],I⟩,.inr ⟨rfl,rfl⟩⟩,AL4 l fun e H=>h e (AX0 _ H)⟩
theorem AR5{v:Value}{l:Lit}(h:keyOf prog 5 v=some l):∃n,v=.int .u8 n/\l=.int .u8 n/\(Lit.int .u8 n).wf=true:=by
 rw[keyOf_int underlying5]at h;cases v<;>simp[mapKey,underlying5]at h
 obtain⟨⟨rfl,H⟩,rfl⟩:=h;exact⟨_,rfl,rfl,H⟩
theorem ATs(h:laidMet prog [("goodname/account.most",Rows.laid_goodname_account_most),("goodname/dispute.outcomes",Rows.laid_goodname_dispute_outcomes)] W):∃bm,RdC [] W 2 0 [.map (some bm)]/\MapH (W5 (P:=prog) (kt:=5) .u8 underlying5) (B1 .u8) false [] W bm AFn:=by
 obtain⟨ps,⟨_,_,_,_,_,_,_,_,_,_,⟨q2,u2,cs2,f2,p2,r2,hg2,ht2,hv2,hd2,_,_⟩,_⟩,_,_⟩:=h;obtain rfl:=AXz (g2.symm.trans hg2);obtain rfl:=AXz (t2.symm.trans ht2);rcases WideMaps.open_map (P:=prog) underlying202 underlying5 hd2 with⟨_,hx⟩|⟨bm,es,clock,hcs,hb,_,F,hx⟩
 . have:=AX9 Prod.fst hx;cases this
 refine⟨bm,ANB Nat.one_pos fun j v hj=>?_,es,clock,es.toList.map P0,hb,?_,?_,?_⟩
 . match j,hj with
   |0,hj=>
    cases hj
    have:=World.var?_cell hg2 hv2 0
    rw[AYQ,this,Array.eq_one_of_toList hcs]
    rfl
   |n+1,hj=>cases hj
 . obtain⟨s1,s2,_⟩:=(Go.MapKept.stamped_iff es clock).1 F.stamped;exact⟨s2,s1⟩
 all_goals
  have ent:∀e∈es.toList,((e.key=.int .u8 (P0 e).1/\InK .u8 (P0 e).1)/\e.val=.int .u8 (P0 e).2/\InK .u8 (P0 e).2)/\WideMaps.rg Unit prog 5 .u8 e=X4 (P0 e):=fun e he=>by
   obtain⟨y,hy⟩:=F.reads e he;obtain⟨n,v1,v2,v3⟩:=WideMaps.rd_val hy;have hk:=WideMaps.rd_key hy;obtain⟨m,e2,e3,hw⟩:=AR5 hk;have p1:P0 e=(m,n):=by unfold P0;rw[e2,v1];rfl
   rw[p1,WideMaps.rg_of hy];exact⟨⟨⟨e2,ANp hw⟩,v1,ANp v3⟩,Prod.ext e3 v2⟩
 . exact AL4 _ fun e he=>(ent e he).1
 . have hE:es.toList.map (WideMaps.rg Unit prog 5 .u8)=(es.toList.map P0).map X4:=by
    rw[AYe];exact List.map_congr_left fun e he=>(ent e he).2
   have hx1:Rows.laid_goodname_dispute_outcomes=DataW.map ((es.toList.map (WideMaps.rg Unit prog 5 .u8)).foldr DataW.insert []):=AX9 Prod.fst hx;have hx2:[X4 (1,2),X4 (2,3),X4 (3,4)]=(es.toList.map (WideMaps.rg Unit prog 5 .u8)).foldr DataW.insert []:=DataW.map.inj hx1;have hp:((es.toList.map P0).map X4).Perm [X4 (1,2),X4 (2,3),X4 (3,4)]:=by
    rw[<-hE,hx2];exact(AHe _).symm
   generalize es.toList.map P0=xs at hp;have inj:∀a b,X4 a=X4 b->a=b:=fun a b h=>by
    obtain⟨h1,h2⟩:=Prod.mk.inj h;injection h1 with _ h1;injection h2 with h2;injection h2 with _ h2;exact Prod.ext h1 h2
   refine⟨?_,fun a y=>?_⟩
   . have h1:=(hp.map Prod.fst).nodup_iff.2 (by simp[X4]);rw[AYe]at h1;have e:(Prod.fst ∘ X4)=(fun n:Int=>Lit.int .u8 n) ∘ (fun x:Int×Int=>x.1):=rfl;rw[e,<-AYe]at h1;exact(List.pairwise_map.1 h1).imp fun h9 h8=>h9 (by rw[h8])
   . have h1:(a,y)∈xs↔X4 (a,y)∈xs.map X4:=by
      constructor
      . exact fun h=>mem_map.2 ⟨_,h,rfl⟩
      . intro h;obtain⟨x,hx,e⟩:=mem_map.1 h;rw[<-inj _ _ e];exact hx
     rw[h1,hp.mem_iff];have h2:X4 (a,y)∈[X4 (1,2),X4 (2,3),X4 (3,4)]↔(a,y)∈[((1:Int),(2:Int)),(2,3),(3,4)]:=by
      simp only[mem_cons,List.not_mem_nil,or_false];constructor
      . rintro (h|h|h)
        . exact .inl (inj _ _ h)
        . exact .inr (.inl (inj _ _ h))
        . exact .inr (.inr (inj _ _ h))
      . rintro (h|h|h)<;>rw[h]<;>simp
     rw[h2];unfold AFn B5 fnone;simp only[mem_cons,List.not_mem_nil,or_false,Prod.mk.injEq];by_cases c3:a=3
     . subst c3;simp[eq_comm]
     . by_cases c2:a=2
       . subst c2;simp[eq_comm]
       . by_cases c1:a=1
         . subst c1;simp[eq_comm]
         . simp[c1,c2,c3]
theorem AR6(h:laidMetH prog laid3 W):GlOk (P:=prog) [] W:=by
 have hs:=AP3 h;have h1:=(laidMetH_iff.1 h).1;rw[show(laid3.filter fun x=>x.2.handleName?.isNone)=[("goodname/account.most",Rows.laid_goodname_account_most),("goodname/dispute.outcomes",Rows.laid_goodname_dispute_outcomes)] from by kernel_rfl]at h1;have hm:=AR4 h1;obtain⟨bm,ho,hmap⟩:=ATs h1;intro g s hg ρ R;match g,hg with
 |0,hg=>
  cases hg
  exact⟨0,0,.agg (toArray (glob0.map (Value.int .i64))),_,rfl,hm,⟨_,⟨by decide,rfl,rfl,by decide⟩,.inl ⟨rfl,rfl⟩⟩,rfl⟩
 |1,hg=>
  cases hg
  exact⟨1,0,.agg (toArray [.func (.func 202) #[] #[],.func (.func 203) #[] #[],.func (.func 204) #[] #[],.func (.func 208) #[] #[]]),_,rfl,hs,⟨_,rfl,_,[_],_,rfl,⟨[],rfl,rfl⟩,rfl,_,[_],_,rfl,⟨[],rfl,rfl⟩,rfl,_,[_],_,rfl,⟨[],rfl,rfl⟩,rfl,_,[_],_,rfl,⟨[],rfl,rfl⟩,rfl,rfl⟩,rfl⟩
 |2,hg=>
  cases hg
  exact⟨2,0,.map (some bm),_,rfl,ho,⟨rfl,_,⟨_,_,rfl,rfl,bm,rfl,by simp,hmap⟩,.inr ⟨rfl,rfl⟩⟩,rfl⟩
 |n+3,hg=>cases hg
end frame
end Go.Proofs.YtgioiejbphljoaaGreatDoor
namespace Go.Sx
variable{α:Type}{o:Option α}{a:α}{β:Type}{K:α->Option β}{Q:β->Prop}
theorem C2{S R:Type}{body:S->Option (S⊕R)}{s0:S}{Q:R->Prop}(N:Nat)(I:Nat->S->Prop)(W:I 0 s0)(step:∀n<N,∀s,I n s->Ret (body s) (Nxt (I (n+1)) Q))(fin:∀s,I N s->Ret (body s) (Nxt (fun _=>False) Q)):Ret (C0 body s0) Q:=by
 have key:∀(m n:Nat) (s:S),n+m=N->I n s->Ret (C0 body s) Q:=by
  intro m;induction m with
  |zero=>
   intro n s V U
   have:n=N:=by omega
   subst this
   obtain⟨r,J,H⟩:=fin s U
   cases r with
   |inl s'=>exact H.elim
   |inr r=>exact⟨r,ACv J,H⟩
  |succ m ih=>
   intro n s V U
   obtain⟨r,J,H⟩:=step n (by omega) s U
   cases r with
   |inl s'=>rw[AJc J];exact ih (n+1) s' (by omega) H
   |inr r=>exact⟨r,ACv J,H⟩
 exact key N 0 s0 (by omega) W
theorem Ret.eq(h:Ret o (·=a)):o=some a:=by
 obtain⟨b,H,rfl⟩:=h;exact H
theorem ABh{Q':α->Prop}(h:Ret o Q')(hk:∀a,Q' a->Ret (K a) Q):Ret (Option.bind o K) Q:=Ret.bind (h.mono hk)
theorem V7(h:o=some a)(hk:Ret (K a) Q):Ret (Option.bind o K) Q:=Ret.bind (Ret.val h hk)
end Go.Sx
namespace Go.Proofs.YtgioiejbphljoaaGreatDoor
open Go Go.Sx Go.Rx
namespace S
variable{α:Type}{n:Nat}{m:Nat}{s:List α}{f:α->Option Bool}{g:α->Bool}{lo:Int}{hi:Int}{all:List Int}{k:Int}{b:Bool}{Q:Bool->Prop}
theorem bindS{α β:Type}(a:α)(f:α->Option β):(some a).bind f=f a:=rfl
theorem AAo{l:List α}(h:n<l.length):l.take (n+1)=l.take n++[l[n]]:=by
 rw[AZu,AX7 h];rfl
theorem C4{l:List α}(h:n<l.length){x:α}:x∈l.take (n+1)↔x∈l.take n\/x=l[n]:=by
 rw[AAo h,AYY,AZp]
theorem O4{l:List α}{Q:α->Prop}(h:n<l.length)(q:Q l[n]):Ret (ixo l (n:Int)) Q:=Ret.ixo (AX7 h) q
theorem Y9(h:n<m):decide ((n:Int)<(m:Int))=true:=AYA (by omega)
theorem Z0(h:m<=n):decide ((n:Int)<(m:Int))=false:=AX8 (by omega)
def AGl{α:Type}(s:List α)(f:α->Option Bool):Option Int:=(C0 (S:=Int) (R:=(Unit⊕Int)) (fun x5=>cond (decide (x5<(s.length:Int))) ((ixo s x5).bind fun y6=>(f y6).bind fun y7=>cond (y7) (some (Sum.inr (Sum.inr x5))) ((chk .i64 (x5+1)).bind fun n8=>some (Sum.inl n8))) (some (Sum.inr (Sum.inl ())))) (0:Int)).bind ((Sum.elim (fun _=>some ((-1):Int)) (fun r9=>some r9)))
theorem AHf(h:∀x∈s,f x=some (g x))(hl:s.length<=1000000){Q:Int->Prop}(V:(∀x∈s,g x=false)->Q (-1))(U:∀(n:Nat) (W:n<s.length),g s[n]=true->(∀x∈s.take n,g x=false)->Q n):Ret (AGl s f) Q:=by
 unfold AGl;refine Ret.bind (C2 s.length (fun n (t:Int)=>t=n/\∀x∈s.take n,g x=false) ⟨rfl,fun x hx=>by simp at hx⟩ ?_ ?_)
 . rintro n H _ ⟨rfl,I⟩;refine Ret.condT (Y9 H) (Ret.bind (O4 H (V7 (h _ (AYJ H)) ?_)));refine Ret.cond (fun J=>Ret.done (E5 (Ret.ok (U n H J I)))) fun J=>?_;refine Ret.bind (Ret.chk (by omega) (Ret.next ⟨by omega,fun x hx=>?_⟩));rw[C4 H]at hx;rcases hx with hx|rfl
   . exact I x hx
   . exact J
 . rintro _ ⟨rfl,I⟩;rw[AYL]at I;exact Ret.condF (Z0 (AYE _)) (Ret.done (C8 (Ret.ok (V I))))
theorem AJP(h:∀x∈s,f x=some (g x))(hl:s.length<=1000000):(AGl s f).bind (fun r1=>some (decide (0<=r1)))=some (s.any g):=by
 refine Ret.eq (Ret.bind (AHf h hl (fun H=>Ret.ok ?_) fun n I H _=>Ret.ok ?_))
 . have:s.any g=false:=by
    rw[List.any_eq_false];intro x hx;rw[H x hx];decide
   rw[this];decide
 . have:s.any g=true:=List.any_eq_true.2 ⟨_,AYJ I,H⟩;rw[this];exact AYA (by omega)
def inB(lo hi n:Int):Bool:=decide (lo<=n/\n<=hi)
theorem F9{lo hi n:Int}(h:lo<=n/\n<=hi):inB lo hi n=true:=AYA h
theorem K9{lo hi n:Int}(h:inB lo hi n=true):lo<=n/\n<=hi:=AX6 h
theorem AOf:(!all.any fun n=>!inB lo hi n)=all.all (inB lo hi):=by
 rw[List.any_eq_not_all_not];simp
theorem ADR(hl:all.length<=1000000):N0 lo hi all=some (all.all (inB lo hi)):=by
 have:=AJP (s:=all) (f:=fun a1=>Q4 a1 lo hi) (g:=fun n=>!inB lo hi n) (fun x _=>?_) hl
 . unfold N0;rw[show H6 all (fun a1=>Q4 a1 lo hi)=_ from this,bindS,AOf]
 . unfold Q4;by_cases h:x<lo
   . simp[h,inB]<;>omega
   . by_cases H:hi<x
     . simp[h,H,inB]<;>omega
     . simp[h,H,inB]<;>omega
theorem ATt(hl:all.length<=1000000):D9 lo hi all=some (all.all (inB lo hi)):=by
 have:=AJP (s:=all) (f:=fun a1=>Q3 a1 lo hi) (g:=fun n=>!inB lo hi n) (fun x _=>?_) hl
 . unfold D9;rw[show H6 all (fun a1=>Q3 a1 lo hi)=_ from this,bindS,AOf]
 . unfold Q3;by_cases h:x<lo
   . simp[h,inB]<;>omega
   . by_cases H:hi<x
     . simp[h,H,inB]<;>omega
     . simp[h,H,inB]<;>omega
theorem d_in1{lo hi n:Int}:D9 lo hi [n]=some (inB lo hi n):=by
 rw[ATt (by simp)];simp
theorem d_in2{lo hi a b:Int}:D9 lo hi [a,b]=some (inB lo hi a&&inB lo hi b):=by
 rw[ATt (by simp)];simp
theorem AFp{n lo hi:Int}:E6 n lo hi=some (inB lo hi n):=by
 unfold E6;by_cases h:lo<=n
 . by_cases H:n<=hi<;>simp[h,H,inB]
 . simp[h,inB]
def most(k:Int):Int:=if k=1\/k=7\/k=9 then 0 else if k=5 then 10000 else 1000000000000
theorem AKx(h:1<=k/\k<=9){γ:Type}{K:Int->Option γ}:((ixA 10 k).bind fun i=>(ixo glob0 (i*1)).bind K)=K (most k):=by
 have:k=1\/k=2\/k=3\/k=4\/k=5\/k=6\/k=7\/k=8\/k=9:=by omega
 rcases this with rfl|rfl|rfl|rfl|rfl|rfl|rfl|rfl|rfl<;>rfl
def V(r:Report):Prop:=(1<=r.kind/\r.kind<=9)/\(0<=r.id/\r.id<=999999)/\(0<=r.source/\r.source<=999999)/\(0<=r.account/\r.account<=999999)/\(0<=r.of_/\r.of_<=999999)/\(0<=r.made/\r.made<=100000)/\(0<=r.about/\r.about<=100000)/\(0<=r.cents/\r.cents<=most r.kind) /\
 (r.kind<=7->r.of_=0)/\(8<=r.kind->r.of_≠r.id)/\(r.kind=9->r.about=0)
theorem AL5{r:Report}(h:V r):H0 r=some true:=by
 obtain⟨c1,c2,c3,c4,c5,c6,c7,c8,c9,c10,c11⟩:=h;refine Ret.eq ?_;unfold H0;refine Ret.bind (Ret.bind (Ret.chk (by omega) ?_));rw[ADR (by simp),bindS];refine Ret.condF (by simp[inB,c1]) ?_;rw[ADR (by simp),bindS];refine Ret.condF (by simp[inB,c2,c3,c4,c5]) ?_;rw[ADR (by simp),bindS];refine Ret.condF (by simp[inB,c6,c7]) ?_;rw[AKx c1,ADR (by simp),bindS];refine Ret.ok (Ret.condF (by simp[inB,c8]) ?_);unfold I3;rw[bindS];refine Ret.cond (fun h=>?_) fun h=>?_
 . exact Ret.ok (AYA (c9 (AX6 h)))
 . have h:=AYD h;have hx:(cond (decide (r.kind=9)) (some (!decide (r.about=0))) (some false):Option Bool)=some false:=by
    by_cases c:r.kind=9
    . simp[c,c11 c]
    . simp[c]
   refine V7 hx (Ret.condF rfl (Ret.ok ?_));rw[AX8 (c10 (by omega))];rfl
theorem AOg{k n:Int}(hk:1<=k/\k<=8):ABu k n=some (inB 0 (most k) n):=by
 unfold ABu;rw[AFp,AFp];have:k=1\/k=2\/k=3\/k=4\/k=5\/k=6\/k=7\/k=8:=by omega
 rcases this with rfl|rfl|rfl|rfl|rfl|rfl|rfl|rfl<;>simp[most,inB]<;>(rw[Bool.eq_iff_iff];simp;omega)
theorem Ret.no{o:Option Bool}(I:Q true)(H:b=true->Ret o Q):Ret (cond (!b) (some true) o) Q:=by
 cases b with
 |true=>exact H rfl
 |false=>exact Ret.ok I
theorem Ret.last(I:Q true)(H:b=true->Q false):Ret (some (!b)) Q:=by
 cases b with
 |true=>exact Ret.ok (H rfl)
 |false=>exact Ret.ok I
theorem AL6{r:Report}(hk:0<=r.kind/\r.kind<=255):Ret (R6 r) fun b=>b=true->V r:=by
 unfold R6;simp only[AFp,bindS];have bad:∀{o:Option Bool},Ret (cond true (some false) o) fun b=>b=true->V r:=fun {o}=>Ret.condT rfl (Ret.ok fun h=>by cases h);refine Ret.bind (Ret.no bad fun c2=>Ret.no bad fun c3=>Ret.no bad fun c4=>Ret.no bad fun c6=>Ret.no bad fun c7=>Ret.bind (Ret.chk (by omega) (Ret.last bad fun c1=>Ret.condF rfl ?_)));have c1:=K9 c1;have c2:=K9 c2;have c3:=K9 c3;have c4:=K9 c4;have c6:=K9 c6;have c7:=K9 c7;refine Ret.cond (fun h=>?_) fun h=>?_
 . have h:=AX6 h;rw[AOg (by omega),bindS];refine Ret.bind (Ret.cond (fun c8=>Ret.ok (Ret.ok fun H=>?_)) fun _=>Ret.ok (Ret.ok fun h=>by cases h));have H:=AX6 H;exact⟨c1,c2,c3,c4,by omega,c6,c7,K9 c8,fun _=>H,fun h=>by omega,fun h=>by omega⟩
 . have h:=AYD h;refine Ret.bind (Ret.no bad fun c5=>Ret.ok ?_);have c5:=K9 c5;refine Ret.cond (fun _=>Ret.ok fun h=>by cases h) fun c10=>?_;have c10:=AYD c10;refine Ret.cond (fun c=>?_) fun c=>?_
   . have c:=AX6 c;refine Ret.ok fun c8=>?_;have c8:=K9 c8;exact⟨c1,c2,c3,c4,c5,c6,c7,by rw[show most r.kind=1000000000000 by simp[most,c]];exact c8,fun h=>by omega,fun _=>c10,fun h=>by omega⟩
   . have c:=AYD c;have c9:r.kind=9:=by omega
     refine Ret.bind (Ret.cond (fun c8=>Ret.ok (Ret.ok fun c11=>?_)) fun _=>Ret.ok (Ret.ok fun h=>by cases h));have c8:=AX6 c8;have c11:=AX6 c11;exact⟨c1,c2,c3,c4,c5,c6,c7,by rw[show most r.kind=0 by simp[most,c9]];omega,fun h=>by omega,fun _=>c10,fun _=>c11⟩
end S
namespace S
def AET(l:List Report):Prop:=∀a∈l,∀b∈l,a.id=b.id->a=b
structure VL(l:List Report):Prop where
 len:l.length<=60
 v:∀r∈l,V r
 cons:AET l
theorem AXC{l:List Report}(hk:∀r∈l,0<=r.kind/\r.kind<=255):Ret (AAY l) fun e=>e=0->VL l:=by
 unfold AAY;refine Ret.cond (fun _=>Ret.ok fun h=>by cases h) fun c1=>?_;have c1:=AYD c1;refine Ret.bind (C2 l.length (fun n (t:Int)=>t=n/\∀r∈l.take n,V r) ⟨rfl,fun r I=>by simp at I⟩ ?_ ?_)
 . rintro n H _ ⟨rfl,hv⟩;refine Ret.condT (Y9 H) (Ret.bind (O4 H (Ret.bind ((AL6 (hk _ (AYJ H))).mono fun b U=>?_))));cases b with
   |false=>exact Ret.condT rfl (Ret.done (E5 (Ret.ok fun h=>by cases h)))
   |true=>
    refine Ret.condF rfl (Ret.bind (Ret.chk (by omega) (Ret.next ⟨by omega,fun r I=>?_⟩)))
    rw[C4 H]at I
    rcases I with I|rfl
    . exact hv r I
    . exact U rfl
 rintro _ ⟨rfl,hv⟩;rw[AYL]at hv;refine Ret.condF (Z0 (AYE _)) (Ret.done (C8 (Ret.bind (C2 l.length (fun n (t:Int)=>t=n/\AET (l.take n)) ⟨rfl,fun a C=>by simp at C⟩ ?_ ?_))))
 . rintro n H _ ⟨rfl,E⟩;refine Ret.condT (Y9 H) (Ret.bind (C2 n (fun m (t:Int)=>t=m/\∀r∈l.take m,l[n].id=r.id->l[n]=r) ⟨rfl,fun r I=>by simp at I⟩ ?_ ?_))
   . rintro m hm _ ⟨rfl,D⟩;have J:m<l.length:=by omega
     refine Ret.condT (AYA (by omega)) (Ret.bind (Ret.bind (O4 H (Ret.bind (O4 J (Ret.cond (fun F=>?_) fun F=>?_))))))
     . refine Ret.bind (O4 H (Ret.bind (O4 J (Ret.ok ?_))));by_cases e:l[n]=l[m]
       . refine Ret.condF (by rw[AYA e];rfl) (Ret.bind (Ret.chk (by omega) (Ret.next ⟨by omega,fun r I hi=>?_⟩)));rw[C4 J]at I;rcases I with I|rfl
         . exact D r I hi
         . exact e
       . exact Ret.condT (by rw[AX8 e];rfl) (Ret.done (E5 (Ret.done (E5 (Ret.ok fun h=>by cases h)))))
     . have F:=AYD F;refine Ret.ok (Ret.condF rfl (Ret.bind (Ret.chk (by omega) (Ret.next ⟨by omega,fun r I hi=>?_⟩))));rw[C4 J]at I;rcases I with I|rfl
       . exact D r I hi
       . exact absurd hi F
   . rintro _ ⟨rfl,D⟩;refine Ret.condF (AX8 (by omega)) (Ret.done (C8 (Ret.bind (Ret.chk (by omega) (Ret.next ⟨by omega,fun a C b U W=>?_⟩)))));rw[C4 H]at C U;rcases C with C|rfl<;>rcases U with U|rfl
     . exact E a C b U W
     . exact(D a C W.symm).symm
     . exact D b U W
     . rfl
 . rintro _ ⟨rfl,E⟩;rw[AYL]at E;exact Ret.condF (Z0 (AYE _)) (Ret.done (C8 (Ret.ok fun _=>⟨by omega,hv,E⟩)))
theorem AIK{l:List Report}(h:VL l):I9 l=some 0:=by
 refine Ret.eq ?_;unfold I9;have hl:=h.len;refine Ret.condF (AX8 (by omega)) ?_;have W:M9 l (fun a1=>Q5 a1)=some (l.any fun _=>false):=AJP (fun r I=>by
  show (H0 r).bind _=_;rw[AL5 (h.v r I),bindS];rfl) (by omega)
 rw[W,bindS];refine Ret.condF (by simp) (Ret.bind (C2 l.length (fun n (t:Int×A4 Int Report)=>t.1=n/\∀i r,t.2 i=some r->r∈l.take n/\r.id=i) ⟨rfl,fun i r I=>by cases I⟩ ?_ ?_))
 . rintro n H ⟨_,m⟩ ⟨rfl,hm⟩;dsimp only at hm;refine Ret.condT (Y9 H) (Ret.bind (O4 H (Ret.bind (Ret.val (a:=false) ?_ (Ret.condF rfl (Ret.bind (Ret.chk (by omega) (Ret.next ⟨by dsimp only;omega,fun i r I=>?_⟩))))))))
   . cases V:m l[n].id with
     |none=>rfl
     |some y=>
      obtain⟨U,J⟩:=hm _ _ V
      have:y=l[n]:=h.cons y (AZC U) _ (AYJ H) J
      show some (!decide (y=l[n]))=_
      rw[AYA this];rfl
   . dsimp only[B5]at I;rw[C4 H];split at I
     . rename_i e;cases I;exact⟨.inr rfl,e.symm⟩
     . obtain⟨U,J⟩:=hm _ _ I;exact⟨.inl U,J⟩
 . rintro⟨_,m⟩ ⟨rfl,hm⟩;exact Ret.condF (Z0 (AYE _)) (Ret.done (C8 (Ret.ok rfl)))
def fct(l:List Report)(i:Int):Option Report:=match l.find? fun r=>decide (r.id=i) with
 |some f=>if f.kind<=7 then some f else none
 |none=>none
theorem ABO{l:List Report}{i:Int}{f:Report}(h:fct l i=some f):f∈l/\f.id=i/\f.kind<=7:=by
 unfold fct at h;split at h
 . rename_i g H;split at h
   . cases h
     exact⟨AZF H,AX6 (AZh (p:=fun r:Report=>decide (r.id=i)) H),by assumption⟩
   . cases h
 . cases h
theorem ATu{l:List Report}(I:AET l){f:Report}(h:f∈l)(hk:f.kind<=7):fct l f.id=some f:=by
 unfold fct;cases H:l.find? fun r=>decide (r.id=f.id) with
 |none=>exact absurd (AYA rfl) (List.find?_eq_none.1 H f h)
 |some g=>
  have:g=f:=I g (AZF H) f h (AX6 (AZh (p:=fun r:Report=>decide (r.id=f.id)) H))
  subst this
  show(if g.kind<=7 then some g else none)=_
  rw[AYB hk]
def TV(t:Terms):Prop:=(0<=t.answer/\t.answer<=1000)/\(0<=t.mark/\t.mark<=100000)/\(0<=t.lately/\t.lately<=100000)
def XV(d:Desk)(x:Dispute):Prop:=(0<=x.id/\x.id<=999999)/\(∀r∈d.reports,r.id≠x.id)/\∃f,fct d.reports x.report=some f/\f.made<=x.day/\x.day<=100000-d.terms.answer-1
structure DV(d:Desk):Prop where
 len:d.disputes.length<=20
 v:∀x∈d.disputes,XV d x
 nd:(d.disputes.map (·.id)).Nodup
theorem AV3{α:Type}{l:List α}{k:α->Int}(h:∀(n:Nat) (J:n<l.length),∀x∈l.take n,k x≠k l[n]):(l.map k).Nodup:=by
 rw[List.Nodup,AZB,AYt];intro i j hi H I;exact h j H _ (List.mem_take_iff_getElem.2 ⟨i,by omega,rfl⟩)
def AV(d:Desk)(a:Answer):Prop:=(0<=a.id/\a.id<=999999)/\(0<=a.day/\a.day<=100000)/\(1<=a.says/\a.says<=3)/\∃x∈d.disputes,x.id=a.dispute/\(a.says≠2->a.about=0/\a.cents=0)/\(a.says=2->∀f,fct d.reports x.report=some f->(0<=a.about/\a.about<=100000)/\0<=a.cents/\a.cents<=most f.kind)
structure WV(d:Desk):Prop where
 len:d.answers.length<=40
 v:∀a∈d.answers,AV d a
 nd:(d.answers.map (·.id)).Nodup
structure Vd(d:Desk):Prop where
 t:TV d.terms
 r:VL d.reports
 x:DV d
 a:WV d
structure InD(d:Desk):Prop where
 k:∀r∈d.reports,0<=r.kind/\r.kind<=255
 s:∀a∈d.answers,0<=a.says/\a.says<=255
end S
end Go.Proofs.YtgioiejbphljoaaGreatDoor
namespace Go.Proofs.YtgioiejbphljoaaGreatDoor
open Go Go.Sx Go.Rx Go.RowKit
def Y3(d:Desk_139):Option (List Report×Int×Int):=AAP d.store.reports fun l21=>(List.foldlM (m:=Option) (s:=((A4 Int Report))) (α:=Int×Report) (fun x14 (k15,v16)=>Option.bind (α:=(Int×Int)) (cond ((d.fixed k15).isSome) (some (((d.store.reports ((d.fixed k15).getD 0)).getD (Report.mk 0 0 0 0 0 0 0 0)).about,((d.store.reports ((d.fixed k15).getD 0)).getD (Report.mk 0 0 0 0 0 0 0 0)).cents)) (some (v16.about,v16.cents))) ((fun (x17,x18)=>(I3 (Report.mk v16.id v16.source v16.account v16.made x17 v16.kind x18 v16.of_)).bind fun r19=>Option.bind (α:=((A4 Int Report))) (cond (r19) (some (B5 x14 k15 (Report.mk v16.id v16.source v16.account v16.made x17 v16.kind x18 v16.of_))) (some x14)) ((fun x20=>some x20))))) (fnone:(A4 Int Report)) l21).bind fun x22=>AAP d.gone fun l31=>(List.foldlM (m:=Option) (s:=((A4 Int Report))) (α:=Int×Int) (fun x28 (k29,v30)=>some (Z2 x28 k29)) x22 l31).bind fun x32=>AAP x32 fun l41=>(List.foldlM (m:=Option) (s:=((List Report))) (α:=Int×Report) (fun x37 (k38,v39)=>(appo 64 x37 ([v39])).bind fun l40=>some l40) ([]:List Report) l41).bind fun x42=>(F2 ([(107:Nat),(108:Nat)]) x42).bind fun (_,m43)=>some (m43,(m43.length:Int),0)
def AK0:An:=.nd .x (.nd (.lp ⟨[(.cont 14,.own (.mp 3 (.int .i64) (.st 1)))],[14]⟩ [] (.nd (.nd .x (.nd .x (.jn [.norm ⟨[(.cell 5 4,.d (.int .i64)),(.cell 5 6,.d (.int .i64))],[5,14]⟩] .x))) (.nd .x (.jn [.norm ⟨[(.cont 14,.own (.mp 3 (.int .i64) (.st 1)))],[14]⟩] .x)))) (.nd (.lp ⟨[(.cont 14,.own (.mp 3 (.int .i64) (.st 1)))],[14]⟩ [] .x) (.nd .x (.nd (.lp ⟨[(.slot 9,.own (.sl 45 (.st 1)))],[]⟩ [] .x) .x))))
def T9(l:List Report)(known:Int):Option ((List Report×Int)⊕(List Report×Int)):=(I9 l).bind fun r1=>cond ((!decide (r1=0))) (some (Sum.inr (([]:List Report),r1))) ((N0 (0:Int) (100000:Int) ([known])).bind fun r2=>cond ((!r2)) (some (Sum.inr (([]:List Report),(2:Int)))) (some (Sum.inl (l,known))))
def AL7:An:=.x
def H7(d:Desk):Option (A4 Int Report):=(C0 (S:=(Int×(A4 Int Report))) (R:=((A4 Int Report))) (fun (x10,x11)=>cond (decide (x10<(d.reports.length:Int))) ((ixo d.reports x10).bind fun y12=>Option.bind (α:=((A4 Int Report))) (cond (decide (y12.kind<=7)) (some (B5 x11 y12.id y12)) (some x11)) ((fun x13=>(chk .i64 (x10+1)).bind fun n14=>some (Sum.inl (n14,x13))))) (some (Sum.inr x11))) ((0:Int),(fnone:(A4 Int Report)))).bind ((fun x15=>some (x15)))
def anpre70:An:=.nd .x (.nd .x (.nd .x (.lp ⟨[(.slot 19,.d (.int .i64)),(.cont 13,.own (.mp 3 (.int .i64) (.st 1)))],[4,14,13,2,1]⟩ [.exit 0 ⟨[(.cont 13,.own (.mp 3 (.int .i64) (.st 1)))],[4,14,13,2,1]⟩] (.nd .x (.nd .x (.nd (.nd .x (.nd .x (.jn [.norm ⟨[(.cont 13,.own (.mp 3 (.int .i64) (.st 1)))],[4,14,13,2,1]⟩] .x))) .x))))))
end Go.Proofs.YtgioiejbphljoaaGreatDoor
namespace Go.Rx
open Go Go.Sx Go.RowKit
def N9:Nat->Code->Code
 |0,.seq a _=>a
 |n+1,.seq a b=>.seq a (N9 n b)
 |_,c=>c
def AJQ:Nat->Code->Code
 |0,.seq _ b=>b
 |n+1,.seq _ b=>AJQ n b
 |_,_=>.skip
def AK1:Nat->Code->Bool
 |0,.seq _ _=>true
 |n+1,.seq a b=>(match AAg a (N9 n b) with
  |some _=>false
  |none=>true)&&AK1 n b
 |_,_=>false
section
variable[Trk][Sg][Sf]{P:Program}[Se P][Anch]{w0 w:World}{M:List Nat}{N:Nat}{Γ:Type}{pr:AS->Option Γ}{ds:List Deferred}
theorem ANC[Sl (P:=P)]{G:Gx}(W:GxOk P G)(c:Code)(an:An){Y:Type}{KN:AS->Option Y}{KR:Γ->Option Y}{σ:AS}{L:A7}{w:World}{z:Y}{A B:A3}{X:Nat->A3}{Z:List PanicEntry->A3}(h:exec G N pr c an KN (fun _ _=>none) KR σ=some z)(V:Holds (P:=P) w0 [] M σ L w)(hA:∀σ' L' w',KN σ'=some z->EnvS (D4 c++C9 an) L L'->Holds (P:=P) w0 [] M σ' L' w'->A ds L' w')(C:∀r σ' L' w',pr σ'=some r->KR r=some z->Holds (P:=P) w0 [] M σ' L' w'->B ds L' w'):CW P N c ds L w A B X Z:=
 Y1 (n:=3) (ACk (I0 W c an _ _ _ _ _ _ _ _ _ _ _ _ _ h V (fun σ1 L1 w1 E _ J I=>hA σ1 L1 w1 E J I) (fun i σ2 L2 w2 U=>by cases U) (fun r σ2 L2 w2 U D _ H=>C r σ2 L2 w2 U D H) PZ.no))
theorem ACq[Sl (P:=P)]{G:Gx}(E:GxOk P G):∀(n:Nat) (c:Code) (an:An) {Y:Type} {KN:AS->Option Y} {KR:Γ->Option Y} {σ:AS} {L:A7} {w:World} {z:Y} {A B:A3} {X:Nat->A3} {Z:List PanicEntry->A3},AK1 n c=true->X2 G N pr (N9 n c) an KN KR σ=some z->Holds (P:=P) w0 [] M σ L w ->
  (∀σ' L' w',KN σ'=some z->EnvS (wrE (N9 n c) an) L L'->Holds (P:=P) w0 [] M σ' L' w'->CW P N (AJQ n c) ds L' w' A B X Z)->(∀r σ' L' w',pr σ'=some r->KR r=some z->Holds (P:=P) w0 [] M σ' L' w'->B ds L' w')->CW P N c ds L w A B X Z
 |0,.seq a b,an,Y,KN,KR,σ,L,w,z,A,B,X,Z,_,h,F,hA,D=>A6 (AGj E a an h F hA D)
 |n+1,.seq a b,an,Y,KN,KR,σ,L,w,z,A,B,X,Z,H,h,F,hA,D=>by
  have H:((match AAg a (N9 n b) with
   |some _=>false
   |none=>true)&&AK1 n b)=true:=H
  have h:(match AAg a (N9 n b) with
   |some u=>mapM G N pr u an KN σ
   |none=>match ABX a with
    |true=>X2 G N pr a an.l (fun σ'=>X2 G N pr (N9 n b) an.r KN KR σ') KR σ
    |false=>exec G N pr a an.l (fun σ'=>X2 G N pr (N9 n b) an.r KN KR σ') (fun _ _=>none) KR σ)=some z:=h
  have C:wrE (.seq a (N9 n b)) an=(match (generalizing:=false) AAg a (N9 n b) with
   |some u=>match (generalizing:=false) an with
    |.lp hd _ l=>C1 u.pre++(u.t::G1 u hd l)
    |_=>[]
   |none=>match (generalizing:=false) ABX a with
    |true=>wrE a an.l++wrE (N9 n b) an.r
    |false=>(D4 a++C9 an.l)++wrE (N9 n b) an.r):=rfl
  cases Q:AAg a (N9 n b) with
  |some u=>rw[Q]at H;cases H
  |none=>
   rw[Q]at h C H
   simp only[Bool.true_and]at h C H
   cases T:ABX a with
   |true=>
    rw[T]at h C
    exact A6 (AGj E a an.l h F (fun σ1 L1 w1 O W U=>ACq E n b an.r H O U (fun σ2 L2 w2 K V J=>hA σ2 L2 w2 K (by show EnvS (wrE (.seq a (N9 n b)) an) L L2;rw[C];exact(W.mono fun t I=>AX2 _ I).trans (V.mono fun t I=>AX3 _ I)) J) D) D)
   |false=>
    rw[T]at h C
    exact A6 (ANC E a an.l h F (fun σ1 L1 w1 O W U=>ACq E n b an.r H O U (fun σ2 L2 w2 K V J=>hA σ2 L2 w2 K (by show EnvS (wrE (.seq a (N9 n b)) an) L L2;rw[C];exact(W.mono fun t I=>AX2 _ I).trans (V.mono fun t I=>AX3 _ I)) J) D) D)
 |0,.skip,_,_,_,_,_,_,_,_,_,_,_,_,h,_,_,_,_|0,.region _ _ _,_,_,_,_,_,_,_,_,_,_,_,_,h,_,_,_,_|0,.cond _ _ _,_,_,_,_,_,_,_,_,_,_,_,_,h,_,_,_,_|0,.loop _,_,_,_,_,_,_,_,_,_,_,_,_,h,_,_,_,_|0,.exit _,_,_,_,_,_,_,_,_,_,_,_,_,h,_,_,_,_|0,.ret,_,_,_,_,_,_,_,_,_,_,_,_,h,_,_,_,_
 |0,.scope _,_,_,_,_,_,_,_,_,_,_,_,_,h,_,_,_,_|0,.label _,_,_,_,_,_,_,_,_,_,_,_,_,h,_,_,_,_|0,.goto _,_,_,_,_,_,_,_,_,_,_,_,_,h,_,_,_,_|0,.refuse _,_,_,_,_,_,_,_,_,_,_,_,_,h,_,_,_,_|0,.block _ _,_,_,_,_,_,_,_,_,_,_,_,_,h,_,_,_,_|0,.rangeFunc _ _ _ _,_,_,_,_,_,_,_,_,_,_,_,_,h,_,_,_,_
 |_+1,.skip,_,_,_,_,_,_,_,_,_,_,_,_,h,_,_,_,_|_+1,.region _ _ _,_,_,_,_,_,_,_,_,_,_,_,_,h,_,_,_,_|_+1,.cond _ _ _,_,_,_,_,_,_,_,_,_,_,_,_,h,_,_,_,_|_+1,.loop _,_,_,_,_,_,_,_,_,_,_,_,_,h,_,_,_,_|_+1,.exit _,_,_,_,_,_,_,_,_,_,_,_,_,h,_,_,_,_|_+1,.ret,_,_,_,_,_,_,_,_,_,_,_,_,h,_,_,_,_
 |_+1,.scope _,_,_,_,_,_,_,_,_,_,_,_,_,h,_,_,_,_|_+1,.label _,_,_,_,_,_,_,_,_,_,_,_,_,h,_,_,_,_|_+1,.goto _,_,_,_,_,_,_,_,_,_,_,_,_,h,_,_,_,_|_+1,.refuse _,_,_,_,_,_,_,_,_,_,_,_,_,h,_,_,_,_|_+1,.block _ _,_,_,_,_,_,_,_,_,_,_,_,_,h,_,_,_,_|_+1,.rangeFunc _ _ _ _,_,_,_,_,_,_,_,_,_,_,_,_,h,_,_,_,_=>by cases h
theorem Holds.packed[Sl (P:=P)]{sh:Sh}{σ:AS}{L:A7}{w:World}{x:O2 sh.cs}(h:Holds (P:=P) w0 [] M σ L w)(H:I8 sh σ=some x):Holds (P:=P) w0 [] M (B6 [] sh σ x) L w:=by
 obtain⟨S,ρ,γ,μ,ι,I⟩:=h;exact T2 I (Rel.refl _) H
end
theorem AK2[Trk][Sg][Sf]{P:Program}[Se P][Sl (P:=P)][Anch]{G:Gx}(W:GxOk P G){f:Func}{cs:List Ck}{M:List Nat}{w:World}{r:E2 cs}(J:Nat.ble cs.length 4=true){σ':AS}{L':A7}{w':World}(H:V0 G cs f.results.toList σ'=some r)(V:Holds (P:=P) w [] M σ' L' w'):ABC P f (fun e w'=>∃vs,e=.returned (ABs vs)/\KsOk (P:=P) M (X7 cs vs++M) w w' cs r vs/\Ext w w') [] L' w':=by
 obtain⟨S,ρ,γ,μ,ι,I⟩:=V;unfold V0 at H;cases hk:okK (Q2 G σ' cs f.results.toList) (ABN G σ' cs f.results.toList)&&npK cs (Q2 G σ' cs f.results.toList) with
 |false=>rw[hk]at H;exact(A2 H).elim
 |true=>
  rw[hk]at H
  simp only[Bool.and_eq_true]at hk
  obtain⟨vs,F,E,D,C⟩:=AFk I W (mv:=Q2 G σ' cs f.results.toList) (AGi H) cs f.results.toList (fun _ h=>h) (AAH hk.1) hk.2 H
  refine N8 (by simp) F (by rw[E];exact J) ⟨vs,by rw[AER],D _ (fun b U=>?_),?_⟩
  . exact(mem_append.1 U).elim (C b) fun h=>mem_mm.2 (.inr h)
  . exact I.hp.kp
end Go.Rx
namespace Go.Proofs.YtgioiejbphljoaaGreatDoor
open Go Go.Sx Go.Rx Go.RowKit
def ABv(r:Report):List Value:=[.int .i64 r.id,.int .i64 r.source,.int .i64 r.account,.int .i64 r.made,.int .i64 r.about,.int .u8 r.kind,.int .i64 r.cents,.int .i64 r.of_]
def InR(r:Report):Prop:=InK .i64 r.id/\InK .i64 r.source/\InK .i64 r.account/\InK .i64 r.made/\InK .i64 r.about/\InK .u8 r.kind/\InK .i64 r.cents/\InK .i64 r.of_
noncomputable def ATv:Code:=match f105.body with
 |some c=>c
 |none=>.skip
def AV4:Sh:=⟨[(.slot 72,.own (.sl 45 (.st 1))),(.slot 73,.d (.int .i64)),(.slot 74,.d (.int .i64))],[]⟩
def AQr:Gx:={ gxb with fs:=[(72,ctr72),(107,ctr107),(108,ctr108)],fm:=[(106,ctrm106)] }
theorem AP4:GxOk prog AQr:=ACp ⟨⟨ok72,call72⟩,⟨ok107,call107⟩,⟨ok108,call108⟩,trivial⟩ trivial ⟨⟨okm106,call106⟩,trivial⟩
def N2(d:Desk_139):Option (List Report):=(Y3 d).bind fun x=>cond (decide (x.2.1=(x.1.length:Int))&&decide (x.2.2=0)) (some x.1) none
def DkOk(M:List Nat)(w:World)(v:Value)(d:Desk_139):Prop:=Ok (P:=prog) (fun _=>undef) (fun _=>none) M w (.rp (.str 14 d) 0) v
theorem ATw(d:Desk_139):X2 AQr 83 (fun _=>(none:Option Unit)) (N9 5 ATv) AK0 (I8 AV4) (fun _=>none) ⟨[(1,.rp (.str 14 d) 0)],[],[],[]⟩=Y3 d:=by kernel_rfl
theorem AHg{M:List Nat}{w:World}(hM:MLt M w)(F:GlOk (P:=prog) M w){vp:Value}{d:Desk_139}(hd:DkOk M w vp d){r0:List Report}(h:N2 d=some r0){b2:Nat}(W:b2<w.heap.size)(Y:∀g,gOf w b2=some g->g<w.heap.size){n lp:Nat}{J Jx:List Report->World->Prop}(hJ:AbidesFrom w.heap.size J)(hY:∀(pre:List Report) (x:Report) (W1:World),J pre W1->pre.length<r0.length->r0[pre.length]?=some x->YieldAt Fence.wide (n-1) prog lp #[.agg (ABv x).toArray] W1 fun e W'=>(e=.returned (.bool true)/\J (pre++[x]) W'/\KB b2 W1 W')\/(e=.returned (.bool false)/\Jx (pre++[x]) W'))(h0:J [] w):
  Calls prog 105 (toArray [.func (.yield lp) #[] #[],vp]) w fun e W'=>(∃v,e=.returned v)/\((∃xs,xs=r0/\J xs W')\/(∃pre,pre <+: r0/\Jx pre W')):=by
 unfold N2 at h
 obtain⟨⟨r1,p,q⟩,hp,h⟩:=R0 h
 obtain⟨f,rfl,rfl⟩:r1=r0/\p=(r0.length:Int)/\q=0:=by
  cases H:(decide (p=(r1.length:Int))&&decide (q=0)) with
  |false=>rw[show(decide (p=(r1.length:Int))&&decide (q=0))=false from H]at h;cases h
  |true=>
   rw[show(decide (p=(r1.length:Int))&&decide (q=0))=true from H]at h
   have h:r1=r0:=AXz h
   simp only[Bool.and_eq_true,decide_eq_true_eq]at H
   subst h
   exact⟨rfl,H.1,H.2⟩
 subst f
 have h0':Holds (P:=prog) w [] M ⟨[(1,.rp (.str 14 d) 0)],[],[],[]⟩ [(0,.func (.yield lp) #[] #[]),(1,vp)] w:=by
  refine⟨[],fun _=>undef,fun _=>[],fun _=>[],fun _=>0,Hp.start hM,(fun i a h=>by cases h),(fun i j a b h=>by cases h),(fun i a h=>by cases h),fun t s R=>?_,trivial,F⟩;rw[fnd_cons]at R;split at R
  . rename_i e;subst e;cases R;exact⟨vp,rfl,hd⟩
  . cases R
 refine G6 (l:=[.func (.yield lp) #[] #[],vp]) (fn:=f105) func105 rfl rfl rfl ?_
 refine ACq (P:=prog) (pr:=fun _=>(none:Option Unit)) AP4 5 ATv AK0 (by decide) ((ATw d).trans hp) h0' (fun σ' L' w1 hK hE hH=>?_) (fun r _ _ _ T _ _=>by cases T)
 have hH2:=hH.packed hK
 clear hH hK
 obtain⟨S,ρ,γ,μ,ι,B⟩:=hH2
 obtain⟨v72,l72,e72,_⟩:=B.env 72 (.own 72) rfl
 obtain⟨v73,l73,e73,_⟩:=B.env 73 (.int .i64 (r1.length:Int)) rfl
 obtain⟨v74,l74,e74,_⟩:=B.env 74 (.int .i64 0) rfl
 subst e73 e74
 have l0:Sx.A5 L' 0=some (.func (.yield lp) #[] #[]):=hE 0 (by decide)
 have U:S[ι 72]?=some (ownR [] ReportE 45 v72 r1):=by rw[e72];exact B.res 72 _ rfl
 have K:Hp w [] M S w1:=B.hp
 have C:=K.freeze _ U
 have hge_:∀b∈ob v72,w.heap.size<=b:=fun b hb=>((K.own _ (AX1 U)).2 b hb).resolve_left (fun h=>by cases h)
 refine H4 ?_
 have z:∀g,gOf w1 b2=some g->g<w.heap.size:=fun g F=>(KB.of_ext K.kp W).gof g F |>.elim (Y g) fun h=>by
  have h5:gOf w b2=some g:=by
   unfold gOf at F ⊢;rw[World.cell?_of_block (a:=⟨b2,0,none⟩) (w:=w) (K.kp.block b2 W (by simp))]at F;exact F
  exact Y g h5
 have hlen_:=RdS.inK C
 refine AST (L:=[(74,_),(72,_),(73,_),(0,_)]) (Sub.cons l74 (Sub.cons l72 (Sub.cons l73 (Sub.cons l0 (Sub.nil _))))) ?_
 refine AO1 1 (ι:=Nat) (fun i=>[(74,.int .i64 i)]) (fun i W_=>i<=r1.length/\J (r1.take i) W_/\KB b2 w1 W_) (fun i=>r1.length-i) 0 ⟨AYh _,hJ _ _ _ none h0 (Ext.grownBy K.kp) (fun r T=>by cases T),KB.refl _ _⟩ (Sub.cons rfl (Sub.cons rfl (Sub.cons rfl (Sub.cons rfl (Sub.nil _))))) (fun i W_ hW_=>?_)
 obtain⟨hi,X,D⟩:=hW_
 refine A6 ?_
 refine A8 ?_
 refine AGv rfl rfl rfl ?_
 refine Reg.nil ?_
 refine A6 ?_
 refine AAB rfl (fun H=>?_) (fun H=>?_)
 . have V:i<r1.length:=by have:=AX6 H;omega
   refine P5 ?_
   refine A6 ?_
   refine H4 ?_
   obtain⟨b,o,c,cs,hv,hbM,hbl,hR,hC⟩:=C.at i V
   obtain⟨rfl,r0_,r1_,r2_,r3_,r4_,r5_,r6_,r7_⟩:=ReportE_R.1 hR
   obtain⟨_,_,hs_,hle_,_⟩:=(C).shape
   rw[hv]at hs_
   cases hs_
   obtain⟨c9,rfl⟩:∃c9,c=c9+1:=⟨c-1,by omega⟩
   have hbw:w.heap.size<=b:=hge_ b (by rw[hv];simp[ob])
   have A:b≠b2:=by omega
   have hbg:gOf w1 b2≠some b:=fun e=>by have:=z b e;omega
   have hCi:Cells W_ b (o+i*8) (ABv r1[i]):=fun j u m=>D.cell b _ u A hbg (hC j u m)
   refine A6 ?_
   refine A8 ?_
   refine Reg.val (.pointer (some ⟨b,o+i*8,none⟩)) rfl rfl rfl (fun a I w9 _=>?_) ?_
   . have hx:ev [(73,Value.int .i64 (r1.length:Int)),(0,Value.func (.func 0) #[] #[])] (.tmp 73)=some (.int .i64 (r1.length:Int)):=rfl
     have h1:=I.eval (x:=.tmp 72) (v:=v72) rfl
     have h2:=I.eval (x:=.tmp 74) (v:=.int .i64 (i:Int)) rfl
     rw[hv]at h1
     have h3:(i:Int)<(r1.length:Int):=by omega
     simp[execOp,h1,h2,Instr.indexAt,asIntOf,run_underlying underlying24,sizeOf45,add_none]
     intro h9_;exact absurd h9_ (by omega)
   refine AAs rfl hCi isAgg45 rfl sizeOf45 rfl ?_
   refine ASX zeroValue45 rfl rfl (fun bt w3 hbt ex3 hlt3 hRt=>?_)
   have G:Row 45 w3 bt [.int .i64 0,.int .i64 0,.int .i64 0,.int .i64 0,.int .i64 0,.int .u8 0,.int .i64 0,.int .i64 0]:=hRt
   refine AO4 rfl rfl rfl G sizeOf45 rfl rfl (D3 rfl (D3 rfl (D3 rfl (D3 rfl (D3 rfl (D3 rfl (D3 rfl (D3 rfl ACL)))))))) (fun w4 N k=>?_)
   have e24:Ext W_ w4:=ex3.tail k fun c H=>by
    have:c=bt:=by simpa using H
    omega
   refine Reg.nil ?_
   have Q:Row 45 w4 bt (ABv r1[i]):=N
   have hJ4:J (r1.take i) w4:=hJ _ _ _ none X (Ext.grownBy e24) (fun r T=>by cases T)
   have hY4:=hY (r1.take i) r1[i] w4 hJ4 (by rw[AYj];omega) (by rw[AYj,AZM (by omega)];exact AX7 V)
   have O:r1.take (i+1)=r1.take i++[r1[i]]:=by rw[AZu,AX7 V];rfl
   have hK4:KB b2 w1 w4:=D.trans (KB.of_ext e24 (AYH W (AYG K.kp.size D.size)))
   refine A6 ?_
   refine AHy n ?_
   refine Rgi.val (.func (.yield lp) #[] #[]) rfl rfl rfl rfl (fun a I=>by simp[execOp,I.eval (x:=.tmp 0) (v:=.func (.yield lp) #[] #[]) rfl]) ?_
   refine Rgi.val (.agg (ABv r1[i]).toArray) rfl rfl rfl rfl (fun a I=>by
    have:=run_loadCells_list (P:=prog) w4 ⟨bt,0,none⟩ (ABv r1[i]) (fun j v m=>by rw[add_none];exact Q.rd.cells j v m);have Z:=I.eval (x:=.tmp 13) (v:=.pointer (some ⟨bt,0,none⟩)) rfl;simp only[ABv]at this ⊢;simp at this;simp[execOp,Z,Instr.loadAt,Instr.sureAddr,loadVar,isAgg45,sizeOf45,this]) ?_
   refine Rgi.yield rfl rfl rfl hY4 ?_
   rintro e w5 (⟨rfl,E,hK5⟩|⟨rfl,E⟩)
   . refine⟨_,rfl,?_⟩
     refine Rgi.val (.bool false) rfl rfl rfl rfl (fun a I=>by
      have Z:=I.eval (x:=.tmp 80) (v:=.bool true) rfl;simp[execOp,Z,Op.unary]) ?_
     refine Rgi.nil ?_
     refine ABA rfl ?_
     refine P5 ?_
     refine A8 ?_
     refine AQS (n:=((i+1:Nat):Int)) rfl rfl rfl ⟨by omega,by rw[InK.i64]at hlen_ ⊢;omega⟩ ?_
     refine J3 rfl rfl ?_
     refine Reg.nil ?_
     exact⟨rfl,i+1,⟨by omega,by rw[O];exact E,hK4.trans hK5⟩,Sub.cons rfl (Sub.cons rfl (Sub.cons rfl (Sub.cons rfl (Sub.nil _)))),by omega⟩
   . refine⟨_,rfl,?_⟩
     refine Rgi.val (.bool true) rfl rfl rfl rfl (fun a I=>by
      have Z:=I.eval (x:=.tmp 80) (v:=.bool false) rfl;simp[execOp,Z,Op.unary]) ?_
     refine Rgi.nil ?_
     refine ACM rfl ?_
     refine K6 ?_
     refine ASU results105 ?_
     exact⟨⟨_,rfl⟩,.inr ⟨_,List.take_prefix (i+1) _,by rw[O];exact E⟩⟩
 . have hge:¬(i:Int)<(r1.length:Int):=AYD H
   have y:i=r1.length:=by omega
   subst y
   refine AA9 ?_
   refine T7 ?_
   refine ASU results105 ?_
   exact⟨⟨_,rfl⟩,.inl ⟨_,rfl,by rwa [AYL]at X⟩⟩
variable{M:List Nat}{M':List Nat}{w:World}{w':World}{v:Value}{d:Desk_139}
theorem DkOk.adv(h:DkOk M w v d)(H:Adv M M' w w'):DkOk M' w' v d:=Ok.adv H _ h
def ItF(M:List Nat)(w:World)(v:Value)(d:Desk_139):Prop:=∃p,v=.func (.func 105) #[] [p].toArray/\DkOk M w p d
theorem ItF.adv(h:ItF M w v d)(H:Adv M M' w w'):ItF M' w' v d:=by
 obtain⟨p,J,I⟩:=h;exact⟨p,J,I.adv H⟩
abbrev AEU:={ r:Report // InR r }
theorem AL8{a b:List AEU}(h:a.map Subtype.val=b.map Subtype.val):a=b:=(List.map_inj_right (fun _ _ h=>Subtype.ext h)).1 h
theorem AND{F:Fence}{m:Nat}{P:Program}{l:Nat}{args:Array Value}{W:World}{R R':Ending->World->Prop}(h:YieldAt F m P l args W R)(H:∀e w,R e w->R' e w):YieldAt F m P l args W R':=by
 obtain⟨fn,tmps,assign,body,J,I⟩:=h;exact⟨fn,tmps,assign,body,J,I.mono H⟩
theorem ALV(n:Nat)(Z:MLt M w)(K:GlOk (P:=prog) M w)(O:ItF M w v d){l:List AEU}(h:N2 d=some (l.map Subtype.val)){b2:Nat}(I:b2<w.heap.size)(F:∀g,gOf w b2=some g->g<w.heap.size):
  ∃lb,v=.func (.func 105) #[] lb/\SeqStopsK Fence.wide n prog 105 lb (fun r:AEU=>#[.agg (ABv r.1).toArray]) (KB b2) (fun ys=>ys=l) (fun pre=>pre <+: l) l.length w:=by
 obtain⟨p,rfl,O⟩:=O
 refine⟨_,rfl,fun lp J Jx W X R _ G L=>?_⟩
 have U:Ext w W:=ABp X (fun h=>h)
 have hA:Adv M M w W:=Adv.of_ext U
 have E:∀g,gOf W b2=some g->g<W.heap.size:=fun g C=>by
  rcases (KB.of_ext U I).gof g C with D|D
  . exact AYH (F g D) U.size
  . have N:gOf w b2=some g:=by
     unfold gOf at C ⊢;rw[World.cell?_of_block (a:=⟨b2,0,none⟩) (w:=w) (U.block b2 I (by simp))]at C;exact C
    exact AYH (F g N) U.size
 refine callsIn_wide.2 ((AHg (Z.ext U) (K.adv hA) (DkOk.adv O hA) h (AYH I U.size) E (n:=n) (lp:=lp)
  (J:=fun pre W=>∃pre':List AEU,pre'.map Subtype.val=pre/\J pre' W) (Jx:=fun pre W=>∃pre':List AEU,pre'.map Subtype.val=pre/\Jx pre' W) ?_ ?_ ⟨[],rfl,L⟩).mono ?_)
 . rintro s W1 W2 row ⟨pre',D,V⟩ C A
   exact⟨pre',D,R _ _ _ row V C A⟩
 . rintro pre x W1 ⟨pre',rfl,V⟩ H hx
   rw[AYZ]at H
   rw[AYZ]at hx
   rw[AYc]at hx
   obtain⟨x',T,rfl⟩:=Option.map_eq_some_iff.1 hx
   refine AND (G pre' x' W1 V (by rw[AYZ]at H;exact H)) ?_
   rintro e W' (⟨rfl,Q,S⟩|⟨rfl,Q⟩)
   . exact .inl ⟨rfl,⟨_,by simp,Q⟩,S⟩
   . exact .inr ⟨rfl,_,by simp,Q⟩
 . rintro e W' ⟨hv,⟨xs,rfl,pre',D,V⟩|⟨pre,B,pre',rfl,V⟩⟩
   . exact⟨hv,.inl ⟨_,AL8 D,V⟩⟩
   . refine⟨hv,.inr ⟨pre',?_,V⟩⟩
     obtain⟨t,Y⟩:=B
     refine⟨l.drop pre'.length,AL8 ?_⟩
     rw[AYI,List.map_drop,<-Y]
     simp
theorem AQs:AJt ReportE:=fun h=>ReportE_R.2 (ReportE_R.1 h)
def AlR(M:List Nat)(b2:Nat)(x:AEU)(L:Sx.A7)(W:World):Prop:=∃b5 u,Sub [(2,.pointer (some ⟨b2,0,none⟩)),(5,.pointer (some ⟨b5,0,none⟩))] L/\Row 45 W b5 (ABv x.1)/\Row 24 W b2 [u]/\b5∉ob u/\b5≠b2/\b5∉M
theorem AFI(hM:MLt M w)(n:GlOk (P:=prog) M w)(hf:ItF M w v d){l:List AEU}(h:N2 d=some (l.map Subtype.val))(hl:l.length*64<=140737488355328):
  Calls prog 102 (toArray [.slice none 0 0,v]) w fun e w'=>∃v':Value,e=.returned v'/\(Sx.Own ReportE 45 0 M w' v' (l.map Subtype.val)/\∀b∈ob v',w.heap.size<=b)/\Ext w w':=by
 refine ABZ func102 rfl ntmps102 rfl ?_
 have hI:=Hp.start (Mu:=[]) hM
 refine A6 ?_
 refine A8 ?_
 refine AAD hI rfl rfl rfl ?_
 intro b2 w2 O x2
 refine G7 rfl rfl ?_
 refine Reg.nil ?_
 refine A6 ?_
 refine A6 ?_
 refine A8 ?_
 refine J3 rfl rfl ?_
 refine Reg.nil ?_
 have I:Hp w [] M (F5 ReportE 45 24 b2 (.slice none 0 0) []) w2:=O.addNil ReportE 45
 have s:b2<w2.heap.size:=I.mlt b2 (by simp[mm,rowR])
 have m:gOf w2 b2=none:=by rw[I.gof];rfl
 obtain⟨lb,hv,X⟩:=ALV 2 O.mlt (n.adv O.adv) (hf.adv O.adv) h s (fun g G=>by rw[m]at G;cases G)
 subst hv
 refine H4 ?_
 refine ANr (val:=fun r:AEU=>.agg (ABv r.1).toArray) (K:=KB b2) (xs:=l) rfl call105 rfl X (fun h k=>h.trans k) (fun W lp o o' hlp ho q _=>KB.putObj ho q (by omega))
  (fun pre W=>∃v',Hp w [] M (F5 ReportE 45 24 b2 v' (pre.map Subtype.val)) W/\w2.heap.size<=W.heap.size/\pre.length<=l.length) (fun _ _=>False) ?_ (fun _ _ _ _ h _ _=>h.elim) ⟨_,I,AYE _,AYh _⟩ (AlR M b2) ?_ ?_ ?_ ?_ (fun _ _ _ _ _ h _=>h.elim)
 . rintro pre W W' row ⟨v',U,Q,A⟩ G L
   exact⟨v',U.turnG AQs (fun h=>h) G (fun r e=>⟨AYG I.kp.size (L r e).1,(L r e).2⟩),AYG Q G.size,A⟩
 . rintro x L' _ W W' row ⟨b5,u,U,Q,A,h4,h5,h6⟩ G L
   have Z:∀(b:Nat) (o:Obj),W.heap[b]?=some o->o.isCells=true->W'.heap[b]?=W.heap[b]?:=fun b o F q=>G.block b (K7 F) fun e=>by
    obtain⟨_,o',g1,g2⟩:=L b e.symm;rw[F]at g1;cases g1;rw[q]at g2;cases g2
   exact⟨b5,u,U,(Z b5 _ Q rfl).trans Q,(Z b2 _ A rfl).trans A,h4,h5,h6⟩
 . rintro l' pre x W ⟨v',U,Q,A⟩
   refine AAw rfl ?_
   refine ACQ U zeroValue45 rfl rfl ?_
   intro b5 w5 z x5
   refine ABF 0 z rfl rfl rfl rfl sizeOf45 rfl rfl (D3 rfl (D3 rfl (D3 rfl (D3 rfl (D3 rfl (D3 rfl (D3 rfl (D3 rfl ACL)))))))) ?_
   intro w6 y x6
   have H:Hp w [] M (rowR 45 b5 (ABv x.1)::F5 ReportE 45 24 b2 v' (pre.map Subtype.val)) w6:=y
   have N:Hp w [] M (F5 ReportE 45 24 b2 v' (pre.map Subtype.val)) w6:=H.erase 0
   have hA:Adv (mm (F5 ReportE 45 24 b2 v' (pre.map Subtype.val)) M) (mm (F5 ReportE 45 24 b2 v' (pre.map Subtype.val)) M) W w6:=x5.trans (x6.trans (G5 (σ:=rowR 45 b5 (ABv x.1)::F5 ReportE 45 24 b2 v' (pre.map Subtype.val)) 0))
   obtain⟨B,V⟩:=U.kb N hA
   refine Reg.nil ⟨rfl,⟨V.size,fun k o hB=>V.same k o (AYG I.kp.size hB)⟩,B,⟨v',N,AYG Q hA.kp.size,A⟩,b5,v',Sub.cons rfl (Sub.cons rfl (Sub.nil _)),H.row 0 rfl,H.row 2 rfl,?_,?_,?_⟩
   . intro F
     exact H.dis 0 1 _ _ rfl rfl (by omega) b5 (by simp[rowR]) F
   . intro F
     exact H.dis 0 2 _ _ rfl rfl (by omega) b5 (by simp[rowR]) (by simp[rowR,F])
   . exact H.sepM _ (AX4 ..) b5 (by simp[rowR])
 . rintro l' pre x L' W ⟨v',U,Q,A⟩ ⟨b5,u,hs,i,f,h5u,h52,h5M⟩ hlt
   have c:u=v':=by
    have e1:W.heap[b2]?=_:=f;have e2:W.heap[b2]?=_:=U.row 1 rfl;rw[e1]at e2;have:=AXz e2;injection this with J;simpa using J
   subst c
   refine ASk hs ?_
   refine AD6 ?_
   have hC5:RdC (mm (F5 ReportE 45 24 b2 u (pre.map Subtype.val)) M) W b5 0 (ABv x.1):=H9 (fun F=>by
    simp only[mm,ownR,rowR,mem_append,mem_cons,List.not_mem_nil,or_false]at F;rcases F with J|J|J
    . exact h5u J
    . exact h52 J
    . exact h5M J) i
   obtain⟨q0,q1,q2,q3,q4,q5,q6,q7⟩:=x.2
   refine AAw rfl ?_
   refine V9 rfl ((U.row 1 rfl).rd.cells.at 0 rfl) isAgg24 rfl ?_
   refine AAs rfl hC5.cells isAgg45 rfl sizeOf45 rfl ?_
   refine AJe (E:=ReportE) (xs:=[x.1]) ATn U rfl rfl (Cls.cons rfl Cls.nil) (Chs.cons (ReportE_R.2 ⟨rfl,q0,q1,q2,q3,q4,q5,q6,q7⟩) Chs.nil) rfl rfl ?_
   intro v8 w8 R x8
   have p:=R.freeze 0 rfl
   have t:=R.erase 0
   have hlen:(pre.map Subtype.val).length+[x.1].length<=l.length:=by simp;omega
   refine AFQ 0 ATn t rfl rfl rfl p ⟨?_,?_⟩ rfl ?_
   . omega
   . omega
   intro v10 w10 C x10
   refine ABF 1 C rfl rfl rfl (Own.cells1 (C.ownAt 0 rfl)) sizeOf24 rfl rfl (D3 (Own.oneC (C.ownAt 0 rfl)) ACL) ?_
   intro w11 S x11
   have Y:Hp w [] M (F5 ReportE 45 24 b2 v10 ((pre++[x]).map Subtype.val)) w11:=by
    have J:(pre++[x]).map Subtype.val=pre.map Subtype.val++[x.1]:=by simp
    rw[J];exact S
   have hA:Adv (mm (F5 ReportE 45 24 b2 u (pre.map Subtype.val)) M) (mm (F5 ReportE 45 24 b2 v10 ((pre++[x]).map Subtype.val)) M) W w11:=by
    have J:(pre++[x]).map Subtype.val=pre.map Subtype.val++[x.1]:=by simp
    rw[J];exact x8.trans ((G5 (σ:=ownR [] ReportE 45 v8 [x.1]::F5 ReportE 45 24 b2 u (pre.map Subtype.val)) 0).trans (x10.trans x11))
   obtain⟨B,V⟩:=U.kb Y hA
   exact Reg.nil ⟨⟨V.size,fun k o hB=>V.same k o (AYG I.kp.size hB)⟩,B,v10,Y,AYG Q hA.kp.size,by simp;omega⟩
 . rintro D W hD ⟨v',U,Q,A⟩ T
   refine A6 ?_
   refine A8 ?_
   refine V9 rfl ((U.row 1 rfl).rd.cells.at 0 rfl) isAgg24 rfl ?_
   refine G7 rfl rfl ?_
   refine Reg.nil ?_
   refine K6 ?_
   have J:=U.turnG AQs (fun h=>h) (grownBy_putObj' W D (.deferred none)) fun j e=>by cases e;exact⟨AYG I.kp.size hD,_,T,rfl⟩
   refine .inr ⟨D,_,rfl,run_takeDeferred T,v',fun a ha=>?_,v',rfl,J.ownOut 0 rfl,J.kp⟩
   rw[results_tmp results102,ha.getD rfl]
theorem AEV{M:List Nat}{w:World}(J:MLt M w){d:Desk_139}{v:Value}(hd:OkD (P:=prog) M w (.st 14) d v):
  Calls prog 69 (toArray [v]) w fun e w'=>∃v0:Value,e=.returned v0/\ItF M w' v0 d/\Ext w w':=by
 have U:=Hp.start (Mu:=[]) J
 have I:=hd
 obtain⟨cs,W,V⟩:=hd
 obtain rfl:v=.agg (toArray cs):=V.elim (fun h=>h.2) fun h=>by cases h.1
 refine G6 (l:=[_]) (fn:=f69) func69 rfl ntmps69 rfl ?_
 refine A6 ?_
 refine A8 ?_
 refine AAD U rfl rfl rfl ?_
 intro b w2 H x2
 refine G7 rfl rfl ?_
 refine Reg.nil ?_
 refine A6 ?_
 refine A8 ?_
 refine ADz rfl rfl ?_
 refine G7 rfl rfl ?_
 refine Reg.nil ?_
 refine K6 ?_
 refine fin1 results69 rfl ?_
 exact⟨_,rfl,⟨.pointer (some ⟨b,0,none⟩),rfl,b,0,_,_,rfl,(H.freezeRow 0 rfl).adv (Adv.refl _ _),OkD.adv I (Adv.of_ext H.kp),rfl⟩,H.kp⟩
open Classical in
def F7(d:Desk_139):Option (List Report):=(N2 d).bind fun l=>if l.length*64<=140737488355328/\∀r∈l,InR r then some l else none
theorem AGm{M:List Nat}{w:World}(W:MLt M w)(U:GlOk (P:=prog) M w){d:Desk_139}{v:Value}(V:ItF M w v d){r0:List Report}(h:F7 d=some r0):
  Calls prog 67 (toArray [v]) w fun e w'=>∃v0_0:Value,e=.returned (v0_0)/\(Sx.Own ReportE 45 0 M w' v0_0 r0/\∀b∈ob v0_0,w.heap.size<=b)/\Ext w w':=by
 unfold F7 at h
 obtain⟨l,hl,h⟩:=R0 h
 split at h
 . rename_i J
   obtain rfl:=AXz h
   obtain⟨xs,H⟩:∃xs:List AEU,xs.map Subtype.val=l:=⟨l.attach.map fun r=>⟨r.1,J.2 r.1 r.2⟩,by rw[AYe];exact AYd l⟩
   refine G6 func67 rfl ntmps67 rfl ?_
   refine A6 ?_
   refine A8 ?_
   refine G7 rfl rfl ?_
   refine Reg.nil ?_
   refine A6 ?_
   refine A8 ?_
   refine J3 rfl rfl ?_
   refine X6 rfl call102 rfl ?_
   refine(AFI W U V (l:=xs) (by rw[H];exact hl) (by have:=AX9 List.length H;rw[AYZ]at this;rw[this];exact J.1)).mono ?_
   rintro _ w2 ⟨v,rfl,I,hx⟩
   refine⟨_,rfl,?_⟩
   refine G7 rfl rfl ?_
   refine Reg.nil ?_
   refine K6 ?_
   refine fin1 results67 rfl ?_
   rw[H]at I
   exact⟨_,rfl,I,hx⟩
 . cases h
noncomputable def c29:Code:=match Tryz.f29.body with
 |some c=>c
 |none=>.skip
def ATx:Sh:=⟨[(.slot 0,.d (.sl (.st 1))),(.slot 1,.d (.int .i64))],[]⟩
def ANE:Gx:={ gxb with fs:=[(65,ctr65),(66,ctr66)] }
theorem AL9:GxOk prog ANE:=B4 ⟨⟨ok65,call65⟩,⟨ok66,call66⟩,trivial⟩
def M3(l:List Report)(known:Int):Option (List Report×Int):=(T9 l known).bind fun x=>Sum.elim (fun y=>(V1 y.1 y.2).bind fun d=>(F7 d).bind fun r=>some ((r,(0:Int)):List Report×Int)) (fun r=>some r) x
def cs29:List Ck:=[.own (.sl 45 (.st 1)),.d (.int .i64)]
theorem AV5(l:List Report)(known:Int):X2 ANE 21 (V0 ANE cs29 Tryz.f29.results.toList) (N9 2 c29) AL7 (fun σ=>match I8 ATx σ with
 |some x=>some (Sum.inl x)
 |none=>none) (fun r=>some (Sum.inr r)) ⟨[(0,.dat (.sl (.st 1)) l),(1,.int .i64 known)],[],[],[]⟩=T9 l known:=by kernel_rfl
def ctr29:Ctr:=⟨[.d (.sl (.st 1)),.d (.int .i64)],cs29,fun a=>M3 a.1 a.2.1⟩
theorem ok29:Ctr.ok prog 29 ctr29:=by
 refine⟨by decide,fun M w a vals r G A B H=>?_⟩;obtain⟨l,known,_⟩:=a;obtain⟨vl,_,rfl,I,vk,_,rfl,J,rfl⟩:=B;have H:M3 l known=some r:=H;unfold M3 at H;obtain⟨z,T,H⟩:=R0 H;have I:OkD (P:=prog) M w (.sl (.st 1)) l vl:=I;have J:OkD (P:=prog) M w (.int .i64) known vk:=J;have N:Holds (P:=prog) w [] M ⟨[(0,.dat (.sl (.st 1)) l),(1,.int .i64 known)],[],[],[]⟩ [(0,vl),(1,vk)] w:=by
  refine⟨[],fun _=>undef,fun _=>[],fun _=>[],fun _=>0,Hp.start G,(fun i a h=>by cases h),(fun i j a b h=>by cases h),(fun i a h=>by cases h),fun t s U=>?_,trivial,A⟩;rw[fnd_cons]at U;split at U
  . rename_i e;subst e;cases U;exact⟨vl,rfl,rfl,I⟩
  rw[fnd_cons]at U;split at U
  . rename_i e;subst e;cases U;exact⟨vk,rfl,E1 (.int .i64) J⟩
  . cases U
 refine G6 (l:=[vl,vk]) (fn:=Tryz.f29) func29 rfl rfl rfl ?_;refine ACq (P:=prog) (pr:=V0 ANE cs29 Tryz.f29.results.toList) AL9 2 c29 AL7 (by decide) ((AV5 l known).trans T) N (fun σ' L' w1 hK L O=>?_) (fun r' σ' L' w' Y hk O=>?_)
 . cases V:I8 ATx σ' with
   |none=>rw[V]at hK;cases hK
   |some x=>
   rw[V]at hK;cases hK
   obtain⟨l,known⟩:=x;have K:=O.packed V;obtain⟨S,ρ,γ,μ,ι,C⟩:=K;obtain⟨v0,l0,e0⟩:=C.env 0 (.dat (.sl (.st 1)) l) rfl;obtain⟨v1,l1,rfl,e1⟩:=C.env 1 (.int .i64 known) rfl;have H:((V1 l known).bind fun d=>(F7 d).bind fun r=>some ((r,(0:Int)):List Report×Int))=some r:=H;obtain⟨d,hd,H⟩:=R0 H;obtain⟨r1,E,H⟩:=R0 H;cases H
   have W:MLt (mm S M) w1:=C.hp.mlt;have D:GlOk (P:=prog) (mm S M) w1:=C.anch.2;refine A6 ?_;refine A8 ?_;refine J3 l0 rfl ?_;refine J3 (v:=.int .i64 known) (by show Sx.A5 ((16,v0)::L') 1=some (.int .i64 known);rw[look_cons,if_neg (by decide)];exact l1) rfl ?_;refine X6 rfl call68 rfl ?_;refine(ok68.2 (mm S M) w1 (l,known,()) [v0,.int .i64 known] d W D ⟨v0,_,rfl,e0.2,_,[],rfl,⟨[_],⟨rfl,e1⟩,.inr ⟨rfl,rfl⟩⟩,rfl⟩ hd).mono ?_;rintro _ w2 ⟨_,rfl,⟨v2,rfl,Q⟩,x2⟩;refine⟨_,rfl,?_⟩;have Q:OkD (P:=prog) (mm S M) w2 (.st 14) d v2:=Q;refine X6 rfl call69 rfl ?_;refine(AEV (W.ext x2) Q).mono ?_;rintro _ w3 ⟨v3,rfl,R,x3⟩;refine⟨_,rfl,?_⟩;refine X6 rfl call67 rfl ?_;refine(AGm ((W.ext x2).ext x3) ((D.adv (Adv.of_ext x2)).adv (Adv.of_ext x3)) R E).mono ?_;rintro _ w4 ⟨v4,rfl,⟨Z,X⟩,x4⟩;refine⟨_,rfl,?_⟩;refine G7 rfl rfl ?_;refine G7 rfl rfl ?_;refine Reg.nil ?_;refine K6 ?_;refine AWc results29 rfl rfl ?_;refine⟨[v4,.int .i64 0],rfl,⟨v4,_,rfl,⟨trivial,Z.mon fun b F=>(mem_append.1 F).imp id fun h=>mem_mm.2 (.inr h),fun b F=>?_⟩,_,rfl,[.int .i64 0],⟨rfl,(by decide:InK .i64 0)⟩,.inr ⟨rfl,rfl⟩⟩,?_⟩
   . exact AYG C.hp.kp.size (AYG x2.size (AYG x3.size (X b F)))
   . exact((C.hp.kp.trans x2).trans x3).trans x4
 . have hk:Sum.inr r'=z:=AXz hk;subst hk;have H:some r'=some r:=H;cases H
   exact AK2 AL9 (by decide) Y O
end Go.Proofs.YtgioiejbphljoaaGreatDoor
namespace Go.Rx
open Go Go.Sx Go.RowKit
section
variable[Trk][Sg][Sf]{P:Program}[Se P][Anch]{w0 w:World}{Mu M:List Nat}{L:A7}{G:Gx}{N:Nat}{ds:List Deferred}{A B:A3}{X:Nat->A3}{Z:List PanicEntry->A3}
def AllE(env:List (Nat×SV)):List (Nat×SV)->Prop
 |[]=>True
 |p::l=>A1 env p.1=some p.2/\AllE env l
variable{env:List (Nat×SV)}{t:Nat}{id:Nat}{σ:AS}{σ':AS}
theorem AllE.out{s:SV}:∀{l:List (Nat×SV)},AllE env l->A1 l t=some s->A1 env t=some s
 |[],_,h=>by cases h
 |(k,u)::l,⟨I,H⟩,h=>by
  rw[fnd_cons]at h;split at h
  . rename_i e;subst e;cases h;exact I
  . exact AllE.out H h
theorem Holds.fewer{env env':List (Nat×SV)}{res:List (Nat×AR)}{kl kl':List Nat}{ch ch':List (Nat×Nat)}(h:Holds (P:=P) w0 Mu M ⟨env,res,kl,ch⟩ L w)(J:AllE env env'):Holds (P:=P) w0 Mu M ⟨env',res,kl',ch'⟩ L w:=by
 obtain⟨S,ρ,γ,μ,ι,H⟩:=h;exact⟨S,ρ,γ,μ,ι,H.hp,H.res,H.inj,H.row,fun t s I=>H.env t s (J.out I),H.anch⟩
theorem AAp[Sl (P:=P)](U:GxOk P G){ops:List Oper}(h:C6 G N ops some ops σ=some σ')(J:Holds (P:=P) w0 Mu M σ L w)(hA:∀L' w',EnvS (C1 ops) L L'->Holds (P:=P) w0 Mu M σ' L' w'->A ds L' w'):CW P N (.region id (toArray ops) false) ds L w A B X Z:=
 A8 (S9 U ops σ L w h (fun _ I=>I) J fun σ1 L1 w1 W _ V H=>by cases W;exact hA L1 w1 V H)
theorem Holds.slotB{b:Bool}(h:Holds (P:=P) w0 Mu M σ L w)(I:A1 σ.env t=some (.bool b)):Sx.A5 L t=some (.bool b):=by
 obtain⟨S,ρ,γ,μ,ι,J⟩:=h;obtain⟨v,U,H⟩:=J.env t _ I;have H:v=.bool b:=H;subst H;exact U
theorem ANF[Sl (P:=P)](J:GxOk P G){ops:List Oper}{Y:Type}{o:Option Y}{x:Y}{K:Y->Option AS}(H:o=some x)(h:C6 G N ops some ops σ=Option.bind o K)(hk:K x=some σ')(I:Holds (P:=P) w0 Mu M σ L w)(hA:∀L' w',EnvS (C1 ops) L L'->Holds (P:=P) w0 Mu M σ' L' w'->A ds L' w'):CW P N (.region id (toArray ops) false) ds L w A B X Z:=
 AAp J (by rw[h,H];exact hk) I hA
theorem Holds.ops[Sl (P:=P)](C:GxOk P G){all l rest:List Oper}{σ σ':AS}(h:C6 G N all some l σ=some σ')(V:Holds (P:=P) w0 Mu M σ L w)(hA:∀L' w',EnvS (C1 l) L L'->Holds (P:=P) w0 Mu M σ' L' w'->Reg P N (toArray all) .seq rest ds L' w' A B X Z):Reg P N (toArray all) .seq (l++rest) ds L w A B X Z:=by
 have key:=S9 (P:=P) (ops:=all) (ds:=ds) (B:=B) (X:=X) (Z:=Z) (W:=C1 l) C l σ L w h (fun _ I=>I) V (A:=fun ds' L' w'=>Reg P N (toArray all) .seq rest ds' L' w' A B X Z) fun σ1 L1 w1 E _ D H=>by cases E;exact hA L1 w1 D H
 exact fun a U=>X0 (fun a w h=>by
  obtain⟨ds',L',hk,J⟩:=h;exact J a hk) l a w (key a U)
theorem Holds.toL{L2:A7}(h:Holds (P:=P) w0 Mu M σ L w)(I:∀t s,A1 σ.env t=some s->Sx.A5 L2 t=Sx.A5 L t):Holds (P:=P) w0 Mu M σ L2 w:=by
 obtain⟨S,ρ,γ,μ,ι,J⟩:=h;exact⟨S,ρ,γ,μ,ι,J.envTo fun t s H=>(I t s H).symm⟩
end
section
variable[Trk][Sg][Sf]{P:Program}[Se P][Anch]{w0 w:World}{Mu M:List Nat}{σ:AS}{L:A7}{S:List Res}{ρ:Nat->Value}{γ:Nat->List Value}{μ:Nat->List Nat}{ι:Nat->Nat}{G:Gx}{N:Nat}{ds:List Deferred}{A B:A3}{X:Nat->A3}{Z:List PanicEntry->A3}
theorem Holds.res{env:List (Nat×SV)}{res res':List (Nat×AR)}{kl kl':List Nat}{ch ch':List (Nat×Nat)}(h:Holds (P:=P) w0 Mu M ⟨env,res,kl,ch⟩ L w)(I:∀j,A1 res' j=A1 res j):Holds (P:=P) w0 Mu M ⟨env,res',kl',ch'⟩ L w:=by
 obtain⟨S,ρ,γ,μ,ι,H⟩:=h;have e:A1 res'=A1 res:=funext I;refine⟨S,ρ,γ,μ,ι,H.hp,fun i a h=>H.res i a ((I i).symm.trans h),fun i j a b U J=>H.inj i j a b ((I i).symm.trans U) ((I j).symm.trans J),fun i a h=>?_,fun t s V=>?_,H.anch⟩
 . have:=H.row i a ((I i).symm.trans h);show RowOk ρ (A1 res') _ _ _ _ _;rw[e];exact this
 . obtain⟨v,U,J⟩:=H.env t s V;refine⟨v,U,?_⟩;show Ok ρ (A1 res') _ _ _ _;rw[e];exact J
end
section
variable[Trk][Sg][Sf]{P:Program}[Se P]
theorem Holds.start[Anch]{M:List Nat}{w:World}{env:List (Nat×SV)}{L:A7}(H:MLt M w)(I:∀t s,A1 env t=some s->∃v,Sx.A5 L t=some v/\Ok (P:=P) (fun _=>undef) (fun _=>none) M w s v)(hA:AnOk M w):Holds (P:=P) w [] M ⟨env,[],[],[]⟩ L w:=
 ⟨[],fun _=>undef,fun _=>[],fun _=>[],fun _=>0,Hp.start H,(fun i a h=>by cases h),(fun i j a b h=>by cases h),(fun i a h=>by cases h),I,hA⟩
theorem Holds.ends[Anch]{M:List Nat}{w w':World}{Mu:List Nat}{σ:AS}{L:A7}(h:Holds (P:=P) w Mu M σ L w'):Kp Mu w w':=by
 obtain⟨S,ρ,γ,μ,ι,H⟩:=h;exact H.hp.kp
end
variable{P:Program}
theorem AA6[Trk][Sg][Sf][Se P][Sl (P:=P)][Anch]{w0 w:World}{Mu M:List Nat}{L:A7}{G:Gx}{N:Nat}{ds:List Deferred}{A B:A3}{X:Nat->A3}{Z:List PanicEntry->A3}{id:Nat}{ops:List Oper}{σ σ':AS}{Y:Type}{o:Option Y}{x:Y}{K:Y->Option AS}(J:GxOk P G)(I:Holds (P:=P) w0 Mu M σ L w)(H:o=some x)(h:C6 G N ops some ops σ=Option.bind o K)(hk:K x=some σ')(hA:∀L' w',EnvS (C1 ops) L L'->Holds (P:=P) w0 Mu M σ' L' w'->A ds L' w'):CW P N (.region id (toArray ops) false) ds L w A B X Z:=
 ANF J H h hk I hA
theorem AEW[Trk][Sg][Sf][Se P][Anch]{w0 w:World}{Mu M:List Nat}{L:A7}{σ:AS}{env':List (Nat×SV)}{res':List (Nat×AR)}(h:Holds (P:=P) w0 Mu M σ L w)(I:AllE σ.env env')(H:∀j,A1 res' j=A1 σ.res j)(kl':List Nat:=[])(ch':List (Nat×Nat):=[]):Holds (P:=P) w0 Mu M ⟨env',res',kl',ch'⟩ L w:=by
 obtain⟨e,r,kl,ch⟩:=σ;exact Holds.res (kl:=kl') (ch:=ch') (h.fewer I) H
end Go.Rx
namespace Go.Sx
open Go Go.RowKit
variable[Trk]{n:Nat}{P:Program}{N:Nat}{ops:Array Oper}{rest:List Oper}{ds:List Deferred}{L:A7}{w:World}{A B:A3}{X:Nat->A3}{Z:List PanicEntry->A3}{d:Nat}{op:Op}{after:Array Edge}{j:Nat}{t:Nat}{b:Bool}
theorem AHh{f x y:Operand}{l d:Nat}{v u:Value}{ts:Array TypeId}{ty:TypeId}{pos:String}{af:Array Edge}{R:Ending->World->Prop}(W:ev L f=some (.func (.yield l) #[] #[]))(hx:ev L x=some v)(hy:ev L y=some u)(hN:blt d N=true)(D:YieldAt Fence.wide (n-1) P l #[v,u] w R)(h:∀e w',R e w'->∃q,e=.returned q/\Rgi n P N ops rest ds ((d,q)::L) w' A B X Z):
  Rgi n P N ops (⟨some d,.call ⟨.value f,#[x,y],ts⟩,ty,pos,af,none⟩::rest) ds L w A B X Z:=fun a J=>by
 obtain⟨fn,tmps,assign,body,U,E⟩:=D
 unfold wpListIn
 rw[AYB (by rfl)]
 refine⟨fun _ _=>trivial,?_⟩
 have V:∀o:Oper,K8 o.op=true->Oper.semAt Fence.wide.round a.eval o=execOp a.eval o:=fun o I=>Oper.semAt_eq _ _ _ fun c C=>by rw[C]at I;simp[K8]at I
 rw[V _ rfl]
 have H:(execOp a.eval ⟨some d,.call ⟨.value f,#[x,y],ts⟩,ty,pos,af,none⟩).run P w=.ok (.round l fn tmps assign body) w:=by
  simp[execOp,resolve,J.eval W,J.eval hx,J.eval hy,Deferred.ofValue,invoke,U]
 rw[H]
 refine⟨fun e=>(by cases e),E.mono fun e w' K=>?_⟩
 obtain⟨q,rfl,F⟩:=h e w' K
 exact F _ (J.put hN q)
theorem Rgi.take{d:Option Tmp}{ty:TypeId}{pos:String}(J:(ops[j]?).bind (·.dst)=some t)(I:A5 L t=some (.bool b))(h:Rgi n P N ops (⟨d,op,ty,pos,after,none⟩::rest) ds L w A B X Z):Rgi n P N ops (⟨d,op,ty,pos,after,some (j,b)⟩::rest) ds L w A B X Z:=fun a H=>by
 have:=h a H;have e:Region.wanted (⟨d,op,ty,pos,after,some (j,b)⟩:Oper) (yielded ops a.tmps)=true:=by simp only[Region.wanted,V8 H J I,BEq.rfl]
 have e0:Region.wanted (⟨d,op,ty,pos,after,none⟩:Oper) (yielded ops a.tmps)=true:=rfl;unfold wpListIn at this ⊢;rw[AYB e0]at this;rw[AYB e];exact this
theorem Rgi.pass{ty:TypeId}{pos:String}{b b':Bool}(hN:blt d N=true)(U:(ops[j]?).bind (·.dst)=some t)(J:A5 L t=some (.bool b'))(V:(b'==b)=false)(h:Rgi n P N ops rest ds ((d,undef)::L) w A B X Z):Rgi n P N ops (⟨some d,op,ty,pos,after,some (j,b)⟩::rest) ds L w A B X Z:=fun a H=>by
 have I:Region.wanted (⟨some d,op,ty,pos,after,some (j,b)⟩:Oper) (yielded ops a.tmps)=false:=by
  simp only[Region.wanted,V8 H U J];simpa using V
 unfold wpListIn;rw[if_neg (by rw[I];decide)];exact⟨fun _ _=>trivial,h _ (H.put hN _)⟩
end Go.Sx
namespace Go.Rx
open Go Go.Sx Go.RowKit
variable[Trk][Sg][Sf]
section
variable{P:Program}[Se P]{N:Nat}{ds:List Deferred}{A B:A3}{X:Nat->A3}{Z:List PanicEntry->A3}
def AXF(ops:List Oper):Bool:=(List.range ops.length).all fun k=>match ops[k]? with
 |some o=>o.after.toList.all fun e=>!(Region.binds .any e)||blt e.on k
 |none=>true
theorem AP5{ops:List Oper}(h:AXF ops=true):∀(k:Nat) (o:Oper),ops[k]?=some o->∀e∈o.after.toList,Region.binds .any e=true->e.on<k:=fun k o H e U V=>by
 have hk:k<ops.length:=(List.getElem?_eq_some_iff.1 H).1;have J:=List.all_eq_true.1 h k (List.mem_range.2 hk);rw[H]at J;have I:=List.all_eq_true.1 J e U;rw[V]at I;simpa using I
theorem AOh{id:Nat}{ops:List Oper}{L0:A7}{w0:World}(hm:P.follows .mixedOrders=true)(hd:ops.all (fun o=>K8 o.op)=true)(r:ops.all (fun o=>o.guard.isNone)=true)(J:(Nat->Bool)->A7->World->Prop)(R:J (fun _=>false) L0 { w0 with drawn:=w0.drawn+1 })(low:∀k o,ops[k]?=some o->∀e∈o.after.toList,Region.binds .any e=true->e.on<k)(step:∀D L w k o,J D L w->D k=false->ops[k]?=some o->(∀e∈o.after.toList,Region.binds .any e=true->D e.on=true)->Reg P N (toArray ops) .seq [o] ds L w (fun ds' L' w'=>ds'=ds/\J (fun j=>beq j k||D j) L' w') B X Z)(fin:∀D L w,(∀k,k<ops.length->D k=true)->J D L w->A ds L w):CW P N (.region id (toArray ops) true) ds L0 w0 A B X Z:=by
 refine Y1 (n:=3) (AOQ hm hd fun a s=>?_);have hsize:(toArray ops).size=ops.length:=by simp
 have key:∀(n:Nat) (listed:Array Bool) (a:Act) (w:World) (L:A7),listed.size=ops.length->((List.range ops.length).filter fun k=>!listed.getD k false).length=n->Knows N ds L a->J (fun k=>listed.getD k false) L w->wpAny P .any (toArray ops) (R1 N A B X Z) n listed a w:=by
  intro n;induction n with
  |zero=>
   intro listed a w L I M hk G
   have H:∀k,k<ops.length->listed.getD k false=true:=fun k hk=>by
    cases O:listed.getD k false with
    |true=>rfl
    |false=>
     have:k∈(List.range ops.length).filter fun k=>!listed.getD k false:=List.mem_filter.2 ⟨List.mem_range.2 hk,by rw[O];rfl⟩
     rw[AYw M]at this
     cases this
   refine⟨List.eq_nil_iff_forall_not_mem.2 fun k hk=>?_,ds,L,hk,fin _ L w H G⟩
   obtain⟨R,o,Y,_⟩:=mem_ready.1 hk
   have V:k<ops.length:=by rw[<-hsize];exact(Array.getElem?_eq_some_iff.1 Y).1
   have:=H k V
   rw[ADU (by rw[I];exact V) true false,this]at R;cases R
  |succ n ih=>
   intro listed a w L I M hk G
   refine⟨fun p=>?_,fun i hi=>?_⟩
   . have H:∀m k,k<ops.length->k<m->listed.getD k false=true:=by
      intro m;induction m with
      |zero=>intro k _ hm;omega
      |succ m ihm=>
       intro k hk hm
       cases O:listed.getD k false with
       |true=>rfl
       |false=>
        obtain⟨o,Y⟩:∃o,ops[k]?=some o:=⟨ops[k],by simp[hk]⟩
        have:k∈Region.ready .any (toArray ops) listed:=mem_ready.2 ⟨by rw[ADU (by rw[I];exact hk) true false];exact O,o,by rw[AZT];exact Y,fun e d K=>by
         have:=low k o Y e (Array.mem_toList_iff.2 d) K;exact ihm e.on (by omega) (by omega)⟩
        rw[p]at this;cases this
     exact⟨ds,L,hk,fin _ L w (fun k hk=>H (k+1) k hk (AZa k)) G⟩
   . obtain⟨F,o,U,hiall⟩:=mem_ready.1 hi
     have E:i<ops.length:=by rw[<-hsize];exact(Array.getElem?_eq_some_iff.1 U).1
     have W:ops[i]?=some o:=by rw[AZT]at U;exact U
     rw[ADU (by rw[I];exact E) true false]at F
     have Q:i<listed.size:=by rw[I];exact E
     have g:=step _ L w i o G F W (fun e d K=>hiall e (Array.mem_toList_iff.1 d) K) a hk
     have b:o.guard=none:=by
      have:=List.all_eq_true.1 r o (AX1 W);simpa using this
     have l:Region.wanted o (yielded (toArray ops) a.tmps)=true:=by simp[Region.wanted,b]
     unfold wpOp
     rw[U]
     simp only[l,if_true]
     left
     simp only[wpList]at g
     rw[AYB l]at g
     refine ACh (g.resolve_right fun q=>ABV q.2) ?_ (fun c a w S=>S) ABV
     rintro a' w' ⟨ds',L',V,rfl,f⟩
     have C:(fun k=>(listed.setIfInBounds i true).getD k false)=fun j=>beq j i||listed.getD j false:=by
      funext k;by_cases e:k=i
      . subst e;simp[Q]
      . rw[getD_set_ne false (AZs e)];have:beq k i=false:=by
         cases O:beq k i with
         |false=>rfl
         |true=>exact absurd (AX5 O) e
        rw[this,Bool.false_or]
     refine ih _ a' w' L' (by simp[I]) ?_ V (by rw[C];exact f)
     have T:((List.range ops.length).filter fun k=>!(listed.setIfInBounds i true).getD k false)=((List.range ops.length).filter fun k=>!listed.getD k false).erase i:=by
      rw[List.Nodup.erase_eq_filter (List.Pairwise.filter _ AZH),List.filter_filter];refine List.filter_congr fun k hk=>?_;have:=congrFun C k;rw[this];by_cases e:k=i
      . subst e;simp
      . have:beq k i=false:=by
         cases O:beq k i with
         |false=>rfl
         |true=>exact absurd (AX5 O) e
        simp[this,e]
     rw[T,List.length_erase_of_mem (List.mem_filter.2 ⟨List.mem_range.2 E,by rw[F];rfl⟩),M]
     rfl
 have S:(fun k=>(Array.replicate (toArray ops).size false).getD k false)=fun _=>false:=funext fun k=>by
  rw[AY0,Array.getElem?_replicate];split<;>rfl
 refine key _ _ a _ L0 (by simp) ?_ s (by rw[S];exact R);have:((List.range ops.length).filter fun k=>!(Array.replicate (toArray ops).size false).getD k false)=List.range ops.length:=List.filter_eq_self.2 fun k _=>by simp[Array.getD]
 rw[this];simp
end
end Go.Rx
namespace Go.Proofs.YtgioiejbphljoaaGreatDoor
open Go Go.Sx Go.Rx Go.RowKit
def N4:Enc Value:=⟨1,Nat.one_pos,fun _ _ cs x=>cs=[x]/\x.oneCell'=true,fun h=>by rw[h.1];rfl,fun _ h=>h,fun _ h=>h,fun h u hu=>by rw[h.1]at hu;rw[mem_singleton.1 hu];exact h.2⟩
abbrev K3:Ky prog 3 Int:=W5 .i64 underlying3
def AFJ(x:Answer):List Value:=[.int .i64 x.id,.int .i64 x.dispute,.int .i64 x.day,.int .u8 x.says,.int .i64 x.about,.int .i64 x.cents]
def InA(x:Answer):Prop:=InK .i64 x.id/\InK .i64 x.dispute/\InK .i64 x.day/\InK .u8 x.says/\InK .i64 x.about/\InK .i64 x.cents
theorem AXG{M:List Nat}{w:World}{x:Answer}(h:InA x):AnswerE.R M w (AFJ x) x:=AnswerE_R.2 ⟨rfl,h⟩
noncomputable def r70:Code:=match f70.body with
 |some (.seq _ (.seq _ (.seq _ (.seq _ (.seq (.seq _ (.block _ (.loop (.seq _ (.seq _ (.seq (.block _ (.seq _ r)) _)))))) _)))))=>r
 |_=>.skip
def o70:List Oper:=match r70 with
 |.region _ l _=>l.toList
 |_=>[]
def ANG:List Nat:=[51,52,53,54,55,56,57,58,59,60,61,62]
def HA(w0 w:World)(M:List Nat)(σ σ':List Res)(W:World):Prop:=Hp w0 [] M σ' W/\Adv (mm σ M) (mm σ' M) w W
structure J70(w0 w1:World)(M:List Nat)(σ:List Res)(i jm b4 b11 bm:Nat)(v:Value)(l:List Answer)(a:Answer)(g:A4 Int Value)(L0:A7)(D:Nat->Bool)(L:A7)(W:World):Prop where
 base:∀t,t∉ANG->Sx.A5 L t=Sx.A5 L0 t
 f0:D 0=true->Sx.A5 L 51=some (.pointer (some ⟨b4,7,none⟩))
 f1:D 1=true->Sx.A5 L 52=some (.map (some bm))
 f2:D 2=true->Sx.A5 L 53=some (.pointer (some ⟨b11,1,none⟩))
 f3:D 3=true->Sx.A5 L 54=some (.int .i64 a.dispute)
 f4:D 4=true->Sx.A5 L 55=some (.pointer (some ⟨b4,7,none⟩))
 f5:D 5=true->Sx.A5 L 56=some (.map (some bm))
 f6:D 6=true->Sx.A5 L 57=some (.pointer (some ⟨b11,1,none⟩))
 f7:D 7=true->Sx.A5 L 58=some (.int .i64 a.dispute)
 f8:D 8=true->Sx.A5 L 59=some v
 f9:D 9=true->Sx.A5 L 60=some (.agg (toArray (AFJ a)))
 r10:D 10=true->D 9=true
 r11:D 11=true->D 8=true/\D 9=true/\D 10=true
 r12:D 12=true->∀j,j<12->D j=true
 p0:D 11=false->HA w0 w1 M σ σ W
 p1:D 10=true->D 11=false->∃vb,Sx.A5 L 61=some vb/\RdS AnswerE (mm σ M) W vb [a]
 p2:D 11=true->D 12=false->∃v',Sx.A5 L 62=some v'/\v'.oneCell'=true/\HA w0 w1 M σ (σ.set i (ownR [] AnswerE 60 v' (l++[a]))) W
 p3:D 12=true->∃v',HA w0 w1 M σ ((σ.set i (ownR [] AnswerE 60 v' (l++[a]))).set jm (mapO K3 N4 false bm (B5 g a.dispute v'))) W
theorem ANH{w0:World}{M:List Nat}{σ:List Res}{w:World}{L:A7}{i jm j4 j11 b4 b11 bm:Nat}{v:Value}{l:List Answer}{a:Answer}{g:A4 Int Value}{cs4:List Value}{A B:A3}{X:Nat->A3}{Z:List PanicEntry->A3}(x:Hp w0 [] M σ w)(hi:σ[i]?=some (ownR [] AnswerE 60 v l))(hm:σ[jm]?=some (mapO K3 N4 false bm g))(u:σ[j4]?=some (rowR 99 b4 cs4))(P:cs4[7]?=some (.map (some bm)))(c:σ[j11]?=some (rowR 60 b11 (AFJ a)))(R:InA a)(hv:(g a.dispute).getD (.slice none 0 0)=v)(d1:i≠jm)(d2:i≠j4)(d3:i≠j11)(Y:(l.length+1)*48<=140737488355328)(l4:Sx.A5 L 4=some (.pointer (some ⟨b4,0,none⟩)))(l11:Sx.A5 L 11=some (.pointer (some ⟨b11,0,none⟩)))(hA:∀v' L' w',(∀t,t∉ANG->Sx.A5 L' t=Sx.A5 L t)->HA w0 w M σ ((σ.set i (ownR [] AnswerE 60 v' (l++[a]))).set jm (mapO K3 N4 false bm (B5 g a.dispute v'))) w'->A [] L' w'):CW prog 65 r70 [] L w A B X Z:=by
 refine AOh (ops:=o70) gx_mix (by decide) (by decide) (J70 w0 w M σ i jm b4 b11 bm v l a g L) ?_ (AP5 (by decide)) ?_ ?_
 . exact⟨fun _ _=>rfl,(fun h=>by cases h),(fun h=>by cases h),(fun h=>by cases h),(fun h=>by cases h),(fun h=>by cases h),(fun h=>by cases h),(fun h=>by cases h),(fun h=>by cases h),(fun h=>by cases h),(fun h=>by cases h),(fun h=>by cases h),(fun h=>by cases h),(fun h=>by cases h),(fun _=>⟨x.ext (Kp.drew _ _),Adv.of_ext (Kp.drew _ _)⟩),(fun h=>by cases h),(fun h=>by cases h),(fun h=>by cases h)⟩
 . intro D L' W k o H hk U I;have common:k<12->D 12=false/\Row 99 W b4 cs4/\Row 60 W b11 (AFJ a):=fun q=>by
    have J:D 12=false:=by
     cases S:D 12 with
     |false=>rfl
     |true=>rw[H.r12 S k q]at hk;cases hk
    cases T:D 11 with
    |false=>exact⟨J,(H.p0 T).1.row j4 u,(H.p0 T).1.row j11 c⟩
    |true=>
     obtain⟨v',_,_,N⟩:=H.p2 T J
     exact⟨J,N.1.row j4 (by rw[AYg d2];exact u),N.1.row j11 (by rw[AYg d3];exact c)⟩
   match k,hk,U,I,common with
   |0,hk,U,I,common=>
    obtain⟨J,row4,row11⟩:=common (by decide)
    clear common
    have U:=AXz (show some _=some o from U)
    subst U
    refine ABD ((H.base 4 (by decide)).trans l4) underlying99 rfl sizeOf97 rfl ?_
    exact Reg.nil ⟨rfl,fun t V=>(by rw[look_cons,if_neg (fun e=>V (by subst e;decide))];exact H.base t V),fun _=>rfl,H.f1,H.f2,H.f3,H.f4,H.f5,H.f6,H.f7,H.f8,H.f9,H.r10,H.r11,fun h j C=>by rw[H.r12 h j C,Bool.or_true],H.p0,H.p1,H.p2,H.p3⟩
   |1,hk,U,I,common=>
    obtain⟨J,row4,row11⟩:=common (by decide)
    clear common
    have U:=AXz (show some _=some o from U)
    subst U
    refine V9 (H.f0 (I _ (AX1 (i:=0) rfl) rfl)) (row4.rd.cells.at 7 P) isAgg97 rfl ?_
    exact Reg.nil ⟨rfl,fun t V=>(by rw[look_cons,if_neg (fun e=>V (by subst e;decide))];exact H.base t V),H.f0,fun _=>rfl,H.f2,H.f3,H.f4,H.f5,H.f6,H.f7,H.f8,H.f9,H.r10,H.r11,fun h j C=>by rw[H.r12 h j C,Bool.or_true],H.p0,H.p1,H.p2,H.p3⟩
   |2,hk,U,I,common=>
    obtain⟨J,row4,row11⟩:=common (by decide)
    clear common
    have U:=AXz (show some _=some o from U)
    subst U
    refine ABD ((H.base 11 (by decide)).trans l11) underlying60 rfl sizeOf3 rfl ?_
    exact Reg.nil ⟨rfl,fun t V=>(by rw[look_cons,if_neg (fun e=>V (by subst e;decide))];exact H.base t V),H.f0,H.f1,fun _=>rfl,H.f3,H.f4,H.f5,H.f6,H.f7,H.f8,H.f9,H.r10,H.r11,fun h j C=>by rw[H.r12 h j C,Bool.or_true],H.p0,H.p1,H.p2,H.p3⟩
   |3,hk,U,I,common=>
    obtain⟨J,row4,row11⟩:=common (by decide)
    clear common
    have U:=AXz (show some _=some o from U)
    subst U
    refine V9 (H.f2 (I _ (AX1 (i:=0) rfl) rfl)) (row11.rd.cells.at 1 rfl) isAgg3 rfl ?_
    exact Reg.nil ⟨rfl,fun t V=>(by rw[look_cons,if_neg (fun e=>V (by subst e;decide))];exact H.base t V),H.f0,H.f1,H.f2,fun _=>rfl,H.f4,H.f5,H.f6,H.f7,H.f8,H.f9,H.r10,H.r11,fun h j C=>by rw[H.r12 h j C,Bool.or_true],H.p0,H.p1,H.p2,H.p3⟩
   |4,hk,U,I,common=>
    obtain⟨J,row4,row11⟩:=common (by decide)
    clear common
    have U:=AXz (show some _=some o from U)
    subst U
    refine ABD ((H.base 4 (by decide)).trans l4) underlying99 rfl sizeOf97 rfl ?_
    exact Reg.nil ⟨rfl,fun t V=>(by rw[look_cons,if_neg (fun e=>V (by subst e;decide))];exact H.base t V),H.f0,H.f1,H.f2,H.f3,fun _=>rfl,H.f5,H.f6,H.f7,H.f8,H.f9,H.r10,H.r11,fun h j C=>by rw[H.r12 h j C,Bool.or_true],H.p0,H.p1,H.p2,H.p3⟩
   |5,hk,U,I,common=>
    obtain⟨J,row4,row11⟩:=common (by decide)
    clear common
    have U:=AXz (show some _=some o from U)
    subst U
    refine V9 (H.f4 (I _ (AX1 (i:=0) rfl) rfl)) (row4.rd.cells.at 7 P) isAgg97 rfl ?_
    exact Reg.nil ⟨rfl,fun t V=>(by rw[look_cons,if_neg (fun e=>V (by subst e;decide))];exact H.base t V),H.f0,H.f1,H.f2,H.f3,H.f4,fun _=>rfl,H.f6,H.f7,H.f8,H.f9,H.r10,H.r11,fun h j C=>by rw[H.r12 h j C,Bool.or_true],H.p0,H.p1,H.p2,H.p3⟩
   |6,hk,U,I,common=>
    obtain⟨J,row4,row11⟩:=common (by decide)
    clear common
    have U:=AXz (show some _=some o from U)
    subst U
    refine ABD ((H.base 11 (by decide)).trans l11) underlying60 rfl sizeOf3 rfl ?_
    exact Reg.nil ⟨rfl,fun t V=>(by rw[look_cons,if_neg (fun e=>V (by subst e;decide))];exact H.base t V),H.f0,H.f1,H.f2,H.f3,H.f4,H.f5,fun _=>rfl,H.f7,H.f8,H.f9,H.r10,H.r11,fun h j C=>by rw[H.r12 h j C,Bool.or_true],H.p0,H.p1,H.p2,H.p3⟩
   |7,hk,U,I,common=>
    obtain⟨J,row4,row11⟩:=common (by decide)
    clear common
    have U:=AXz (show some _=some o from U)
    subst U
    refine V9 (H.f6 (I _ (AX1 (i:=0) rfl) rfl)) (row11.rd.cells.at 1 rfl) isAgg3 rfl ?_
    exact Reg.nil ⟨rfl,fun t V=>(by rw[look_cons,if_neg (fun e=>V (by subst e;decide))];exact H.base t V),H.f0,H.f1,H.f2,H.f3,H.f4,H.f5,H.f6,fun _=>rfl,H.f8,H.f9,H.r10,H.r11,fun h j C=>by rw[H.r12 h j C,Bool.or_true],H.p0,H.p1,H.p2,H.p3⟩
   |8,hk,U,I,common=>
    obtain⟨J,row4,row11⟩:=common (by decide)
    clear common
    have U:=AXz (show some _=some o from U)
    subst U
    have F:D 11=false:=by
     cases S:D 11 with
     |false=>rfl
     |true=>rw[(H.r11 S).1]at hk;cases hk
    refine ASc jm (H.p0 F).1 hm (H.f5 (I _ (AX1 (i:=0) rfl) rfl)) (H.f7 (I _ (AX1 (i:=1) rfl) rfl)) R.2.1 underlying97 zeroValue26 (z0:=.slice none 0 0) ⟨[_],⟨rfl,rfl⟩,.inr ⟨rfl,rfl⟩⟩ rfl fun v9 m=>?_
    have e9:v9=v:=by
     obtain⟨cs,⟨y,_⟩,⟨d,_⟩|⟨_,d⟩⟩:=m
     . cases d
     . rw[y]at d;rw[<-hv];exact(List.singleton_inj.1 d).symm
    subst e9
    exact Reg.nil ⟨rfl,fun t V=>(by rw[look_cons,if_neg (fun e=>V (by subst e;decide))];exact H.base t V),H.f0,H.f1,H.f2,H.f3,H.f4,H.f5,H.f6,H.f7,fun _=>rfl,H.f9,H.r10,fun h=>⟨rfl,(H.r11 h).2⟩,fun h j C=>by rw[H.r12 h j C,Bool.or_true],H.p0,H.p1,H.p2,H.p3⟩
   |9,hk,U,I,common=>
    obtain⟨J,row4,row11⟩:=common (by decide)
    clear common
    have U:=AXz (show some _=some o from U)
    subst U
    refine AAs ((H.base 11 (by decide)).trans l11) row11.rd.cells isAgg60 rfl sizeOf60 rfl ?_
    exact Reg.nil ⟨rfl,fun t V=>(by rw[look_cons,if_neg (fun e=>V (by subst e;decide))];exact H.base t V),H.f0,H.f1,H.f2,H.f3,H.f4,H.f5,H.f6,H.f7,H.f8,fun _=>rfl,fun _=>rfl,fun h=>⟨(H.r11 h).1,rfl,(H.r11 h).2.2⟩,fun h j C=>by rw[H.r12 h j C,Bool.or_true],H.p0,H.p1,H.p2,H.p3⟩
   |10,hk,U,I,common=>
    obtain⟨J,row4,row11⟩:=common (by decide)
    clear common
    have U:=AXz (show some _=some o from U)
    subst U
    have F:D 11=false:=by
     cases S:D 11 with
     |false=>rfl
     |true=>rw[(H.r11 S).2.2]at hk;cases hk
    refine AJe (E:=AnswerE) (xs:=[a]) rsl26 (H.p0 F).1 rfl (show Sx.evs L' [.tmp 60]=some [_] by simp only[Sx.evs,Sx.ev,H.f9 (I _ (mem_of_getElem? (i:=0) rfl) rfl)];rfl) (Cls.cons rfl Cls.nil) (Chs.cons (AXG R) Chs.nil) rfl rfl ?_
    intro vb w' O x'
    have r:=O.freeze 0 rfl
    have s:HA w0 w M σ σ w':=⟨O.erase 0,(H.p0 F).2.trans (x'.trans (G5 (σ:=_::σ) 0))⟩
    exact Reg.nil ⟨rfl,fun t V=>(by rw[look_cons,if_neg (fun e=>V (by subst e;decide))];exact H.base t V),H.f0,H.f1,H.f2,H.f3,H.f4,H.f5,H.f6,H.f7,H.f8,H.f9,fun _=>I _ (AX1 (i:=0) rfl) rfl,fun h=>⟨(H.r11 h).1,(H.r11 h).2.1,rfl⟩,fun h j C=>by rw[H.r12 h j C,Bool.or_true],fun _=>s,fun _ _=>⟨vb,rfl,r⟩,(fun h=>by rw[show D 11=true from h]at F;cases F),(fun h=>by rw[show D 12=true from h]at J;cases J)⟩
   |11,hk,U,I,common=>
    obtain⟨J,row4,row11⟩:=common (by decide)
    clear common
    have U:=AXz (show some _=some o from U)
    subst U
    have hdep9:D 9=true:=H.r10 (I _ (AX1 (i:=1) rfl) rfl)
    have Q:D 11=false:=hk
    obtain⟨vb,f,p⟩:=H.p1 (I _ (AX1 (i:=1) rfl) rfl) Q
    refine AFQ i rsl26 (H.p0 Q).1 hi (H.f8 (I _ (AX1 (i:=0) rfl) rfl)) f p ⟨Y,AYG (AZZ _ (by decide)) Y⟩ rfl ?_
    intro v' w' O x'
    have G:=O.ownAt i (by rw[AY8 (List.getElem?_eq_some_iff.1 hi).1])
    exact Reg.nil ⟨rfl,fun t V=>(by rw[look_cons,if_neg (fun e=>V (by subst e;decide))];exact H.base t V),H.f0,H.f1,H.f2,H.f3,H.f4,H.f5,H.f6,H.f7,H.f8,H.f9,H.r10,fun _=>⟨(I _ (AX1 (i:=0) rfl) rfl),hdep9,(I _ (AX1 (i:=1) rfl) rfl)⟩,fun h j C=>by rw[H.r12 h j C,Bool.or_true],(fun h=>by cases h),(fun _ h=>by cases h),fun _ _=>⟨v',rfl,Own.oneC G,O,(H.p0 Q).2.trans x'⟩,(fun h=>by rw[show D 12=true from h]at J;cases J)⟩
   |12,hk,U,I,common=>
    clear common
    have U:=AXz (show some _=some o from U)
    subst U
    have e0:D 0=true:=(I _ (AX1 (i:=4) rfl) rfl)
    have e1:D 1=true:=(I _ (AX1 (i:=5) rfl) rfl)
    have e2:D 2=true:=(I _ (AX1 (i:=6) rfl) rfl)
    have e3:D 3=true:=(I _ (AX1 (i:=7) rfl) rfl)
    have e4:D 4=true:=(I _ (AX1 (i:=8) rfl) rfl)
    have e5:D 5=true:=(I _ (AX1 (i:=9) rfl) rfl)
    have e6:D 6=true:=(I _ (AX1 (i:=10) rfl) rfl)
    have e7:D 7=true:=(I _ (AX1 (i:=11) rfl) rfl)
    have e8:D 8=true:=(I _ (AX1 (i:=12) rfl) rfl)
    have e9:D 9=true:=(I _ (AX1 (i:=13) rfl) rfl)
    have e10:D 10=true:=(I _ (AX1 (i:=14) rfl) rfl)
    have e11:D 11=true:=(I _ (AX1 (i:=15) rfl) rfl)
    obtain⟨v',n,G,N⟩:=H.p2 e11 hk
    refine AMY (K:=K3) (E:=N4) (ag:=false) jm N.1 (by rw[AYg d1];exact hm) (H.f1 e1) (H.f3 e3) R.2.1 n (z:=v') ⟨[v'],⟨rfl,G⟩,.inr ⟨rfl,rfl⟩⟩ underlying97 ?_
    intro w' O x'
    refine Reg.nil ⟨rfl,H.base,H.f0,H.f1,H.f2,H.f3,H.f4,H.f5,H.f6,H.f7,H.f8,H.f9,H.r10,H.r11,fun _ j C=>?_,(fun h=>by rw[show D 11=false from h]at e11;cases e11),(fun _ h=>by rw[show D 11=false from h]at e11;cases e11),(fun _ h=>by cases h),fun _=>⟨v',O,N.2.trans x'⟩⟩
    have:D j=true:=by
     match j,C with
     |0,_=>exact e0
     |1,_=>exact e1
     |2,_=>exact e2
     |3,_=>exact e3
     |4,_=>exact e4
     |5,_=>exact e5
     |6,_=>exact e6
     |7,_=>exact e7
     |8,_=>exact e8
     |9,_=>exact e9
     |10,_=>exact e10
     |11,_=>exact e11
    rw[this,Bool.or_true]
   |_+13,_,U,_,_=>cases U
 . intro D L' W b H;obtain⟨v',h⟩:=H.p3 (b 12 (by decide));exact hA v' L' W H.base h
def AIL:List Answer->A4 Int (List Answer)->Option (A4 Int (List Answer))
 |[],h=>some h
 |a::l,h=>(appo 48 ((h a.dispute).getD []) [a]).bind fun y=>AIL l (B5 h a.dispute y)
noncomputable def AXH:Code:=match f70.body with
 |some (.seq _ (.seq _ (.seq _ (.seq _ (.seq c _)))))=>c
 |_=>.skip
def AP6:List Nat:=[44,45,46,47,48,49,50,11,51,52,53,54,55,56,57,58,59,60,61,62,63]
abbrev Os:=List (Int×Value×List Answer)
def N5(os:Os):List Res:=os.map fun o=>ownR [] AnswerE 60 o.2.1 o.2.2
theorem AI0{κ α:Type}{f:A4 κ α}{l:List (κ×α)}(h:Lists f l){i:Nat}{k:κ}{x:α}(hi:l[i]?=some (k,x)):f k=some x:=(h.2 k x).1 (AX1 hi)
theorem AV6{w0:World}{M:List Nat}{S1:List Res}{W:World}{g:A4 Int Value}{f:A4 Int (List Answer)}{os:Os}(k:Int)(V:Lists g (os.map fun o=>(o.1,o.2.1)))(C:Lists f (os.map fun o=>(o.1,o.2.2)))(D:Hp w0 [] M (N5 os++S1) W):
  ∃(os1:Os) (i:Nat) (v:Value) (l:List Answer),Hp w0 [] M (N5 os1++S1) W/\Adv (mm (N5 os++S1) M) (mm (N5 os1++S1) M) W W/\os1[i]?=some (k,v,l)/\(g k).getD (.slice none 0 0)=v/\(f k).getD []=l/\∀v' l',Lists (B5 g k v') ((os1.set i (k,v',l')).map fun o=>(o.1,o.2.1))/\Lists (B5 f k l') ((os1.set i (k,v',l')).map fun o=>(o.1,o.2.2)):=by
 by_cases hk:∃o∈os,o.1=k
 . obtain⟨⟨k',v,l⟩,I,H⟩:=hk
   have H:k'=k:=H
   subst H
   obtain⟨i,hi⟩:=AYW I
   have F:(os.map fun o=>(o.1,o.2.1))[i]?=some (k',v):=by rw[AYc,hi];rfl
   have E:(os.map fun o=>(o.1,o.2.2))[i]?=some (k',l):=by rw[AYc,hi];rfl
   refine⟨os,i,v,l,D,Adv.refl _ _,hi,by rw[AI0 V F];rfl,by rw[AI0 C E];rfl,fun v' l'=>⟨?_,?_⟩⟩
   . rw[List.map_set];exact V.set F v'
   . rw[List.map_set];exact C.set E l'
 . have J:∀x∈(os.map fun o=>(o.1,o.2.1)),x.1≠k:=fun x hx e=>by
    obtain⟨o,I,rfl⟩:=mem_map.1 hx;exact hk ⟨o,I,e⟩
   have U:∀x∈(os.map fun o=>(o.1,o.2.2)),x.1≠k:=fun x hx e=>by
    obtain⟨o,I,rfl⟩:=mem_map.1 hx;exact hk ⟨o,I,e⟩
   refine⟨(k,.slice none 0 0,[])::os,0,_,[],D.addNil AnswerE 60,D.addNilH AnswerE 60,rfl,by rw[V.none J];rfl,by rw[C.none U];rfl,fun v' l'=>⟨?_,?_⟩⟩
   . exact(V.push v' J).perm (by simp only[List.set_cons_zero,List.map_cons];exact(List.perm_append_singleton _ _).symm)
   . exact(C.push l' U).perm (by simp only[List.set_cons_zero,List.map_cons];exact(List.perm_append_singleton _ _).symm)
theorem AP8{w0:World}{M:List Nat}{S0:List Res}{w:World}{L:A7}{jm j4 j1 b4 b1 bm:Nat}{al:List Answer}{cs1 cs4:List Value}{va:Value}{h:A4 Int (List Answer)}{A B:A3}{X:Nat->A3}{Z:List PanicEntry->A3}(hI:Hp w0 [] M S0 w)(hm:S0[jm]?=some (mapO K3 N4 false bm fnone))(h4:S0[j4]?=some (rowR 99 b4 cs4))(b:cs4[7]?=some (.map (some bm)))(h1:S0[j1]?=some (rowR 28 b1 cs1))(c:cs1[5]?=some va)(C:RdS AnswerE (mm S0 M) w va al)(d4:j4≠jm)(hw:w0.heap.size<=w.heap.size)(l1:Sx.A5 L 1=some (.pointer (some ⟨b1,0,none⟩)))(l4:Sx.A5 L 4=some (.pointer (some ⟨b4,0,none⟩)))(hr:AIL al fnone=some h)(hA:∀L' w' (g:A4 Int Value) (os:Os),(∀t,t∉AP6->Sx.A5 L' t=Sx.A5 L t)->Lists g (os.map fun o=>(o.1,o.2.1))->Lists h (os.map fun o=>(o.1,o.2.2))->HA w0 w M S0 (N5 os++S0.set jm (mapO K3 N4 false bm g)) w'->A [] L' w'):CW prog 65 AXH [] L w A B X Z:=by
 obtain⟨a45,c45,rfl,s,hle⟩:=C.shape;have hlen_:InK .i64 ((al.length:Nat):Int):=C.inK;rw[InK.i64]at hlen_;refine A6 ?_;refine A8 ?_;refine ABD l1 underlying28 rfl sizeOf26 rfl ?_;refine V9 rfl ((hI.row j1 h1).rd.cells.at 5 c) isAgg26 rfl ?_;refine AEq rfl underlying26 rfl ?_;refine J3 rfl rfl ?_;refine Reg.nil ?_;refine H4 ?_;refine ABB (ι:=A7×Nat×A4 Int Value×A4 Int (List Answer)×Os) (fun q=>q.1) (fun q W=>((∀t,t∉AP6->Sx.A5 q.1 t=Sx.A5 L t)/\Sx.A5 q.1 45=some (.slice a45 al.length c45)/\Sx.A5 q.1 46=some (.int .i64 (al.length:Nat))/\Sx.A5 q.1 47=some (.int .i64 (q.2.1:Nat)))/\q.2.1<=al.length/\AIL (al.drop q.2.1) q.2.2.2.1=some h/\Lists q.2.2.1 (q.2.2.2.2.map fun o=>(o.1,o.2.1))/\Lists q.2.2.2.1 (q.2.2.2.2.map fun o=>(o.1,o.2.2))/\HA w0 w M S0 (N5 q.2.2.2.2++S0.set jm (mapO K3 N4 false bm q.2.2.1)) W) (fun q=>al.length-q.2.1) (_,0,fnone,fnone,[]) ⟨⟨fun t J=>?_,rfl,rfl,rfl⟩,AYh _,by simpa using hr,Lists.nil,Lists.nil,?_⟩ (Sub.refl _) ?_
 . show Sx.A5 (_::_::_::_::L) t=_;rw[look_cons,if_neg (fun e=>J (by subst e;decide)),look_cons,if_neg (fun e=>J (by subst e;decide)),look_cons,if_neg (fun e=>J (by subst e;decide)),look_cons,if_neg (fun e=>J (by subst e;decide))]
 . have e:N5 []++S0.set jm (mapO K3 N4 false bm fnone)=S0:=by
    show S0.set jm _=S0;exact AYr fun j=>by
     rw[AZS];split
     . rename_i e;subst e;rw[hm];rw[AYB (List.getElem?_eq_some_iff.1 hm).1]
     . rfl
   exact⟨by rw[e];exact hI,by rw[e];exact Adv.refl _ _⟩
 rintro⟨L1,i,g,f,os⟩ W1 ⟨⟨lb,l45,l46,l47⟩,hi,H,N,S,Q⟩;dsimp only at lb l45 l46 l47 hi H N S Q ⊢;refine A6 ?_;refine A8 ?_;refine AGv l47 l46 rfl ?_;refine Reg.nil ?_;refine A6 ?_;refine AAB rfl (fun U=>?_) (fun O=>?_)
 . have U:i<al.length:=by have:=AX6 U;omega
   rw[AZW U]at H;obtain⟨y,hy,H⟩:=R0 H;obtain⟨F,rfl⟩:=ACP hy;have T:=C.adv Q.2;obtain⟨os1,i0,v,l,m,x1,r,R,P,V⟩:=AV6 (al[i]).dispute N S Q.1;rw[P]at F H;refine P5 ?_;refine A6 ?_;refine H4 ?_;refine A6 ?_;refine A8 ?_;refine ASZ l45 l47 T (z:=al[i]) (AG2 (AX7 U)) underlying26 sizeOf60 rfl ?_;intro b9 o9 cs9 d p;obtain⟨rfl,G⟩:=(AnswerE_R (x:=al[i])).1 d;obtain⟨q0,q1,q2,q3,q4,q5⟩:=G;refine AAs rfl p.cells isAgg60 rfl sizeOf60 rfl ?_;refine ACQ m zeroValue60 rfl rfl ?_;intro b11 w5 k x5;refine ABF 0 k rfl rfl rfl rfl sizeOf60 rfl rfl (D3 rfl (D3 rfl (D3 rfl (D3 rfl (D3 rfl (D3 rfl ACL)))))) ?_;intro w6 D x6;have D:Hp w0 [] M (rowR 60 b11 (AFJ al[i])::(N5 os1++S0.set jm (mapO K3 N4 false bm g))) w6:=D;have x6:Adv (mm (rowR 60 b11 [.int .i64 0,.int .i64 0,.int .i64 0,.int .u8 0,.int .i64 0,.int .i64 0]::(N5 os1++S0.set jm (mapO K3 N4 false bm g))) M) (mm (rowR 60 b11 (AFJ al[i])::(N5 os1++S0.set jm (mapO K3 N4 false bm g))) M) w5 w6:=x6;refine Reg.nil ?_;have e4:N5 os1++S0.set jm (mapO K3 N4 false bm g)=N5 os1++S0.set jm (mapO K3 N4 false bm g):=rfl;have K:i0<os1.length:=(List.getElem?_eq_some_iff.1 r).1;have I:(N5 os1).length=os1.length:=by simp[N5]
   have Y:jm<S0.length:=(List.getElem?_eq_some_iff.1 hm).1;refine ANH D (i:=i0+1) (jm:=os1.length+jm+1) (j4:=os1.length+j4+1) (j11:=0) (b4:=b4) (b11:=b11) (bm:=bm) (v:=v) (l:=l) (a:=al[i]) (g:=g) (cs4:=cs4) ?_ ?_ ?_ b rfl ⟨q0,q1,q2,q3,q4,q5⟩ R (by omega) (by omega) (by omega) F.1 ?_ rfl ?_
   . rw[AZO,AYP (by rw[I];exact K)];simp only[N5,List.getElem?_map,r];rfl
   . rw[AZO,AYX (by rw[I];omega),I,AYz,AY8 Y]
   . rw[AZO,AYX (by rw[I];omega),I,AYz,AYg (AZs d4)];exact h4
   . exact(lb 4 (by decide)).trans l4
   . intro v' L5 w7 lb5 E;have e7:((rowR 60 b11 (AFJ al[i])::(N5 os1++S0.set jm (mapO K3 N4 false bm g))).set (i0+1) (ownR [] AnswerE 60 v' (l++[al[i]]))).set (os1.length+jm+1) (mapO K3 N4 false bm (B5 g (al[i]).dispute v'))=rowR 60 b11 (AFJ al[i])::(N5 (os1.set i0 ((al[i]).dispute,v',l++[al[i]]))++S0.set jm (mapO K3 N4 false bm (B5 g (al[i]).dispute v'))):=by
      rw[AZo,AZo,List.set_append_left _ _ (by rw[I];exact K),List.set_append_right _ _ (by rw[AZg,I];omega),AZg,I,AYz,List.set_set];simp only[N5,List.map_set]
     rw[e7]at E;have n:HA w0 w M S0 (N5 (os1.set i0 ((al[i]).dispute,v',l++[al[i]]))++S0.set jm (mapO K3 N4 false bm (B5 g (al[i]).dispute v'))) w7:=⟨E.1.erase 0,Q.2.trans (x1.trans (x5.trans (x6.trans (E.2.trans (G5 (σ:=_::_) 0)))))⟩;refine A8 ?_;refine AGw ((lb5 47 (by decide)).trans l47) rfl rfl (InK.i64.2 (by omega)) ?_;refine J3 rfl rfl ?_;refine Reg.nil ⟨rfl,(_,i+1,B5 g (al[i]).dispute v',B5 f (al[i]).dispute (l++[al[i]]),os1.set i0 ((al[i]).dispute,v',l++[al[i]])),?_,Sub.refl _,by dsimp only;omega⟩;refine⟨⟨fun t J=>?_,(lb5 45 (by decide)).trans l45,(lb5 46 (by decide)).trans l46,rfl⟩,U,H,(V v' _).1,(V v' _).2,n⟩;show Sx.A5 (_::_::L5) t=_;rw[look_cons,if_neg (fun e=>J (by subst e;decide)),look_cons,if_neg (fun e=>J (by subst e;decide)),lb5 t (fun e=>J ((by decide:∀u∈ANG,u∈AP6) t e))];show Sx.A5 (_::_::_::_::L1) t=_;rw[look_cons,if_neg (fun e=>J (by subst e;decide)),look_cons,if_neg (fun e=>J (by subst e;decide)),look_cons,if_neg (fun e=>J (by subst e;decide)),look_cons,if_neg (fun e=>J (by subst e;decide))];exact lb t J
 . have O:¬i<al.length:=by have:=AYD O;omega
   obtain rfl:i=al.length:=by omega
   rw[List.drop_length]at H;have H:=AXz H;subst H;refine AA9 (T7 ?_);exact hA _ W1 g os (fun t J=>by
    show Sx.A5 (_::L1) t=_;rw[look_cons,if_neg (fun e=>J (by subst e;decide))];exact lb t J) N S Q
variable{M:List Nat}{w:World}{x:Desk_99}{e:Int}
theorem AEX:∀{cs vs:List Value},cs.length=vs.length->B8 cs 0 vs=vs
 |[],[],_=>rfl
 |_::r,v::vs,h=>by
  show v::B8 r 0 vs=_;rw[AEX (by simpa using h)]
 |[],_::_,h=>by cases h
 |_::_,[],h=>by cases h
def AQt:Nat->Desk_99->Option Int
 |0=>C5
 |1=>D5
 |2=>D6
 |_=>F1
def stepG:Nat->Nat
 |0=>202
 |1=>203
 |2=>204
 |_=>208
def AAq(x:Desk_99)(i:Nat):Nat->Option Int
 |0=>some 0
 |n+1=>(AQt i x).bind fun e=>if e=0 then AAq x (i+1) n else some e
theorem ANI(i:Nat)(J:MLt M w)(I:GlOk (P:=prog) M w){v:Value}(hx:OkD (P:=prog) M w (.st 10) x v)(H:AQt i x=some e):
  CallsV prog (.func (.func (stepG i)) #[] #[]) [v] w fun en w'=>en=.returned (.int .i64 e)/\InK .i64 e/\Ext w w':=by
 have fin:∀{k:Nat} {c:Ctr},c.ps=[.d (.st 10)]->True:=fun _=>trivial
 have conv:∀{k:Nat},Calls prog k (toArray [v]) w (fun en w'=>∃vs,en=.returned (ABs vs)/\KsOk (P:=prog) M (X7 [.d (.int .i64)] vs++M) w w' [.d (.int .i64)] e vs/\Ext w w')->(∀args w,(callFunc k args).run prog w=.ok (.enter k args) w)->CallsV prog (.func (.func k) #[] #[]) [v] w fun en w'=>en=.returned (.int .i64 e)/\InK .i64 e/\Ext w w':=fun {k} h V=>by
  refine⟨k,#[],rfl,V,?_⟩;refine Calls.mono (by simpa using h) ?_;rintro en w' ⟨vs,rfl,⟨u,rfl,U⟩,hx⟩;have U:OkD (P:=prog) M w' (.int .i64) e u:=U;obtain⟨rfl,hk⟩:=E1 (ρ:=fun _=>undef) (R:=fun _=>none) (.int .i64) U;exact⟨rfl,hk,hx⟩
 match i,H with
 |0,H=>exact conv (ok202.2 M w (x,()) [v] e J I ⟨v,[],rfl,hx,rfl⟩ H) call202
 |1,H=>exact conv (ok203.2 M w (x,()) [v] e J I ⟨v,[],rfl,hx,rfl⟩ H) call203
 |2,H=>exact conv (ok204.2 M w (x,()) [v] e J I ⟨v,[],rfl,hx,rfl⟩ H) call204
 |_+3,H=>exact conv (ok208.2 M w (x,()) [v] e J I ⟨v,[],rfl,hx,rfl⟩ H) call208
noncomputable def AXI:Code:=match f70.body with
 |some (.seq _ (.seq _ (.seq _ (.seq c _))))=>c
 |_=>.skip
def ANJ:List Nat:=[32,33,34,35,8,36,37,38,9,39,40,41,42,3,43]
theorem ANK{L:A7}{b2 b4:Nat}{cs2 cs4:List Value}{A B:A3}{X:Nat->A3}{Z:List PanicEntry->A3}(hM:MLt M w)(hg:GlOk (P:=prog) M w)(K:RdC M w b4 0 cs4)(hx:(enc (P:=prog) (.st 10)).R M w cs4 x)(N:Row 99 w b2 cs2)(T:cs2.length=8)(l2:Sx.A5 L 2=some (.pointer (some ⟨b2,0,none⟩)))(l4:Sx.A5 L 4=some (.pointer (some ⟨b4,0,none⟩)))(m:AAq x 0 4=some e)(n:e=0->∀L' w',Ext w w'->(∀t,t∉ANJ->Sx.A5 L' t=Sx.A5 L t)->A [] L' w')(G:e≠0->∀L' w' w'',Ext w w'->Kp [b2] w' w''->Row 99 w'' b2 cs4->InK .i64 e->(∀t,t∉ANJ->Sx.A5 L' t=Sx.A5 L t)->Sx.A5 L' 3=some (.int .i64 e)->B [] L' w''):CW prog 65 AXI [] L w A B X Z:=by
 obtain⟨bg,og,ug,vg,eg,z,⟨vs',rfl,S⟩,j⟩:=hg 1 _ rfl (fun _=>undef) (fun _=>none);cases eg
 obtain rfl:vs'=vg:=by
  have h:toArray vs'=toArray vg:=j;simpa using h
 have J:cs4.length=8:=(enc (P:=prog) (.st 10)).len hx;have one4:∀u∈cs4,u.oneCell'=true:=(enc (P:=prog) (.st 10)).one hx;have ei:vs'=[.func (.func 202) #[] #[],.func (.func 203) #[] #[],.func (.func 204) #[] #[],.func (.func 208) #[] #[]]:=by
  have one:∀{g:Nat} {l:List SV} {vs:List Value},OkL (P:=prog) (fun _=>undef) (fun _=>none) M w (.fn g []::l) vs->∃r,vs=.func (.func g) #[] #[]::r/\OkL (P:=prog) (fun _=>undef) (fun _=>none) M w l r:=fun {g l vs} h=>by
   obtain⟨u,c,r,rfl,⟨ws,rfl,C⟩,hc,m⟩:=h;have C:ws=[]:=C;subst C;have hc:#[Value.func (.func g) #[] #[]]=toArray c:=hc;have:c=[Value.func (.func g) #[] #[]]:=by simpa using hc.symm
   subst this;exact⟨r,rfl,m⟩
  obtain⟨r1,rfl,h1⟩:=one S;obtain⟨r2,rfl,N⟩:=one h1;obtain⟨r3,rfl,h3⟩:=one N;obtain⟨r4,rfl,K⟩:=one h3;have K:r4=[]:=K;rw[K]
 subst ei;refine A6 ?_;refine A8 ?_;refine AAs rfl z.cells isAgg184 rfl sizeOf184 rfl ?_;refine J3 rfl rfl ?_;refine Reg.nil ?_;refine H4 ?_;refine ABB (ι:=A7×Nat) (fun q=>q.1) (fun q W=>((∀t,t∉ANJ->Sx.A5 q.1 t=Sx.A5 L t)/\Sx.A5 q.1 32=some (.agg #[.func (.func 202) #[] #[],.func (.func 203) #[] #[],.func (.func 204) #[] #[],.func (.func 208) #[] #[]])/\Sx.A5 q.1 33=some (.int .i64 (q.2:Nat)))/\q.2<=4/\AAq x q.2 (4-q.2)=some e/\Ext w W) (fun q=>4-q.2) (_,0) ⟨⟨fun t H=>?_,rfl,rfl⟩,AYh _,m,Kp.refl _ _⟩ (Sub.refl _) ?_
 . show Sx.A5 (_::_::L) t=_;rw[look_cons,if_neg (fun e=>H (by subst e;decide)),look_cons,if_neg (fun e=>H (by subst e;decide))]
 rintro⟨L1,i⟩ W1 ⟨⟨lb,l32,l33⟩,hi,I,F⟩;dsimp only at lb l32 l33 hi I ⊢;refine A6 ?_;refine A8 ?_;refine AGv l33 rfl rfl ?_;refine Reg.nil ?_;refine A6 ?_;refine AAB rfl (fun D=>?_) (fun Y=>?_)
 . have D:i<4:=by have:=AX6 D;omega
   rw[show 4-i=(4-(i+1))+1 by omega]at I;obtain⟨e1,y,I⟩:=R0 I;refine P5 ?_;refine A6 ?_;refine H4 ?_;refine A6 ?_;refine A8 ?_;refine Reg.val (.func (.func (stepG i)) #[] #[]) rfl rfl rfl (fun a ha w' _=>?_) ?_
   . have h7:=ha.eval (x:=.tmp 32) l32;have h8:=ha.eval (x:=.tmp 33) l33;have s:i=0\/i=1\/i=2\/i=3:=by omega
     rcases s with rfl|rfl|rfl|rfl<;>simp[execOp,h7,h8,Instr.index,asIntOf,run_underlying underlying184,part,isAgg183,sizeOf183,stepG]
   refine G7 rfl rfl ?_;refine Reg.nil ?_;refine A6 ?_;refine A8 ?_;refine J3 rfl rfl ?_;refine AAs ((lb 4 (by decide)).trans l4) (K.adv (Adv.of_ext F)).cells isAgg99 J sizeOf99 rfl ?_;refine ADV (vs:=[.agg cs4.toArray]) rfl rfl rfl ?_;obtain⟨g9,c9,v9,hc9,hcall⟩:=ANI i (hM.ext F) (hg.adv (Adv.of_ext F)) (v:=.agg cs4.toArray) ⟨cs4,(enc (P:=prog) (.st 10)).adv hx (Adv.of_ext F),.inl ⟨rfl,rfl⟩⟩ y;refine⟨g9,c9,v9,hc9,hcall.mono ?_⟩;rintro _ W2 ⟨rfl,p,hE2⟩;refine⟨_,rfl,?_⟩;refine G7 rfl rfl ?_;refine Reg.nil ?_;refine A6 ?_;refine A8 ?_;refine J3 rfl rfl ?_;refine AQR rfl rfl rfl ?_;refine Reg.nil ?_;have lk9:∀{a b c d f g h k:Value} (t:Nat),t∉ANJ->Sx.A5 ((40,a)::(39,b)::(9,c)::(38,d)::(37,f)::(36,g)::(8,h)::(35,k)::(34,.bool (decide ((i:Int)<4)))::L1) t=Sx.A5 L t:=fun t H=>by
    rw[look_cons,if_neg (fun e=>H (by subst e;decide)),look_cons,if_neg (fun e=>H (by subst e;decide)),look_cons,if_neg (fun e=>H (by subst e;decide)),look_cons,if_neg (fun e=>H (by subst e;decide)),look_cons,if_neg (fun e=>H (by subst e;decide)),look_cons,if_neg (fun e=>H (by subst e;decide)),look_cons,if_neg (fun e=>H (by subst e;decide)),look_cons,if_neg (fun e=>H (by subst e;decide)),look_cons,if_neg (fun e=>H (by subst e;decide))];exact lb t H
   have V:Ext w W2:=F.trans hE2;refine AAB rfl (fun U=>?_) (fun E=>?_)
   . have U:e1≠0:=by simpa using U
     rw[if_neg U]at I;cases I
     refine A6 ?_;refine A8 ?_;refine AAs ((lk9 4 (by decide)).trans l4) (K.adv (Adv.of_ext V)).cells isAgg99 J sizeOf99 rfl ?_;refine J3 rfl rfl ?_;have hb2:b2<w.heap.size:=K7 N;refine AO4 (e:=99) (cs:=cs2) (vs:=cs4) ((lk9 2 (by decide)).trans l2) rfl rfl ((V.block b2 hb2 (by simp)).trans N) sizeOf99 J (by rw[T,J];rfl) one4 ?_;intro w3 Q o;refine G7 rfl rfl ?_;refine Reg.nil ?_;refine K6 ?_;have O:B8 cs2 0 cs4=cs4:=AEX (by rw[T,J]);rw[O]at Q;exact G U _ W2 w3 V o Q p (fun t H=>by
      show Sx.A5 (_::_::_::_) t=_;rw[look_cons,if_neg (fun e=>H (by subst e;decide)),look_cons,if_neg (fun e=>H (by subst e;decide)),look_cons,if_neg (fun e=>H (by subst e;decide))];exact lk9 t H) rfl
   . have E:e1=0:=by simpa using E
     rw[AYB E]at I;refine P5 ?_;refine A8 ?_;refine AGw l33 rfl rfl (InK.i64.2 (by omega)) ?_;refine J3 rfl rfl ?_;refine Reg.nil ⟨rfl,(_,i+1),?_,Sub.refl _,by dsimp only;omega⟩;refine⟨⟨fun t H=>?_,l32,rfl⟩,D,I,V⟩;show Sx.A5 (_::_::_) t=_;rw[look_cons,if_neg (fun e=>H (by subst e;decide)),look_cons,if_neg (fun e=>H (by subst e;decide))];exact lk9 t H
 . have Y:¬i<4:=by have:=AYD Y;omega
   obtain rfl:i=4:=by omega
   have he:e=0:=(AXz I).symm;refine AA9 (T7 ?_);exact n he _ W1 F (fun t H=>by
    show Sx.A5 (_::L1) t=_;rw[look_cons,if_neg (fun e=>H (by subst e;decide))];exact lb t H)
end Go.Proofs.YtgioiejbphljoaaGreatDoor
namespace Go.Rx
open Go Go.Sx Go.RowKit
section
variable[Trk][Sg][Sf]{P:Program}[Se P][Anch]{w0 w:World}{M:List Nat}{N:Nat}{ds:List Deferred}
theorem AOj[Sl (P:=P)]{G:Gx}(D:GxOk P G)(c:Code)(an:An){sh:Sh}{σ:AS}{x:O2 sh.cs}{L:A7}{w:World}{A B:A3}{X:Nat->A3}{Z:List PanicEntry->A3}(h:exec G N (fun _=>(none:Option Unit)) c an (I8 sh) (fun _ _=>none) (fun _=>none) σ=some x)(C:Holds (P:=P) w0 [] M σ L w)(hA:∀L' w',EnvS (D4 c++C9 an) L L'->Holds (P:=P) w0 [] M (B6 (D4 c++C9 an) sh σ x) L' w'->A ds L' w'):CW P N c ds L w A B X Z:=
 Y1 (n:=3) (ACk (I0 D c an _ _ _ _ _ _ _ _ _ _ _ _ _ h C (fun σ1 L1 w1 E V I H=>by
  obtain⟨S,ρ,γ,μ,ι,U⟩:=H;exact hA L1 w1 I (T2 U V E)) (fun i σ2 L2 w2 J=>by cases J) (fun r σ2 L2 w2 J F _ W=>by cases J) PZ.no))
end
section
variable[Trk][Sg][Sf]{P:Program}[Se P]{ρ:Nat->Value}{R:Nat->Option AR}{M:List Nat}{w:World}{l:List SV}{vs:List Value}
theorem AAI{k:IntKind}{x:Int}(h:OkL (P:=P) ρ R M w (.int k x::l) vs):∃r,vs=.int k x::r/\InK k x/\OkL (P:=P) ρ R M w l r:=by
 obtain⟨u,c,r,rfl,⟨rfl,hk⟩,H,I⟩:=h;have H:#[Value.int k x]=toArray c:=H;have:c=[Value.int k x]:=by simpa using H.symm
 subst this;exact⟨r,rfl,hk,I⟩
theorem ADu{t:Ty}{x:List (den t)}(h:OkL (P:=P) ρ R M w (.dat (.sl t) x::l) vs):∃v r,vs=v::r/\OkD (P:=P) M w (.sl t) x v/\v.cells=#[v]/\OkL (P:=P) ρ R M w l r:=by
 obtain⟨u,c,r,rfl,⟨_,hd⟩,H,I⟩:=h;obtain⟨a,n,rfl,_⟩:=(OkD.rds hd).shape;have H:#[Value.slice a x.length n]=toArray c:=H;have:c=[Value.slice a x.length n]:=by simpa using H.symm
 subst this;exact⟨_,r,rfl,hd,rfl,I⟩
theorem AAr{s:SV}(h:OkL (P:=P) ρ R M w (s::l) vs)(J:∀u,Ok (P:=P) ρ R M w s u->u.cells=#[u]):∃u r,vs=u::r/\OkL (P:=P) ρ R M w l r:=by
 obtain⟨u,c,r,rfl,I,H,U⟩:=h;rw[J u I]at H;have:c=[u]:=by simpa using H.symm
 subst this;exact⟨u,r,rfl,U⟩
theorem ACK{i:Nat}(h:OkL (P:=P) ρ R M w (.own i::l) vs):∃r,vs=ρ i::r/\OkL (P:=P) ρ R M w l r:=by
 obtain⟨u,c,r,rfl,⟨rfl,J,_⟩,H,I⟩:=h;rw[J]at H;have:c=[ρ i]:=by simpa using H.symm
 subst this;exact⟨r,rfl,I⟩
end
end Go.Rx
namespace Go.Proofs.YtgioiejbphljoaaGreatDoor
open Go Go.Sx Go.Rx Go.RowKit
theorem ABi{P:Program}{kt:TypeId}{α β:Type}{K:Ky P kt Int}{E:Enc α}{E':Enc β}{ag ag':Bool}{M M':List Nat}{w:World}{b:Nat}{g:A4 Int α}{f:A4 Int β}(h:MapH K E ag M w b g)(D:∀k x v,g k=some x->Vl E ag M w v x->∃y,f k=some y/\Vl E' ag' M' w v y)(C:∀k,g k=none->f k=none):MapH K E' ag' M' w b f:=by
 obtain⟨es,c,xs,Y,T,Q,V⟩:=h;have key:∀(es:List MapEntry) (xs:List (Int×α)),EntK K E ag M w es xs->(∀x∈xs,g x.1=some x.2)->∃ys:List (Int×β),EntK K E' ag' M' w es ys/\ys.map (·.1)=xs.map (·.1)/\∀y∈ys,f y.1=some y.2:=by
  intro es;induction es with
  |nil=>
   intro xs h _
   cases xs with
   |nil=>exact⟨[],trivial,rfl,fun _ h=>by cases h⟩
   |cons _ _=>exact h.elim
  |cons e es ih=>
   intro xs h hx
   cases xs with
   |nil=>exact h.elim
   |cons x xs=>
    obtain⟨k1,k2,k3⟩:=h
    obtain⟨ys,y1,y2,y3⟩:=ih xs k3 fun z H=>hx z (AX0 _ H)
    obtain⟨y,J,I⟩:=D x.1 x.2 e.val (hx x (AX4 ..)) k2
    exact⟨(x.1,y)::ys,⟨k1,I,y1⟩,by simp[y2],fun z H=>(mem_cons.1 H).elim (fun e=>by subst e;exact J) (y3 z)⟩
 obtain⟨ys,y1,y2,y3⟩:=key _ _ Q fun x hx=>(V.2 x.1 x.2).1 hx;refine⟨es,c,ys,Y,T,y1,by rw[y2];exact V.1,fun a y=>⟨fun hm=>y3 _ hm,fun U=>?_⟩⟩;cases W:g a with
 |none=>rw[C a W]at U;cases U
 |some x=>
  have O:(a,x)∈xs:=(V.2 a x).2 W
  have F:a∈ys.map (·.1):=by rw[y2];exact mem_map.2 ⟨_,O,rfl⟩
  obtain⟨z,H,rfl⟩:=mem_map.1 F
  have:=y3 z H
  rw[U]at this
  cases this
  exact H
def s70(d:Desk):AS:=⟨[(1,.ptr 1 0),(2,.ptr 2 0),(3,.int .i64 0),(4,.ptr 4 0)],
 [(4,.row 99 [.int .i64 d.terms.answer,.int .i64 d.terms.mark,.int .i64 d.terms.lately,.dat (.sl (.st 1)) d.reports,.dat (.sl (.st 2)) d.disputes,.dat (.sl (.st 3)) d.answers,.own 13,.own 14]),(14,.own false (.mp 3 (.int .i64) (.sl (.st 3))) (fnone:A4 Int (List Answer))),(13,.own false (.mp 3 (.int .i64) (.st 1)) (fnone:A4 Int Report)),
  (2,.row 99 [.int .i64 0,.int .i64 0,.int .i64 0,.nilS,.nilS,.nilS,.raw (.map none),.raw (.map none)]),(1,.row 28 [.int .i64 d.terms.answer,.int .i64 d.terms.mark,.int .i64 d.terms.lately,.dat (.sl (.st 1)) d.reports,.dat (.sl (.st 2)) d.disputes,.dat (.sl (.st 3)) d.answers])],[],[]⟩
noncomputable def ANL:Code:=match f70.body with
 |some (.seq _ (.seq _ (.seq c _)))=>c
 |_=>.skip
def ANM:Sh:=⟨[(.cont 13,.own (.mp 3 (.int .i64) (.st 1)))],[4,14,13,2,1]⟩
theorem AFq:GxOk prog gxb:=B4 trivial
theorem AV7(d:Desk):exec gxb 65 (fun _=>(none:Option Unit)) ANL anpre70.r.r (I8 ANM) (fun _ _=>none) (fun _=>none) (s70 d)=H7 d:=by kernel_rfl
def G3(d:Desk):Option (Desk_99×Int):=(H7 d).bind fun f=>(AAq ⟨d,f,fnone⟩ 0 4).bind fun e=>if e=0 then (AIL d.answers fnone).bind fun h=>some (⟨d,f,h⟩,0) else some (⟨d,f,fnone⟩,e)
def ctr70:Ctr:=⟨[.d (.st 4)],[.d (.st 10),.d (.int .i64)],fun a=>G3 a.1⟩
theorem AMB{M:List Nat}{W:World}{d:Desk}{f:A4 Int Report}{h:A4 Int (List Answer)}{v3 v4 v5 v6 v7:Value}(k0:InK .i64 d.terms.answer)(k1:InK .i64 d.terms.mark)(k2:InK .i64 d.terms.lately)(k3:OkD (P:=prog) M W (.sl (.st 1)) d.reports v3)(k4:OkD (P:=prog) M W (.sl (.st 2)) d.disputes v4)(k5:OkD (P:=prog) M W (.sl (.st 3)) d.answers v5)(k6:OkD (P:=prog) M W (.mp 3 (.int .i64) (.st 1)) f v6)(k7:OkD (P:=prog) M W (.mp 3 (.int .i64) (.sl (.st 3))) h v7)(c3:v3.cells=#[v3])(c4:v4.cells=#[v4])(c5:v5.cells=#[v5])(c6:v6.cells=#[v6])(c7:v7.cells=#[v7]):
  OkD (P:=prog) M W (.st 10) (⟨d,f,h⟩:Desk_99) (.agg (toArray [.int .i64 d.terms.answer,.int .i64 d.terms.mark,.int .i64 d.terms.lately,v3,v4,v5,v6,v7])):=
 I5 (ρ:=fun _=>undef) (R:=fun _=>none) (M:=M) (fun _ h=>h) (.st 10) (.agg [.int .i64 d.terms.answer,.int .i64 d.terms.mark,.int .i64 d.terms.lately,.dat (.sl (.st 1)) d.reports,.dat (.sl (.st 2)) d.disputes,.dat (.sl (.st 3)) d.answers,.dat (.mp 3 (.int .i64) (.st 1)) f,.dat (.mp 3 (.int .i64) (.sl (.st 3))) h]) (fun i hi=>by cases hi) rfl
  ⟨_,rfl,_,[_],_,rfl,⟨rfl,k0⟩,rfl,_,[_],_,rfl,⟨rfl,k1⟩,rfl,_,[_],_,rfl,⟨rfl,k2⟩,rfl,v3,[v3],_,rfl,⟨rfl,k3⟩,c3,v4,[v4],_,rfl,⟨rfl,k4⟩,c4,v5,[v5],_,rfl,⟨rfl,k5⟩,c5,v6,[v6],_,rfl,⟨rfl,k6⟩,c6,v7,[v7],_,rfl,⟨rfl,k7⟩,c7,rfl⟩
theorem ok70:Ctr.ok prog 70 ctr70:=by
 refine⟨by decide,fun M w a vals r hM hg ha C=>?_⟩;obtain⟨d,_⟩:=a;obtain⟨vd,_,rfl,Q,rfl⟩:=ha;have Q:OkD (P:=prog) M w (.st 4) d vd:=Q;have C:G3 d=some r:=C;unfold G3 at C;obtain⟨f,hf,C⟩:=R0 C;obtain⟨e,he,C⟩:=R0 C;have h0:Holds (P:=prog) w [] M ⟨[(0,.str 4 d)],[],[],[]⟩ [(0,vd)] w:=by
  refine Holds.start hM (fun t s m=>?_) ⟨trivial,hg⟩;rw[fnd_cons]at m;split at m
  . rename_i e;subst e;cases m;exact⟨vd,rfl,Q⟩
  . cases m
 refine G6 (l:=[vd]) (fn:=f70) func70 rfl rfl rfl ?_;refine A6 ?_;refine AAp AFq (by exact rfl) h0 fun L1 w1 hE1 F=>?_;refine A6 ?_;refine AAp AFq (by exact rfl) F fun L2 w2 hE2 W=>?_;have h3:=AEW (env':=(s70 d).env) (res':=(s70 d).res) W ⟨rfl,rfl,rfl,rfl,trivial⟩ fun _=>rfl;clear F W;refine A6 ?_;refine AOj AFq ANL anpre70.r.r (sh:=ANM) (σ:=s70 d) ((AV7 d).trans hf) h3 fun L3 w3 hE3 h4=>?_;obtain⟨S,ρ,γ,μ,ι,J⟩:=h4;obtain⟨v4,l4,bb4,hb4,rfl⟩:=J.env 4 (.ptr 4 0) rfl;obtain⟨v2,l2,bb2,B,rfl⟩:=J.env 2 (.ptr 2 0) rfl;obtain⟨v1,l1,bb1,hb1,rfl⟩:=J.env 1 (.ptr 1 0) rfl;obtain⟨v3,l3,rfl,_⟩:=J.env 3 (.int .i64 0) rfl;obtain⟨b4,e4,r4,o4,i4⟩:=J.rowAt (i:=4) (e:=99) (l:=[.int .i64 d.terms.answer,.int .i64 d.terms.mark,.int .i64 d.terms.lately,.dat (.sl (.st 1)) d.reports,.dat (.sl (.st 2)) d.disputes,.dat (.sl (.st 3)) d.answers,.own 13,.own 14]) rfl;obtain⟨b2,e2,r2,o2,i2⟩:=J.rowAt (i:=2) (e:=99) (l:=[.int .i64 0,.int .i64 0,.int .i64 0,.nilS,.nilS,.nilS,.raw (.map none),.raw (.map none)]) rfl;obtain⟨b1,e1,r1,o1,i1⟩:=J.rowAt (i:=1) (e:=28) (l:=[.int .i64 d.terms.answer,.int .i64 d.terms.mark,.int .i64 d.terms.lately,.dat (.sl (.st 1)) d.reports,.dat (.sl (.st 2)) d.disputes,.dat (.sl (.st 3)) d.answers]) rfl;have i13:=J.res 13 (.own false (.mp 3 (.int .i64) (.st 1)) f) rfl;have i14:=J.res 14 (.own false (.mp 3 (.int .i64) (.sl (.st 3))) (fnone:A4 Int (List Answer))) rfl;obtain⟨b13,e13⟩:∃b,ρ 13=.map (some b):=J.row 13 _ rfl;obtain⟨b14,e14⟩:∃b,ρ 14=.map (some b):=J.row 14 _ rfl;rw[hb4]at e4;cases e4;rw[B]at e2;cases e2;rw[hb1]at e1;cases e1;obtain⟨qa,g4,k0,oa⟩:=AAI o4;obtain⟨qb,ea,k1,ob⟩:=AAI oa;obtain⟨qc,eb,k2,oc⟩:=AAI ob;obtain⟨vr,qd,ec,dr,cr,od⟩:=ADu oc;obtain⟨vx,qe,ed,dx,cx,oe⟩:=ADu od;obtain⟨vy,qf,ee,dy,cy,of⟩:=ADu oe;obtain⟨qg,ef,og⟩:=ACK of;obtain⟨qh,eg,oh⟩:=ACK og;have oh:qh=[]:=oh;rw[oh]at eg;rw[eg,e14]at ef;rw[ef,e13]at ee;rw[ee]at ed;rw[ed]at ec;rw[ec]at eb;rw[eb]at ea;rw[ea]at g4;rw[g4]at r4 i4;obtain⟨pa,g1,_,oa1⟩:=AAI o1;obtain⟨pb,fa,_,ob1⟩:=AAI oa1;obtain⟨pc,fb,_,oc1⟩:=AAI ob1;obtain⟨vr1,pd,fc,_,_,od1⟩:=ADu oc1;obtain⟨vx1,pe,fd,_,_,oe1⟩:=ADu od1;obtain⟨va1,pf,fe,da1,_,of1⟩:=ADu oe1;have of1:pf=[]:=of1;rw[of1]at fe;rw[fe]at fd;rw[fd]at fc;rw[fc]at fb;rw[fb]at fa;rw[fa]at g1;rw[g1]at r1 i1;have T:(γ 2).length=8:=by
  obtain⟨_,t1,a1,u1⟩:=AAr o2 fun u h=>by obtain⟨rfl,_⟩:=h;rfl
  obtain⟨_,t2,a2,u2⟩:=AAr u1 fun u h=>by obtain⟨rfl,_⟩:=h;rfl
  obtain⟨_,t3,a3,u3⟩:=AAr u2 fun u h=>by obtain⟨rfl,_⟩:=h;rfl
  obtain⟨_,t4,a4,u4⟩:=AAr u3 fun u h=>by have h:u=.slice none 0 0:=h;rw[h];rfl
  obtain⟨_,t5,a5,u5⟩:=AAr u4 fun u h=>by have h:u=.slice none 0 0:=h;rw[h];rfl
  obtain⟨_,t6,a6,u6⟩:=AAr u5 fun u h=>by have h:u=.slice none 0 0:=h;rw[h];rfl
  obtain⟨_,t7,a7,u7⟩:=AAr u6 fun u h=>by obtain⟨rfl,_⟩:=h;rfl
  obtain⟨_,t8,a8,u8⟩:=AAr u7 fun u h=>by obtain⟨rfl,_⟩:=h;rfl
  have u8:t8=[]:=u8;rw[a1,a2,a3,a4,a5,a6,a7,a8,u8];rfl
 have i13:S[ι 13]?=some (mapO K3 ReportE true b13 f):=by rw[i13];show some (mapRes (P:=prog) [] 3 (.int .i64) (.st 1) (blk (ρ 13)) f)=_;rw[e13];rfl
 have i14:S[ι 14]?=some (mapO K3 (enc (P:=prog) (.sl (.st 3))) false b14 fnone):=by rw[i14];show some (mapRes (P:=prog) [] 3 (.int .i64) (.sl (.st 3)) (blk (ρ 14)) fnone)=_;rw[e14];rfl
 have D:=J.hp;have hgl:=J.anch.2;have I:∀{i j:Nat} {a b:AR},A1 (B6 (D4 ANL++C9 anpre70.r.r) ANM (s70 d) f).res i=some a->A1 (B6 (D4 ANL++C9 anpre70.r.r) ANM (s70 d) f).res j=some b->i≠j->ι i≠ι j:=fun {i j a b} F W Y e=>Y (J.inj _ _ _ _ F W e);have n4:ι 4≠ι 14:=I (i:=4) (j:=14) rfl rfl (by decide);have n2:ι 2≠ι 14:=I (i:=2) (j:=14) rfl rfl (by decide);have n1:ι 1≠ι 14:=I (i:=1) (j:=14) rfl rfl (by decide);have n13:ι 13≠ι 14:=I (i:=13) (j:=14) rfl rfl (by decide);have n24:ι 2≠ι 4:=I (i:=2) (j:=4) rfl rfl (by decide);have n213:ι 2≠ι 13:=I (i:=2) (j:=13) rfl rfl (by decide);clear I J o1 o4 oa ob oc od oe of og oa1 ob1 oc1 od1 oe1;have hI1:Hp w [] M (S.set (ι 14) (mapO K3 N4 false b14 fnone)) w3:=D.upd (ι 14) i14 (Kp.refl _ _) (fun b H=>.inl H) rfl fun M' hM'=>ABi (D.mapAt' _ i14) (fun k x v h=>by cases h) (fun k _=>rfl);have x1:Adv (mm S M) (mm (S.set (ι 14) (mapO K3 N4 false b14 fnone)) M) w3 w3:=D.updA (r':=mapO K3 N4 false b14 fnone) (ι 14) i14 (Kp.refl _ _) (fun b H=>.inl H);have memM2:∀b∈bb2::M,b∈mm S M:=fun b H=>mem_mm.2 ((mem_cons.1 H).imp (fun e=>⟨_,AX1 i2,by rw[e];exact mem_singleton.2 rfl⟩) id);have nin:∀{b:Nat} {j:Nat} {r:Res},S[j]?=some r->b∈r.fp->ι 2≠j->b∉bb2::M:=fun {b j r} X H Y hm=>by
  rcases mem_cons.1 hm with e|hm
  . exact D.dis (ι 2) j _ _ i2 X Y bb2 (mem_singleton.2 rfl) (e▸H)
  . exact D.sepM _ (AX1 X) b H hm
 have n214:ι 2≠ι 14:=n2;have h4r:RdC (bb2::M) w3 bb4 0 _:=H9 (nin i4 (mem_singleton.2 rfl) n24) r4;have d13:OkD (P:=prog) (bb2::M) w3 (.mp 3 (.int .i64) (.st 1)) f (.map (some b13)):=⟨[_],⟨_,K3,rfl,rfl,b13,rfl,nin i13 (mem_singleton.2 rfl) n213,ABi (D.mapAt' _ i13) (fun k x v h hv=>⟨x,h,hv.mon fun b H=>.inl (memM2 b H)⟩) (fun k h=>h)⟩,.inr ⟨rfl,rfl⟩⟩;have d14:OkD (P:=prog) (bb2::M) w3 (.mp 3 (.int .i64) (.sl (.st 3))) (fnone:A4 Int (List Answer)) (.map (some b14)):=⟨[_],⟨_,K3,rfl,rfl,b14,rfl,nin i14 (mem_singleton.2 rfl) n214,ABi (D.mapAt' _ i14) (fun k x v h=>by cases h) (fun k h=>h)⟩,.inr ⟨rfl,rfl⟩⟩;have hdesk:=AMB k0 k1 k2 (OkD.adv dr (Adv.drop memM2)) (OkD.adv dx (Adv.drop memM2)) (OkD.adv dy (Adv.drop memM2)) d13 d14 cr cx cy rfl rfl;obtain⟨cs,hR,A⟩:=id hdesk;have A:cs=[.int .i64 d.terms.answer,.int .i64 d.terms.mark,.int .i64 d.terms.lately,vr,vx,vy,.map (some b13),.map (some b14)]:=by
  rcases A with⟨_,h⟩|⟨h,_⟩
  . have h:=Value.agg.inj h;simpa using h.symm
  . cases h
 subst A;have p:w.heap.size<=w3.heap.size:=D.kp.size;have B:w.heap.size<=bb2:=((D.own _ (AX1 i2)).2 bb2 (mem_singleton.2 rfl)).resolve_left (fun h=>by cases h);refine A6 ?_;refine ANK (fun b H=>D.mlt b (memM2 b H)) (hgl.adv (Adv.drop memM2)) h4r hR r2 ?_ l2 l4 he (fun he0 L4 w4 V lk4=>?_) (fun I L4 w4 w5 V Z y hke lk4 l34=>?_)
 . exact T
 . rw[AYB he0]at C;obtain⟨h,hh,C⟩:=R0 C;cases C
   refine A6 ?_;have n:w.heap.size<=w4.heap.size:=AYG p V.size;refine AP8 (S0:=S.set (ι 14) (mapO K3 N4 false b14 fnone)) (jm:=ι 14) (j4:=ι 4) (j1:=ι 1) (bm:=b14) (hI1.ext V) (AY8 (List.getElem?_eq_some_iff.1 i14).1) (by rw[AYg (AZs n4)];exact i4) rfl (by rw[AYg (AZs n1)];exact i1) rfl (OkD.rds (OkD.adv da1 (x1.trans (Adv.of_ext V)))) n4 n ((lk4 1 (by decide)).trans l1) ((lk4 4 (by decide)).trans l4) hh fun L5 w5 g os lk5 N R K=>?_;rw[List.set_set]at K;have E:(N5 os).length=os.length:=by simp[N5]
   have at1:∀{j:Nat} {q:Res},S[j]?=some q->j≠ι 14->(N5 os++S.set (ι 14) (mapO K3 N4 false b14 g))[os.length+j]?=some q:=fun {j q} X Y=>by
    rw[AYX (by rw[E];omega),E,AYz,AYg (AZs Y)];exact X
   have at14:(N5 os++S.set (ι 14) (mapO K3 N4 false b14 g))[os.length+ι 14]?=some (mapO K3 N4 false b14 g):=by
    rw[AYX (by rw[E];omega),E,AYz,AY8 (List.getElem?_eq_some_iff.1 i14).1]
   refine A6 ?_;refine A8 ?_;refine AAs ((lk5 4 (by decide)).trans ((lk4 4 (by decide)).trans l4)) (K.1.row _ (at1 i4 n4)).rd.cells isAgg99 rfl sizeOf99 rfl ?_;refine ABF (os.length+ι 2) K.1 (at1 i2 n2) ((lk5 2 (by decide)).trans ((lk4 2 (by decide)).trans l2)) rfl rfl sizeOf99 rfl (by rw[T];rfl) ((enc (P:=prog) (.st 10)).one hR) ?_;intro w6 U x6;refine G7 rfl rfl ?_;refine Reg.nil ?_;refine K6 ?_;rw[AEX (by rw[T];rfl)]at U x6;have O:=x1.trans ((Adv.of_ext V).trans (K.2.trans x6));have keep:∀{j:Nat} {q:Res},(N5 os++S.set (ι 14) (mapO K3 N4 false b14 g))[j]?=some q->j≠os.length+ι 2->((N5 os++S.set (ι 14) (mapO K3 N4 false b14 g)).set (os.length+ι 2) (rowR 99 bb2 [.int .i64 d.terms.answer,.int .i64 d.terms.mark,.int .i64 d.terms.lately,vr,vx,vy,.map (some b13),.map (some b14)]))[j]?=some q:=fun {j q} X Y=>by
    rw[AYg (AZs Y)];exact X
   have f13:=keep (at1 i13 n13) (by omega);have f14:=keep at14 (by omega);have fown:∀o∈os,RdS AnswerE M w6 o.2.1 o.2.2:=fun o G=>by
    obtain⟨i,hi⟩:=AYW G;have hil:i<os.length:=(List.getElem?_eq_some_iff.1 hi).1;have F:(N5 os++S.set (ι 14) (mapO K3 N4 false b14 g))[i]?=some (ownR [] AnswerE 60 o.2.1 o.2.2):=by
     rw[AYP (by rw[E];exact hil)];simp only[N5,List.getElem?_map,hi];rfl
    have W:=keep F (by omega);exact((U.ownAt i W).mon fun b H=>.inr (mem_mm.2 (.inr H))).rd fun b H=>U.sepM _ (AX1 W) b H
   have c13:OkD (P:=prog) M w6 (.mp 3 (.int .i64) (.st 1)) f (.map (some b13)):=⟨[_],⟨_,K3,rfl,rfl,b13,rfl,D.sepM _ (AX1 i13) b13 (mem_singleton.2 rfl),ABi (U.mapAt' _ f13) (fun k x v h hv=>⟨x,h,hv.mon fun b H=>.inl (mem_mm.2 (.inr H))⟩) (fun k h=>h)⟩,.inr ⟨rfl,rfl⟩⟩;have c14:OkD (P:=prog) M w6 (.mp 3 (.int .i64) (.sl (.st 3))) h (.map (some b14)):=⟨[_],⟨_,K3,rfl,rfl,b14,rfl,D.sepM _ (AX1 i14) b14 (mem_singleton.2 rfl),ABi (U.mapAt' _ f14) (fun k x v hk hv=>by
    obtain⟨o,G,z⟩:=mem_map.1 ((N.2 k x).2 hk);cases z
    obtain⟨cs,⟨F,_⟩,⟨W,_⟩|⟨_,W⟩⟩:=hv
    . cases W
    . rw[F]at W;have W:=List.singleton_inj.1 W;subst W;exact⟨o.2.2,(R.2 o.1 o.2.2).1 (mem_map.2 ⟨o,G,rfl⟩),[_],⟨_,rfl,fown o G⟩,.inr ⟨rfl,rfl⟩⟩) (fun k hk=>by
    refine R.none fun x hx e=>?_;obtain⟨o,G,rfl⟩:=mem_map.1 hx;have F:=(N.2 o.1 o.2.1).1 (mem_map.2 ⟨o,G,rfl⟩);rw[show o.1=k from e,hk]at F;cases F)⟩,.inr ⟨rfl,rfl⟩⟩
   have memM:∀b∈M,b∈mm ((N5 os++S.set (ι 14) (mapO K3 N4 false b14 g)).set (os.length+ι 2) (rowR 99 bb2 [.int .i64 d.terms.answer,.int .i64 d.terms.mark,.int .i64 d.terms.lately,vr,vx,vy,.map (some b13),.map (some b14)])) M:=fun b H=>mem_mm.2 (.inr H);have L:=AMB (d:=d) (f:=f) (h:=h) k0 k1 k2 ((OkD.adv dr O).mon memM) ((OkD.adv dx O).mon memM) ((OkD.adv dy O).mon memM) c13 c14 cr cx cy rfl rfl;have r6:=U.row (os.length+ι 2) (AY8 (List.getElem?_eq_some_iff.1 (at1 i2 n2)).1);exact N8 (rs:=[.cell 2 99,.tmp 3]) (vs:=[_,_]) rfl (.cons (.agg ((lk5 2 (by decide)).trans ((lk4 2 (by decide)).trans l2)) r6.rd.cells isAgg99 rfl sizeOf99) (.cons (.tmp rfl) .nil)) rfl ⟨[_,_],rfl,⟨_,_,rfl,L,_,rfl,[_],⟨rfl,(by decide:InK .i64 0)⟩,.inr ⟨rfl,rfl⟩⟩,U.kp⟩
 . rw[if_neg I]at C;cases C
   have hA5:Adv (bb2::M) (bb2::M) w3 w5:=⟨(V.mono fun b H=>by cases H).trans (Z.mono fun b H=>.inl (mem_cons.2 (.inl (mem_singleton.1 H)))),fun b H=>.inl H⟩;refine N8 (rs:=[.cell 2 99,.tmp 3]) (vs:=[_,_]) rfl (.cons (.agg ((lk4 2 (by decide)).trans l2) y.rd.cells isAgg99 rfl sizeOf99) (.cons (.tmp l34) .nil)) rfl ⟨[_,_],rfl,⟨_,_,rfl,(OkD.adv hdesk hA5).mon fun b H=>AX0 _ H,_,rfl,[_],⟨rfl,hke⟩,.inr ⟨rfl,rfl⟩⟩,?_⟩;exact(D.kp.trans V).tail Z fun c hc=>by rw[mem_singleton.1 hc];exact .inr B
end Go.Proofs.YtgioiejbphljoaaGreatDoor
namespace Go.Rx
open Go Go.Sx Go.RowKit
section
variable[Trk]
theorem AOk(I:¬Trk.t){M:List Nat}{w W W':World}(h:Adv M M w W)(k:KI M w.heap.size W W'):Adv M M w W':=
 ⟨⟨k.1.trans h.kp.os,k.2.1.trans h.kp.tape,k.2.2.1.trans h.kp.output,AYG h.kp.size k.2.2.2.1,fun b H J=>(k.2.2.2.2 b H J).trans (h.kp.block b H J),fun t=>absurd t I⟩,fun b H=>.inl H⟩
theorem AR7{M:List Nat}{w W:World}(I:MLt M w)(h:Adv M M w W):MLt M W:=fun b H=>AYH (I b H) h.kp.size
end
section
variable[Trk][Sg][Sf]{P:Program}[Se P]
theorem AFK{ρ:Nat->Value}{R:Nat->Option AR}{M:List Nat}{w:World}:∀{l:List (IntKind×Int)} {vs:List Value},OkL (P:=P) ρ R M w (l.map fun p=>.int p.1 p.2) vs->vs=(l.map fun p=>Value.int p.1 p.2)/\∀p∈l,InK p.1 p.2
 |[],vs,h=>⟨h,fun _ h=>by cases h⟩
 |p::l,vs,h=>by
  obtain⟨u,c,r,rfl,⟨rfl,hk⟩,H,U⟩:=h;obtain⟨rfl,J⟩:=AFK U;have H:#[Value.int p.1 p.2]=toArray c:=H;have:c=[Value.int p.1 p.2]:=by simpa using H.symm
  subst this;exact⟨rfl,fun q I=>(mem_cons.1 I).elim (fun e=>by subst e;exact hk) (J q)⟩
end
end Go.Rx
namespace Go.Sx
open Go Go.RowKit
variable[Trk]
theorem AIM{n:Nat}{P:Program}{N:Nat}{ops:Array Oper}{rest:List Oper}{ds:List Deferred}{L:A7}{w:World}{A B:A3}{X:Nat->A3}{Z:List PanicEntry->A3}{d e b o m:Nat}{x:Operand}{cs:List Value}{ty:TypeId}{pos:String}{af:Array Edge}(hx:ev L x=some (.pointer (some ⟨b,o,none⟩)))(V:Cells w b o cs)(U:∀w,(isAgg e).run P w=.ok true w)(I:cs.length=m)(H:∀w,(sizeOf e).run P w=.ok m w)(hN:blt d N=true)(h:Rgi n P N ops rest ds ((d,.agg cs.toArray)::L) w A B X Z):Rgi n P N ops (⟨some d,.load e x,ty,pos,af,none⟩::rest) ds L w A B X Z:=by
 subst I;refine Rgi.val _ rfl rfl hN rfl (fun a W=>?_) h;have:=run_loadCells_list (P:=P) w ⟨b,o,none⟩ cs (fun j v J=>by rw[add_none];exact V j v J);have C:=W.eval hx;simp[execOp,C,Instr.loadAt,Instr.sureAddr,loadVar,U,H,this]
end Go.Sx
namespace Go.Proofs.YtgioiejbphljoaaGreatDoor
open Go Go.Sx Go.Rx Go.RowKit
def AFL(d:Desk_99)(day:Int):List Dispute->Option (List (Dispute×Verdict))
 |[]=>some []
 |x::l=>(F8 d x day).bind fun r=>(AFL d day l).bind fun ys=>some (if 3<=r.1 then(x,r.2)::ys else ys)
variable{α:Type}{M:List Nat}{w:World}{d:Desk_99}{day:Int}
theorem AFM{l:List α}{i:Nat}(h:i<l.length):l.drop i=l[i]::l.drop (i+1):=AZW h
theorem ATy:GxOk prog { gxb with fs:=[(57,ctr57)] }:=B4 ⟨⟨ok57,call57⟩,trivial⟩
theorem AK3{l:List α}{n:Nat}{x:α}(h:l[n]?=some x):l.take (n+1)=l.take n++[x]:=by
 rw[AZu,h];rfl
def AQu(d:Desk_99)(day:Int)(l:List Dispute)(i:Int):List (Nat×SV):=[(1,.rp (.str 10 d) 0),(2,.rp (.int .i64 day) 0),(10,.dat (.sl (.st 2)) l),(12,.int .i64 i)]
theorem AEj(n:Nat)(hM:MLt M w)(hg:GlOk (P:=prog) M w){v1 v2:Value}(h1:Ok (P:=prog) (fun _=>undef) (fun _=>none) M w (.rp (.str 10 d) 0) v1)(h2:Ok (P:=prog) (fun _=>undef) (fun _=>none) M w (.rp (.int .i64 day) 0) v2){ys:List (Dispute×Verdict)}(hd:AFL d day d.desk.disputes=some ys)(val:α->Dispute×Verdict)(zs:List α)(O:zs.map val=ys):
  SeqStopsK Fence.wide n prog 84 #[v1,v2] (fun x=>#[M8 (.st 2) (val x).1,M8 (.st 12) (val x).2]) (KI M w.heap.size) (fun ys=>ys=zs) (fun pre=>pre <+: zs) zs.length w:=by
 intro lp J Jx W hW hJ _ hY h0
 have hE:Ext w W:=ABp hW (fun h=>h)
 have hA0:Adv M M w W:=Adv.of_ext hE
 subst O
 obtain⟨b,o0,u,vs,rfl,hc,hu,hcu⟩:=id h1
 obtain⟨v10,X,K⟩:∃v10,vs[4]?=some v10/\Ok (P:=prog) (fun _=>undef) (fun _=>none) M w (.dat (.sl (.st 2)) d.desk.disputes) v10:=by
  rcases AEI (G:=gxb) (t:=25) (o:=4) (v:=.str 10 d) (s:=.dat (.sl (.st 2)) d.desk.disputes) rfl hu with⟨_,y,D,h4⟩|⟨n,cs,D,_⟩
  . rw[hcu]at D;exact⟨y,D,h4⟩
  . cases D
 have hds:=OkD.rds K.2
 obtain⟨a10,c10,hv,hlen,hle⟩:=hds.shape
 subst hv
 refine callsIn_wide.2 ?_
 let R:Ending->World->Prop:=fun e W'=>(∃v,e=.returned v)/\((∃xs,xs=zs/\J xs W')\/(∃pre,pre <+: zs/\Jx pre W'))
 have f:∀(pre:List α) (L:Sx.A7) (W':World),pre <+: zs->Jx pre W'->ABC prog f84 R [] L W':=fun pre L W' h1 h2=>N8 (rs:=[]) (vs:=[]) rfl .nil rfl ⟨⟨_,rfl⟩,.inr ⟨pre,h1,h2⟩⟩
 refine G6 (l:=[.func (.yield lp) #[] #[],.pointer (some ⟨b,o0+0,none⟩),v2]) (fn:=f84) func84 rfl rfl rfl ?_
 refine A6 ?_
 refine A8 ?_
 refine ABD rfl underlying99 rfl sizeOf28 rfl ?_
 refine ABD rfl underlying28 rfl sizeOf25 rfl ?_
 refine V9 rfl ((hc.adv hA0).cells.at 4 X) isAgg25 rfl ?_
 refine AEq rfl underlying25 rfl ?_
 refine J3 rfl rfl ?_
 refine Reg.nil ?_
 refine H4 ?_
 let ls:=d.desk.disputes
 have hlen_:InK .i64 ((ls.length:Nat):Int):=hds.inK
 refine ABB (ι:=A7×Nat×Nat) (fun q=>q.1) (fun q W'=>(Sx.A5 q.1 0=some (.func (.yield lp) #[] #[])/\Sx.A5 q.1 1=some (.pointer (some ⟨b,o0+0,none⟩))/\Sx.A5 q.1 2=some v2/\Sx.A5 q.1 10=some (.slice a10 ls.length c10)/\Sx.A5 q.1 11=some (.int .i64 (ls.length:Nat))/\Sx.A5 q.1 12=some (.int .i64 (q.2.1:Nat)))/\q.2.1<=ls.length/\AFL d day (ls.drop q.2.1)=some ((zs.drop q.2.2).map val)/\q.2.2<=zs.length/\J (zs.take q.2.2) W'/\Adv M M w W') (fun q=>ls.length-q.2.1) (_,0,0) ⟨⟨rfl,rfl,rfl,rfl,rfl,rfl⟩,AYh _,by simpa using hd,AYh _,by simpa using h0,hA0⟩ (Sub.refl _) ?_
 rintro⟨L,i,k⟩ W1 ⟨⟨l0,l1,l2,l10,l11,l12⟩,hi,H,hk,A,C⟩
 dsimp only at l0 l1 l2 l10 l11 l12 hi H hk A ⊢
 refine A6 ?_
 refine A8 ?_
 refine AGv l12 l11 rfl ?_
 refine Reg.nil ?_
 refine A6 ?_
 refine AAB (by show Sx.A5 ((13,_)::L) 13=_;rw[look_cons,AYB rfl]) (fun V=>?_) (fun hge=>?_)
 . have V:i<ls.length:=by simpa using V
   rw[AFM V]at H
   obtain⟨r,hr,H⟩:=R0 H
   obtain⟨ys',E,H⟩:=R0 H
   have H:=AXz H
   refine P5 ?_
   refine A6 ?_
   refine H4 ?_
   have c:Holds (P:=prog) W1 [] M ⟨AQu d day ls i,[],[],[]⟩ ((13,.bool (decide ((i:Int)<(ls.length:Int))))::L) W1:=by
    refine Holds.start (AR7 hM C) (fun t s I=>?_) ⟨trivial,hg.adv C⟩;unfold AQu at I;rw[fnd_cons]at I;split at I
    . rename_i e;subst e;cases I;exact⟨_,(by rw[look_cons,if_neg (by decide)];exact l1),Ok.adv C _ h1⟩
    rw[fnd_cons]at I;split at I
    . rename_i e;subst e;cases I;exact⟨_,(by rw[look_cons,if_neg (by decide)];exact l2),Ok.adv C _ h2⟩
    rw[fnd_cons]at I;split at I
    . rename_i e;subst e;cases I;exact⟨_,(by rw[look_cons,if_neg (by decide)];exact l10),Ok.adv C _ K⟩
    rw[fnd_cons]at I;split at I
    . rename_i e;subst e;cases I;exact⟨_,(by rw[look_cons,if_neg (by decide)];exact l12),rfl,InK.i64.2 (by rw[InK.i64]at hlen_;omega)⟩
    cases I
   have hix:ixo ls (i:Int)=some ls[i]:=AG2 (AX7 V)
   refine A6 ?_
   refine AA6 ATy c hix rfl rfl fun L2 W2 hE2 F=>?_
   refine A6 ?_
   refine AA6 ATy F hr rfl rfl fun L3 W3 hE3 N=>?_
   obtain⟨S,ρ,γ,μ,ι,Y⟩:=N
   have hex:Ext W1 W3:=Y.hp.kp
   obtain⟨v5,l5,b5,hb5,rfl⟩:=Y.env 5 (.ptr 5 0) rfl
   obtain⟨v7,l7,b7,hb7,rfl⟩:=Y.env 7 (.ptr 7 0) rfl
   obtain⟨v6,l6,rfl,hk6⟩:=Y.env 6 (.int .u8 r.1) rfl
   obtain⟨c5,hc5,j,ho5,_⟩:=Y.rowAt (i:=5) rfl
   obtain⟨c7,hc7,g,ho7,_⟩:=Y.rowAt (i:=7) rfl
   rw[hb5]at hc5;cases hc5
   rw[hb7]at hc7;cases hc7
   obtain⟨hg5,_⟩:=AFK (l:=[(.i64,ls[i].id),(.i64,ls[i].report),(.i64,ls[i].day)]) ho5
   obtain⟨hg7,_⟩:=AFK (l:=[(.i64,r.2.day),(.u8,r.2.is_),(.i64,r.2.by_.id),(.i64,r.2.by_.dispute),(.i64,r.2.by_.day),(.u8,r.2.by_.says),(.i64,r.2.by_.about),(.i64,r.2.by_.cents)]) ho7
   rw[hg5]at j
   rw[hg7]at g
   have hJ3:J (zs.take k) W3:=hJ _ _ _ none A (Ext.grownBy hex) (fun r hr=>by cases hr)
   have hA3:Adv M M w W3:=C.trans (Adv.of_ext hex)
   have look3:∀t,t∉[5,6,7,13,14,15,16,17,18,19,20,21,22]->Sx.A5 L3 t=Sx.A5 L t:=fun t I=>by
    rw[hE3 t (fun h=>I ((by decide:∀u∈C1 _,u∈[5,6,7,13,14,15,16,17,18,19,20,21,22]) t h)),hE2 t (fun h=>I ((by decide:∀u∈C1 _,u∈[5,6,7,13,14,15,16,17,18,19,20,21,22]) t h)),look_cons,if_neg (fun e=>I (by subst e;decide))]
   have q0:=(look3 0 (by decide)).trans l0
   have q1:=(look3 1 (by decide)).trans l1
   have q2:=(look3 2 (by decide)).trans l2
   have q10:=(look3 10 (by decide)).trans l10
   have q11:=(look3 11 (by decide)).trans l11
   have q12:=(look3 12 (by decide)).trans l12
   clear look3 hE2 hE3 Y F c
   clear_value ls
   have add1:InK .i64 ((i:Int)+1):=InK.i64.2 (by rw[InK.i64]at hlen_;omega)
   refine A6 ?_
   refine AHy n ?_
   refine Rgi.val (.int .u8 r.1) rfl rfl rfl rfl (fun a U=>by simp[execOp,U.eval (x:=.tmp 6) l6]) ?_
   refine Rgi.val (.bool (decide (3<=r.1))) rfl rfl rfl rfl (fun a U=>by
    have B:=U.eval (x:=.tmp 23) (v:=.int .u8 r.1) rfl;have h8:=U.eval (x:=.const (.int .u8 3)) (v:=.int .u8 3) rfl;simp[execOp,B,h8,eqGuard_geq,binOp_geq]) ?_
   refine Rgi.val (.bool (decide (3<=r.1))) rfl rfl rfl rfl (fun a U=>by
    simp[execOp,U.eval (x:=.tmp 24) (v:=.bool (decide (3<=r.1))) rfl]) ?_
   have look4:∀{p q u:Value} (t:Nat),t∉[23,24,25]->Sx.A5 ((25,p)::(24,q)::(23,u)::L3) t=Sx.A5 L3 t:=fun t I=>by
    rw[look_cons,if_neg (fun e=>I (by subst e;decide)),look_cons,if_neg (fun e=>I (by subst e;decide)),look_cons,if_neg (fun e=>I (by subst e;decide))]
   have m0:=(look4 (p:=.bool (decide (3<=r.1))) (q:=.bool (decide (3<=r.1))) (u:=.int .u8 r.1) 0 (by decide)).trans q0
   have m1:=(look4 (p:=.bool (decide (3<=r.1))) (q:=.bool (decide (3<=r.1))) (u:=.int .u8 r.1) 1 (by decide)).trans q1
   have m2:=(look4 (p:=.bool (decide (3<=r.1))) (q:=.bool (decide (3<=r.1))) (u:=.int .u8 r.1) 2 (by decide)).trans q2
   have m5:=(look4 (p:=.bool (decide (3<=r.1))) (q:=.bool (decide (3<=r.1))) (u:=.int .u8 r.1) 5 (by decide)).trans l5
   have m7:=(look4 (p:=.bool (decide (3<=r.1))) (q:=.bool (decide (3<=r.1))) (u:=.int .u8 r.1) 7 (by decide)).trans l7
   have m10:=(look4 (p:=.bool (decide (3<=r.1))) (q:=.bool (decide (3<=r.1))) (u:=.int .u8 r.1) 10 (by decide)).trans q10
   have m11:=(look4 (p:=.bool (decide (3<=r.1))) (q:=.bool (decide (3<=r.1))) (u:=.int .u8 r.1) 11 (by decide)).trans q11
   have m12:=(look4 (p:=.bool (decide (3<=r.1))) (q:=.bool (decide (3<=r.1))) (u:=.int .u8 r.1) 12 (by decide)).trans q12
   have m25:Sx.A5 ((25,Value.bool (decide (3<=r.1)))::(24,.bool (decide (3<=r.1)))::(23,.int .u8 r.1)::L3) 25=some (.bool (decide (3<=r.1))):=by rw[look_cons,AYB rfl]
   generalize ((25,Value.bool (decide (3<=r.1)))::(24,.bool (decide (3<=r.1)))::(23,.int .u8 r.1)::L3)=L4 at m0 m1 m2 m5 m7 m10 m11 m12 m25
   by_cases D:3<=r.1
   . rw[AYA D]at m25
     rw[AYB D]at H
     obtain⟨z,hz,O,Q⟩:∃z,zs[k]?=some z/\val z=(ls[i],r.2)/\ys'=(zs.drop (k+1)).map val:=by
      rcases AYF k zs.length with h|h
      . rw[AFM h,AYM,List.cons.injEq]at H;exact⟨zs[k],AX7 h,H.1.symm,H.2⟩
      . rw[List.drop_of_length_le h]at H;cases H
     have m:k<zs.length:=(List.getElem?_eq_some_iff.1 hz).1
     have Z:=AK3 hz
     have T:=hY (zs.take k) z W3 hJ3 (by rw[AYj];omega)
     dsimp only at T
     rw[O]at T
     refine Rgi.take (t:=25) rfl m25 ?_
     refine Rgi.val (.func (.yield lp) #[] #[]) rfl rfl rfl rfl (fun a U=>by simp[execOp,U.eval (x:=.tmp 0) m0]) ?_
     refine Rgi.take (t:=25) rfl m25 ?_
     refine AIM m5 j.rd.cells isAgg53 rfl sizeOf53 rfl ?_
     refine Rgi.take (t:=25) rfl m25 ?_
     refine AIM m7 g.rd.cells isAgg111 rfl sizeOf111 rfl ?_
     refine Rgi.take (t:=25) rfl m25 ?_
     refine AHh rfl rfl rfl rfl T ?_
     rintro e W4 (⟨rfl,hJ4,hk4⟩|⟨rfl,hJx4⟩)
     . refine⟨_,rfl,?_⟩
       refine Rgi.take (t:=25) rfl m25 ?_
       refine Rgi.val (.bool false) rfl rfl rfl rfl (fun a U=>by simp[execOp,U.eval (x:=.tmp 29) rfl,Op.unary]) ?_
       refine Rgi.val (.bool false) rfl rfl rfl rfl (fun a U=>by
        have B:=U.eval (x:=.tmp 25) (v:=.bool true) m25;simp[execOp,B,U.eval (x:=.tmp 30) rfl,asBool]) ?_
       refine Rgi.nil ?_
       refine ABA rfl ?_
       refine P5 ?_
       refine A8 ?_
       refine AGw m12 rfl rfl add1 ?_
       refine J3 rfl rfl ?_
       refine Reg.nil ⟨rfl,(_,i+1,k+1),?_,Sub.refl _,by dsimp only;omega⟩
       exact⟨⟨m0,m1,m2,m10,m11,rfl⟩,V,by rw[<-Q];exact E,m,by rw[Z];exact hJ4,AOk id hA3 hk4⟩
     . refine⟨_,rfl,?_⟩
       refine Rgi.take (t:=25) rfl m25 ?_
       refine Rgi.val (.bool true) rfl rfl rfl rfl (fun a U=>by simp[execOp,U.eval (x:=.tmp 29) rfl,Op.unary]) ?_
       refine Rgi.val (.bool true) rfl rfl rfl rfl (fun a U=>by
        have B:=U.eval (x:=.tmp 25) (v:=.bool true) m25;simp[execOp,B,U.eval (x:=.tmp 30) rfl,asBool]) ?_
       refine Rgi.nil ?_
       refine ACM rfl ?_
       refine K6 ?_
       exact f _ _ _ (Z▸List.take_prefix _ _) hJx4
   . rw[AX8 D]at m25
     rw[if_neg D]at H
     refine Rgi.pass (t:=25) rfl rfl m25 rfl ?_
     refine Rgi.pass (t:=25) rfl rfl m25 rfl ?_
     refine Rgi.pass (t:=25) rfl rfl m25 rfl ?_
     refine Rgi.pass (t:=25) rfl rfl m25 rfl ?_
     refine Rgi.pass (t:=25) rfl rfl m25 rfl ?_
     refine Rgi.val (.bool false) rfl rfl rfl rfl (fun a U=>by
      have B:=U.eval (x:=.tmp 25) (v:=.bool false) m25;have h8:=U.eval (x:=.const (.bool false)) (v:=.bool false) rfl;simp[execOp,B,h8,asBool]) ?_
     refine Rgi.nil ?_
     refine ABA rfl ?_
     refine P5 ?_
     refine A8 ?_
     refine AGw m12 rfl rfl add1 ?_
     refine J3 rfl rfl ?_
     refine Reg.nil ⟨rfl,(_,i+1,k),?_,Sub.refl _,by dsimp only;omega⟩
     exact⟨⟨m0,m1,m2,m10,m11,rfl⟩,V,by rw[<-H];exact E,hk,hJ3,hA3⟩
 . have hge:¬i<ls.length:=by simpa using hge
   obtain rfl:i=ls.length:=by omega
   rw[List.drop_length]at H
   have H:=AXz H
   have Q:zs.length<=k:=by
    have:=AX9 List.length H;simp at this;omega
   refine AA9 (T7 ?_)
   refine N8 (rs:=[]) (vs:=[]) rfl .nil rfl ⟨⟨_,rfl⟩,.inl ⟨zs,rfl,?_⟩⟩
   rwa [AYk Q]at A
theorem C45(E:MLt M w){vd:Value}(U:OkD (P:=prog) M w (.st 10) d vd)(W:InK .i64 day):Calls prog 45 (toArray [vd,.int .i64 day]) w fun e w'=>∃p1 p2,e=.returned (.func (.func 84) #[] #[p1,p2])/\Ok (P:=prog) (fun _=>undef) (fun _=>none) M w' (.rp (.str 10 d) 0) p1/\Ok (P:=prog) (fun _=>undef) (fun _=>none) M w' (.rp (.int .i64 day) 0) p2/\Ext w w':=by
 have J:=U;obtain⟨cs,O,K⟩:=U;obtain rfl:vd=.agg (toArray cs):=K.elim (fun h=>h.2) fun h=>by cases h.1
 refine G6 (l:=[.agg (toArray cs),.int .i64 day]) (fn:=f45) func45 rfl rfl rfl ?_;have F:=Hp.start (Mu:=[]) E;refine A6 ?_;refine A8 ?_;refine AAD F rfl rfl rfl ?_;intro b w2 H x2;have D:=H.freezeRow 0 rfl;have H:=H.erase 0;refine AAD H rfl rfl rfl ?_;intro b3 w3 V x3;have C:=V.freezeRow 0 rfl;have I:=V.erase 0;have x3':Adv (mm [] M) (mm [] M) w2 w3:=x3.trans (G5 (σ:=[_]) 0);refine G7 rfl rfl ?_;refine Reg.nil ?_;refine A6 ?_;refine A8 ?_;refine ADz (xs:=[.tmp 2,.tmp 3]) rfl rfl ?_;refine G7 rfl rfl ?_;refine Reg.nil ?_;refine K6 ?_;exact N8 (rs:=[.tmp 4]) (vs:=[_]) rfl (.cons (.tmp rfl) .nil) rfl ⟨.pointer (some ⟨b,0,none⟩),.pointer (some ⟨b3,0,none⟩),rfl,⟨b,0,_,_,rfl,D.adv x3',OkD.adv J (Adv.of_ext I.kp),rfl⟩,⟨b3,0,_,_,rfl,C,⟨rfl,W⟩,rfl⟩,I.kp⟩
open Classical in
def C7(d:Desk_99)(day:Int):Option (List (Dispute×Verdict)):=(AFL d day d.desk.disputes).bind fun ys=>if ∀y∈ys,ADK [.st 2,.st 12] y then some ys else none
def AV8:Ctr:=⟨[.d (.st 10),.d (.int .i64)],[.it [.st 2,.st 12]],fun a=>C7 a.1 a.2.1⟩
theorem ok45:Ctr.ok prog 45 AV8:=by
 refine⟨by decide,fun M w a vals r B Y A U=>?_⟩;obtain⟨d,day,_⟩:=a;obtain⟨vd,_,rfl,I,vk,_,rfl,E,rfl⟩:=A;have I:OkD (P:=prog) M w (.st 10) d vd:=I;have U:C7 d day=some r:=U;obtain⟨rfl,K⟩:vk=.int .i64 day/\InK .i64 day:=by
  have h:OkD (P:=prog) M w (.int .i64) day vk:=E;exact E1 (ρ:=fun _=>undef) (R:=fun _=>none) (.int .i64) h
 unfold C7 at U;obtain⟨ys,D,U⟩:=R0 U;split at U
 . rename_i F;cases U
   have V:=I;obtain⟨cs,Z,X⟩:=I;obtain rfl:vd=.agg (toArray cs):=X.elim (fun h=>h.2) fun h=>by cases h.1
   refine G6 (l:=[.agg (toArray cs),.int .i64 day]) (fn:=f45) func45 rfl rfl rfl ?_;have G:=Hp.start (Mu:=[]) B;refine A6 ?_;refine A8 ?_;refine AAD G rfl rfl rfl ?_;intro b w2 J x2;have T:=J.freezeRow 0 rfl;have J:=J.erase 0;refine AAD J rfl rfl rfl ?_;intro b3 w3 W x3;have Q:=W.freezeRow 0 rfl;have H:=W.erase 0;have x3':Adv (mm [] M) (mm [] M) w2 w3:=x3.trans (G5 (σ:=[_]) 0);refine G7 rfl rfl ?_;refine Reg.nil ?_;refine A6 ?_;refine A8 ?_;refine ADz (xs:=[.tmp 2,.tmp 3]) rfl rfl ?_;refine G7 rfl rfl ?_;refine Reg.nil ?_;refine K6 ?_;refine N8 (rs:=[.tmp 4]) (vs:=[_]) rfl (.cons (.tmp rfl) .nil) rfl ⟨[_],rfl,⟨_,rfl,⟨_,_,rfl,call84,F,fun M1 w1 hA O α val zs C=>?_⟩,rfl,rfl⟩,H.kp⟩;exact AEj 2 O ((Y.adv (Adv.of_ext H.kp)).adv hA) (v1:=.pointer (some ⟨b,0,none⟩)) (v2:=.pointer (some ⟨b3,0,none⟩)) ⟨b,0,_,_,rfl,(T.adv x3').adv hA,OkD.adv V ((Adv.of_ext H.kp).trans hA),rfl⟩ ⟨b3,0,_,_,rfl,Q.adv hA,⟨rfl,K⟩,rfl⟩ D val zs C
 . cases U
def bwN(l:List Asked):Nat->List (Int×Asked)
 |0=>[]
 |n+1=>match l[n]? with
  |some x=>((n:Int),x)::bwN l n
  |none=>bwN l n
theorem AIN(n:Nat){M:List Nat}{w:World}(hM:MLt M w)(hg:GlOk (P:=prog) M w){l:List Asked}{v1:Value}(f:Ok (P:=prog) (fun _=>undef) (fun _=>none) M w (.rp (.dat (.sl (.st 5)) l) 0) v1){α:Type}(val:α->Int×Asked)(zs:List α)(G:zs.map val=bwN l l.length):
  SeqStopsK Fence.wide n prog 85 #[v1] (fun x=>#[M8 (.int .i64) (val x).1,M8 (.st 5) (val x).2]) (KI M w.heap.size) (fun ys=>ys=zs) (fun pre=>pre <+: zs) zs.length w:=by
 intro lp J Jx W t hJ _ s h0
 have y:Ext w W:=ABp t (fun h=>h)
 have B:Adv M M w W:=Adv.of_ext y
 obtain⟨b,o0,u,vs,rfl,o,p,N⟩:=id f
 have V:=OkD.rds p.2
 obtain⟨a10,c10,rfl,j,r⟩:=V.shape
 obtain rfl:vs=[.slice a10 l.length c10]:=by
  have h:#[Value.slice a10 l.length c10]=toArray vs:=N;simpa using h.symm
 have hlen_:InK .i64 ((l.length:Nat):Int):=V.inK
 rw[InK.i64]at hlen_
 refine callsIn_wide.2 ?_
 let R:Ending->World->Prop:=fun e W'=>(∃v,e=.returned v)/\((∃xs,xs=zs/\J xs W')\/(∃pre,pre <+: zs/\Jx pre W'))
 have O:∀(pre:List α) (L:Sx.A7) (W':World),pre <+: zs->Jx pre W'->ABC prog f85 R [] L W':=fun pre L W' f h2=>N8 (rs:=[]) (vs:=[]) rfl .nil rfl ⟨⟨_,rfl⟩,.inr ⟨pre,f,h2⟩⟩
 refine G6 (l:=[.func (.yield lp) #[] #[],.pointer (some ⟨b,o0+0,none⟩)]) (fn:=f85) func85 rfl rfl rfl ?_
 refine A6 ?_
 refine A8 ?_
 refine V9 rfl ((o.adv B).cells.at 0 rfl) isAgg29 rfl ?_
 refine AEq rfl underlying29 rfl ?_
 refine AMU rfl rfl rfl (InK.i64.2 (by omega)) ?_
 refine G7 rfl rfl ?_
 refine Reg.nil ?_
 refine H4 ?_
 refine ABB (ι:=A7×Nat×Nat) (fun q=>q.1) (fun q W'=>(Sx.A5 q.1 0=some (.func (.yield lp) #[] #[])/\Sx.A5 q.1 1=some (.pointer (some ⟨b,o0+0,none⟩))/\Sx.A5 q.1 3=some (.int .i64 ((q.2.1:Nat)-1:Int)))/\q.2.1<=l.length/\bwN l q.2.1=(zs.drop q.2.2).map val/\q.2.2<=zs.length/\J (zs.take q.2.2) W'/\Adv M M w W') (fun q=>q.2.1) (_,l.length,0) ⟨⟨rfl,rfl,rfl⟩,AYE _,by simpa using G.symm,AYh _,by simpa using h0,B⟩ (Sub.refl _) ?_
 rintro⟨L,i,k⟩ W1 ⟨⟨l0,l1,l3⟩,hi,H,hk,D,E⟩
 dsimp only at l0 l1 l3 hi H hk D ⊢
 refine A6 ?_
 refine A6 ?_
 refine A8 ?_
 refine J3 l3 rfl ?_
 refine AQQ rfl rfl rfl ?_
 refine Reg.nil ?_
 refine AAB rfl (fun Q=>?_) (fun Y=>?_)
 . have Q:0<i:=by have:=AX6 Q;omega
   obtain⟨m,rfl⟩:∃m,i=m+1:=⟨i-1,by omega⟩
   have e3:(((m+1:Nat):Int)-1)=(m:Int):=by omega
   rw[e3]at l3
   have hx:l[m]?=some l[m]:=AX7 (by omega)
   simp only[bwN,hx]at H
   obtain⟨z,g,F,U⟩:∃z,zs[k]?=some z/\val z=((m:Int),l[m])/\bwN l m=(zs.drop (k+1)).map val:=by
    rcases AYF k zs.length with h|h
    . rw[AFM h,AYM,List.cons.injEq]at H;exact⟨zs[k],AX7 h,H.1.symm,H.2⟩
    . rw[List.drop_of_length_le h]at H;cases H
   have T:k<zs.length:=(List.getElem?_eq_some_iff.1 g).1
   have K:=AK3 g
   have C:=s (zs.take k) z W1 D (by rw[AYj];omega)
   dsimp only at C
   rw[F]at C
   obtain⟨b4,o4,c4,cs4,X,_,_,S,d⟩:=(V.adv E).at m (AYH (AZa m) hi)
   cases X
   obtain⟨rfl,_⟩:=(AGk (x:=l[m])).1 S
   refine P5 ?_
   refine A6 ?_
   refine H4 ?_
   refine A6 ?_
   refine AHy n ?_
   refine Rgi.val (.func (.yield lp) #[] #[]) rfl rfl rfl rfl (fun a I=>by simp[execOp,I.eval (x:=.tmp 0) l0]) ?_
   refine Rgi.val (.int .i64 (m:Int)) rfl rfl rfl rfl (fun a I=>by simp[execOp,I.eval (x:=.tmp 3) l3]) ?_
   refine Rgi.val (.slice (some ⟨b4,o4,none⟩) l.length c10) rfl rfl rfl rfl (fun a I=>by
    have h9:=I.eval (x:=.tmp 1) l1;simp[execOp,h9,Instr.loadAt,Instr.sureAddr,loadVar,isAgg29,show W1.cell? ⟨b,o0,none⟩=some (.slice (some ⟨b4,o4,none⟩) l.length c10) from(o.adv E).cells.at 0 rfl]) ?_
   refine Rgi.val (.int .i64 (m:Int)) rfl rfl rfl rfl (fun a I=>by simp[execOp,I.eval (x:=.tmp 3) l3]) ?_
   refine Rgi.val (.pointer (some ⟨b4,o4+m*4,none⟩)) rfl rfl rfl rfl (fun a I=>by
    have h7:=I.eval (x:=.tmp 13) (v:=.slice (some ⟨b4,o4,none⟩) l.length c10) rfl;have h8:=I.eval (x:=.tmp 14) (v:=.int .i64 (m:Int)) rfl;have h3:(m:Int)<(l.length:Int):=by omega
    simp[execOp,h7,h8,Instr.indexAt,asIntOf,run_underlying underlying29,sizeOf47,add_none];try (intro h9_;exact absurd h9_ (by omega))) ?_
   refine AIM rfl d isAgg47 rfl sizeOf47 rfl ?_
   refine AHh rfl rfl rfl rfl C ?_
   rintro e W4 (⟨rfl,c,Z⟩|⟨rfl,A⟩)
   . refine⟨_,rfl,?_⟩
     refine Rgi.val (.bool false) rfl rfl rfl rfl (fun a I=>by simp[execOp,I.eval (x:=.tmp 17) rfl,Op.unary]) ?_
     refine Rgi.nil ?_
     refine ABA rfl ?_
     refine P5 ?_
     refine A8 ?_
     refine J3 l3 rfl ?_
     refine AMU rfl rfl rfl (InK.i64.2 (by omega)) ?_
     refine G7 rfl rfl ?_
     refine Reg.nil ⟨rfl,(_,m,k+1),?_,Sub.refl _,by dsimp only;omega⟩
     exact⟨⟨l0,l1,rfl⟩,Nat.le_of_succ_le hi,U,T,by rw[K];exact c,AOk id E Z⟩
   . refine⟨_,rfl,?_⟩
     refine Rgi.val (.bool true) rfl rfl rfl rfl (fun a I=>by simp[execOp,I.eval (x:=.tmp 17) rfl,Op.unary]) ?_
     refine Rgi.nil ?_
     refine ACM rfl ?_
     refine K6 ?_
     exact O _ _ _ (K▸List.take_prefix _ _) A
 . have Y:¬(0:Int)<=(i:Int)-1:=by simpa using Y
   obtain rfl:i=0:=by omega
   have U:zs.length<=k:=by
    have:=AX9 List.length H;simp[bwN]at this;omega
   refine AA9 (T7 ?_)
   refine N8 (rs:=[]) (vs:=[]) rfl .nil rfl ⟨⟨_,rfl⟩,.inl ⟨zs,rfl,?_⟩⟩
   rwa [AYk U]at D
theorem C47{M:List Nat}{w:World}(V:MLt M w){l:List Asked}{vd:Value}(J:OkD (P:=prog) M w (.sl (.st 5)) l vd):Calls prog 47 (toArray [vd]) w fun e w'=>∃p1,e=.returned (.func (.func 85) #[] #[p1])/\Ok (P:=prog) (fun _=>undef) (fun _=>none) M w' (.rp (.dat (.sl (.st 5)) l) 0) p1/\Ext w w':=by
 have I:=J;obtain⟨sa,c,hv,_⟩:=(OkD.rds J);subst hv;refine G6 (l:=[_]) (fn:=Tryz.f47) func47 rfl rfl rfl ?_;have W:=Hp.start (Mu:=[]) V;refine A6 ?_;refine A8 ?_;refine AAD W rfl rfl rfl ?_;intro b w2 H x2;have U:=H.freezeRow 0 rfl;have H:=H.erase 0;refine G7 rfl rfl ?_;refine Reg.nil ?_;refine A6 ?_;refine A8 ?_;refine ADz (xs:=[.tmp 1]) rfl rfl ?_;refine G7 rfl rfl ?_;refine Reg.nil ?_;refine K6 ?_;exact N8 (rs:=[.tmp 2]) (vs:=[_]) rfl (.cons (.tmp rfl) .nil) rfl ⟨.pointer (some ⟨b,0,none⟩),rfl,⟨b,0,_,_,rfl,U,⟨rfl,OkD.adv I (Adv.of_ext H.kp)⟩,rfl⟩,H.kp⟩
open Classical in
def U2(l:List Asked):Option (List (Int×Asked)):=if ∀y∈bwN l l.length,ADK [.int .i64,.st 5] y then some (bwN l l.length) else none
def N3(_:Unit)(n:Int):Option (List Report):=if 0<=n/\n*64<=140737488355328 then some [] else none
def ctr120:Ctr:=⟨[.nl,.d (.int .i64)],[.own (.sl 45 (.st 1))],fun a=>N3 a.1 a.2.1⟩
theorem AR8(M:List Nat)(w:World)(n:Nat)(O:n*64<=140737488355328):Calls prog 120 #[.slice none 0 0,.int .i64 n] w fun e w'=>∃v,e=.returned v/\(Sx.Own ReportE 45 0 M w' v ([]:List Report)/\∀b∈ob v,w.heap.size<=b)/\Ext w w':=by
 rcases Nat.eq_zero_or_pos n with rfl|K
 . have h:=Any8.slices_Grow_room AE1 none 0 0 0 w (AYE _) (by decide) (by decide) (AYE _);change Calls prog 120 _ _ _ at h;refine h.mono ?_;rintro e w' ⟨rfl,rfl⟩;exact⟨_,rfl,⟨.inl ⟨none,rfl,rfl⟩,fun b I=>by cases I⟩,Kp.refl _ _⟩
 . obtain⟨i0,z,F,E,D,C,W⟩:=rsl24.info;have h:=Any8.slices_Grow_grow AE1 i0 z F E (by rw[D];decide) none 0 0 n [] w (AYE _) (by omega) (by rw[C];omega) (by omega) (by simp) (fun _=>rfl) (fun a U=>by cases U);change Calls prog 120 _ _ _ at h;refine h.mono ?_;have V:=grownCap_ge w (0+n) 0 45;have H:=grownCap_le_maxLen w (0+n) 0 45 (by unfold maxLen;omega);change ∀e w',e=Ending.returned (.slice (some ⟨w.heap.size,0,none⟩) 0 (grownCap w (0+n) 0 45))/\w'=w.drew.alloc (.cells (([]:List Value).toArray++Builtin.zeroCells z.cells (0+n-0)++Builtin.zeroCells z.cells (grownCap w (0+n) 0 45-(0+n))) 45)->_;generalize grownCap w (0+n) 0 45=G at V H;rintro e w' ⟨rfl,rfl⟩;obtain⟨c,rfl⟩:∃c,G=c+1:=⟨G-1,by omega⟩;have J:z.cells.size=8:=W;refine⟨_,rfl,⟨.inr ⟨w.heap.size,c,_,rfl,AYh _,heap_alloc_new w.drew _,AYh _,H,?_,?_⟩,fun b I=>?_⟩,?_⟩
   . simp only[Array.size_append,List.size_toArray,size_zeroCells,J,List.length_nil];show _=(c+1)*8;omega
   . simp[Chunks]
   . have:b=w.heap.size:=by simpa[ob] using I
     omega
   . exact⟨rfl,rfl,rfl,by simp,fun k hk _=>Below.heap_alloc w.drew _ k hk,fun _=>Nat.le_succ _⟩
theorem ok120:Ctr.ok prog 120 ctr120:=by
 refine⟨by decide,fun M w a vals r E _ H I=>?_⟩;obtain⟨v,q,rfl,hv,H⟩:=H;have hv:v=.slice none 0 0:=hv;subst hv;obtain⟨v2,q2,rfl,J,H⟩:=H;have H:q2=[]:=H;subst H;obtain⟨cs,hi,V|⟨_,rfl⟩⟩:=J
 . cases V.1
 have key:∀m:Int,[v2]=[Value.int .i64 m]->N3 () m=some r->Calls prog 120 #[.slice none 0 0,v2] w fun e w'=>∃vs,e=.returned (ABs vs)/\KsOk (P:=prog) M (X7 ctr120.rs vs++M) w w' ctr120.rs r vs/\Ext w w':=fun m U I=>by
  obtain rfl:v2=Value.int .i64 m:=by simpa using U
  unfold N3 at I;split at I
  . rename_i D;cases I
    obtain⟨n,rfl⟩:∃n:Nat,m=n:=⟨m.toNat,by omega⟩;refine(AR8 M w n (by omega)).mono ?_;rintro e w' ⟨v,rfl,C,W⟩;exact⟨[v],rfl,⟨v,rfl,AN6 C⟩,W⟩
  . cases I
 exact key _ hi.1 I
end Go.Proofs.YtgioiejbphljoaaGreatDoor
end
