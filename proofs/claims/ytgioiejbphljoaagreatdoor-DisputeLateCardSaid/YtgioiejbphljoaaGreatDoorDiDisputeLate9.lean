/-
  Part DisputeLate 9 of the texts that the statement's proof stands on: what memory holds, how code is walked, what the functions reckon. In the order in which they build.
-/
import Derived.Shelf.Spec.SlicesGrow
import Derived.RangeFuncNested
import Derived.Test.YtgioiejbphljoaaGreatDoorDiDisputeLate8
set_option linter.unusedVariables false
set_option linter.unusedSectionVars false
set_option maxRecDepth 20000
set_option maxHeartbeats 4000000
namespace Go.Rx
open Go Go.Sx Go.RowKit
section
variable [Trk]
theorem AOS (htk:¬ Trk.t) {M:List Nat} {w W W':World} (h:Adv M M w W) (k:KI M w.heap.size W W'):Adv M M w W':=
 ⟨⟨k.1.trans h.kp.os,k.2.1.trans h.kp.tape,k.2.2.1.trans h.kp.output,Nat.le_trans h.kp.size k.2.2.2.1,fun b hb hn=>(k.2.2.2.2 b hb hn).trans (h.kp.block b hb hn),fun t=>absurd t htk⟩,fun b hb=>.inl hb⟩
theorem ARn {M:List Nat} {w W:World} (hM:MLt M w) (h:Adv M M w W):MLt M W:=fun b hb=>Nat.lt_of_lt_of_le (hM b hb) h.kp.size
end
section
variable [Trk] [Sg] [Sf] {P:Program} [Se P]
theorem AFS {ρ:Nat->Value} {R:Nat->Option AR} {M:List Nat} {w:World}:∀ {l:List (IntKind×Int)} {vs:List Value},OkL (P:=P) ρ R M w (l.map fun p=>.int p.1 p.2) vs->vs=(l.map fun p=>Value.int p.1 p.2)/\∀ p∈l,InK p.1 p.2
 |[],vs,h=>⟨h,fun _ h=>by cases h⟩
 |p :: l,vs,h=>by
  obtain⟨u,c,r,rfl,⟨rfl,hk⟩,h2,h3⟩:=h
  obtain⟨rfl,h4⟩:=AFS h3
  have h2:#[Value.int p.1 p.2]=List.toArray c:=h2
  have:c=[Value.int p.1 p.2]:=by simpa using h2.symm
  subst this
  exact⟨rfl,fun q hq=>(List.mem_cons.1 hq).elim (fun e=>by subst e;exact hk) (h4 q)⟩
end
end Go.Rx
namespace Go.Sx
open Go Go.RowKit
variable [Trk]
theorem AIV {n:Nat} {P:Program} {N:Nat} {ops:Array Oper} {rest:List Oper} {ds:List Deferred} {L:A7} {w:World} {A B:A3} {X:Nat->A3} {Z:List PanicEntry->A3} {d e b o m:Nat} {x:Operand} {cs:List Value} {ty:TypeId} {pos:String} {af:Array Edge} (hx:ev L x=some (.pointer (some ⟨b,o,none⟩))) (hc:Cells w b o cs) (he:∀ w,(isAgg e).run P w=.ok true w) (hn:cs.length=m) (hz:∀ w,(sizeOf e).run P w=.ok m w) (hN:Nat.blt d N=true)
  (h:Rgi n P N ops rest ds ((d,.agg cs.toArray) :: L) w A B X Z):Rgi n P N ops (⟨some d,.load e x,ty,pos,af,none⟩ :: rest) ds L w A B X Z:=by
 subst hn
 refine Rgi.val _ rfl rfl hN rfl (fun a ha=>?_) h
 have:=run_loadCells_list (P:=P) w ⟨b,o,none⟩ cs (fun j v hj=>by rw[add_none];exact hc j v hj)
 have h9:=ha.eval hx
 simp[execOp,h9,Instr.loadAt,Instr.sureAddr,loadVar,he,hz,this]
end Go.Sx
namespace Go.Proofs.YtgioiejbphljoaaGreatDoor
open Go Go.Sx Go.Rx Go.RowKit
noncomputable def AFT (d:Desk_99) (day:Int):List Dispute->Option (List (Dispute×Verdict))
 |[]=>some []
 |x :: l=>Option.bind (F3 d x day) fun r=>Option.bind (AFT d day l) fun ys=>some (if 3<=r.1 then (x,r.2) :: ys else ys)
theorem AFU {α:Type} {l:List α} {i:Nat} (h:i < l.length):l.drop i=l[i] :: l.drop (i+1):=List.drop_eq_getElem_cons h
theorem ATl:GxOk Tryz.prog { gxb with fs:=[(57,ctr57)] }:=B1 ⟨⟨ok57,Tryz.call57⟩,trivial⟩
theorem AK0 {α:Type} {l:List α} {n:Nat} {x:α} (h:l[n]?=some x):l.take (n+1)=l.take n++[x]:=by
 rw[List.take_add_one,h];rfl
def AQY (d:Desk_99) (day:Int) (l:List Dispute) (i:Int):List (Nat×SV):=[(1,.rp (.str 10 d) 0),(2,.rp (.int .i64 day) 0),(10,.dat (.sl (.st 2)) l),(12,.int .i64 i)]
theorem AEs (n:Nat) {M:List Nat} {w:World} (hM:MLt M w) (hg:GlOk (P:=Tryz.prog) M w) {d:Desk_99} {day:Int} {v1 v2:Value} (h1:Ok (P:=Tryz.prog) (fun _=>undef) (fun _=>none) M w (.rp (.str 10 d) 0) v1) (h2:Ok (P:=Tryz.prog) (fun _=>undef) (fun _=>none) M w (.rp (.int .i64 day) 0) v2) {ys:List (Dispute×Verdict)} (hd:AFT d day d.desk.disputes=some ys) {α:Type} (val:α->Dispute×Verdict) (zs:List α) (hzs:zs.map val=ys) :
  SeqStopsK Fence.wide n Tryz.prog 84 #[v1,v2] (fun x=>#[J8 (.st 2) (val x).1,J8 (.st 12) (val x).2]) (KI M w.heap.size) (fun ys=>ys=zs) (fun pre=>pre <+: zs) zs.length w:=by
 intro lp J Jx W hW hJ _ hY h0
 have hE:Ext w W:=ABw hW (fun h=>h)
 have hA0:Adv M M w W:=Adv.of_ext hE
 subst hzs
 obtain⟨b,o0,u,vs,rfl,hc,hu,hcu⟩:=id h1
 obtain⟨v10,hv10,hk10⟩:∃ v10,vs[4]?=some v10/\Ok (P:=Tryz.prog) (fun _=>undef) (fun _=>none) M w (.dat (.sl (.st 2)) d.desk.disputes) v10:=by
  rcases AER (G:=gxb) (t:=25) (o:=4) (v:=.str 10 d) (s:=.dat (.sl (.st 2)) d.desk.disputes) rfl hu with⟨_,y,h3,h4⟩|⟨n,cs,h3,_⟩
  . rw[hcu] at h3;exact⟨y,h3,h4⟩
  . cases h3
 have hds:=OkD.rds hk10.2
 obtain⟨a10,c10,hv,hlen,hle⟩:=hds.shape
 subst hv
 refine callsIn_wide.2 ?_
 let R:Ending->World->Prop:=fun e W'=>(∃ v,e=.returned v)/\((∃ xs,xs=zs/\J xs W')\/(∃ pre,pre <+: zs/\Jx pre W'))
 have hret:∀ (pre:List α) (L:Sx.A7) (W':World),pre <+: zs->Jx pre W'->ABL Tryz.prog Tryz.f84 R [] L W':=fun pre L W' h1 h2=>M9 (rs:=[]) (vs:=[]) rfl .nil rfl ⟨⟨_,rfl⟩,.inr ⟨pre,h1,h2⟩⟩
 refine F9 (l:=[.func (.yield lp) #[] #[],.pointer (some ⟨b,o0+0,none⟩),v2]) (fn:=Tryz.f84) Tryz.func84 rfl rfl rfl ?_
 refine A6 ?_
 refine A9 ?_
 refine ABM rfl Tryz.underlying99 rfl Tryz.sizeOf28 rfl ?_
 refine ABM rfl Tryz.underlying28 rfl Tryz.sizeOf25 rfl ?_
 refine V0 rfl ((hc.adv hA0).cells.at 4 hv10) Tryz.isAgg25 rfl ?_
 refine AEy rfl Tryz.underlying25 rfl ?_
 refine H9 rfl rfl ?_
 refine Reg.nil ?_
 refine G5 ?_
 let ls:=d.desk.disputes
 have hlen_:InK .i64 ((ls.length:Nat):Int):=hds.inK
 refine ABK (ι:=A7×Nat×Nat) (fun q=>q.1) (fun q W'=>(Sx.A5 q.1 0=some (.func (.yield lp) #[] #[])/\Sx.A5 q.1 1=some (.pointer (some ⟨b,o0+0,none⟩))/\Sx.A5 q.1 2=some v2/\Sx.A5 q.1 10=some (.slice a10 ls.length c10)/\Sx.A5 q.1 11=some (.int .i64 (ls.length:Nat))/\Sx.A5 q.1 12=some (.int .i64 (q.2.1:Nat)))/\q.2.1<=ls.length/\AFT d day (ls.drop q.2.1)=some ((zs.drop q.2.2).map val)/\q.2.2<=zs.length/\J (zs.take q.2.2) W'/\Adv M M w W') (fun q=>ls.length - q.2.1) (_,0,0) ⟨⟨rfl,rfl,rfl,rfl,rfl,rfl⟩,Nat.zero_le _,by simpa using hd,Nat.zero_le _,by simpa using h0,hA0⟩ (Sub.refl _) ?_
 rintro⟨L,i,k⟩ W1 ⟨⟨l0,l1,l2,l10,l11,l12⟩,hi,hdi,hk,hJi,hA1⟩
 dsimp only at l0 l1 l2 l10 l11 l12 hi hdi hk hJi ⊢
 refine A6 ?_
 refine A9 ?_
 refine AG6 l12 l11 rfl ?_
 refine Reg.nil ?_
 refine A6 ?_
 refine AAC (by show Sx.A5 ((13,_) :: L) 13=_;rw[look_cons,if_pos rfl]) (fun hlt=>?_) (fun hge=>?_)
 . have hlt:i < ls.length:=by simpa using hlt
   rw[AFU hlt] at hdi
   obtain⟨r,hr,hdi⟩:=Q1 hdi
   obtain⟨ys',hys',hdi⟩:=Q1 hdi
   have hdi:=Option.some.inj hdi
   refine O6 ?_
   refine A6 ?_
   refine G5 ?_
   have hst:Holds (P:=Tryz.prog) W1 [] M ⟨AQY d day ls i,[],[],[]⟩ ((13,.bool (decide ((i:Int) < (ls.length:Int)))) :: L) W1:=by
    refine Holds.start (ARn hM hA1) (fun t s ht=>?_) ⟨trivial,hg.adv hA1⟩
    unfold AQY at ht
    rw[fnd_cons] at ht
    split at ht
    . rename_i e;subst e;cases ht;exact⟨_,(by rw[look_cons,if_neg (by decide)];exact l1),Ok.adv hA1 _ h1⟩
    rw[fnd_cons] at ht
    split at ht
    . rename_i e;subst e;cases ht;exact⟨_,(by rw[look_cons,if_neg (by decide)];exact l2),Ok.adv hA1 _ h2⟩
    rw[fnd_cons] at ht
    split at ht
    . rename_i e;subst e;cases ht;exact⟨_,(by rw[look_cons,if_neg (by decide)];exact l10),Ok.adv hA1 _ hk10⟩
    rw[fnd_cons] at ht
    split at ht
    . rename_i e;subst e;cases ht;exact⟨_,(by rw[look_cons,if_neg (by decide)];exact l12),rfl,InK.i64.2 (by rw[InK.i64] at hlen_;omega)⟩
    cases ht
   have hix:ixo ls (i:Int)=some ls[i]:=AHE (List.getElem?_eq_getElem hlt)
   refine A6 ?_
   refine ABH ATl hst hix rfl rfl fun L2 W2 hE2 hst2=>?_
   refine A6 ?_
   refine ABH ATl hst2 hr rfl rfl fun L3 W3 hE3 hst3=>?_
   obtain⟨S,ρ,γ,μ,ι,hS⟩:=hst3
   have hex:Ext W1 W3:=hS.hp.kp
   obtain⟨v5,l5,b5,hb5,rfl⟩:=hS.env 5 (.ptr 5 0) rfl
   obtain⟨v7,l7,b7,hb7,rfl⟩:=hS.env 7 (.ptr 7 0) rfl
   obtain⟨v6,l6,rfl,hk6⟩:=hS.env 6 (.int .u8 r.1) rfl
   obtain⟨c5,hc5,hr5,ho5,_⟩:=hS.rowAt (i:=5) rfl
   obtain⟨c7,hc7,hr7,ho7,_⟩:=hS.rowAt (i:=7) rfl
   rw[hb5] at hc5;cases hc5
   rw[hb7] at hc7;cases hc7
   obtain⟨hg5,_⟩:=AFS (l:=[(.i64,ls[i].id),(.i64,ls[i].report),(.i64,ls[i].day)]) ho5
   obtain⟨hg7,_⟩:=AFS (l:=[(.i64,r.2.day),(.u8,r.2.is_),(.i64,r.2.by_.id),(.i64,r.2.by_.dispute),(.i64,r.2.by_.day),(.u8,r.2.by_.says),(.i64,r.2.by_.about),(.i64,r.2.by_.cents)]) ho7
   rw[hg5] at hr5
   rw[hg7] at hr7
   have hJ3:J (zs.take k) W3:=hJ _ _ _ none hJi (Ext.grownBy hex) (fun r hr=>by cases hr)
   have hA3:Adv M M w W3:=hA1.trans (Adv.of_ext hex)
   have look3:∀ t,t∉[5,6,7,13,14,15,16,17,18,19,20,21,22]->Sx.A5 L3 t=Sx.A5 L t:=fun t ht=>by
    rw[hE3 t (fun h=>ht ((by decide:∀ u∈C2 _,u∈[5,6,7,13,14,15,16,17,18,19,20,21,22]) t h)),hE2 t (fun h=>ht ((by decide:∀ u∈C2 _,u∈[5,6,7,13,14,15,16,17,18,19,20,21,22]) t h)),look_cons,if_neg (fun e=>ht (by subst e;decide))]
   have q0:=(look3 0 (by decide)).trans l0
   have q1:=(look3 1 (by decide)).trans l1
   have q2:=(look3 2 (by decide)).trans l2
   have q10:=(look3 10 (by decide)).trans l10
   have q11:=(look3 11 (by decide)).trans l11
   have q12:=(look3 12 (by decide)).trans l12
   clear look3 hE2 hE3 hS hst2 hst
   clear_value ls
   have add1:InK .i64 ((i:Int)+1):=InK.i64.2 (by rw[InK.i64] at hlen_;omega)
   refine A6 ?_
   refine AH6 n ?_
   refine Rgi.val (.int .u8 r.1) rfl rfl rfl rfl (fun a ha=>by simp[execOp,ha.eval (x:=.tmp 6) l6]) ?_
   refine Rgi.val (.bool (decide (3<=r.1))) rfl rfl rfl rfl (fun a ha=>by
    have h9:=ha.eval (x:=.tmp 23) (v:=.int .u8 r.1) rfl
    have h8:=ha.eval (x:=.const (.int .u8 3)) (v:=.int .u8 3) rfl
    simp[execOp,h9,h8,eqGuard_geq,binOp_geq]) ?_
   refine Rgi.val (.bool (decide (3<=r.1))) rfl rfl rfl rfl (fun a ha=>by
    simp[execOp,ha.eval (x:=.tmp 24) (v:=.bool (decide (3<=r.1))) rfl]) ?_
   have look4:∀ {p q u:Value} (t:Nat),t∉[23,24,25]->Sx.A5 ((25,p) :: (24,q) :: (23,u) :: L3) t=Sx.A5 L3 t:=fun t ht=>by
    rw[look_cons,if_neg (fun e=>ht (by subst e;decide)),look_cons,if_neg (fun e=>ht (by subst e;decide)),look_cons,if_neg (fun e=>ht (by subst e;decide))]
   have m0:=(look4 (p:=.bool (decide (3<=r.1))) (q:=.bool (decide (3<=r.1))) (u:=.int .u8 r.1) 0 (by decide)).trans q0
   have m1:=(look4 (p:=.bool (decide (3<=r.1))) (q:=.bool (decide (3<=r.1))) (u:=.int .u8 r.1) 1 (by decide)).trans q1
   have m2:=(look4 (p:=.bool (decide (3<=r.1))) (q:=.bool (decide (3<=r.1))) (u:=.int .u8 r.1) 2 (by decide)).trans q2
   have m5:=(look4 (p:=.bool (decide (3<=r.1))) (q:=.bool (decide (3<=r.1))) (u:=.int .u8 r.1) 5 (by decide)).trans l5
   have m7:=(look4 (p:=.bool (decide (3<=r.1))) (q:=.bool (decide (3<=r.1))) (u:=.int .u8 r.1) 7 (by decide)).trans l7
   have m10:=(look4 (p:=.bool (decide (3<=r.1))) (q:=.bool (decide (3<=r.1))) (u:=.int .u8 r.1) 10 (by decide)).trans q10
   have m11:=(look4 (p:=.bool (decide (3<=r.1))) (q:=.bool (decide (3<=r.1))) (u:=.int .u8 r.1) 11 (by decide)).trans q11
   have m12:=(look4 (p:=.bool (decide (3<=r.1))) (q:=.bool (decide (3<=r.1))) (u:=.int .u8 r.1) 12 (by decide)).trans q12
   have m25:Sx.A5 ((25,Value.bool (decide (3<=r.1))) :: (24,.bool (decide (3<=r.1))) :: (23,.int .u8 r.1) :: L3) 25=some (.bool (decide (3<=r.1))):=by rw[look_cons,if_pos rfl]
   generalize ((25,Value.bool (decide (3<=r.1))) :: (24,.bool (decide (3<=r.1))) :: (23,.int .u8 r.1) :: L3)=L4 at m0 m1 m2 m5 m7 m10 m11 m12 m25
   by_cases h3:3<=r.1
   . rw[decide_eq_true h3] at m25
     rw[if_pos h3] at hdi
     obtain⟨z,hz,hzs,hkz⟩:∃ z,zs[k]?=some z/\val z=(ls[i],r.2)/\ys'=(zs.drop (k+1)).map val:=by
      rcases Nat.lt_or_ge k zs.length with h|h
      . rw[AFU h,List.map_cons,List.cons.injEq] at hdi
        exact⟨zs[k],List.getElem?_eq_getElem h,hdi.1.symm,hdi.2⟩
      . rw[List.drop_of_length_le h] at hdi
        cases hdi
     have hklt:k < zs.length:=(List.getElem?_eq_some_iff.1 hz).1
     have htk:=AK0 hz
     have hY3:=hY (zs.take k) z W3 hJ3 (by rw[List.length_take];omega)
     dsimp only at hY3
     rw[hzs] at hY3
     refine Rgi.take (t:=25) rfl m25 ?_
     refine Rgi.val (.func (.yield lp) #[] #[]) rfl rfl rfl rfl (fun a ha=>by simp[execOp,ha.eval (x:=.tmp 0) m0]) ?_
     refine Rgi.take (t:=25) rfl m25 ?_
     refine AIV m5 hr5.rd.cells Tryz.isAgg53 rfl Tryz.sizeOf53 rfl ?_
     refine Rgi.take (t:=25) rfl m25 ?_
     refine AIV m7 hr7.rd.cells Tryz.isAgg111 rfl Tryz.sizeOf111 rfl ?_
     refine Rgi.take (t:=25) rfl m25 ?_
     refine AHs rfl rfl rfl rfl hY3 ?_
     rintro e W4 (⟨rfl,hJ4,hk4⟩|⟨rfl,hJx4⟩)
     . refine⟨_,rfl,?_⟩
       refine Rgi.take (t:=25) rfl m25 ?_
       refine Rgi.val (.bool false) rfl rfl rfl rfl (fun a ha=>by simp[execOp,ha.eval (x:=.tmp 29) rfl,Op.unary]) ?_
       refine Rgi.val (.bool false) rfl rfl rfl rfl (fun a ha=>by
        have h9:=ha.eval (x:=.tmp 25) (v:=.bool true) m25
        simp[execOp,h9,ha.eval (x:=.tmp 30) rfl,asBool]) ?_
       refine Rgi.nil ?_
       refine ABJ rfl ?_
       refine O6 ?_
       refine A9 ?_
       refine AG7 m12 rfl rfl add1 ?_
       refine H9 rfl rfl ?_
       refine Reg.nil ⟨rfl,(_,i+1,k+1),?_,Sub.refl _,by dsimp only;omega⟩
       exact⟨⟨m0,m1,m2,m10,m11,rfl⟩,hlt,by rw[<-hkz];exact hys',hklt,by rw[htk];exact hJ4,AOS id hA3 hk4⟩
     . refine⟨_,rfl,?_⟩
       refine Rgi.take (t:=25) rfl m25 ?_
       refine Rgi.val (.bool true) rfl rfl rfl rfl (fun a ha=>by simp[execOp,ha.eval (x:=.tmp 29) rfl,Op.unary]) ?_
       refine Rgi.val (.bool true) rfl rfl rfl rfl (fun a ha=>by
        have h9:=ha.eval (x:=.tmp 25) (v:=.bool true) m25
        simp[execOp,h9,ha.eval (x:=.tmp 30) rfl,asBool]) ?_
       refine Rgi.nil ?_
       refine ACV rfl ?_
       refine J0 ?_
       exact hret _ _ _ (htk▸List.take_prefix _ _) hJx4
   . rw[decide_eq_false h3] at m25
     rw[if_neg h3] at hdi
     refine Rgi.pass (t:=25) rfl rfl m25 rfl ?_
     refine Rgi.pass (t:=25) rfl rfl m25 rfl ?_
     refine Rgi.pass (t:=25) rfl rfl m25 rfl ?_
     refine Rgi.pass (t:=25) rfl rfl m25 rfl ?_
     refine Rgi.pass (t:=25) rfl rfl m25 rfl ?_
     refine Rgi.val (.bool false) rfl rfl rfl rfl (fun a ha=>by
      have h9:=ha.eval (x:=.tmp 25) (v:=.bool false) m25
      have h8:=ha.eval (x:=.const (.bool false)) (v:=.bool false) rfl
      simp[execOp,h9,h8,asBool]) ?_
     refine Rgi.nil ?_
     refine ABJ rfl ?_
     refine O6 ?_
     refine A9 ?_
     refine AG7 m12 rfl rfl add1 ?_
     refine H9 rfl rfl ?_
     refine Reg.nil ⟨rfl,(_,i+1,k),?_,Sub.refl _,by dsimp only;omega⟩
     exact⟨⟨m0,m1,m2,m10,m11,rfl⟩,hlt,by rw[<-hdi];exact hys',hk,hJ3,hA3⟩
 . have hge:¬ i < ls.length:=by simpa using hge
   obtain rfl:i=ls.length:=by omega
   rw[List.drop_length] at hdi
   have hdi:=Option.some.inj hdi
   have hkz:zs.length<=k:=by
    have:=congrArg List.length hdi
    simp at this
    omega
   refine ABI (S8 ?_)
   refine M9 (rs:=[]) (vs:=[]) rfl .nil rfl ⟨⟨_,rfl⟩,.inl ⟨zs,rfl,?_⟩⟩
   rwa [List.take_of_length_le hkz] at hJi
theorem C45 {M:List Nat} {w:World} (hM:MLt M w) {d:Desk_99} {day:Int} {vd:Value} (hvd:OkD (P:=Tryz.prog) M w (.st 10) d vd) (hkd:InK .i64 day):Calls Tryz.prog 45 (List.toArray [vd,.int .i64 day]) w fun e w'=>∃ p1 p2,e=.returned (.func (.func 84) #[] #[p1,p2])/\Ok (P:=Tryz.prog) (fun _=>undef) (fun _=>none) M w' (.rp (.str 10 d) 0) p1/\Ok (P:=Tryz.prog) (fun _=>undef) (fun _=>none) M w' (.rp (.int .i64 day) 0) p2/\Ext w w':=by
 have hvd0:=hvd
 obtain⟨cs,h1,h3⟩:=hvd
 obtain rfl:vd=.agg (List.toArray cs):=h3.elim (fun h=>h.2) fun h=>by cases h.1
 refine F9 (l:=[.agg (List.toArray cs),.int .i64 day]) (fn:=Tryz.f45) Tryz.func45 rfl rfl rfl ?_
 have hI:=Hp.start (Mu:=[]) hM
 refine A6 ?_
 refine A9 ?_
 refine AAE hI rfl rfl rfl ?_
 intro b w2 hI2 x2
 have hC2:=hI2.freezeRow 0 rfl
 have hI2:=hI2.erase 0
 refine AAE hI2 rfl rfl rfl ?_
 intro b3 w3 hI3 x3
 have hC3:=hI3.freezeRow 0 rfl
 have hI3':=hI3.erase 0
 have x3':Adv (mm [] M) (mm [] M) w2 w3:=x3.trans (F8 (σ:=[_]) 0)
 refine G0 rfl rfl ?_
 refine Reg.nil ?_
 refine A6 ?_
 refine A9 ?_
 refine AD6 (xs:=[.tmp 2,.tmp 3]) rfl rfl ?_
 refine G0 rfl rfl ?_
 refine Reg.nil ?_
 refine J0 ?_
 exact M9 (rs:=[.tmp 4]) (vs:=[_]) rfl (.cons (.tmp rfl) .nil) rfl ⟨.pointer (some ⟨b,0,none⟩),.pointer (some ⟨b3,0,none⟩),rfl,⟨b,0,_,_,rfl,hC2.adv x3',OkD.adv hvd0 (Adv.of_ext hI3'.kp),rfl⟩,⟨b3,0,_,_,rfl,hC3,⟨rfl,hkd⟩,rfl⟩,hI3'.kp⟩
open Classical in
noncomputable def C4 (d:Desk_99) (day:Int):Option (List (Dispute×Verdict)):=Option.bind (AFT d day d.desk.disputes) fun ys=>if ∀ y∈ys,ADT [.st 2,.st 12] y then some ys else none
noncomputable def AVs:Ctr:=⟨[.d (.st 10),.d (.int .i64)],[.it [.st 2,.st 12]],fun a=>C4 a.1 a.2.1⟩
theorem ok45:Ctr.ok Tryz.prog 45 AVs:=by
 refine⟨by decide,fun M w a vals r hM hg ha hr=>?_⟩
 obtain⟨d,day,_⟩:=a
 obtain⟨vd,_,rfl,hvd,⟨vk,_,rfl,hvk,rfl⟩⟩:=ha
 have hvd:OkD (P:=Tryz.prog) M w (.st 10) d vd:=hvd
 have hr:C4 d day=some r:=hr
 obtain⟨rfl,hkd⟩:vk=.int .i64 day/\InK .i64 day:=by
  have h:OkD (P:=Tryz.prog) M w (.int .i64) day vk:=hvk
  exact D6 (ρ:=fun _=>undef) (R:=fun _=>none) (.int .i64) h
 unfold C4 at hr
 obtain⟨ys,hys,hr⟩:=Q1 hr
 split at hr
 . rename_i hok
   cases hr
   have hvd0:=hvd
   obtain⟨cs,h1,h3⟩:=hvd
   obtain rfl:vd=.agg (List.toArray cs):=h3.elim (fun h=>h.2) fun h=>by cases h.1
   refine F9 (l:=[.agg (List.toArray cs),.int .i64 day]) (fn:=Tryz.f45) Tryz.func45 rfl rfl rfl ?_
   have hI:=Hp.start (Mu:=[]) hM
   refine A6 ?_
   refine A9 ?_
   refine AAE hI rfl rfl rfl ?_
   intro b w2 hI2 x2
   have hC2:=hI2.freezeRow 0 rfl
   have hI2:=hI2.erase 0
   refine AAE hI2 rfl rfl rfl ?_
   intro b3 w3 hI3 x3
   have hC3:=hI3.freezeRow 0 rfl
   have hI3':=hI3.erase 0
   have x3':Adv (mm [] M) (mm [] M) w2 w3:=x3.trans (F8 (σ:=[_]) 0)
   refine G0 rfl rfl ?_
   refine Reg.nil ?_
   refine A6 ?_
   refine A9 ?_
   refine AD6 (xs:=[.tmp 2,.tmp 3]) rfl rfl ?_
   refine G0 rfl rfl ?_
   refine Reg.nil ?_
   refine J0 ?_
   refine M9 (rs:=[.tmp 4]) (vs:=[_]) rfl (.cons (.tmp rfl) .nil) rfl ⟨[_],rfl,⟨_,rfl,⟨_,_,rfl,Tryz.call84,hok,fun M1 w1 hA hM1 α val zs hzs=>?_⟩,rfl,rfl⟩,hI3'.kp⟩
   exact AEs 2 hM1 ((hg.adv (Adv.of_ext hI3'.kp)).adv hA) (v1:=.pointer (some ⟨b,0,none⟩)) (v2:=.pointer (some ⟨b3,0,none⟩)) ⟨b,0,_,_,rfl,(hC2.adv x3').adv hA,OkD.adv hvd0 ((Adv.of_ext hI3'.kp).trans hA),rfl⟩ ⟨b3,0,_,_,rfl,hC3.adv hA,⟨rfl,hkd⟩,rfl⟩ hys val zs hzs
 . cases hr
def bwN (l:List Asked):Nat->List (Int×Asked)
 |0=>[]
 |n+1=>match l[n]? with
  |some x=>((n:Int),x) :: bwN l n
  |none=>bwN l n
theorem AIW (n:Nat) {M:List Nat} {w:World} (hM:MLt M w) (hg:GlOk (P:=Tryz.prog) M w) {l:List Asked} {v1:Value} (h1:Ok (P:=Tryz.prog) (fun _=>undef) (fun _=>none) M w (.rp (.dat (.sl (.st 5)) l) 0) v1) {α:Type} (val:α->Int×Asked) (zs:List α) (hzs:zs.map val=bwN l l.length) :
  SeqStopsK Fence.wide n Tryz.prog 85 #[v1] (fun x=>#[J8 (.int .i64) (val x).1,J8 (.st 5) (val x).2]) (KI M w.heap.size) (fun ys=>ys=zs) (fun pre=>pre <+: zs) zs.length w:=by
 intro lp J Jx W hW hJ _ hY h0
 have hE:Ext w W:=ABw hW (fun h=>h)
 have hA0:Adv M M w W:=Adv.of_ext hE
 obtain⟨b,o0,u,vs,rfl,hc,hu,hcu⟩:=id h1
 have hds:=OkD.rds hu.2
 obtain⟨a10,c10,rfl,hlen,hle⟩:=hds.shape
 obtain rfl:vs=[.slice a10 l.length c10]:=by
  have h:#[Value.slice a10 l.length c10]=List.toArray vs:=hcu
  simpa using h.symm
 have hlen_:InK .i64 ((l.length:Nat):Int):=hds.inK
 rw[InK.i64] at hlen_
 refine callsIn_wide.2 ?_
 let R:Ending->World->Prop:=fun e W'=>(∃ v,e=.returned v)/\((∃ xs,xs=zs/\J xs W')\/(∃ pre,pre <+: zs/\Jx pre W'))
 have hret:∀ (pre:List α) (L:Sx.A7) (W':World),pre <+: zs->Jx pre W'->ABL Tryz.prog Tryz.f85 R [] L W':=fun pre L W' h1 h2=>M9 (rs:=[]) (vs:=[]) rfl .nil rfl ⟨⟨_,rfl⟩,.inr ⟨pre,h1,h2⟩⟩
 refine F9 (l:=[.func (.yield lp) #[] #[],.pointer (some ⟨b,o0+0,none⟩)]) (fn:=Tryz.f85) Tryz.func85 rfl rfl rfl ?_
 refine A6 ?_
 refine A9 ?_
 refine V0 rfl ((hc.adv hA0).cells.at 0 rfl) Tryz.isAgg29 rfl ?_
 refine AEy rfl Tryz.underlying29 rfl ?_
 refine AMH rfl rfl rfl (InK.i64.2 (by omega)) ?_
 refine G0 rfl rfl ?_
 refine Reg.nil ?_
 refine G5 ?_
 refine ABK (ι:=A7×Nat×Nat) (fun q=>q.1) (fun q W'=>(Sx.A5 q.1 0=some (.func (.yield lp) #[] #[])/\Sx.A5 q.1 1=some (.pointer (some ⟨b,o0+0,none⟩))/\Sx.A5 q.1 3=some (.int .i64 ((q.2.1:Nat) - 1:Int)))/\q.2.1<=l.length/\bwN l q.2.1=(zs.drop q.2.2).map val/\q.2.2<=zs.length/\J (zs.take q.2.2) W'/\Adv M M w W') (fun q=>q.2.1) (_,l.length,0) ⟨⟨rfl,rfl,rfl⟩,Nat.le_refl _,by simpa using hzs.symm,Nat.zero_le _,by simpa using h0,hA0⟩ (Sub.refl _) ?_
 rintro⟨L,i,k⟩ W1 ⟨⟨l0,l1,l3⟩,hi,hdi,hk,hJi,hA1⟩
 dsimp only at l0 l1 l3 hi hdi hk hJi ⊢
 refine A6 ?_
 refine A6 ?_
 refine A9 ?_
 refine H9 l3 rfl ?_
 refine AP4 rfl rfl rfl ?_
 refine Reg.nil ?_
 refine AAC rfl (fun hlt=>?_) (fun hge=>?_)
 . have hlt:0 < i:=by have:=of_decide_eq_true hlt;omega
   obtain⟨m,rfl⟩:∃ m,i=m+1:=⟨i - 1,by omega⟩
   have e3:(((m+1:Nat):Int) - 1)=(m:Int):=by omega
   rw[e3] at l3
   have hx:l[m]?=some l[m]:=List.getElem?_eq_getElem (by omega)
   simp only[bwN,hx] at hdi
   obtain⟨z,hz,hzs2,hkz⟩:∃ z,zs[k]?=some z/\val z=((m:Int),l[m])/\bwN l m=(zs.drop (k+1)).map val:=by
    rcases Nat.lt_or_ge k zs.length with h|h
    . rw[AFU h,List.map_cons,List.cons.injEq] at hdi
      exact⟨zs[k],List.getElem?_eq_getElem h,hdi.1.symm,hdi.2⟩
    . rw[List.drop_of_length_le h] at hdi
      cases hdi
   have hklt:k < zs.length:=(List.getElem?_eq_some_iff.1 hz).1
   have htk:=AK0 hz
   have hY3:=hY (zs.take k) z W1 hJi (by rw[List.length_take];omega)
   dsimp only at hY3
   rw[hzs2] at hY3
   obtain⟨b4,o4,c4,cs4,hv4,_,_,hR4,hC4⟩:=(hds.adv hA1).at m (Nat.lt_of_lt_of_le (Nat.lt_succ_self m) hi)
   cases hv4
   obtain⟨rfl,_⟩:=(AGu (x:=l[m])).1 hR4
   refine O6 ?_
   refine A6 ?_
   refine G5 ?_
   refine A6 ?_
   refine AH6 n ?_
   refine Rgi.val (.func (.yield lp) #[] #[]) rfl rfl rfl rfl (fun a ha=>by simp[execOp,ha.eval (x:=.tmp 0) l0]) ?_
   refine Rgi.val (.int .i64 (m:Int)) rfl rfl rfl rfl (fun a ha=>by simp[execOp,ha.eval (x:=.tmp 3) l3]) ?_
   refine Rgi.val (.slice (some ⟨b4,o4,none⟩) l.length c10) rfl rfl rfl rfl (fun a ha=>by
    have h9:=ha.eval (x:=.tmp 1) l1
    simp[execOp,h9,Instr.loadAt,Instr.sureAddr,loadVar,Tryz.isAgg29,show W1.cell? ⟨b,o0,none⟩=some (.slice (some ⟨b4,o4,none⟩) l.length c10) from (hc.adv hA1).cells.at 0 rfl]) ?_
   refine Rgi.val (.int .i64 (m:Int)) rfl rfl rfl rfl (fun a ha=>by simp[execOp,ha.eval (x:=.tmp 3) l3]) ?_
   refine Rgi.val (.pointer (some ⟨b4,o4+m * 4,none⟩)) rfl rfl rfl rfl (fun a ha=>by
    have h7:=ha.eval (x:=.tmp 13) (v:=.slice (some ⟨b4,o4,none⟩) l.length c10) rfl
    have h8:=ha.eval (x:=.tmp 14) (v:=.int .i64 (m:Int)) rfl
    have h3:(m:Int) < (l.length:Int):=by omega
    simp[execOp,h7,h8,Instr.indexAt,asIntOf,run_underlying Tryz.underlying29,h3,Tryz.sizeOf47,add_none]
    try (intro h9_;exact absurd h9_ (by omega))) ?_
   refine AIV rfl hC4 Tryz.isAgg47 rfl Tryz.sizeOf47 rfl ?_
   refine AHs rfl rfl rfl rfl hY3 ?_
   rintro e W4 (⟨rfl,hJ4,hk4⟩|⟨rfl,hJx4⟩)
   . refine⟨_,rfl,?_⟩
     refine Rgi.val (.bool false) rfl rfl rfl rfl (fun a ha=>by simp[execOp,ha.eval (x:=.tmp 17) rfl,Op.unary]) ?_
     refine Rgi.nil ?_
     refine ABJ rfl ?_
     refine O6 ?_
     refine A9 ?_
     refine H9 l3 rfl ?_
     refine AMH rfl rfl rfl (InK.i64.2 (by omega)) ?_
     refine G0 rfl rfl ?_
     refine Reg.nil ⟨rfl,(_,m,k+1),?_,Sub.refl _,by dsimp only;omega⟩
     exact⟨⟨l0,l1,rfl⟩,Nat.le_of_succ_le hi,hkz,hklt,by rw[htk];exact hJ4,AOS id hA1 hk4⟩
   . refine⟨_,rfl,?_⟩
     refine Rgi.val (.bool true) rfl rfl rfl rfl (fun a ha=>by simp[execOp,ha.eval (x:=.tmp 17) rfl,Op.unary]) ?_
     refine Rgi.nil ?_
     refine ACV rfl ?_
     refine J0 ?_
     exact hret _ _ _ (htk▸List.take_prefix _ _) hJx4
 . have hge:¬ (0:Int)<=(i:Int) - 1:=by simpa using hge
   obtain rfl:i=0:=by omega
   have hkz:zs.length<=k:=by
    have:=congrArg List.length hdi
    simp[bwN] at this
    omega
   refine ABI (S8 ?_)
   refine M9 (rs:=[]) (vs:=[]) rfl .nil rfl ⟨⟨_,rfl⟩,.inl ⟨zs,rfl,?_⟩⟩
   rwa [List.take_of_length_le hkz] at hJi
theorem C47 {M:List Nat} {w:World} (hM:MLt M w) {l:List Asked} {vd:Value} (hvd:OkD (P:=Tryz.prog) M w (.sl (.st 5)) l vd):Calls Tryz.prog 47 (List.toArray [vd]) w fun e w'=>∃ p1,e=.returned (.func (.func 85) #[] #[p1])/\Ok (P:=Tryz.prog) (fun _=>undef) (fun _=>none) M w' (.rp (.dat (.sl (.st 5)) l) 0) p1/\Ext w w':=by
 have hvd0:=hvd
 obtain⟨sa,c,hv,_⟩:=(OkD.rds hvd)
 subst hv
 refine F9 (l:=[_]) (fn:=Tryz.f47) Tryz.func47 rfl rfl rfl ?_
 have hI:=Hp.start (Mu:=[]) hM
 refine A6 ?_
 refine A9 ?_
 refine AAE hI rfl rfl rfl ?_
 intro b w2 hI2 x2
 have hC2:=hI2.freezeRow 0 rfl
 have hI2:=hI2.erase 0
 refine G0 rfl rfl ?_
 refine Reg.nil ?_
 refine A6 ?_
 refine A9 ?_
 refine AD6 (xs:=[.tmp 1]) rfl rfl ?_
 refine G0 rfl rfl ?_
 refine Reg.nil ?_
 refine J0 ?_
 exact M9 (rs:=[.tmp 2]) (vs:=[_]) rfl (.cons (.tmp rfl) .nil) rfl ⟨.pointer (some ⟨b,0,none⟩),rfl,⟨b,0,_,_,rfl,hC2,⟨rfl,OkD.adv hvd0 (Adv.of_ext hI2.kp)⟩,rfl⟩,hI2.kp⟩
open Classical in
noncomputable def T5 (l:List Asked):Option (List (Int×Asked)):=if ∀ y∈bwN l l.length,ADT [.int .i64,.st 5] y then some (bwN l l.length) else none
end Go.Proofs.YtgioiejbphljoaaGreatDoor
set_option maxRecDepth 20000
set_option maxHeartbeats 4000000
namespace Go.Proofs.YtgioiejbphljoaaGreatDoor
open Go Go.Sx Go.Rx Go.RowKit
def K4 (_:Unit) (n:Int):Option (List Report):=if 0<=n/\n * 64<=140737488355328 then some [] else none
def ctr120:Ctr:=⟨[.nl,.d (.int .i64)],[.own (.sl 45 (.st 1))],fun a=>K4 a.1 a.2.1⟩
theorem ARo (M:List Nat) (w:World) (n:Nat) (hc:n * 64<=140737488355328):Calls Tryz.prog 120 #[.slice none 0 0,.int .i64 n] w fun e w'=>∃ v,e=.returned v/\(Sx.Own ReportE 45 0 M w' v ([]:List Report)/\∀ b∈ob v,w.heap.size<=b)/\Ext w w':=by
 rcases Nat.eq_zero_or_pos n with rfl|hn
 . have h:=Any8.slices_Grow_room AE9 none 0 0 0 w (Nat.le_refl _) (by decide) (by decide) (Nat.le_refl _)
   change Calls Tryz.prog 120 _ _ _ at h
   refine h.mono ?_
   rintro e w' ⟨rfl,rfl⟩
   exact⟨_,rfl,⟨.inl ⟨none,rfl,rfl⟩,fun b hb=>by cases hb⟩,Kp.refl _ _⟩
 . obtain⟨i0,z,h1,h2,h3,h4,h5⟩:=rsl24.info
   have h:=Any8.slices_Grow_grow AE9 i0 z h1 h2 (by rw[h3];decide) none 0 0 n [] w (Nat.le_refl _) (by omega) (by rw[h4];omega) (by omega) (by simp) (fun _=>rfl) (fun a ha=>by cases ha)
   change Calls Tryz.prog 120 _ _ _ at h
   refine h.mono ?_
   have hG:=grownCap_ge w (0+n) 0 45
   have hG2:=grownCap_le_maxLen w (0+n) 0 45 (by unfold maxLen;omega)
   change ∀ e w',e=Ending.returned (.slice (some ⟨w.heap.size,0,none⟩) 0 (grownCap w (0+n) 0 45))/\w'=w.drew.alloc (.cells (([]:List Value).toArray++Builtin.zeroCells z.cells (0+n - 0)++Builtin.zeroCells z.cells (grownCap w (0+n) 0 45 - (0+n))) 45)->_
   generalize grownCap w (0+n) 0 45=G at hG hG2
   rintro e w' ⟨rfl,rfl⟩
   obtain⟨c,rfl⟩:∃ c,G=c+1:=⟨G - 1,by omega⟩
   have hz:z.cells.size=8:=h5
   refine⟨_,rfl,⟨.inr ⟨w.heap.size,c,_,rfl,Nat.zero_le _,heap_alloc_new w.drew _,Nat.zero_le _,hG2,?_,?_⟩,fun b hb=>?_⟩,?_⟩
   . simp only[Array.size_append,List.size_toArray,size_zeroCells,hz,List.length_nil]
     show _=(c+1) * 8
     omega
   . simp[Chunks]
   . have:b=w.heap.size:=by simpa[ob] using hb
     omega
   . exact⟨rfl,rfl,rfl,by simp,fun k hk _=>Below.heap_alloc w.drew _ k hk,fun _=>Nat.le_succ _⟩
theorem ok120:Ctr.ok Tryz.prog 120 ctr120:=by
 refine⟨by decide,fun M w a vals r hM _ ha hr=>?_⟩
 obtain⟨v,q,rfl,hv,ha⟩:=ha
 have hv:v=.slice none 0 0:=hv
 subst hv
 obtain⟨v2,q2,rfl,hv2,ha⟩:=ha
 have ha:q2=[]:=ha
 subst ha
 obtain⟨cs,hi,h9|⟨_,rfl⟩⟩:=hv2
 . cases h9.1
 have key:∀ m:Int,[v2]=[Value.int .i64 m]->K4 () m=some r->Calls Tryz.prog 120 #[.slice none 0 0,v2] w fun e w'=>∃ vs,e=.returned (ABz vs)/\KsOk (P:=Tryz.prog) M (X0 ctr120.rs vs++M) w w' ctr120.rs r vs/\Ext w w':=fun m hi1 hr=>by
  obtain rfl:v2=Value.int .i64 m:=by simpa using hi1
  unfold K4 at hr
  split at hr
  . rename_i hc
    cases hr
    obtain⟨n,rfl⟩:∃ n:Nat,m=n:=⟨m.toNat,by omega⟩
    refine (ARo M w n (by omega)).mono ?_
    rintro e w' ⟨v,rfl,h1,h2⟩
    exact⟨[v],rfl,⟨v,rfl,ANo h1⟩,h2⟩
  . cases hr
 exact key _ hi.1 hr
end Go.Proofs.YtgioiejbphljoaaGreatDoor
set_option maxRecDepth 20000
set_option maxHeartbeats 4000000
namespace Go.Proofs.YtgioiejbphljoaaGreatDoor
open Go Go.Sx Go.Rx Go.RowKit
noncomputable def H7 (d:Desk) (day:Int):Option (Desk_99×Int):=Option.bind (O7 d) fun (r1,r2)=>Option.bind (α:=(Bool)) (cond (decide (r2=0)) (Option.bind (D4 (0:Int) (100000:Int) ([day])) fun r4=>some (!r4)) (some false)) ((fun x5=>Option.bind (α:=(Int)) (cond (x5) (some (2:Int)) (some r2)) ((fun x6=>some (r1,x6)))))
def AXG:An:=.nd (.x) (.nd (.x) (.nd (.nd (.jn [.norm ⟨[(.slot 20,.d .bool)],[6,4]⟩] (.x)) (.jn [.norm ⟨[(.slot 7,.d (.int .i64))],[6,4]⟩] (.x))) (.x)))
noncomputable def ctr40:Ctr:=⟨[.d (.st 4),.d (.int .i64)],[.d (.st 10),.d (.int .i64)],fun a=>H7 a.1 a.2.1⟩
theorem ok40:Ctr.ok Tryz.prog 40 ctr40:=B0 (G:={ gxb with fs:=[(44,ctr44),(70,ctr70)] }) (an:=AXG) (B1 ⟨⟨ok44,Tryz.call44⟩,⟨⟨ok70,Tryz.call70⟩,trivial⟩⟩) Tryz.func40 rfl rfl rfl rfl (fun a=>by kernel_rfl)
noncomputable def R9 (slices:(List (List Report))):Option (List Report):=Option.bind (B8 (S:=(Int×Int)) (R:=(Int)) (fun (x6,x7)=>cond (decide (x6 < (slices.length:Int))) (Option.bind (ixo slices x6) fun y8=>Option.bind (chk .i64 (x7+(y8.length:Int))) fun n9=>cond (decide (n9 < 0)) (none) (Option.bind (chk .i64 (x6+1)) fun n10=>some (Sum.inl (n10,n9)))) (some (Sum.inr x7))) ((0:Int),(0:Int))) ((fun x11=>Option.bind (K4 () x11) fun r12=>Option.bind (B8 (S:=(Int×(List Report))) (R:=((List Report))) (fun (x18,x19)=>cond (decide (x18 < (slices.length:Int))) (Option.bind (ixo slices x18) fun y20=>Option.bind (appo 64 x19 y20) fun l21=>Option.bind (chk .i64 (x18+1)) fun n22=>some (Sum.inl (n22,l21))) (some (Sum.inr x19))) ((0:Int),r12)) ((fun x23=>some x23))))
def AXH:An:=.nd (.x) (.nd (.x) (.nd (.nd (.x) (.lp ⟨[(.slot 11,.d (.int .i64)),(.slot 3,.d (.int .i64))],[]⟩ [.exit 0 ⟨[(.slot 3,.d (.int .i64))],[]⟩] (.x))) (.nd (.x) (.nd (.nd (.x) (.lp ⟨[(.slot 27,.d (.int .i64)),(.slot 6,.own (.sl 45 (.st 1)))],[]⟩ [.exit 2 ⟨[(.slot 6,.own (.sl 45 (.st 1)))],[]⟩] (.x))) (.x)))))
noncomputable def ctr80:Ctr:=⟨[.d (.sl (.sl (.st 1)))],[.own (.sl 45 (.st 1))],fun a=>R9 a.1⟩
theorem ok80:Ctr.ok Tryz.prog 80 ctr80:=B0 (G:={ gxb with fs:=[(120,ctr120)] }) (an:=AXH) (B1 ⟨⟨ok120,Tryz.call120⟩,trivial⟩) Tryz.func80 rfl rfl rfl rfl (fun a=>by kernel_rfl)
noncomputable def S6 (l:(List Report)) (day:Int):Option (A4 Int Report):=Option.bind (J5 l day) fun (r1,r2)=>Option.bind (B8 (S:=(Int×(A4 Int Report))) (R:=((A4 Int Report))) (fun (x10,x11)=>cond (decide (x10 < (r1.length:Int))) (Option.bind (ixo r1 x10) fun y12=>Option.bind (chk .i64 (x10+1)) fun n13=>some (Sum.inl (n13,(B7 x11 y12.id y12)))) (some (Sum.inr x11))) ((0:Int),(fnone:(A4 Int Report)))) ((fun x14=>some x14))
def AXI:An:=.nd (.x) (.nd (.x) (.nd (.x) (.nd (.nd (.x) (.lp ⟨[(.slot 19,.d (.int .i64)),(.cont 10,.own (.mp 3 (.int .i64) (.st 1)))],[14,10]⟩ [.exit 0 ⟨[(.cont 10,.own (.mp 3 (.int .i64) (.st 1)))],[10]⟩] (.x))) (.x))))
noncomputable def ctr46:Ctr:=⟨[.d (.sl (.st 1)),.d (.int .i64)],[.own (.mp 3 (.int .i64) (.st 1))],fun a=>S6 a.1 a.2.1⟩
theorem ok46:Ctr.ok Tryz.prog 46 ctr46:=B0 (G:={ gxb with fs:=[(29,ctr29)] }) (an:=AXI) (B1 ⟨⟨ok29,Tryz.call29⟩,trivial⟩) Tryz.func46 rfl rfl rfl rfl (fun a=>by kernel_rfl)
noncomputable def X4 (d:Desk) (day:Int):Option ((List Int)×Int):=Option.bind (H7 d day) fun (r1,r2)=>cond ((!decide (r2=0))) (some (([]:(List Int)),r2)) (Option.bind (O1 r1.desk.disputes) fun r3=>Option.bind (G4 ([(60:Nat),(61:Nat)]) r3) fun (_,m4)=>Option.bind (B8 (S:=(Int×(List Int))) (R:=((List Int))) (fun (x13,x14)=>cond (decide (x13 < (m4.length:Int))) (Option.bind (ixo m4 x13) fun y15=>Option.bind (F3 r1 y15 day) fun (r16,r17)=>Option.bind (α:=((List Int))) (cond (decide (r16=1)) (Option.bind (appo 8 x14 ([y15.id])) fun l18=>some l18) (some x14)) ((fun x19=>Option.bind (chk .i64 (x13+1)) fun n20=>some (Sum.inl (n20,x19))))) (some (Sum.inr x14))) ((0:Int),([]:(List Int)))) ((fun x21=>some (x21,(0:Int)))))
def AXJ:An:=.nd (.x) (.nd (.x) (.nd (.x) (.nd (.x) (.nd (.nd (.x) (.lp ⟨[(.slot 29,.d (.int .i64)),(.slot 8,.own (.sl 3 (.int .i64)))],[25,6]⟩ [.exit 0 ⟨[(.slot 8,.own (.sl 3 (.int .i64)))],[]⟩] (.nd (.x) (.nd (.x) (.nd (.nd (.x) (.nd (.x) (.nd (.x) (.jn [.norm ⟨[(.slot 8,.own (.sl 3 (.int .i64)))],[25,6]⟩] (.x))))) (.x)))))) (.x)))))
noncomputable def ctr24:Ctr:=⟨[.d (.st 4),.d (.int .i64)],[.own (.sl 3 (.int .i64)),.d (.int .i64)],fun a=>X4 a.1 a.2.1⟩
theorem ok24:Ctr.ok Tryz.prog 24 ctr24:=B0 (G:={ gxb with fs:=[(40,ctr40),(57,ctr57),(59,ctr59),(60,ctr60),(61,ctr61)],fm:=[(58,ctrm58)] }) (an:=AXJ) (ACy ⟨⟨ok40,Tryz.call40⟩,⟨⟨ok57,Tryz.call57⟩,⟨⟨ok59,Tryz.call59⟩,⟨⟨ok60,Tryz.call60⟩,⟨⟨ok61,Tryz.call61⟩,trivial⟩⟩⟩⟩⟩ trivial ⟨⟨okm58,Tryz.call58⟩,trivial⟩) Tryz.func24 rfl rfl rfl rfl (fun a=>by kernel_rfl)
noncomputable def K2 (d:Desk) (id:Int) (day:Int):Option (Int×Int×Int):=Option.bind (H7 d day) fun (r1,r2)=>cond ((!decide (r2=0))) (some ((0:Int),(0:Int),r2)) (Option.bind (U2 r1.desk.disputes (fun a3=>Y1 a3 id)) fun r4=>cond (decide (r4 < 0)) (some ((0:Int),(0:Int),(6:Int))) (Option.bind (ixo r1.desk.disputes r4) fun y5=>Option.bind (F3 r1 y5 day) fun (r6,r7)=>some (r6,r7.day,(0:Int))))
def AXK:An:=.x
noncomputable def ctr23:Ctr:=⟨[.d (.st 4),.d (.int .i64),.d (.int .i64)],[.d (.int .u8),.d (.int .i64),.d (.int .i64)],fun a=>K2 a.1 a.2.1 a.2.2.1⟩
theorem ok23:Ctr.ok Tryz.prog 23 ctr23:=B0 (G:={ gxb with fs:=[(40,ctr40),(55,ctr55),(56,ctr56),(57,ctr57)] }) (an:=AXK) (B1 ⟨⟨ok40,Tryz.call40⟩,⟨⟨ok55,Tryz.call55⟩,⟨⟨ok56,Tryz.call56⟩,⟨⟨ok57,Tryz.call57⟩,trivial⟩⟩⟩⟩) Tryz.func23 rfl rfl rfl rfl (fun a=>by kernel_rfl)
noncomputable def AAP (id:Int) (day:Int) (where_:Int) (decided:Int):Option Bool:=Option.bind (Z9) fun r1=>Option.bind (K2 r1 id day) fun (r2,r3,r4)=>Option.bind (α:=(Bool)) (cond (decide (r4=0)) (cond (decide (r2=where_)) (some (decide (r3=decided))) (some false)) (some false)) ((fun x5=>some x5))
def AXL:An:=.nd (.x) (.nd (.x) (.nd (.jn [.norm ⟨[(.slot 8,.d .bool)],[]⟩] (.x)) (.x)))
noncomputable def ctr31:Ctr:=⟨[.d (.int .i64),.d (.int .i64),.d (.int .u8),.d (.int .i64)],[.d .bool],fun a=>AAP a.1 a.2.1 a.2.2.1 a.2.2.2.1⟩
theorem ok31:Ctr.ok Tryz.prog 31 ctr31:=B0 (G:={ gxb with fs:=[(23,ctr23),(33,ctr33)] }) (an:=AXL) (B1 ⟨⟨ok23,Tryz.call23⟩,⟨⟨ok33,Tryz.call33⟩,trivial⟩⟩) Tryz.func31 rfl rfl rfl rfl (fun a=>by kernel_rfl)
noncomputable def O8 (d:Desk) (report:Int) (day:Int):Option (Int×Int):=Option.bind (H7 d day) fun (r1,r2)=>cond ((!decide (r2=0))) (some ((0:Int),r2)) (cond ((!((r1.facts report).isSome))) (some ((0:Int),(6:Int))) (Option.bind (B8 (S:=(Int×Int)) (R:=(Int)) (fun (x20,x21)=>cond (decide (x21 < (r1.desk.disputes.length:Int))) (Option.bind (α:=((Int)⊕(Int))) (Option.bind (ixo r1.desk.disputes x21) fun y22=>cond ((!decide (y22.report=report))) (some (Sum.inl x20)) (Option.bind (F3 r1 y22 day) fun (r23,r24)=>cond (decide (r23=1)) (some (Sum.inr r23)) (Option.bind (α:=(Bool)) (cond (decide (r23=2)) (Option.bind (chk .i64 (day - r24.day)) fun n25=>some (decide (n25<=r1.desk.terms.mark))) (some false)) ((fun x26=>Option.bind (α:=(Int)) (cond (x26) (some r23) (some x20)) ((fun x27=>some (Sum.inl x27)))))))) ((Sum.elim (fun x28=>Option.bind (chk .i64 (x21+1)) fun n29=>some (Sum.inl (x28,n29))) (fun x30=>some (Sum.inr x30))))) (some (Sum.inr x20))) ((0:Int),(0:Int))) ((fun x31=>some (x31,(0:Int))))))
def AXM:An:=.nd (.x) (.nd (.x) (.nd (.x) (.nd (.x) (.nd (.x) (.nd (.x) (.nd (.nd (.x) (.lp ⟨[(.slot 12,.d (.int .u8)),(.slot 39,.d (.int .i64))],[8]⟩ [.exit 0 ⟨[(.slot 12,.d (.int .u8))],[]⟩] (.nd (.x) (.nd (.x) (.nd (.jn [.norm ⟨[(.slot 12,.d (.int .u8))],[8]⟩,.exit 0 ⟨[(.slot 12,.d (.int .u8))],[]⟩] (.nd (.x) (.nd (.x) (.nd (.x) (.nd (.x) (.nd (.x) (.nd (.jn [.norm ⟨[(.slot 58,.d .bool)],[8]⟩] (.x)) (.jn [.norm ⟨[(.slot 12,.d (.int .u8))],[8]⟩] (.x))))))))) (.x)))))) (.x)))))))
noncomputable def ctr28:Ctr:=⟨[.d (.st 4),.d (.int .i64),.d (.int .i64)],[.d (.int .u8),.d (.int .i64)],fun a=>O8 a.1 a.2.1 a.2.2.1⟩
theorem ok28:Ctr.ok Tryz.prog 28 ctr28:=B0 (G:={ gxb with fs:=[(40,ctr40),(57,ctr57)] }) (an:=AXM) (B1 ⟨⟨ok40,Tryz.call40⟩,⟨⟨ok57,Tryz.call57⟩,trivial⟩⟩) Tryz.func28 rfl rfl rfl rfl (fun a=>by kernel_rfl)
noncomputable def O9 (id:Int) (day:Int) (mark:Int):Option Bool:=Option.bind (Z9) fun r1=>Option.bind (O8 r1 id day) fun (r2,r3)=>Option.bind (α:=(Bool)) (cond (decide (r3=0)) (some (decide (r2=mark))) (some false)) ((fun x4=>some x4))
def AXN:An:=.nd (.x) (.nd (.x) (.nd (.jn [.norm ⟨[(.slot 6,.d .bool)],[]⟩] (.x)) (.x)))
noncomputable def ctr32:Ctr:=⟨[.d (.int .i64),.d (.int .i64),.d (.int .u8)],[.d .bool],fun a=>O9 a.1 a.2.1 a.2.2.1⟩
theorem ok32:Ctr.ok Tryz.prog 32 ctr32:=B0 (G:={ gxb with fs:=[(28,ctr28),(33,ctr33)] }) (an:=AXN) (B1 ⟨⟨ok28,Tryz.call28⟩,⟨⟨ok33,Tryz.call33⟩,trivial⟩⟩) Tryz.func32 rfl rfl rfl rfl (fun a=>by kernel_rfl)
end Go.Proofs.YtgioiejbphljoaaGreatDoor
set_option maxRecDepth 20000
set_option maxHeartbeats 1000000
set_option linter.unusedVariables false
namespace Go.Proofs.YtgioiejbphljoaaGreatDoor
open Go Go.Sx Go.Rx
namespace S
noncomputable def AQZ {α:Type} (l:List α) (id:α->Option Int) (right:α->Option Bool):Option Bool:=Option.bind (B8 (S:=(Int×(A4 Int Bool))) (R:=(Unit⊕Bool)) (fun (x16,x17)=>cond (decide (x16 < (l.length:Int))) (Option.bind (ixo l x16) fun y18=>Option.bind (α:=(Bool)) (Option.bind (right y18) fun y19=>cond ((!y19)) (some true) (Option.bind (id y18) fun y20=>some ((x17 y20).getD false))) ((fun x21=>cond (x21) (some (Sum.inr (Sum.inr false))) (Option.bind (id y18) fun y22=>Option.bind (chk .i64 (x16+1)) fun n23=>some (Sum.inl (n23,(B7 x17 y22 true))))))) (some (Sum.inr (Sum.inl ())))) ((0:Int),(fnone:(A4 Int Bool)))) ((Sum.elim (fun _=>some true) (fun r24=>some r24)))
theorem AVt {α:Type} {l:List α} {k:α->Int} (h:(l.map k).Nodup) {n:Nat} (hn:n < l.length):∀ x∈l.take n,k x≠k l[n]:=fun x hx=>by
 rw[List.Nodup,List.pairwise_map,List.pairwise_iff_getElem] at h
 obtain⟨i,hi,rfl⟩:=List.mem_take_iff_getElem.1 hx
 exact h i n (by omega) hn (by omega)
theorem AL0 {α:Type} {l:List α} {id:α->Option Int} {right:α->Option Bool} {k:α->Int} (hl:l.length<=1000000) (h1:∀ x∈l,right x=some true) (h2:∀ x,id x=some (k x)) (hn:(l.map k).Nodup):AQZ l id right=some true:=by
 refine Ret.eq ?_
 unfold AQZ
 refine Ret.bind (D3 l.length (fun n (t:Int×A4 Int Bool)=>t.1=n/\∀ i,(∀ x∈l.take n,k x≠i)->t.2 i=none) ⟨rfl,fun i _=>rfl⟩ ?_ ?_)
 . rintro n hlt ⟨_,m⟩ ⟨rfl,hm⟩
   dsimp only at hm
   refine Ret.condT (ltT hlt) (Ret.bind (N6 hlt (Ret.bind (ABn (h1 _ (List.getElem_mem hlt)) (Ret.condF rfl (ABn (h2 _) (Ret.ok ?_)))))))
   rw[hm _ (AVt hn hlt)]
   refine Ret.condF rfl (ABn (h2 _) (Ret.bind (Ret.chk (by omega) (Ret.next ⟨by dsimp only;omega,fun i hi=>?_⟩))))
   dsimp only[B7]
   rw[if_neg (fun e=>hi l[n] ((F4 hlt).2 (.inr rfl)) e.symm)]
   exact hm i fun x hx=>hi x ((F4 hlt).2 (.inl hx))
 . rintro⟨_,m⟩ ⟨rfl,hm⟩
   exact Ret.condF (ltF (Nat.le_refl _)) (Ret.done (C5 (Ret.ok rfl)))
def Fc (d:Desk) (f:A4 Int Report):Prop:=∀ i,f i=Y9 d.reports i
theorem AOT {l:List Report} (hc:AMw l) {i:Int} {r:Report}:Y9 l i=some r↔r∈l/\r.kind<=7/\r.id=i:=by
 constructor
 . intro h
   obtain⟨h1,h2,h3⟩:=AAN h
   exact⟨h1,h3,h2⟩
 . rintro⟨h1,h2,rfl⟩
   exact ATf hc h1 h2
theorem AVv {d:Desk} (hr:VL d.reports):Ret (R8 d) (Fc d):=by
 have hl:=hr.len
 unfold R8
 refine Ret.bind (D3 d.reports.length (fun n (t:Int×A4 Int Report)=>t.1=n/\∀ i r,t.2 i=some r↔r∈d.reports.take n/\r.kind<=7/\r.id=i) ⟨rfl,fun i r=>by simp[fnone]⟩ ?_ ?_)
 . rintro n hlt ⟨_,m⟩ ⟨rfl,hm⟩
   dsimp only at hm
   refine Ret.condT (ltT hlt) (Ret.bind (N6 hlt (Ret.bind (Ret.cond (fun h=>?_) fun h=>?_))))
   . have h:=of_decide_eq_true h
     refine Ret.ok (Ret.bind (Ret.chk (by omega) (Ret.next ⟨by dsimp only;omega,fun i r=>?_⟩)))
     rw[F4 hlt]
     dsimp only[B7]
     by_cases e:i=d.reports[n].id
     . subst e
       rw[if_pos rfl]
       constructor
       . intro h;cases h;exact⟨.inr rfl,h,rfl⟩
       . rintro⟨h1|h1,h2,h3⟩
         . rw[hr.cons r (List.mem_of_mem_take h1) _ (List.getElem_mem hlt) h3]
         . rw[h1]
     . rw[if_neg e,hm]
       constructor
       . rintro⟨h1,h2⟩;exact⟨.inl h1,h2⟩
       . rintro⟨h1|rfl,h2,h3⟩
         . exact⟨h1,h2,h3⟩
         . exact absurd h3.symm e
   . have h:=of_decide_eq_false h
     refine Ret.ok (Ret.bind (Ret.chk (by omega) (Ret.next ⟨by dsimp only;omega,fun i r=>?_⟩)))
     rw[F4 hlt,hm]
     constructor
     . rintro⟨h1,h2⟩;exact⟨.inl h1,h2⟩
     . rintro⟨h1|rfl,h2,h3⟩
       . exact⟨h1,h2,h3⟩
       . exact absurd h2 h
 . rintro⟨_,m⟩ ⟨rfl,hm⟩
   dsimp only at hm
   rw[List.take_length] at hm
   refine Ret.condF (ltF (Nat.le_refl _)) (Ret.done (Ret.ok fun i=>?_))
   apply Option.ext
   intro r
   rw[hm,AOT hr.cons]
def An (d:Desk) (h:A4 Int (List Answer)):Prop:=∀ i,(h i).getD []=d.answers.filter fun a=>decide (a.dispute=i)
theorem AL1:∀ (l pre:List Answer) (h:A4 Int (List Answer)),(∀ i,(h i).getD []=pre.filter fun a=>decide (a.dispute=i))->pre.length+l.length<=1000000->∃ h',AIU l h=some h'/\∀ i,(h' i).getD []=(pre++l).filter fun a=>decide (a.dispute=i)
 |[],pre,h,hh,_=>⟨h,rfl,by simpa using hh⟩
 |a :: l,pre,h,hh,hl=>by
  have hlen:((h a.dispute).getD []).length<=pre.length:=by rw[hh];exact List.length_filter_le ..
  have hl':pre.length+l.length+1<=1000000:=by simpa[Nat.add_assoc] using hl
  have e:appo 48 ((h a.dispute).getD []) [a]=some ((h a.dispute).getD []++[a]):=X7 (by simp only[List.length_singleton];omega) (by simp only[List.length_singleton];omega)
  have hs:∀ i,(B7 h a.dispute ((h a.dispute).getD []++[a]) i).getD []=(pre++[a]).filter fun a=>decide (a.dispute=i):=fun i=>by
   dsimp only[B7]
   rw[List.filter_append]
   by_cases e:i=a.dispute
   . subst e
     rw[if_pos rfl]
     simp[hh]
   . rw[if_neg e,hh]
     have e2:¬ a.dispute=i:=fun h=>e h.symm
     simp[e2]
  obtain⟨h',e',hh'⟩:=AL1 l (pre++[a]) (B7 h a.dispute ((h a.dispute).getD []++[a])) hs (by simp;omega)
  refine⟨h',?_,fun i=>by rw[hh',List.append_assoc];rfl⟩
  unfold AIU
  rw[e,bindS,e']
theorem AVw {D:Desk_99} (h:TV D.desk.terms):M5 D=some 0:=by
 obtain⟨t1,t2,t3⟩:=h
 unfold M5
 rw[d_in1,d_in2,AAM t1,AAM t2,AAM t3]
 rfl
theorem AVx {D:Desk_99} (h:VL D.desk.reports):M6 D=some 0:=by
 unfold M6
 rw[AIT h];rfl
theorem AVy {D:Desk_99} (h:Vd D.desk) (hf:Fc D.desk D.facts):M7 D=some 0:=by
 obtain⟨⟨t1,t2,t3⟩,hr,hx,_⟩:=h
 have hl:=hr.len
 have hlx:=hx.len
 refine Ret.eq ?_
 unfold M7
 refine Ret.bind (D3 D.desk.reports.length (fun n (t:Int×A4 Int Bool)=>t.1=n/\∀ i,(∀ x∈D.desk.reports.take n,x.id≠i)->t.2 i=none) ⟨rfl,fun i _=>rfl⟩ ?_ ?_)
 . rintro n hlt ⟨_,m⟩ ⟨rfl,hm⟩
   dsimp only at hm
   refine Ret.condT (ltT hlt) (Ret.bind (N6 hlt (Ret.bind (Ret.chk (by omega) (Ret.next ⟨by dsimp only;omega,fun i hi=>?_⟩)))))
   dsimp only[B7]
   rw[if_neg (fun e=>hi _ ((F4 hlt).2 (.inr rfl)) e.symm)]
   exact hm i fun x hx=>hi x ((F4 hlt).2 (.inl hx))
 rintro⟨_,m⟩ ⟨rfl,hm⟩
 dsimp only at hm
 rw[List.take_length] at hm
 refine Ret.condF (ltF (Nat.le_refl _)) (Ret.done (Ret.bind (Ret.condF (decide_eq_false (by omega)) ?_)))
 have hu:W0 D.desk.disputes (fun a16=>Q5 a16) (fun a17=>K7 a17 D m)=some true:=AL0 (k:=(·.id)) (by omega) (fun x hxm=>?_) (fun _=>rfl) hx.nd
 . rw[hu]
   exact Ret.ok (Ret.ok rfl)
 . obtain⟨v1,v2,f,hfx,v3,v4⟩:=hx.v x hxm
   refine Ret.eq ?_
   unfold K7
   rw[hf,hfx]
   have v2:=hm x.id v2
   refine Ret.bind (Ret.condT rfl ?_)
   dsimp only[Option.getD_some]
   rw[d_in1,AAM v1,bindS,v2]
   refine Ret.condT rfl (Ret.condT rfl (Ret.bind (Ret.chk (by omega) (Ret.bind (Ret.chk (by omega) ?_)))))
   rw[d_in1,AAM (show _/\_ from ⟨v3,by omega⟩)]
   exact Ret.ok (Ret.ok rfl)
theorem AVz {D:Desk_99} (h:Vd D.desk) (hf:Fc D.desk D.facts):M8 D=some 0:=by
 obtain⟨⟨t1,t2,t3⟩,hr,hx,ha⟩:=h
 have hlx:=hx.len
 have hla:=ha.len
 have hu:W5 D.desk.answers (fun a4=>Q6 a4) (fun a5=>K8 a5 D)=some true:=AL0 (k:=(·.id)) (by omega) (fun a ham=>?_) (fun _=>rfl) ha.nd
 . unfold M8
   rw[decide_eq_false (by omega),hu];rfl
 . obtain⟨v1,v2,v3,x,hxm,v4,v5,v6⟩:=ha.v a ham
   refine Ret.eq ?_
   unfold K8
   refine Ret.bind ?_
   refine (ADM (s:=D.desk.disputes) (f:=fun a1=>N5 a1 a) (fun _ _=>rfl) (by omega) (fun h=>?_) fun k hk h hp=>?_:Ret (AGv _ _) _)
   . have:=of_decide_eq_false (h x hxm)
     exact absurd v4 this
   have h:=of_decide_eq_true h
   have hxk:D.desk.disputes[k]=x:=by
    have hnd:=hx.nd
    rw[List.Nodup,List.pairwise_map,List.pairwise_iff_getElem] at hnd
    obtain⟨j,hj,rfl⟩:=List.getElem_of_mem hxm
    rcases Nat.lt_trichotomy k j with e|e|e
    . exact absurd (h.trans v4.symm) (hnd k j hk hj e)
    . subst e;rfl
    . exact absurd (v4.trans h.symm) (hnd j k hj hk e)
   refine Ret.bind (Ret.condF (decide_eq_false (by omega)) ?_)
   have vab:0<=a.about/\a.about<=100000:=by
    by_cases e:a.says=2
    . obtain⟨_,_,f,hfx,_⟩:=hx.v x hxm
      exact (v6 e f hfx).1
    . have:=(v5 e).1;omega
   rw[d_in1,AAM v1,bindS]
   refine Ret.condF rfl ?_
   rw[d_in2,AAM v2,AAM vab,bindS]
   refine Ret.ok (Ret.condF rfl (Ret.bind (N6 hk ?_)))
   rw[hxk]
   by_cases e:a.says=2
   . obtain⟨_,_,f,hfx,_⟩:=hx.v x hxm
     refine Ret.bind (Ret.condF (decide_eq_false (by omega)) (Ret.ok ?_))
     rw[decide_eq_false (show ¬ a.says=3 by omega)]
     refine Ret.condF rfl (Ret.condT (decide_eq_true e) ?_)
     rw[hf,hfx]
     obtain⟨w1,w2,w3⟩:=v6 e f hfx
     have hfm:=AAN hfx
     obtain⟨u1,u2,u3,u4,u5,u6,u7,u8,u9,u10,u11⟩:=hr.v f hfm.1
     rw[AIT (l:=[_]) ⟨by simp,fun r hr=>?_,fun a ha b hb _=>?_⟩,bindS]
     . exact Ret.ok rfl
     . rw[List.mem_singleton.1 hr]
       exact⟨u1,u2,u3,u4,u5,u6,w1,⟨w2,w3⟩,u9,u10,fun h=>by have:=hfm.2.2;dsimp only[Option.getD_some] at h;omega⟩
     . rw[List.mem_singleton.1 ha,List.mem_singleton.1 hb]
   . obtain⟨w1,w2⟩:=v5 e
     refine Ret.bind (Ret.val (a:=true) ?_ (Ret.condT rfl (Ret.bind (Ret.condT (decide_eq_true w1) (Ret.ok (Ret.ok (decide_eq_true w2)))))))
     by_cases e1:a.says=1
     . rw[decide_eq_true e1];rfl
     . rw[decide_eq_false e1,decide_eq_true (show a.says=3 by omega)];rfl
structure Dw (d:Desk) (D:Desk_99):Prop where
 d:D.desk=d
 f:Fc D.desk D.facts
 a:An D.desk D.answers
theorem ARp {d:Desk} (h:Vd d):∃ D,O7 d=some (D,0)/\Dw d D:=by
 obtain⟨f,hf,hfc⟩:=AVv h.r
 have hla:=h.a.len
 obtain⟨h',e',hh'⟩:=AL1 d.answers [] fnone (fun i=>rfl) (by simp;omega)
 refine⟨⟨d,f,h'⟩,?_,rfl,hfc,hh'⟩
 unfold O7
 rw[hf,bindS]
 have s1:=AVw (D:=⟨d,f,fnone⟩) h.t
 have s2:=AVx (D:=⟨d,f,fnone⟩) h.r
 have s3:=AVy (D:=⟨d,f,fnone⟩) h hfc
 have s4:=AVz (D:=⟨d,f,fnone⟩) h hfc
 have:ABo ⟨d,f,fnone⟩ 0 4=some 0:=by
  show Option.bind (M5 _) _=_
  rw[s1,bindS,if_pos rfl]
  show Option.bind (M6 _) _=_
  rw[s2,bindS,if_pos rfl]
  show Option.bind (M7 _) _=_
  rw[s3,bindS,if_pos rfl]
  show Option.bind (M8 _) _=_
  rw[s4,bindS,if_pos rfl];rfl
 rw[this,bindS,if_pos rfl,e']
 rfl
theorem AC0 {d:Desk} (h:Vd d) {day:Int} (hd:0<=day/\day<=100000):∃ D,H7 d day=some (D,0)/\Dw d D:=by
 obtain⟨D,h1,h2⟩:=ARp h
 refine⟨D,?_,h2⟩
 unfold H7
 rw[h1,bindS,d_in1,AAM hd]
 rfl
end S
end Go.Proofs.YtgioiejbphljoaaGreatDoor
set_option maxRecDepth 20000
set_option maxHeartbeats 1000000
set_option linter.unusedVariables false
namespace Go.Proofs.YtgioiejbphljoaaGreatDoor
open Go Go.Sx Go.Rx
namespace S
def Q7 (x y:Int):Int:=if x < y then -1 else if y < x then 1 else 0
theorem p_cmp {x y:Int}:C9 x y=some (Q7 x y):=by
 unfold C9 Y5 Q7
 by_cases h:x < y
 . simp[h]
 . by_cases h2:y < x
   . simp[h,h2]
   . simp[h,h2]
theorem p_Or {a b:Int}:Z7 [a,b]=some (if a=0 then b else a):=by
 refine Ret.eq ?_
 unfold Z7
 refine Ret.bind (Ret.loop (fun t:Int=>t=0\/t=1/\a=0\/t=2/\a=0/\b=0) (fun t=>2 - t.toNat) (.inl rfl) ?_)
 rintro _ (rfl|⟨rfl,rfl⟩|⟨rfl,rfl,rfl⟩)
 . refine Ret.condT rfl (Ret.bind (Ret.val (show ixo [a,b] 0=some a from rfl) ?_))
   by_cases c:a=0
   . rw[decide_eq_true c]
     exact Ret.condF rfl (Ret.bind (Ret.chk (by omega) (Ret.next ⟨.inr (.inl ⟨rfl,c⟩),by decide⟩)))
   . rw[decide_eq_false c]
     exact Ret.condT rfl (Ret.done (E1 (Ret.ok (by rw[if_neg c]))))
 . refine Ret.condT rfl (Ret.bind (Ret.val (show ixo [0,b] 1=some b from rfl) ?_))
   by_cases c:b=0
   . rw[decide_eq_true c]
     exact Ret.condF rfl (Ret.bind (Ret.chk (by omega) (Ret.next ⟨.inr (.inr ⟨rfl,rfl,c⟩),by decide⟩)))
   . rw[decide_eq_false c]
     exact Ret.condT rfl (Ret.done (E1 (Ret.ok (by rw[if_pos rfl]))))
 . exact Ret.condF rfl (Ret.done (C5 (Ret.ok (by simp))))
def alt (a b:Answer):Bool:=decide (a.day < b.day\/a.day=b.day/\a.id < b.id)
theorem p_first {a b:Answer}:J7 a b=some (alt a b):=by
 unfold J7
 rw[p_cmp,bindS,p_cmp,bindS,p_Or,bindS]
 congr 1
 unfold alt Q7
 rw[Bool.eq_iff_iff,decide_eq_true_iff,decide_eq_true_iff]
 split <;> split <;> (try split) <;> (try split) <;> omega
def win (x:Dispute) (last:Int) (a:Answer):Bool:=inB x.day last a.day
def ACM (x:Dispute) (last:Int) (v:Verdict) (a:Answer):Verdict:=if win x last a&&(decide (v.is_=5)||alt a v.by_) then ⟨a.day,a.says+1,a⟩ else v
def zeroA:Answer:=Answer.mk 0 0 0 0 0 0
def AIX (x:Dispute) (A:Int) (l:List Answer):Verdict:=l.foldl (ACM x (x.day+A)) ⟨x.day+A+1,5,zeroA⟩
def dec (d:Desk) (x:Dispute):Verdict:=AIX x d.terms.answer (d.answers.filter fun a=>decide (a.dispute=x.id))
theorem APp {s:Int} (h:1<=s/\s<=3):(AFz s).getD 0=s+1:=by
 have:s=1\/s=2\/s=3:=by omega
 rcases this with rfl|rfl|rfl <;> rfl
theorem AHu {α β:Type} {f:β->α->β} {b:β} {l:List α} {n:Nat} (h:n < l.length):(l.take (n+1)).foldl f b=f ((l.take n).foldl f b) l[n]:=by
 rw[AAA h,List.foldl_append];rfl
theorem APq {d:Desk} {D:Desk_99} (hD:Dw d D) (hv:Vd d) {x:Dispute} (hx:x∈d.disputes):N8 D x=some (dec d x):=by
 have hxv:=hv.x.v x hx
 have ht:=hv.t.1
 obtain⟨_,_,f,hf,x1,x2⟩:=hxv
 have hfm:=(hv.r.v f (AAN hf).1).2.2.2.2.2.1
 have hal:=hv.a.len
 have hd:=hD.d
 refine Ret.eq ?_
 unfold N8
 rw[hD.a,hd]
 let aa:=d.answers.filter fun a=>decide (a.dispute=x.id)
 have hlen:aa.length<=40:=Nat.le_trans (List.length_filter_le ..) hal
 have has:∀ a∈aa,1<=a.says/\a.says<=3:=fun a ha=>(hv.a.v a (List.mem_filter.1 ha).1).2.2.1
 show Ret (Option.bind _ _) (·=AIX x d.terms.answer aa)
 refine Ret.bind (Ret.chk (by omega) (Ret.bind (Ret.chk (by omega) (Ret.bind (D3 aa.length (fun n (t:Int×Int×Int×Int×Int×Int×Int×Int×Int)=>∃ v:Verdict,v=(aa.take n).foldl (ACM x (x.day+d.terms.answer)) ⟨x.day+d.terms.answer+1,5,zeroA⟩/\t=((n:Int),v.day,v.is_,v.by_.id,v.by_.dispute,v.by_.day,v.by_.says,v.by_.about,v.by_.cents)) ⟨_,rfl,rfl⟩ ?_ ?_)))))
 . rintro n hlt _ ⟨v,hvv,rfl⟩
   have hs:=has _ (List.getElem_mem hlt)
   refine Ret.condT (ltT hlt) (Ret.bind (Ret.val (a:=aa[n]) (AHE (List.getElem?_eq_getElem hlt)) (Ret.bind ?_)))
   rw[d_in1,bindS]
   have key:∀ b:Bool,b=(win x (x.day+d.terms.answer) aa[n]&&(decide (v.is_=5)||alt aa[n] v.by_))->Ret (Option.bind (α:=(Int×Int×Int×Int×Int×Int×Int×Int)) (cond b (some (aa[n].day,((AFz aa[n].says).getD 0),aa[n].id,aa[n].dispute,aa[n].day,aa[n].says,aa[n].about,aa[n].cents)) (some (v.day,v.is_,v.by_.id,v.by_.dispute,v.by_.day,v.by_.says,v.by_.about,v.by_.cents))) ((fun (x52,x53,x54,x55,x56,x57,x58,x59)=>Option.bind (chk .i64 ((n:Int)+1)) fun n60=>some (Sum.inl (n60,x52,x53,x54,x55,x56,x57,x58,x59))))) (Nxt (fun (t:Int×Int×Int×Int×Int×Int×Int×Int×Int)=>∃ v:Verdict,v=(aa.take (n+1)).foldl (ACM x (x.day+d.terms.answer)) ⟨x.day+d.terms.answer+1,5,zeroA⟩/\t=(((n+1:Nat):Int),v.day,v.is_,v.by_.id,v.by_.dispute,v.by_.day,v.by_.says,v.by_.about,v.by_.cents)) (fun (r:Int×Int×Int×Int×Int×Int×Int×Int)=>Ret (some (Verdict.mk r.1 r.2.1 (Answer.mk r.2.2.1 r.2.2.2.1 r.2.2.2.2.1 r.2.2.2.2.2.1 r.2.2.2.2.2.2.1 r.2.2.2.2.2.2.2))) (·=AIX x d.terms.answer aa))):=fun b hb=>by
    cases b with
    |true=>
     refine Ret.bind (Ret.condT rfl (Ret.ok (Ret.bind (Ret.chk (by omega) (Ret.next ⟨_,rfl,?_⟩)))))
     rw[AHu hlt,<-hvv]
     unfold ACM
     rw[if_pos hb.symm,APp hs]
     rfl
    |false=>
     refine Ret.bind (Ret.condF rfl (Ret.ok (Ret.bind (Ret.chk (by omega) (Ret.next ⟨_,rfl,?_⟩)))))
     rw[AHu hlt,<-hvv]
     unfold ACM
     rw[if_neg (by rw[<-hb];decide)]
     rfl
   refine Ret.cond (fun h1=>?_) fun h1=>Ret.ok (key _ (by rw[show win x (x.day+d.terms.answer) aa[n]=false from h1];rfl))
   have h1:win x (x.day+d.terms.answer) aa[n]=true:=h1
   refine Ret.cond (fun h2=>Ret.ok (key _ (by rw[h1,h2];rfl))) fun h2=>?_
   have e:(Answer.mk v.by_.id v.by_.dispute v.by_.day v.by_.says v.by_.about v.by_.cents)=v.by_:=rfl
   rw[e,p_first,bindS]
   exact Ret.ok (key _ (by rw[h1,h2];rfl))
 . rintro _ ⟨v,hvv,rfl⟩
   refine Ret.condF (ltF (Nat.le_refl _)) (Ret.done (Ret.ok ?_))
   rw[List.take_length] at hvv
   show _=List.foldl _ _ _
   rw[<-hvv]
structure DecL (x:Dispute) (A:Int) (l:List Answer) (v:Verdict):Prop where
 is5:v.is_=5->v=⟨x.day+A+1,5,zeroA⟩/\∀ a∈l,win x (x.day+A) a=false
 by_:v.is_≠5->v=⟨v.by_.day,v.by_.says+1,v.by_⟩/\v.by_∈l/\win x (x.day+A) v.by_=true/\∀ a∈l,win x (x.day+A) a=true->alt a v.by_=false
theorem ARq {a b c:Answer} (h1:alt a b=true) (h2:alt c b=false):alt c a=false:=by
 unfold alt at *
 rw[decide_eq_true_iff] at h1
 rw[decide_eq_false_iff_not] at *
 omega
theorem AXO {x:Dispute} {A:Int}:∀ (l:List Answer),(∀ a∈l,1<=a.says/\a.says<=3)->DecL x A l (AIX x A l):=by
 have key:∀ (l p:List Answer) (v:Verdict),(∀ a∈l,1<=a.says/\a.says<=3)->DecL x A p v->DecL x A (p++l) (l.foldl (ACM x (x.day+A)) v):=by
  intro l
  induction l with
  |nil=>intro p v _ h;simpa using h
  |cons a l ih=>
   intro p v hs h
   have:p++a :: l=(p++[a])++l:=by simp
   rw[this]
   refine ih _ _ (fun b hb=>hs b (List.mem_cons_of_mem _ hb)) ?_
   have ha:=hs a (List.mem_cons_self ..)
   unfold ACM
   by_cases c:(win x (x.day+A) a&&(decide (v.is_=5)||alt a v.by_))=true
   . rw[if_pos c]
     rw[Bool.and_eq_true,Bool.or_eq_true] at c
     refine⟨fun h5=>?_,fun _=>⟨rfl,List.mem_append.2 (.inr (List.mem_singleton.2 rfl)),c.1,fun b hb hw=>?_⟩⟩
     . have h5:a.says+1=5:=h5
       omega
     . show alt b a=false
       rcases List.mem_append.1 hb with hb|hb
       . by_cases c5:v.is_=5
         . rw[(h.is5 c5).2 b hb] at hw;cases hw
         . rcases c.2 with c2|c2
           . exact absurd (of_decide_eq_true c2) c5
           . exact ARq c2 ((h.by_ c5).2.2.2 b hb hw)
       . rw[List.mem_singleton.1 hb]
         unfold alt
         exact decide_eq_false (by omega)
   . rw[if_neg c]
     refine⟨fun h5=>⟨(h.is5 h5).1,fun b hb=>?_⟩,fun h5=>⟨(h.by_ h5).1,List.mem_append.2 (.inl (h.by_ h5).2.1),(h.by_ h5).2.2.1,fun b hb hw=>?_⟩⟩
     . rcases List.mem_append.1 hb with hb|hb
       . exact (h.is5 h5).2 b hb
       . rw[List.mem_singleton.1 hb]
         rw[decide_eq_true h5,Bool.true_or,Bool.and_true] at c
         simpa using c
     . rcases List.mem_append.1 hb with hb|hb
       . exact (h.by_ h5).2.2.2 b hb hw
       . rw[List.mem_singleton.1 hb] at hw ⊢
         rw[hw,decide_eq_false h5,Bool.false_or,Bool.true_and] at c
         simpa using c
 intro l hl
 have:=key l [] ⟨x.day+A+1,5,zeroA⟩ hl ⟨fun _=>⟨rfl,fun a ha=>by cases ha⟩,fun h=>absurd rfl h⟩
 rw[List.nil_append] at this
 exact this
theorem AC1 {d:Desk} (hv:Vd d) (x:Dispute):DecL x d.terms.answer (d.answers.filter fun a=>decide (a.dispute=x.id)) (dec d x):=AXO _ fun a ha=>(hv.a.v a (List.mem_filter.1 ha).1).2.2.1
theorem ARr {d:Desk} (hv:Vd d) {x:Dispute}:x.day<=(dec d x).day/\(dec d x).day<=x.day+d.terms.answer+1:=by
 have ht:=hv.t.1
 have h:=AC1 hv x
 by_cases c:(dec d x).is_=5
 . rw[(h.is5 c).1]
   show _<=x.day+d.terms.answer+1/\x.day+d.terms.answer+1<=_
   omega
 . obtain⟨h1,_,h2,_⟩:=h.by_ c
   have h2:=F0 h2
   rw[h1]
   show _<=(dec d x).by_.day/\(dec d x).by_.day<=_
   omega
theorem AFV {d:Desk} (hv:Vd d) {x:Dispute} (hx:x∈d.disputes):0<=(dec d x).day/\(dec d x).day<=100000:=by
 obtain⟨_,_,f,hf,x1,x2⟩:=hv.x.v x hx
 have hfm:=(hv.r.v f (AAN hf).1).2.2.2.2.2.1
 have:=ARr hv (x:=x)
 omega
theorem APr {d:Desk} (hv:Vd d) (x:Dispute):2<=(dec d x).is_/\(dec d x).is_<=5:=by
 by_cases c:(dec d x).is_=5
 . omega
 . obtain⟨h1,h2,_⟩:=(AC1 hv x).by_ c
   have:=(hv.a.v _ (List.mem_filter.1 h2).1).2.2.1
   rw[h1]
   show 2<=(dec d x).by_.says+1/\(dec d x).by_.says+1<=5
   omega
def wh (d:Desk) (x:Dispute) (day:Int):Int:=if (dec d x).day<=day then (dec d x).is_ else if x.day<=day then 1 else 0
theorem AF2 {d:Desk} {D:Desk_99} (hD:Dw d D) (hv:Vd d) {x:Dispute} (hx:x∈d.disputes) {day:Int}:F3 D x day=some (wh d x day,dec d x):=by
 unfold F3 wh
 rw[APq hD hv hx,bindS]
 by_cases c:(dec d x).day<=day
 . rw[decide_eq_true c,condT,if_pos c]
 . rw[decide_eq_false c,condF,if_neg c]
   by_cases c2:x.day<=day
   . rw[decide_eq_true c2,condT,if_pos c2]
   . rw[decide_eq_false c2,condF,if_neg c2]
theorem AOU {α:Type} {l:List α} {k:α->Int} (h:(l.map k).Nodup) {x:α} (hx:x∈l) {n:Nat} (hn:n < l.length) (he:k l[n]=k x):l[n]=x:=by
 rw[List.Nodup,List.pairwise_map,List.pairwise_iff_getElem] at h
 obtain⟨j,hj,rfl⟩:=List.getElem_of_mem hx
 rcases Nat.lt_trichotomy n j with e|e|e
 . exact absurd he (h n j hn hj e)
 . subst e;rfl
 . exact absurd he.symm (h j n hj hn e)
theorem AIY {d:Desk} (hv:Vd d) {x:Dispute} (hx:x∈d.disputes) {day:Int} (hd:0<=day/\day<=100000):K2 d x.id day=some (wh d x day,(dec d x).day,0):=by
 obtain⟨D,h1,hD⟩:=AC0 hv hd
 have hlx:=hv.x.len
 refine Ret.eq ?_
 unfold K2
 rw[h1,bindS]
 refine Ret.condF (by decide) (Ret.bind ?_)
 rw[hD.d]
 refine (ADM (s:=d.disputes) (f:=fun a3=>Y1 a3 x.id) (fun _ _=>rfl) (by omega) (fun h=>?_) fun k hk h hp=>?_:Ret (AGv _ _) _)
 . exact absurd rfl (of_decide_eq_false (h x hx))
 . refine Ret.condF (decide_eq_false (by omega)) (Ret.bind (N6 hk ?_))
   rw[AOU hv.x.nd hx hk (of_decide_eq_true h),AF2 hD hv hx]
   exact Ret.ok rfl
def isO (d:Desk) (report day:Int) (x:Dispute):Bool:=decide (x.report=report)&&decide (wh d x day=1)
def isS (d:Desk) (report day:Int) (x:Dispute):Bool:=decide (x.report=report)&&(decide (wh d x day=2)&&decide (day - (dec d x).day<=d.terms.mark))
def ADN (d:Desk) (report day:Int):Int:=if d.disputes.any (isO d report day) then 1 else if d.disputes.any (isS d report day) then 2 else 0
theorem AEg {α:Type} {l:List α} {p:α->Bool} {n:Nat} (h:n < l.length):(l.take (n+1)).any p=((l.take n).any p||p l[n]):=by
 rw[AAA h,List.any_append];simp
theorem AK1 {d:Desk} (hv:Vd d) {report day:Int} (hd:0<=day/\day<=100000):O8 d report day=some (if (Y9 d.reports report).isSome then (ADN d report day,0) else (0,6)):=by
 obtain⟨D,h1,hD⟩:=AC0 hv hd
 have hlx:=hv.x.len
 refine Ret.eq ?_
 unfold O8
 rw[h1,bindS]
 refine Ret.condF (by decide) ?_
 rw[hD.f,hD.d]
 cases hf:Y9 d.reports report with
 |none=>exact Ret.condT rfl (Ret.ok rfl)
 |some f=>
  refine Ret.condF rfl ?_
  refine Ret.bind (D3 d.disputes.length (fun n (t:Int×Int)=>t.2=n/\(d.disputes.take n).any (isO d report day)=false/\t.1=if (d.disputes.take n).any (isS d report day) then 2 else 0) ⟨rfl,rfl,rfl⟩ ?_ ?_)
  . rintro n hlt ⟨m,_⟩ ⟨rfl,ho,hm⟩
    dsimp only at hm
    have hx:=List.getElem_mem hlt
    refine Ret.condT (ltT hlt) (Ret.bind (Ret.bind (N6 hlt (Ret.cond (fun c=>?_) fun c=>?_))))
    . have c:decide (d.disputes[n].report=report)=false:=by simpa using c
      refine Ret.ok (C5 (Ret.bind (Ret.chk (by omega) (Ret.next ⟨by dsimp only;omega,?_,?_⟩))))
      . rw[AEg hlt,ho];unfold isO;rw[c];rfl
      . dsimp only;rw[AEg hlt,hm];unfold isS;rw[c,Bool.false_and,Bool.or_false]
    . have c:decide (d.disputes[n].report=report)=true:=by simpa using c
      rw[AF2 hD hv hx,bindS]
      refine Ret.cond (fun c1=>?_) fun c1=>?_
      . refine Ret.ok (E1 (Ret.done (Ret.ok ?_)))
        have:d.disputes.any (isO d report day)=true:=List.any_eq_true.2 ⟨_,hx,by unfold isO;rw[c,c1];rfl⟩
        unfold ADN
        rw[if_pos this,of_decide_eq_true c1]
        rfl
      . refine Ret.bind ?_
        have key:∀ b:Bool,b=(decide (wh d d.disputes[n] day=2)&&decide (day - (dec d d.disputes[n]).day<=d.terms.mark))->Ret (Option.bind (α:=(Int)) (cond b (some (wh d d.disputes[n] day)) (some m)) fun x27=>some (Sum.inl x27:Int⊕Int)) fun a=>Ret (Sum.elim (fun x28=>Option.bind (chk .i64 ((n:Int)+1)) fun n29=>some (Sum.inl (x28,n29))) (fun x30=>some (Sum.inr x30)) a) (Nxt (fun (t:Int×Int)=>t.2=((n+1:Nat):Int)/\(d.disputes.take (n+1)).any (isO d report day)=false/\t.1=if (d.disputes.take (n+1)).any (isS d report day) then 2 else 0) fun a=>Ret (some (a,(0:Int))) (·=if (some f).isSome then (ADN d report day,0) else (0,6))):=fun b hb=>by
         have eo:(d.disputes.take (n+1)).any (isO d report day)=false:=by rw[AEg hlt,ho];unfold isO;rw[c,c1];rfl
         have es:(d.disputes.take (n+1)).any (isS d report day)=((d.disputes.take n).any (isS d report day)||b):=by rw[AEg hlt,hb];unfold isS;rw[c,Bool.true_and]
         cases b with
         |true=>
          refine Ret.bind (Ret.condT rfl (Ret.ok (Ret.ok (C5 (Ret.bind (Ret.chk (by omega) (Ret.next ⟨by dsimp only;omega,eo,?_⟩)))))))
          rw[es,Bool.or_true,if_pos rfl]
          symm at hb
          rw[Bool.and_eq_true] at hb
          exact of_decide_eq_true hb.1
         |false=>
          refine Ret.bind (Ret.condF rfl (Ret.ok (Ret.ok (C5 (Ret.bind (Ret.chk (by omega) (Ret.next ⟨by dsimp only;omega,eo,?_⟩)))))))
          rw[es,Bool.or_false]
          exact hm
        have hdi:=AFV hv hx
        refine Ret.cond (fun c2=>Ret.bind (Ret.chk (by omega) (Ret.ok (key _ ?_)))) fun c2=>Ret.ok (key _ ?_)
        . rw[c2,Bool.true_and]
        . rw[c2];rfl
  . rintro⟨m,_⟩ ⟨rfl,ho,hm⟩
    dsimp only at hm
    rw[List.take_length] at ho hm
    refine Ret.condF (ltF (Nat.le_refl _)) (Ret.done (Ret.ok ?_))
    rw[if_pos (show (some f).isSome=true from rfl)]
    unfold ADN
    rw[if_neg (by rw[ho];decide),hm]
end S
end Go.Proofs.YtgioiejbphljoaaGreatDoor
set_option maxRecDepth 20000
set_option maxHeartbeats 1000000
set_option linter.unusedVariables false
namespace Go.Proofs.YtgioiejbphljoaaGreatDoor
open Go Go.Sx Go.Rx
namespace S
noncomputable def AQa {α:Type} (D:Nat->α->Option Int) (a b:α) (a2_:List Nat):Option Int:=Option.bind (B8 (S:=(Int)) (R:=(Unit⊕Int)) (fun x7=>cond (decide (x7 < (a2_.length:Int))) (Option.bind (ixo a2_ x7) fun y8=>Option.bind (D y8 a) fun y9=>Option.bind (D y8 b) fun y10=>Option.bind (C9 y9 y10) fun r11=>cond ((!decide (r11=0))) (some (Sum.inr (Sum.inr r11))) (Option.bind (chk .i64 (x7+1)) fun n12=>some (Sum.inl n12))) (some (Sum.inr (Sum.inl ())))) (0:Int)) ((Sum.elim (fun _=>some (0:Int)) (fun r13=>some r13)))
def cf2 {α:Type} (k1 k2:α->Int) (a b:α):Int:=if Q7 (k1 a) (k1 b)=0 then Q7 (k2 a) (k2 b) else Q7 (k1 a) (k1 b)
theorem AL2 {x y:Int}:Q7 x y < 0↔x < y:=by unfold Q7;split <;> (try split) <;> omega
theorem AK2 {x y:Int}:Q7 x y=0↔x=y:=by unfold Q7;split <;> (try split) <;> omega
theorem AD3 {α:Type} {k1 k2:α->Int} {a b:α}:cf2 k1 k2 a b < 0↔k1 a < k1 b\/k1 a=k1 b/\k2 a < k2 b:=by
 unfold cf2
 split
 . rename_i h
   rw[AK2] at h
   rw[AL2];omega
 . rename_i h
   rw[AK2] at h
   rw[AL2];omega
theorem AF3 {α:Type} {D:Nat->α->Option Int} {k1 k2:α->Int} {i j:Nat} (h1:∀ y,D i y=some (k1 y)) (h2:∀ y,D j y=some (k2 y)) {a b:α}:AQa D a b [i,j]=some (cf2 k1 k2 a b):=by
 refine Ret.eq ?_
 unfold AQa
 refine Ret.bind (Ret.loop (fun t:Int=>t=0\/t=1/\Q7 (k1 a) (k1 b)=0\/t=2/\Q7 (k1 a) (k1 b)=0/\Q7 (k2 a) (k2 b)=0) (fun t=>2 - t.toNat) (.inl rfl) ?_)
 rintro _ (rfl|⟨rfl,e⟩|⟨rfl,e,e2⟩)
 . refine Ret.condT rfl (Ret.bind (Ret.val (show ixo [i,j] 0=some i from rfl) ?_))
   rw[h1,h1,bindS,bindS,p_cmp,bindS]
   by_cases c:Q7 (k1 a) (k1 b)=0
   . rw[decide_eq_true c]
     exact Ret.condF rfl (Ret.bind (Ret.chk (by omega) (Ret.next ⟨.inr (.inl ⟨rfl,c⟩),by decide⟩)))
   . rw[decide_eq_false c]
     exact Ret.condT rfl (Ret.done (E1 (Ret.ok (by unfold cf2;rw[if_neg c]))))
 . refine Ret.condT rfl (Ret.bind (Ret.val (show ixo [i,j] 1=some j from rfl) ?_))
   rw[h2,h2,bindS,bindS,p_cmp,bindS]
   by_cases c:Q7 (k2 a) (k2 b)=0
   . rw[decide_eq_true c]
     exact Ret.condF rfl (Ret.bind (Ret.chk (by omega) (Ret.next ⟨.inr (.inr ⟨rfl,e,c⟩),by decide⟩)))
   . rw[decide_eq_false c]
     exact Ret.condT rfl (Ret.done (E1 (Ret.ok (by unfold cf2;rw[if_pos e]))))
 . exact Ret.condF rfl (Ret.done (C5 (Ret.ok (by unfold cf2;rw[if_pos e,e2]))))
def le2 {α:Type} (k1 k2:α->Int) (a b:α):Prop:=k1 a < k1 b\/k1 a=k1 b/\k2 a<=k2 b
theorem AJT {α:Type} {x:List α} {cmp:α->α->Option Int} {k1 k2:α->Int} (hc:∀ a b,cmp a b=some (cf2 k1 k2 a b)) (one:∀ a b,a∈x->b∈x->k1 a=k1 b->k2 a=k2 b->a=b) (hl:x.length<=1000000):Ret (ACJ x cmp) fun out=>out.Perm x/\out.Pairwise (le2 k1 k2):=by
 have hok:AKt x cmp (cf2 k1 k2):=by
  refine⟨fun a b _ _=>hc a b,⟨fun a=>?_,fun a b c h1 h2=>?_,fun a b c h1 h2=>?_⟩,fun a b ha hb h1 h2=>?_⟩
  . show decide (cf2 k1 k2 a.1 a.1 < 0)=false
    rw[decide_eq_false_iff_not,AD3];omega
  . have h1:=of_decide_eq_true h1
    have h2:=of_decide_eq_true h2
    refine decide_eq_true ?_
    rw[AD3] at *
    omega
  . have h1:=of_decide_eq_false h1
    have h2:=of_decide_eq_false h2
    refine decide_eq_false ?_
    rw[AD3] at *
    omega
  . rw[AD3] at h1 h2
    exact one a b ha hb (by omega) (by omega)
 have hex:x.length < 4611686018427387904/\∃ cf,AKt x cmp cf:=⟨by omega,_,hok⟩
 have hs:ACJ x cmp=some (x.mergeSort fun a b=>!decide (hex.2.choose b a < 0)):=by
  unfold ACJ
  rw[dif_pos hex]
 refine Ret.val hs ⟨List.mergeSort_perm _ _,?_⟩
 have hsp:=hex.2.choose_spec.1
 have hm:=List.map_mergeSort (r:=fun a b=>!decide (hex.2.choose b a < 0)) (s:=fun a b=>!decide (cf2 k1 k2 b a < 0)) (f:=id) (l:=x) fun a ha b hb=>by
  have h1:=hsp b a hb ha
  rw[hc] at h1
  rw[<-Option.some.inj h1];rfl
 simp only[List.map_id] at hm
 rw[hm]
 have hle:∀ a b:α,(!decide (cf2 k1 k2 b a < 0))=true↔le2 k1 k2 a b:=fun a b=>by
  rw[Bool.not_eq_true',decide_eq_false_iff_not,AD3]
  unfold le2;omega
 refine (List.pairwise_mergeSort (fun a b c h1 h2=>?_) (fun a b=>?_) x).imp fun h=>(hle _ _).1 h
 . rw[hle] at *;unfold le2 at *;omega
 . rw[Bool.or_eq_true,hle,hle];unfold le2;omega
theorem AEh {α:Type} {k1 k2:α->Int} {l1 l2:List α} (hp:l1.Perm l2) (h1:l1.Pairwise (le2 k1 k2)) (h2:l2.Pairwise (le2 k1 k2)) (one:∀ a b,a∈l1->b∈l1->k1 a=k1 b->k2 a=k2 b->a=b):l1=l2:=by
 refine List.Perm.eq_of_pairwise (fun a b ha hb hab hba=>?_) h1 h2 hp
 unfold le2 at hab hba
 exact one a b ha (hp.mem_iff.2 hb) (by omega) (by omega)
theorem X5 {α:Type} {l:List α} {k:α->Int} (h:(l.map k).Nodup):∀ a b,a∈l->b∈l->k a=k b->a=b:=fun a b ha hb e=>by
 obtain⟨i,hi,rfl⟩:=List.getElem_of_mem ha
 exact AOU h hb hi e
def AM9 (d:Desk) (day:Int) (out:List Int):Prop:=∃ m:List Dispute,m.Perm d.disputes/\m.Pairwise (le2 (·.day) (·.id))/\out=(m.filter fun y=>decide (wh d y day=1)).map (·.id)
theorem AV0 {d:Desk} (hv:Vd d) {day:Int} (hd:0<=day/\day<=100000):Ret (X4 d day) fun r=>r.2=0/\AM9 d day r.1:=by
 obtain⟨D,h1,hD⟩:=AC0 hv hd
 have hlx:=hv.x.len
 unfold X4
 rw[h1,bindS]
 refine Ret.condF (by decide) ?_
 rw[hD.d]
 have hc:O1 d.disputes=some d.disputes:=by
  unfold O1
  have h2:appo 24 ([]:List Dispute) d.disputes=some d.disputes:=X7 (xs:=([]:List Dispute)) (by simp;omega) (by simp;omega)
  refine ANY (fun h=>?_) ?_
  . rw[h];rfl
  . show Option.bind (appo 24 ([]:List Dispute) d.disputes) (fun l7=>some l7)=some d.disputes
    rw[h2,bindS]
 rw[hc,bindS]
 have ho:=AJT (x:=d.disputes) (cmp:=fun a b=>I4 a b [60,61]) (k1:=(·.day)) (k2:=(·.id)) (fun a b=>AF3 (D:=fd130.D) (fun _=>rfl) (fun _=>rfl)) (fun a b ha hb _ e=>X5 hv.x.nd a b ha hb e) (by omega)
 refine Ret.bind (Ret.bind (ho.mono fun m hm=>Ret.ok ?_))
 obtain⟨hp,hs⟩:=hm
 have hml:m.length=d.disputes.length:=hp.length_eq
 refine Ret.bind (D3 m.length (fun n (t:Int×List Int)=>t.1=n/\t.2=((m.take n).filter fun y=>decide (wh d y day=1)).map (·.id)) ⟨rfl,rfl⟩ ?_ ?_)
 . rintro n hlt ⟨_,o⟩ ⟨rfl,rfl⟩
   have hx:m[n]∈d.disputes:=hp.mem_iff.1 (List.getElem_mem hlt)
   refine Ret.condT (ltT hlt) (Ret.bind (N6 hlt ?_))
   rw[AF2 hD hv hx,bindS]
   have hol:(((m.take n).filter fun y=>decide (wh d y day=1)).map (·.id)).length<=n:=by
    rw[List.length_map]
    exact Nat.le_trans (List.length_filter_le ..) (by rw[List.length_take];omega)
   refine Ret.bind (Ret.cond (fun c=>?_) fun c=>?_)
   . refine Ret.bind (Ret.appo (by simp only[List.length_singleton];omega) (by simp only[List.length_singleton];omega) (Ret.ok (Ret.bind (Ret.chk (by omega) (Ret.next ⟨by dsimp only;omega,?_⟩)))))
     dsimp only
     rw[AAA hlt,List.filter_append,List.map_append]
     congr 1
     rw[List.filter_cons,if_pos c];rfl
   . refine Ret.ok (Ret.bind (Ret.chk (by omega) (Ret.next ⟨by dsimp only;omega,?_⟩)))
     dsimp only
     rw[AAA hlt,List.filter_append,List.map_append,List.filter_cons,if_neg (by rw[c];decide)]
     simp
 . rintro⟨_,o⟩ ⟨rfl,rfl⟩
   refine Ret.condF (ltF (Nat.le_refl _)) (Ret.done (Ret.ok ⟨rfl,m,hp,hs,?_⟩))
   dsimp only
   rw[List.take_length]
end S
end Go.Proofs.YtgioiejbphljoaaGreatDoor
set_option maxRecDepth 20000
set_option maxHeartbeats 1000000
set_option linter.unusedVariables false
namespace Go.Proofs.YtgioiejbphljoaaGreatDoor
open Go Go.Sx Go.Rx
namespace S
def Aim (K:List Report) (r o:Report):Prop:=o∈K/\o.id=r.of_/\o.source=r.source/\o.account=r.account
def Wd (K:List Report) (i:Int) (r:Report):Prop:=r∈K/\r.kind=9/\r.of_=i/\∃ o,Aim K r o/\o.kind≠9
def Least (p:Report->Prop) (l:List Report):Option Int->Prop
 |none=>∀ r∈l,¬ p r
 |some z=>∃ r∈l,p r/\r.id=z/\∀ s∈l,p s->z<=s.id
def Latest (p:Report->Prop) (l:List Report):Option Report->Prop
 |none=>∀ r∈l,¬ p r
 |some r=>r∈l/\p r/\∀ s∈l,p s->s.made < r.made\/s.made=r.made/\s.id<=r.id
def WdR (K:List Report) (i:Int) (z:Option Int):Prop:=Least (Wd K i) K z
def Co (K:List Report) (o r:Report):Prop:=r.kind=8/\Aim K r o/\(0<=r.cents/\r.cents<=most o.kind)/\WdR K r.id none
structure Ok (K:List Report):Prop where
 v:∀ r∈K,V r
 nd:(K.map (·.id)).Nodup
 len:K.length<=60
theorem Ok.one {K:List Report} (h:Ok K) {a b:Report} (ha:a∈K) (hb:b∈K) (e:a.id=b.id):a=b:=by
 exact X5 h.nd a b ha hb e
theorem Least.uniq {p:Report->Prop} {l:List Report} {a b:Option Int} (h1:Least p l a) (h2:Least p l b):a=b:=by
 cases a with
 |none=>
  cases b with
  |none=>rfl
  |some y=>obtain⟨r,hr,hp,_⟩:=h2;exact absurd hp (h1 r hr)
 |some x=>
  cases b with
  |none=>obtain⟨r,hr,hp,_⟩:=h1;exact absurd hp (h2 r hr)
  |some y=>
   obtain⟨r,hr,hp,rfl,hx⟩:=h1
   obtain⟨s,hs,hq,rfl,hy⟩:=h2
   have:=hx s hs hq
   have:=hy r hr hp
   rw[show r.id=s.id by omega]
theorem Least.congr {p q:Report->Prop} {l l':List Report} {a:Option Int} (h:Least p l a) (e:∀ r,r∈l/\p r↔r∈l'/\q r):Least q l' a:=by
 cases a with
 |none=>
  intro r hr hq
  obtain⟨h1,h2⟩:=(e r).2 ⟨hr,hq⟩
  exact h r h1 h2
 |some x=>
  obtain⟨r,hr,hp,hx,hm⟩:=h
  obtain⟨h1,h2⟩:=(e r).1 ⟨hr,hp⟩
  exact⟨r,h1,h2,hx,fun s hs hq=>by
   obtain⟨h3,h4⟩:=(e s).2 ⟨hs,hq⟩
   exact hm s h3 h4⟩
theorem Latest.congr {p q:Report->Prop} {l l':List Report} {a:Option Report} (h:Latest p l a) (e:∀ r,r∈l/\p r↔r∈l'/\q r):Latest q l' a:=by
 cases a with
 |none=>
  intro r hr hq
  obtain⟨h1,h2⟩:=(e r).2 ⟨hr,hq⟩
  exact h r h1 h2
 |some x=>
  obtain⟨hr,hp,hm⟩:=h
  obtain⟨h1,h2⟩:=(e x).1 ⟨hr,hp⟩
  exact⟨h1,h2,fun s hs hq=>by
   obtain⟨h3,h4⟩:=(e s).2 ⟨hs,hq⟩
   exact hm s h3 h4⟩
theorem Latest.uniq {K:List Report} (hK:Ok K) {p:Report->Prop} {a b:Option Report} (h1:Latest p K a) (h2:Latest p K b):a=b:=by
 cases a with
 |none=>
  cases b with
  |none=>rfl
  |some y=>exact absurd h2.2.1 (h1 y h2.1)
 |some x=>
  cases b with
  |none=>exact absurd h1.2.1 (h2 x h1.1)
  |some y=>
   obtain⟨hx,px,mx⟩:=h1
   obtain⟨hy,py,my⟩:=h2
   have:=mx y hy py
   have:=my x hx px
   rw[hK.one hx hy (by omega)]
theorem Least.push {p:Report->Prop} {l:List Report} {z:Option Int} (h:Least p l z) (x:Report):(¬ p x->Least p (l++[x]) z)/\(p x->(z=none\/∃ y,z=some y/\x.id < y)->Least p (l++[x]) (some x.id))/\(p x->∀ y,z=some y->y<=x.id->Least p (l++[x]) z):=by
 have mem:∀ s,s∈l++[x]↔s∈l\/s=x:=fun s=>by simp
 refine⟨fun hx=>?_,fun hx hz=>?_,fun hx y hy hle=>?_⟩
 . cases z with
   |none=>
    intro r hr
    rcases (mem r).1 hr with h1|rfl
    . exact h r h1
    . exact hx
   |some y=>
    obtain⟨r,hr,hp,he,hm⟩:=h
    exact⟨r,(mem r).2 (.inl hr),hp,he,fun s hs hq=>by
     rcases (mem s).1 hs with h1|rfl
     . exact hm s h1 hq
     . exact absurd hq hx⟩
 . refine⟨x,(mem x).2 (.inr rfl),hx,rfl,fun s hs hq=>?_⟩
   rcases (mem s).1 hs with h1|rfl
   . rcases hz with rfl|⟨y,rfl,hlt⟩
     . exact absurd hq (h s h1)
     . obtain⟨r,hr,hp,he,hm⟩:=h
       have:=hm s h1 hq
       omega
   . exact Int.le_refl _
 . subst hy
   obtain⟨r,hr,hp,he,hm⟩:=h
   exact⟨r,(mem r).2 (.inl hr),hp,he,fun s hs hq=>by
    rcases (mem s).1 hs with h1|rfl
    . exact hm s h1 hq
    . exact hle⟩
theorem Latest.push {p:Report->Prop} {l:List Report} {z:Option Report} (h:Latest p l z) (x:Report):(¬ p x->Latest p (l++[x]) z)/\(p x->(z=none\/∃ y,z=some y/\(y.made < x.made\/y.made=x.made/\y.id < x.id))->Latest p (l++[x]) (some x))/\(p x->∀ y,z=some y->¬ (y.made < x.made\/y.made=x.made/\y.id < x.id)->Latest p (l++[x]) z):=by
 have mem:∀ s,s∈l++[x]↔s∈l\/s=x:=fun s=>by simp
 refine⟨fun hx=>?_,fun hx hz=>?_,fun hx y hy hle=>?_⟩
 . cases z with
   |none=>
    intro r hr
    rcases (mem r).1 hr with h1|rfl
    . exact h r h1
    . exact hx
   |some y=>
    obtain⟨hr,hp,hm⟩:=h
    exact⟨(mem y).2 (.inl hr),hp,fun s hs hq=>by
     rcases (mem s).1 hs with h1|rfl
     . exact hm s h1 hq
     . exact absurd hq hx⟩
 . refine⟨(mem x).2 (.inr rfl),hx,fun s hs hq=>?_⟩
   rcases (mem s).1 hs with h1|rfl
   . rcases hz with rfl|⟨y,rfl,hlt⟩
     . exact absurd hq (h s h1)
     . have:=h.2.2 s h1 hq
       omega
   . omega
 . subst hy
   obtain⟨hr,hp,hm⟩:=h
   exact⟨(mem y).2 (.inl hr),hp,fun s hs hq=>by
    rcases (mem s).1 hs with h1|rfl
    . exact hm s h1 hq
    . omega⟩
def knS:List Report->Int->List Report
 |[],_=>[]
 |r :: l,k=>if r.made<=k/\r∉knS l k then r :: knS l k else knS l k
theorem kn_mem:∀ {l:List Report} {k:Int} {r:Report},r∈knS l k↔r∈l/\r.made<=k
 |[],k,r=>by simp[knS]
 |x :: l,k,r=>by
  unfold knS
  split
  . rename_i h
    rw[List.mem_cons,List.mem_cons,kn_mem]
    constructor
    . rintro (rfl|h1)
      . exact⟨.inl rfl,h.1⟩
      . exact⟨.inr h1.1,h1.2⟩
    . rintro⟨rfl|h1,h2⟩
      . exact .inl rfl
      . exact .inr ⟨h1,h2⟩
  . rename_i h
    rw[List.mem_cons,kn_mem]
    constructor
    . rintro⟨h1,h2⟩;exact⟨.inr h1,h2⟩
    . rintro⟨rfl|h1,h2⟩
      . exact kn_mem.1 (Classical.byContradiction fun h3=>h ⟨h2,h3⟩)
      . exact⟨h1,h2⟩
theorem kn_nd:∀ {l:List Report} {k:Int},(knS l k).Nodup
 |[],k=>List.nodup_nil
 |x :: l,k=>by
  unfold knS
  split
  . rename_i h
    exact List.nodup_cons.2 ⟨h.2,kn_nd⟩
  . exact kn_nd
theorem AOV:∀ {l:List Report} {k:Int},(knS l k).length<=l.length
 |[],k=>Nat.le_refl _
 |x :: l,k=>by
  unfold knS
  have:=AOV (l:=l) (k:=k)
  split
  . simp only[List.length_cons];omega
  . simp only[List.length_cons];omega
theorem AF4 {l:List Report} (h:VL l) (k:Int):Ok (knS l k):=by
 refine⟨fun r hr=>h.v r (kn_mem.1 hr).1,?_,Nat.le_trans AOV h.len⟩
 rw[List.Nodup,List.pairwise_map]
 exact List.Pairwise.imp_of_mem (fun {a b} ha hb hne e=>hne (h.cons a (kn_mem.1 ha).1 b (kn_mem.1 hb).1 e)) kn_nd
def Rep (K:List Report) (m:A4 Int Report):Prop:=∀ i r,m i=some r↔r∈K/\r.id=i
theorem ABr {S β:Type} {f:S->β->Option S} (I:List β->S->Prop):∀ (l pre:List β) (s:S),I pre s->(∀ pre x s,x∈l->I pre s->∃ s',f s x=some s'/\I (pre++[x]) s')->∃ s',l.foldlM f s=some s'/\I (pre++l) s'
 |[],pre,s,h,_=>⟨s,rfl,by simpa using h⟩
 |x :: l,pre,s,h,hs=>by
  obtain⟨s1,h1,h2⟩:=hs pre x s (List.mem_cons_self ..) h
  obtain⟨s2,h3,h4⟩:=ABr I l (pre++[x]) s1 h2 fun pre y s hy=>hs pre y s (List.mem_cons_of_mem _ hy)
  refine⟨s2,?_,by simpa using h4⟩
  rw[List.foldlM_cons,h1];exact h3
theorem Rep.lists {K:List Report} (hK:Ok K) {m:A4 Int Report} (h:Rep K m):Lists m (K.map fun r=>(r.id,r)):=by
 refine⟨?_,fun a y=>?_⟩
 . rw[List.map_map];exact hK.nd
 . rw[h,List.mem_map]
   constructor
   . rintro⟨r,hr,e⟩;cases e;exact⟨hr,rfl⟩
   . rintro⟨hr,rfl⟩;exact⟨y,hr,rfl⟩
theorem Rep.mem {K:List Report} {m:A4 Int Report} (h:Rep K m) {l:List (Int×Report)} (hl:Lists m l) (r:Report):r∈l.map (·.2)↔r∈K:=by
 rw[List.mem_map]
 constructor
 . rintro⟨⟨a,y⟩,hy,rfl⟩
   exact ((h a y).1 ((hl.2 a y).1 hy)).1
 . intro hr
   exact⟨(r.id,r),(hl.2 _ _).2 ((h _ _).2 ⟨hr,rfl⟩),rfl⟩
theorem AHv {S κ α R:Type} {f:S->κ×α->Option S} {m:A4 κ α} {l0:List (κ×α)} (h0:Lists m l0) {s0:S} (Spec:S->Prop) (hall:∀ l,Lists m l->∃ s,l.foldlM f s0=some s/\Spec s) (uniq:∀ s s',Spec s->Spec s'->s=s') {K:S->Option R} {Q:R->Prop} (h:∀ s,Spec s->Ret (K s) Q):Ret (AAV m fun l=>Option.bind (l.foldlM f s0) K) Q:=by
 obtain⟨r,hr,hs⟩:=hall _ h0
 obtain⟨a,ha,hq⟩:=h r hs
 refine⟨a,AH3 h0 fun l hl=>?_,hq⟩
 obtain⟨s,h1,h2⟩:=hall l hl
 rw[h1,bindS,uniq s r h2 hs,ha]
theorem ATm {m:A4 Int Report} {r:Report} (h:m r.of_=none):E5 (Store.mk m) r=some (Report.mk 0 0 0 0 0 0 0 0,false):=by
 unfold E5
 simp[h]
theorem ATn {m:A4 Int Report} {r o:Report} (h:m r.of_=some o):E5 (Store.mk m) r=some (o,decide (o.source=r.source/\o.account=r.account)):=by
 unfold E5
 by_cases c1:o.source=r.source
 . simp[h,c1]
   rw[<-c1]
 . simp[h,c1]
section
variable {K:List Report} (hK:Ok K) {m:A4 Int Report} (hm:Rep K m)
include hK hm
theorem AQb {r:Report} {Q:Report×Bool->Prop} (h1:∀ o,Aim K r o->Q (o,true)) (h2:∀ o',(∀ o,¬ Aim K r o)->Q (o',false)):Ret (E5 (Store.mk m) r) Q:=by
 rcases hq:m r.of_ with _|o
 . rw[ATm hq]
   refine Ret.ok (h2 _ fun o ha=>?_)
   rw[(hm _ o).2 ⟨ha.1,ha.2.1⟩] at hq;cases hq
 . obtain⟨ho,he⟩:=(hm _ o).1 hq
   rw[ATn hq]
   by_cases c:o.source=r.source/\o.account=r.account
   . rw[decide_eq_true c];exact Ret.ok (h1 o ⟨ho,he,c.1,c.2⟩)
   . rw[decide_eq_false c]
     exact Ret.ok (h2 _ fun o' ha=>c (by rw[<-hK.one ha.1 ho (by rw[ha.2.1,he])];exact⟨ha.2.2.1,ha.2.2.2⟩))
end
def Co' (K:List Report) (i:Int) (r:Report):Prop:=∃ o∈K,o.id=i/\o.kind<=7/\WdR K i none/\Co K o r
structure Dk (K:List Report) (d:Desk_139):Prop where
 reports:Rep K d.store.reports
 gone:∀ i,WdR K i (d.gone i)
 fixed:∀ i,∃ z:Option Report,d.fixed i=z.map (·.id)/\Latest (Co' K i) K z
theorem ATo {l:List Report} (hv:VL l) {known:Int} {Q:Desk_139->Prop} (h:∀ d,Dk (knS l known) d->Q d):Ret (U1 l known) Q:=by
 have hK:Ok (knS l known):=AF4 hv known
 have hC:=hv.cons
 have hl:=hv.len
 generalize hKe:knS l known=K at h hK
 unfold U1
 refine Ret.bind (D3 l.length (fun n (t:Int×A4 Int Report)=>t.1=n/\∀ i r,t.2 i=some r↔(r∈l.take n/\r.made<=known)/\r.id=i) ⟨rfl,fun i r=>by simp[fnone]⟩ ?_ ?_)
 . rintro n hlt ⟨_,m⟩ ⟨rfl,hm⟩
   dsimp only at hm
   refine Ret.condT (ltT hlt) (Ret.bind (N6 hlt (Ret.bind (Ret.cond (fun c=>?_) fun c=>?_))))
   . have c:=of_decide_eq_true c
     refine Ret.ok (Ret.bind (Ret.chk (by omega) (Ret.next ⟨by dsimp only;omega,fun i r=>?_⟩)))
     rw[F4 hlt]
     show B7 m l[n].id l[n] i=some r↔_
     unfold B7
     by_cases e:i=l[n].id
     . subst e
       simp only[if_true]
       constructor
       . intro h9
         have:=Option.some.inj h9
         exact⟨⟨.inr this.symm,by rw[<-this];exact c⟩,by rw[<-this]⟩
       . rintro⟨⟨h9|h9,h8⟩,h7⟩
         . rw[hC r (List.mem_of_mem_take h9) l[n] (List.getElem_mem hlt) h7]
         . rw[h9]
     . simp only[e,if_false]
       rw[hm]
       constructor
       . rintro⟨⟨h9,h8⟩,h7⟩;exact⟨⟨.inl h9,h8⟩,h7⟩
       . rintro⟨⟨h9|h9,h8⟩,h7⟩
         . exact⟨⟨h9,h8⟩,h7⟩
         . exact absurd (by rw[<-h7,h9]) e
   . have c:=of_decide_eq_false c
     refine Ret.ok (Ret.bind (Ret.chk (by omega) (Ret.next ⟨by dsimp only;omega,fun i r=>?_⟩)))
     rw[F4 hlt]
     dsimp only
     rw[hm]
     constructor
     . rintro⟨⟨h9,h8⟩,h7⟩;exact⟨⟨.inl h9,h8⟩,h7⟩
     . rintro⟨⟨h9|h9,h8⟩,h7⟩
       . exact⟨⟨h9,h8⟩,h7⟩
       . exact absurd (h9▸h8) c
 rintro⟨_,m⟩ ⟨rfl,hm⟩
 dsimp only at hm
 rw[List.take_length] at hm
 refine Ret.condF (ltF (Nat.le_refl _)) (Ret.done ?_)
 have hm:Rep K m:=fun i r=>by rw[hm,<-hKe,kn_mem]
 have hl0:=hm.lists hK
 have mem1:∀ {lx:List (Int×Report)},Lists m lx->∀ x∈lx,x.2∈K:=fun hlx x hx=>(hm.mem hlx x.2).1 (List.mem_map.2 ⟨x,hx,rfl⟩)
 refine AHv hl0 (fun s:A4 Int Int=>∀ i,WdR K i (s i)) (fun lx hlx=>?_) (fun s s' hs hs'=>funext fun i=>(hs i).uniq (hs' i)) fun g hg=>?_
 . refine Exists.imp (fun s (h:_/\_)=>⟨h.1,fun i=>(h.2 i).congr fun r=>by rw[List.nil_append,hm.mem hlx]⟩) (ABr (fun (pre:List (Int×Report)) (s:A4 Int Int)=>∀ i,Least (Wd K i) (pre.map (·.2)) (s i)) lx [] (fnone:A4 Int Int) (fun i r hr=>by simp at hr) (fun pre x s hx hI=>?_))
   . obtain⟨xk,r⟩:=x
     have hr:r∈K:=mem1 hlx _ hx
     have no:(∀ i,¬ Wd K i r)->∀ i,Least (Wd K i) ((pre++[(xk,r)]).map (·.2)) (s i):=fun hn i=>by rw[List.map_append];exact ((hI i).push r).1 (hn i)
     show Ret _ fun s':A4 Int Int=>∀ i,Least (Wd K i) ((pre++[(xk,r)]).map (·.2)) (s' i)
     refine Ret.bind (AQb hK hm (fun o ha=>?_) fun o' hna=>?_)
     . dsimp only
       by_cases c1:r.kind=9
       . rw[decide_eq_true c1]
         by_cases c2:o.kind=9
         . rw[decide_eq_true c2]
           refine Ret.bind (Ret.condT rfl (Ret.condT rfl (Ret.ok (Ret.bind (Ret.condF rfl (Ret.ok (Ret.ok (no fun i hw=>?_))))))))
           obtain⟨_,_,h3,o2,ha2,h9⟩:=hw
           exact h9 (by rw[hK.one ha2.1 ha.1 (by rw[ha2.2.1,ha.2.1])];exact c2)
         . rw[decide_eq_false c2]
           have hw:Wd K o.id r:=⟨hr,c1,ha.2.1.symm,o,ha,c2⟩
           have oth:∀ i,i≠o.id->¬ Wd K i r:=fun i hi hw=>hi (by rw[ha.2.1,hw.2.2.1])
           refine Ret.bind (Ret.condT rfl (Ret.condT rfl (Ret.ok (Ret.bind (Ret.condT rfl (Ret.bind ?_))))))
           have put:(s o.id=none\/∃ y,s o.id=some y/\r.id < y)->∀ i,Least (Wd K i) ((pre++[(xk,r)]).map (·.2)) (B7 s o.id r.id i):=fun hz i=>by
            rw[List.map_append]
            unfold B7
            by_cases e:i=o.id
            . subst e;rw[if_pos rfl];exact ((hI _).push r).2.1 hw hz
            . rw[if_neg e];exact ((hI i).push r).1 (oth i e)
           cases hz:s o.id with
           |none=>exact Ret.condT rfl (Ret.ok (Ret.bind (Ret.condT rfl (Ret.ok (Ret.ok (Ret.ok (put (.inl hz))))))))
           |some y=>
            refine Ret.condF rfl (Ret.ok ?_)
            by_cases c3:r.id < y
            . rw[decide_eq_true (show r.id < (some y).getD 0 from c3)]
              exact Ret.bind (Ret.condT rfl (Ret.ok (Ret.ok (Ret.ok (put (.inr ⟨y,hz,c3⟩))))))
            . rw[decide_eq_false (show ¬ r.id < (some y).getD 0 from c3)]
              refine Ret.bind (Ret.condF rfl (Ret.ok (Ret.ok (Ret.ok fun i=>?_))))
              rw[List.map_append]
              by_cases e:i=o.id
              . subst e;exact ((hI _).push r).2.2 hw y hz (by omega)
              . exact ((hI i).push r).1 (oth i e)
       . rw[decide_eq_false c1]
         exact Ret.bind (Ret.condF rfl (Ret.ok (Ret.bind (Ret.condF rfl (Ret.ok (Ret.ok (no fun i hw=>c1 hw.2.1)))))))
     . dsimp only
       have hn:∀ i,¬ Wd K i r:=fun i hw=>by
        obtain⟨_,_,_,o2,ha2,_⟩:=hw
        exact hna o2 ha2
       refine Ret.bind (Ret.cond (fun _=>Ret.condF rfl (Ret.ok ?_)) fun _=>Ret.ok ?_) <;> exact Ret.bind (Ret.condF rfl (Ret.ok (Ret.ok (no hn))))
 refine AHv hl0 (fun s:A4 Int Int=>∀ i,∃ z:Option Report,s i=z.map (·.id)/\Latest (Co' K i) K z) (fun lx hlx=>?_) (fun s s' hs hs'=>funext fun i=>?_) fun f hf=>?_
 . refine Exists.imp (fun s (h:_/\_)=>⟨h.1,fun i=>(by
    obtain⟨z,hz,hz2⟩:=h.2.2 i
    exact⟨z,hz,hz2.congr fun r=>by rw[List.nil_append,hm.mem hlx]⟩)⟩) (ABr (fun (pre:List (Int×Report)) (s:A4 Int Int)=>(∀ x∈pre,x.2∈K)/\∀ i,∃ z:Option Report,s i=z.map (·.id)/\Latest (Co' K i) (pre.map (·.2)) z) lx [] (fnone:A4 Int Int) ⟨(fun x hx=>by simp at hx),fun i=>⟨none,rfl,fun r hr=>by simp at hr⟩⟩ (fun pre x s hx hI=>?_))
   . obtain⟨xk,r⟩:=x
     have hr:r∈K:=mem1 hlx _ hx
     obtain⟨hpre,hI⟩:=hI
     have hpre':∀ x∈pre++[(xk,r)],x.2∈K:=fun x hx=>by
      rcases List.mem_append.1 hx with h9|h9
      . exact hpre x h9
      . have:x=(xk,r):=by simpa using h9
        rw[this];exact hr
     have no:(∀ i,¬ Co' K i r)->(∀ x∈pre++[(xk,r)],x.2∈K)/\∀ i,∃ z:Option Report,s i=z.map (·.id)/\Latest (Co' K i) ((pre++[(xk,r)]).map (·.2)) z:=fun hn=>⟨hpre',fun i=>by
      obtain⟨z,hz,hz2⟩:=hI i
      rw[List.map_append]
      exact⟨z,hz,(hz2.push r).1 (hn i)⟩⟩
     show Ret _ fun s':A4 Int Int=>(∀ x∈pre++[(xk,r)],x.2∈K)/\∀ i,∃ z:Option Report,s' i=z.map (·.id)/\Latest (Co' K i) ((pre++[(xk,r)]).map (·.2)) z
     refine Ret.bind (AQb hK hm (fun o ha=>?_) fun o' hna=>?_)
     . dsimp only
       have hov:=hK.v o ha.1
       have one:∀ {i o2},o2∈K->o2.id=i->Co K o2 r->o2=o:=fun h1 _ h3=>hK.one h1 ha.1 (by rw[h3.2.1.2.1,ha.2.1])
       by_cases c1:r.kind=8
       . rw[decide_eq_true c1]
         refine Ret.bind (Ret.condF rfl (Ret.condF rfl ?_))
         unfold J3
         refine Ret.bind (Ret.ok ?_)
         by_cases c2:o.kind<=7
         . refine Ret.condF (by simp;exact c2) ?_
           rw[AOM hov.1,AIR (by simp),bindS]
           by_cases c3:0<=r.cents/\r.cents<=most o.kind
           . refine Ret.condF (by simp[inB,c3]) ?_
             unfold Q0
             refine Ret.bind (Ret.ok ?_)
             dsimp only
             have gs:∀ i,(g i).isSome=true↔¬ WdR K i none:=fun i=>by
              cases hq:g i with
              |none=>simp;have:=hg i;rw[hq] at this;exact this
              |some y=>simp;intro h9;have:=(hg i).uniq h9;rw[hq] at this;cases this
             by_cases c4:(g r.id).isSome=true
             . rw[c4]
               exact Ret.condT rfl (Ret.ok (Ret.condT rfl (Ret.ok (no fun i hc=>by
                obtain⟨o2,_,_,_,_,h5⟩:=hc
                exact (gs r.id).1 c4 h5.2.2.2))))
             . have c4':(g r.id).isSome=false:=by simpa using c4
               rw[c4']
               refine Ret.condF rfl (Ret.bind (Ret.ok ?_))
               by_cases c5:(g o.id).isSome=true
               . rw[c5]
                 exact Ret.ok (Ret.condT rfl (Ret.ok (no fun i hc=>by
                  obtain⟨o2,h1,h2,_,h4,h5⟩:=hc
                  have:=one h1 h2 h5
                  subst this
                  exact (gs o2.id).1 c5 (h2▸h4))))
               . have c5':(g o.id).isSome=false:=by simpa using c5
                 rw[c5']
                 refine Ret.ok (Ret.condF rfl ?_)
                 have w1:WdR K r.id none:=Classical.byContradiction fun h9=>c4 ((gs r.id).2 h9)
                 have w2:WdR K o.id none:=Classical.byContradiction fun h9=>c5 ((gs o.id).2 h9)
                 have hc:Co' K o.id r:=⟨o,ha.1,rfl,c2,w2,c1,ha,c3,w1⟩
                 have oth:∀ i,i≠o.id->¬ Co' K i r:=fun i hi hc=>by
                  obtain⟨o2,h1,h2,_,_,h5⟩:=hc
                  exact hi (by rw[<-h2,one h1 h2 h5])
                 obtain⟨z,hz,hz2⟩:=hI o.id
                 have put:(z=none\/∃ y,z=some y/\(y.made < r.made\/y.made=r.made/\y.id < r.id))->(∀ x∈pre++[(xk,r)],x.2∈K)/\∀ i,∃ z:Option Report,(B7 s o.id r.id) i=z.map (·.id)/\Latest (Co' K i) ((pre++[(xk,r)]).map (·.2)) z:=fun h9=>⟨hpre',fun i=>by
                  rw[List.map_append]
                  unfold B7
                  by_cases e:i=o.id
                  . subst e;rw[if_pos rfl];exact⟨some r,rfl,(hz2.push r).2.1 hc h9⟩
                  . rw[if_neg e]
                    obtain⟨z',hz',hz2'⟩:=hI i
                    exact⟨z',hz',(hz2'.push r).1 (oth i e)⟩⟩
                 have keep:∀ y,z=some y->¬ (y.made < r.made\/y.made=r.made/\y.id < r.id)->(∀ x∈pre++[(xk,r)],x.2∈K)/\∀ i,∃ z:Option Report,s i=z.map (·.id)/\Latest (Co' K i) ((pre++[(xk,r)]).map (·.2)) z:=fun y hy h9=>⟨hpre',fun i=>by
                  rw[List.map_append]
                  by_cases e:i=o.id
                  . subst e;exact⟨z,hz,(hz2.push r).2.2 hc y hy h9⟩
                  . obtain⟨z',hz',hz2'⟩:=hI i
                    exact⟨z',hz',(hz2'.push r).1 (oth i e)⟩⟩
                 refine Ret.bind ?_
                 rw[hz]
                 cases z with
                 |none=>exact Ret.condT rfl (Ret.ok (Ret.bind (Ret.condT rfl (Ret.ok (Ret.ok (put (.inl rfl)))))))
                 |some y=>
                  have hyK:y∈K:=by
                   obtain⟨q,hq,hq2⟩:=List.mem_map.1 hz2.1
                   rw[<-hq2];exact hpre q hq
                  have hmy:m y.id=some y:=(hm _ _).2 ⟨hyK,rfl⟩
                  refine Ret.condF rfl (Ret.bind (Ret.val p_cmp (Ret.bind (Ret.val p_cmp (Ret.bind (Ret.val p_Or ?_))))))
                  have hyid:((some y).map (·.id)).getD 0=y.id:=rfl
                  rw[hyid,hmy]
                  simp only[Option.getD_some]
                  have bd:∀ a b:Int,-1<=Q7 a b/\Q7 a b<=1:=fun a b=>by unfold Q7;split <;> (try split) <;> omega
                  have b1:=bd y.made r.made
                  have b2:=bd y.id r.id
                  refine Ret.ok ?_
                  have key:decide ((if Q7 y.made r.made=0 then Q7 y.id r.id else Q7 y.made r.made) < 0)=decide (y.made < r.made\/y.made=r.made/\y.id < r.id):=by
                   rw[decide_eq_decide]
                   unfold Q7
                   by_cases h1:y.made < r.made
                   . simp[h1]
                   . by_cases h2:r.made < y.made
                     . simp[h1,h2];omega
                     . have:y.made=r.made:=by omega
                       simp[this]
                       by_cases h3:y.id < r.id
                       . simp[h3]
                       . simp[h3];split <;> omega
                  rw[key]
                  by_cases c6:y.made < r.made\/y.made=r.made/\y.id < r.id
                  . rw[decide_eq_true c6]
                    exact Ret.bind (Ret.condT rfl (Ret.ok (Ret.ok (put (.inr ⟨y,rfl,c6⟩)))))
                  . rw[decide_eq_false c6]
                    exact Ret.bind (Ret.condF rfl (Ret.ok (Ret.ok (keep y rfl c6))))
           . have hx:([r.cents].all (inB 0 (most o.kind)))=false:=by simp only[List.all_cons,List.all_nil,Bool.and_true,inB];exact decide_eq_false c3
             rw[hx]
             exact Ret.condT rfl (Ret.ok (Ret.condT rfl (Ret.ok (no fun i hc=>by
              obtain⟨o2,h1,h2,_,_,h5⟩:=hc
              rw[one h1 h2 h5] at h5
              exact c3 h5.2.2.1))))
         . refine Ret.condT (by simp;omega) (Ret.ok (Ret.condT rfl (Ret.ok (no fun i hc=>?_))))
           obtain⟨o2,h1,h2,h3,_,h5⟩:=hc
           rw[one h1 h2 h5] at h3
           exact c2 h3
       . rw[decide_eq_false c1]
         exact Ret.bind (Ret.condT rfl (Ret.ok (Ret.condT rfl (Ret.ok (no fun i hc=>by
          obtain⟨o2,_,_,_,_,h5⟩:=hc
          exact c1 h5.1)))))
     . dsimp only
       have hn:∀ i,¬ Co' K i r:=fun i hc=>by
        obtain⟨o2,_,_,_,_,h5⟩:=hc
        exact hna o2 h5.2.1
       refine Ret.bind (Ret.cond (fun _=>Ret.ok ?_) fun _=>Ret.condT rfl (Ret.ok ?_)) <;> exact Ret.condT rfl (Ret.ok (no hn))
 . obtain⟨z,hz,hz2⟩:=hs i
   obtain⟨z',hz',hz2'⟩:=hs' i
   rw[hz,hz',Latest.uniq hK hz2 hz2']
 . exact Ret.ok (h _ ⟨hm,hg,hf⟩)
end S
end Go.Proofs.YtgioiejbphljoaaGreatDoor
set_option maxRecDepth 20000
set_option maxHeartbeats 1000000
set_option linter.unusedVariables false
namespace Go.Proofs.YtgioiejbphljoaaGreatDoor
open Go Go.Sx Go.Rx
namespace S
def ANA (r o:Report):Bool:=decide (o.id=r.of_/\o.source=r.source/\o.account=r.account)
def wdB (K:List Report) (i:Int) (r:Report):Bool:=decide (r.kind=9/\r.of_=i)&&K.any fun o=>ANA r o&&decide (o.kind≠9)
def AJU (K:List Report) (i:Int):Bool:=K.any (wdB K i)
def coB (K:List Report) (o r:Report):Bool:=decide (r.kind=8/\0<=r.cents/\r.cents<=most o.kind)&&(ANA r o&&!AJU K r.id)
def AK4 (K:List Report) (o:Report) (z:Option Report) (r:Report):Option Report:=if coB K o r then match z with
 |none=>some r
 |some y=>if y.made < r.made\/y.made=r.made/\y.id < r.id then some r else some y else z
def ANB (K:List Report) (o:Report):Option Report:=K.foldl (AK4 K o) none
def fix (K:List Report) (o:Report):Report:=match ANB K o with
 |none=>o
 |some c=>Report.mk o.id o.source o.account o.made c.about o.kind c.cents o.of_
def T (K:List Report):List Report:=(K.filter fun o=>decide (o.kind<=7)&&!AJU K o.id).map (fix K)
theorem AL4 {K:List Report} {i:Int} {r:Report} (hr:r∈K):wdB K i r=true↔Wd K i r:=by
 unfold wdB Wd Aim ANA
 rw[Bool.and_eq_true,decide_eq_true_iff,List.any_eq_true]
 constructor
 . rintro⟨⟨h1,h2⟩,o,h3,h4⟩
   rw[Bool.and_eq_true,decide_eq_true_iff,decide_eq_true_iff] at h4
   exact⟨hr,h1,h2,o,⟨h3,h4.1⟩,h4.2⟩
 . rintro⟨_,h1,h2,o,⟨h3,h4⟩,h5⟩
   exact⟨⟨h1,h2⟩,o,h3,by rw[Bool.and_eq_true,decide_eq_true_iff,decide_eq_true_iff];exact⟨h4,h5⟩⟩
theorem AGx {K:List Report} {i:Int}:AJU K i=false↔WdR K i none:=by
 unfold AJU WdR Least
 rw[List.any_eq_false]
 constructor
 . intro h r hr hw;exact h r hr ((AL4 hr).2 hw)
 . intro h r hr hw;exact h r hr ((AL4 hr).1 hw)
theorem AL5 {K:List Report} {o r:Report} (ho:o∈K):coB K o r=true↔Co K o r:=by
 unfold coB Co Aim ANA
 rw[Bool.and_eq_true,Bool.and_eq_true,decide_eq_true_iff,decide_eq_true_iff,Bool.not_eq_true',AGx]
 constructor
 . rintro⟨⟨h1,h2⟩,h3,h4⟩;exact⟨h1,⟨ho,h3⟩,h2,h4⟩
 . rintro⟨h1,⟨_,h3⟩,h2,h4⟩;exact⟨⟨h1,h2⟩,h3,h4⟩
theorem AGI {K:List Report} {o:Report} (ho:o∈K):Latest (Co K o) K (ANB K o):=by
 have key:∀ (l p:List Report) (z:Option Report),Latest (Co K o) p z->Latest (Co K o) (p++l) (l.foldl (AK4 K o) z):=by
  intro l
  induction l with
  |nil=>intro p z h;simpa using h
  |cons r l ih=>
   intro p z h
   have:p++r :: l=(p++[r])++l:=by simp
   rw[this]
   refine ih _ _ ?_
   obtain⟨p1,p2,p3⟩:=h.push r
   unfold AK4
   by_cases c:coB K o r=true
   . rw[if_pos c]
     have c:=(AL5 ho).1 c
     cases z with
     |none=>exact p2 c (.inl rfl)
     |some y=>
      dsimp only
      split
      . rename_i h9;exact p2 c (.inr ⟨y,rfl,h9⟩)
      . rename_i h9;exact p3 c y rfl h9
   . rw[if_neg c]
     exact p1 fun h9=>c ((AL5 ho).2 h9)
 have:=key K [] none (fun r hr=>by cases hr)
 rw[List.nil_append] at this
 exact this
theorem AK5 {K:List Report} (o:Report):(fix K o).id=o.id:=by
 unfold fix;split <;> rfl
theorem T_mem {K:List Report} {r:Report}:r∈T K↔∃ o∈K,o.kind<=7/\WdR K o.id none/\r=fix K o:=by
 unfold T
 rw[List.mem_map]
 constructor
 . rintro⟨o,ho,rfl⟩
   rw[List.mem_filter,Bool.and_eq_true,decide_eq_true_iff,Bool.not_eq_true',AGx] at ho
   exact⟨o,ho.1,ho.2.1,ho.2.2,rfl⟩
 . rintro⟨o,h1,h2,h3,rfl⟩
   exact⟨o,List.mem_filter.2 ⟨h1,by rw[Bool.and_eq_true,decide_eq_true_iff,Bool.not_eq_true',AGx];exact⟨h2,h3⟩⟩,rfl⟩
theorem ANC {K:List Report} (hK:Ok K):((T K).map (·.id)).Nodup:=by
 unfold T
 rw[List.map_map]
 have:(fun r:Report=>r.id) ∘ fix K=fun r=>r.id:=funext fun o=>AK5 o
 rw[this]
 exact (List.Sublist.map _ List.filter_sublist).nodup hK.nd
theorem AND {K:List Report} (hK:Ok K):(T K).length<=60:=by
 unfold T
 rw[List.length_map]
 exact Nat.le_trans (List.length_filter_le _ _) hK.len
theorem ARs {K:List Report} (hK:Ok K) {o:Report} (ho:o∈K) {z:Option Report} (h:Latest (Co K o) K z):ANB K o=z:=Latest.uniq hK (AGI ho) h
def cv (d:Desk_139) (o:Report):Report:=match d.fixed o.id with
 |none=>o
 |some j=>Report.mk o.id o.source o.account o.made ((d.store.reports j).getD (Report.mk 0 0 0 0 0 0 0 0)).about o.kind ((d.store.reports j).getD (Report.mk 0 0 0 0 0 0 0 0)).cents o.of_
theorem AQd {α:Type} {p q:Prop} [Decidable p] [Decidable q] (h:p↔q) {a b:α}:(if p then a else b)=if q then a else b:=by
 by_cases c:p
 . rw[if_pos c,if_pos (h.1 c)]
 . rw[if_neg c,if_neg fun c'=>c (h.2 c')]
theorem AOW {α β:Type} {f:α->β} {l:List α} (h:(l.map f).Nodup):l.Nodup:=(List.pairwise_map.1 h).imp fun h e=>h (congrArg f e)
theorem AK6:∀ (l:List (Int×Report)) (pre:List Report),pre.length+l.length<=1000000->List.foldlM (m:=Option) (s:=((List Report))) (α:=Int×Report) (fun x37 (k38,v39)=>Option.bind (appo 64 x37 ([v39])) fun l40=>some l40) pre l=some (pre++l.map (·.2))
 |[],pre,_=>by simp
 |x :: l,pre,h=>by
  rw[List.length_cons] at h
  obtain⟨k,v⟩:=x
  rw[List.foldlM_cons]
  dsimp only
  rw[X7 (by simp;omega) (by simp;omega)]
  show List.foldlM _ (pre++[v]) l=_
  rw[AK6 l (pre++[v]) (by simp;omega)]
  simp
section
variable {K:List Report} (hK:Ok K) {d:Desk_139} (hd:Dk K d)
include hK hd
theorem AQe {i:Int}:d.gone i=none↔WdR K i none:=by
 constructor
 . intro h;have:=hd.gone i;rwa [h] at this
 . intro h;exact (hd.gone i).uniq h
theorem ATq {o:Report} (ho:o∈K) (h7:o.kind<=7) (hw:WdR K o.id none) (r:Report):Co' K o.id r↔Co K o r:=by
 constructor
 . rintro⟨o2,h1,h2,_,_,h5⟩
   rwa [<-hK.one h1 ho h2]
 . intro h;exact⟨o,ho,rfl,h7,hw,h⟩
theorem APs {o:Report} (ho:o∈K) (h7:o.kind<=7) (hw:WdR K o.id none):∃ z:Option Report,d.fixed o.id=z.map (·.id)/\Latest (Co K o) K z:=by
 obtain⟨z,h1,h2⟩:=hd.fixed o.id
 exact⟨z,h1,h2.congr fun r=>and_congr_right fun _=>ATq hK hd ho h7 hw r⟩
theorem AOX {o:Report} (ho:o∈K) (h7:o.kind<=7) (hw:WdR K o.id none):cv d o=fix K o:=by
 obtain⟨z,h1,h2⟩:=APs hK hd ho h7 hw
 unfold cv fix
 rw[ARs hK ho h2,h1]
 cases z with
 |none=>rfl
 |some c=>
  have hc:c∈K:=h2.1
  simp only[Option.map_some,(hd.reports c.id c).2 ⟨hc,rfl⟩,Option.getD_some]
theorem AV1:Lists d.gone ((K.filter fun o=>(d.gone o.id).isSome).map fun o=>(o.id,(d.gone o.id).getD 0)):=by
 refine⟨?_,fun a y=>?_⟩
 . rw[List.map_map]
   exact (List.Sublist.map _ List.filter_sublist).nodup hK.nd
 . rw[List.mem_map]
   constructor
   . rintro⟨o,ho,e⟩
     rw[List.mem_filter] at ho
     obtain⟨z,hz⟩:=Option.isSome_iff_exists.1 ho.2
     cases e
     rw[hz];rfl
   . intro h
     have:=hd.gone a
     rw[h] at this
     obtain⟨r,_,⟨_,_,h3,o,ha,_⟩,_⟩:=this
     have e:o.id=a:=by rw[ha.2.1,h3]
     refine⟨o,List.mem_filter.2 ⟨ha.1,by rw[e,h];rfl⟩,by rw[e,h];rfl⟩
open Classical in
theorem ARt {Q:List Report->Prop} (h:∀ out,out.Perm (T K)->out.Pairwise (le2 (·.about) (·.id))->Q out):Ret (K1 d) Q:=by
 have hl0:=hd.reports.lists hK
 have hKl:=hK.len
 unfold K1
 refine Ret.bind ?_
 unfold Y2
 refine AHv hl0 (fun s:A4 Int Report=>∀ i r',s i=some r'↔∃ o∈K,o.id=i/\o.kind<=7/\r'=cv d o) (fun lx hlx=>?_) (fun s s' hs hs'=>funext fun i=>Option.ext fun r'=>(hs i r').trans (hs' i r').symm) fun m1 hm1=>?_
 . refine Exists.imp (fun s (h:_/\_)=>⟨h.1,fun i r'=>(h.2.2 i r').trans (by
    constructor
    . rintro⟨o,ho,h9⟩;exact⟨o,by rwa [List.nil_append,hd.reports.mem hlx] at ho,h9⟩
    . rintro⟨o,ho,h9⟩;exact⟨o,by rwa [List.nil_append,hd.reports.mem hlx],h9⟩)⟩) (ABr (fun (pre:List (Int×Report)) (s:A4 Int Report)=>(∀ x∈pre,x.2∈K)/\∀ i r',s i=some r'↔∃ o∈pre.map (·.2),o.id=i/\o.kind<=7/\r'=cv d o) lx [] (fnone:A4 Int Report) ⟨(fun x hx=>by simp at hx),fun i r'=>by simp[fnone]⟩ (fun pre x s hx hI=>?_))
   obtain⟨xk,o⟩:=x
   obtain⟨ho,hok⟩:=(hd.reports xk o).1 ((hlx.2 _ _).1 hx)
   subst hok
   obtain⟨hpre,hI⟩:=hI
   have hpre':∀ x∈pre++[(o.id,o)],x.2∈K:=fun x hx=>by
    rcases List.mem_append.1 hx with h9|h9
    . exact hpre x h9
    . have:x=(o.id,o):=by simpa using h9
      rw[this];exact ho
   show Ret _ fun s':A4 Int Report=>(∀ x∈pre++[(o.id,o)],x.2∈K)/\∀ i r',s' i=some r'↔∃ o'∈(pre++[(o.id,o)]).map (·.2),o'.id=i/\o'.kind<=7/\r'=cv d o'
   have fin:∀ a c,cv d o=Report.mk o.id o.source o.account o.made a o.kind c o.of_->Ret (Option.bind (J3 (Report.mk o.id o.source o.account o.made a o.kind c o.of_)) fun r19=>Option.bind (α:=((A4 Int Report))) (cond (r19) (some (B7 s o.id (Report.mk o.id o.source o.account o.made a o.kind c o.of_))) (some s)) ((fun x20=>some x20))) fun s':A4 Int Report=>(∀ x∈pre++[(o.id,o)],x.2∈K)/\∀ i r',s' i=some r'↔∃ o'∈(pre++[(o.id,o)]).map (·.2),o'.id=i/\o'.kind<=7/\r'=cv d o':=fun a c e=>by
    rw[<-e]
    refine Ret.bind (Ret.val (show J3 (cv d o)=some (decide (o.kind<=7)) by rw[e];rfl) (Ret.bind (Ret.cond (fun h1=>Ret.ok (Ret.ok ⟨hpre',fun i r'=>?_⟩)) fun h1=>Ret.ok (Ret.ok ⟨hpre',fun i r'=>?_⟩))))
    . have h1:=of_decide_eq_true h1
      rw[List.map_append]
      unfold B7
      by_cases ei:i=o.id
      . subst ei
        rw[if_pos rfl]
        constructor
        . intro h9
          exact⟨o,List.mem_append.2 (.inr (by simp)),rfl,h1,(Option.some.inj h9).symm⟩
        . rintro⟨o',h2,h3,h4,h5⟩
          have:o'=o:=by
           rcases List.mem_append.1 h2 with h9|h9
           . obtain⟨x,hx1,rfl⟩:=List.mem_map.1 h9
             exact hK.one (hpre x hx1) ho h3
           . simpa using h9
          rw[h5,this]
      . rw[if_neg ei,hI]
        constructor
        . rintro⟨o',h2,h3⟩;exact⟨o',List.mem_append.2 (.inl h2),h3⟩
        . rintro⟨o',h2,h3⟩
          rcases List.mem_append.1 h2 with h9|h9
          . exact⟨o',h9,h3⟩
          . have:o'=o:=by simpa using h9
            exact absurd (by rw[<-h3.1,this]) ei
    . have h1:=of_decide_eq_false h1
      rw[List.map_append,hI]
      constructor
      . rintro⟨o',h2,h3⟩;exact⟨o',List.mem_append.2 (.inl h2),h3⟩
      . rintro⟨o',h2,h3⟩
        rcases List.mem_append.1 h2 with h9|h9
        . exact⟨o',h9,h3⟩
        . have:o'=o:=by simpa using h9
          exact absurd (this▸h3.2.1) h1
   have e1:cv d o=Report.mk o.id o.source o.account o.made (if (d.fixed o.id).isSome then ((d.store.reports ((d.fixed o.id).getD 0)).getD (Report.mk 0 0 0 0 0 0 0 0)).about else o.about) o.kind (if (d.fixed o.id).isSome then ((d.store.reports ((d.fixed o.id).getD 0)).getD (Report.mk 0 0 0 0 0 0 0 0)).cents else o.cents) o.of_:=by
    unfold cv
    cases d.fixed o.id with
    |none=>rfl
    |some j=>rfl
   refine Ret.bind ?_
   cases hf:d.fixed o.id with
   |none=>
    rw[hf] at e1
    exact Ret.condF rfl (Ret.ok (fin _ _ e1))
   |some j=>
    rw[hf] at e1
    exact Ret.condT rfl (Ret.ok (fin _ _ e1))
 refine AHv (AV1 hK hd) (fun s:A4 Int Report=>∀ i,s i=if (d.gone i).isSome then none else m1 i) (fun lx hlx=>?_) (fun s s' hs hs'=>funext fun i=>(hs i).trans (hs' i).symm) fun m2 hm2=>?_
 . classical
   refine Exists.imp (fun s (h:_/\_)=>⟨h.1,fun i=>(h.2 i).trans (AQd ?_)⟩) (ABr (fun (pre:List (Int×Int)) (s:A4 Int Report)=>∀ i,s i=if ∃ y,(i,y)∈pre then none else m1 i) lx [] m1 (fun i=>by simp) (fun pre x s hx hI=>⟨_,rfl,fun i=>?_⟩))
   . unfold Z2
     by_cases e:i=x.1
     . rw[if_pos e,if_pos ⟨x.2,List.mem_append.2 (.inr (by rw[e];simp))⟩]
     . rw[if_neg e,hI]
       refine AQd (exists_congr fun y=>?_)
       rw[List.mem_append]
       constructor
       . exact .inl
       . rintro (h9|h9)
         . exact h9
         . have:(i,y)=x:=by simpa using h9
           exact absurd (by rw[<-this]) e
   . rw[List.nil_append,Option.isSome_iff_exists]
     exact exists_congr fun y=>hlx.2 i y
 have hlT:Lists m2 ((T K).map fun r=>(r.id,r)):=by
  refine⟨by rw[List.map_map];exact ANC hK,fun a y=>?_⟩
  rw[hm2,List.mem_map]
  constructor
  . rintro⟨r,hr,e⟩
    cases e
    obtain⟨o,ho,h7,hw,rfl⟩:=T_mem.1 hr
    rw[AK5,(AQe hK hd).2 hw]
    exact (hm1 _ _).2 ⟨o,ho,rfl,h7,(AOX hK hd ho h7 hw).symm⟩
  . intro h1
    split at h1
    . cases h1
    rename_i h2
    obtain⟨o,ho,rfl,h7,rfl⟩:=(hm1 _ _).1 h1
    have hw:WdR K o.id none:=(AQe hK hd).1 (by simpa using h2)
    rw[AOX hK hd ho h7 hw]
    exact⟨fix K o,T_mem.2 ⟨o,ho,h7,hw,rfl⟩,by rw[AK5]⟩
 have hper:∀ l,Lists m2 l->(l.map (·.2)).Perm (T K):=fun l hl=>by
  have:l.Perm ((T K).map fun r=>(r.id,r)):=by
   refine (List.perm_ext_iff_of_nodup ?_ ?_).2 fun p=>?_
   . exact AOW hl.1
   . exact AOW hlT.1
   . obtain⟨a,y⟩:=p
     exact (hl.2 a y).trans (hlT.2 a y).symm
  have:=this.map (·.2)
  rwa [List.map_map,show ((fun p:Int×Report=>p.2) ∘ fun r:Report=>(r.id,r))=id from rfl,List.map_id] at this
 have one:∀ {l:List Report},l.Perm (T K)->∀ a b,a∈l->b∈l->a.about=b.about->a.id=b.id->a=b:=fun hp a b ha hb _ e=>X5 (ANC hK) a b (hp.mem_iff.1 ha) (hp.mem_iff.1 hb) e
 have hone:∀ l,Lists m2 l->Ret (Option.bind (List.foldlM (m:=Option) (s:=((List Report))) (α:=Int×Report) (fun x37 (k38,v39)=>Option.bind (appo 64 x37 ([v39])) fun l40=>some l40) ([]:(List Report)) l) fun x42=>Option.bind (E7 ([(107:Nat),(108:Nat)]) x42) fun (_,m43)=>some (m43,(m43.length:Int),(0:Int))) fun z=>(z.1.Perm (T K)/\z.1.Pairwise (le2 (·.about) (·.id)))/\z=(z.1,(z.1.length:Int),(0:Int)):=fun l hl=>by
  have hp:=hper l hl
  have hlen:=hp.length_eq
  have:=AND hK
  rw[List.length_map] at hlen
  rw[AK6 l [] (by simp;omega),List.nil_append,bindS]
  have ho:=AJT (x:=l.map (·.2)) (cmp:=fun a b=>I8 a b [107,108]) (k1:=(·.about)) (k2:=(·.id)) (fun a b=>AF3 (D:=fd160.D) (fun _=>rfl) (fun _=>rfl)) (one hp) (by rw[List.length_map];omega)
  exact Ret.bind (Ret.bind (ho.mono fun m hm=>Ret.ok (Ret.ok ⟨⟨hm.1.trans hp,hm.2⟩,rfl⟩)))
 obtain⟨z,h1,⟨h2,h3⟩,h4⟩:=hone _ hlT
 refine⟨z,AH3 hlT fun l hl=>?_,?_⟩
 . obtain⟨z',h5,⟨h6,h7⟩,h8⟩:=hone l hl
   rw[h5,h4,h8,AEh (h6.trans h2.symm) h7 h3 (one h6)]
 . rw[h4]
   exact Ret.condT (by simp) (Ret.ok (h _ h2 h3))
theorem AOY (hin:∀ r∈K,InR r) {Q:List Report->Prop} (h:∀ out,out.Perm (T K)->out.Pairwise (le2 (·.about) (·.id))->Q out):Ret (F2 d) Q:=by
 unfold F2
 refine Ret.bind (ARt hK hd fun out h1 h2=>?_)
 have hlen:=h1.length_eq
 have:=AND hK
 rw[if_pos]
 . exact Ret.ok (h out h1 h2)
 refine⟨by omega,fun r hr=>?_⟩
 obtain⟨o,ho,h7,hw,rfl⟩:=T_mem.1 (h1.mem_iff.1 hr)
 have hz:=AGI (K:=K) ho
 unfold fix
 have h1:=hin o ho
 cases hb:ANB K o with
 |none=>exact h1
 |some c=>
  rw[hb] at hz
  have h2:=hin c hz.1
  exact⟨h1.1,h1.2.1,h1.2.2.1,h1.2.2.2.1,h2.2.2.2.2.1,h1.2.2.2.2.2.1,h2.2.2.2.2.2.2.1,h1.2.2.2.2.2.2.2⟩
end
theorem AXP {r:Report} (h:V r):InR r:=by
 obtain⟨c1,c2,c3,c4,c5,c6,c7,c8,_⟩:=h
 have hm:most r.kind<=1000000000000:=by unfold most;split <;> (try split) <;> omega
 exact⟨InK.i64.2 (by omega),InK.i64.2 (by omega),InK.i64.2 (by omega),InK.i64.2 (by omega),InK.i64.2 (by omega),InK.u8.2 (by omega),InK.i64.2 (by omega),InK.i64.2 (by omega)⟩
structure St (l:List Report) (known:Int) (out:List Report):Prop where
 perm:out.Perm (T (knS l known))
 ord:out.Pairwise (le2 (·.about) (·.id))
theorem ANE {l:List Report} (h:VL l) {known:Int} (hk:0<=known/\known<=100000):Ret (J5 l known) fun z=>z.2=0/\St l known z.1:=by
 unfold J5 T2
 rw[AIT h]
 refine Ret.bind ?_
 rw[bindS]
 refine Ret.condF (by decide) ?_
 rw[AIR (by simp),bindS,show ([known].all (inB 0 100000))=true by simp[inB,hk]]
 refine Ret.condF rfl (Ret.ok (C5 (Ret.bind (ATo h fun D hD=>?_))))
 exact Ret.bind (AOY (AF4 h known) hD (fun r hr=>AXP ((AF4 h known).v r hr)) fun out h1 h2=>Ret.ok ⟨rfl,h1,h2⟩)
end S
end Go.Proofs.YtgioiejbphljoaaGreatDoor
set_option maxRecDepth 20000
set_option maxHeartbeats 4000000
namespace Go.Proofs.YtgioiejbphljoaaGreatDoor
open Go Go.Sx Go.Rx Go.RowKit
noncomputable def U3 (d:Desk_99) (x:Dispute) (v:Verdict) (l:List Report):Option (List Report):=Option.bind (α:=(Int×Int×Int)) (cond (decide (v.is_=3)) (some (v.by_.about,(8:Int),v.by_.cents)) (some ((0:Int),(9:Int),(0:Int)))) ((fun (x1,x2,x3)=>Option.bind (appo 64 l ([(Report.mk x.id (((d.facts x.report).getD (Report.mk 0 0 0 0 0 0 0 0)).source) (((d.facts x.report).getD (Report.mk 0 0 0 0 0 0 0 0)).account) v.day x1 x2 x3 (((d.facts x.report).getD (Report.mk 0 0 0 0 0 0 0 0)).id))])) fun l4=>some (l4)))
def AI7:An:=.nd (.x) (.nd (.x) (.nd (.nd (.x) (.jn [.norm ⟨[(.cell 10 4,.d (.int .i64)),(.cell 10 5,.d (.int .u8)),(.cell 10 6,.d (.int .i64))],[10,6,66]⟩] (.x))) (.x)))
noncomputable def AAl (d:Desk_99) (l:List Report):Option (List Report×Int):=Option.bind (chk .i64 ((d.desk.reports.length:Int)+(l.length:Int))) fun n1=>cond (decide (60 < n1)) (some (([]:(List Report)),(9:Int))) (Option.bind (H0 ([(78:Nat),(79:Nat)]) l) fun (_,m2)=>Option.bind (R9 ([d.desk.reports,m2])) fun r3=>some (r3,(0:Int)))
def AK7:An:=.x
end Go.Proofs.YtgioiejbphljoaaGreatDoor
set_option maxRecDepth 20000
set_option maxHeartbeats 4000000
namespace Go.Rx
open Go Go.Sx Go.RowKit
section
variable [Trk] [Sg] [Sf] {P:Program} [Se P] [Anch] {w0 w:World} {M:List Nat} {N:Nat} {ds:List Deferred}
theorem ANF [Sl (P:=P)] {G:Gx} (hG:GxOk P G) (r:Option Nat) {n:Nat} (c:Code) (an:An) {sh:Sh} {σ:AS} {x:N2 sh.cs} {L:A7} {w:World} {A B:A3} {X:Nat->A3} {Z:List PanicEntry->A3} (h:exec G N (fun _=>(none:Option Unit)) c an (H6 sh) (fun _ _=>none) (fun _=>none) σ=some x) (hH:Holds (P:=P) w0 [] M σ L w)
  (hA:∀ L' w',EnvS (C8 c++C6 an) L L'->Holds (P:=P) w0 [] M (B5 (C8 c++C6 an) sh σ x) L' w'->A ds L' w'):CF r n P N c ds L w A B X Z:=
 ACt (G9 hG c an _ _ _ _ _ _ _ _ _ _ _ _ _ h hH (fun σ1 L1 w1 h1 hR hE1 hH1=>by
  obtain⟨S,ρ,γ,μ,ι,hS⟩:=hH1
  exact hA L1 w1 hE1 (R5 hS hR h1)) (fun i σ2 L2 w2 h2=>by cases h2) (fun r σ2 L2 w2 h2 h3 _ hH2=>by cases h2) PZ.no)
end
theorem AF5 [Trk] [Sg] [Sf] {P:Program} [Se P] [Sl (P:=P)] [Sn P] (htk:¬ Trk.t) {G:Gx} (hG:GxOk P G) {f:Func} {cs:List Ck} {M:List Nat} {w:World} {r:D7 cs} (hn:Nat.ble cs.length 4=true) (hc:tnK cs=true) {D:Nat} (hD:w.heap.size<=D) {σ':AS} {L':A7} {w':World} (h1:U0 G cs f.results.toList σ'=some r) (hH:@Holds _ _ _ P _ (AHj D) _ w [] M σ' L' w'):FinM P f (fun e w'=>∃ vs,e=.returned (ABz vs)/\KsOk (P:=P) M (X0 cs vs++M) w w' cs r vs/\Ext w w') [{ target:=.collected D,args:=#[] }] L' w':=by
 obtain⟨vs,h2,h3,h4,h5⟩:=@ALq _ _ _ P _ _ (AHj D) G hG _ _ _ _ _ _ _ _ hH h1
 obtain⟨S,ρ,γ,μ,ι,hS⟩:=hH
 have hQ:D∉mm S M/\w'.heap[D]?=some (.deferred (some [])):=by
  letI:=AHj D
  exact hS.anch.1
 have htn:Tn w' (w'.putObj D (.deferred none)):=⟨by simp,fun b o ho hcl=>by
  by_cases e:b=D
  . subst e
    rw[hQ.2] at ho;cases ho;cases hcl
  . exact (World.putObj_heap_other e).trans ho⟩
 have hx:Ext w (w'.putObj D (.deferred none)):=⟨h5.os,h5.tape,h5.output,Nat.le_trans h5.size (by simp),fun b hb hn=>(World.putObj_heap_other (by omega)).trans (h5.block b hb hn),fun h=>absurd h htk⟩
 have h6:=M9 (P:=P) (fn:=f) (R:=fun e w'=>∃ vs,e=.returned (ABz vs)/\KsOk (P:=P) M (X0 cs vs++M) w w' cs r vs/\Ext w w') (by simp) (AllRs.tn htn h2) (by rw[h3];exact hn) ⟨vs,by rw[AEa],KsOk.tn htn cs hc h4,hx⟩
 obtain⟨_,v,h7,h8⟩:=h6
 exact .inr ⟨D,_,rfl,run_takeDeferred hQ.2,v,fun a ha=>h7 { tmps:=a.tmps,defers:=[] } ⟨ha.size,rfl,ha.val⟩,h8⟩
end Go.Rx
namespace Go.Proofs.YtgioiejbphljoaaGreatDoor
open Go Go.Sx Go.Rx Go.RowKit
theorem ATr:AJu ReportE:=fun h=>ReportE_R.2 (ReportE_R.1 h)
def ABV (x:Dispute):List Value:=[.int .i64 x.id,.int .i64 x.report,.int .i64 x.day]
def ADa (v:Verdict):List Value:=[.int .i64 v.day,.int .u8 v.is_,.int .i64 v.by_.id,.int .i64 v.by_.dispute,.int .i64 v.by_.day,.int .u8 v.by_.says,.int .i64 v.by_.about,.int .i64 v.by_.cents]
noncomputable def AXQ:Code:=match Tryz.f41.body with
 |some (.seq _ (.seq _ (.seq (.seq _ (.block _ c)) _)))=>c
 |_=>.skip
noncomputable def ATs:Code:=match AXQ with
 |.rangeFunc _ _ _ b=>b
 |_=>.skip
noncomputable def ATt:Code:=match Tryz.f41.body with
 |some (.seq _ (.seq _ (.seq _ c)))=>c
 |_=>.skip
def sB (d:Desk_99) (x:Dispute) (v:Verdict) (l:List Report):AS:=⟨(6,.ptr 6 0) :: [(2,.rp (.str 10 d) 0),(7,.rp (.str 2 x) 0),(8,.rp (.str 12 v) 0)],[(6,.row 24 [.own 66]),(66,.own false (.sl 45 (.st 1)) l)],[],[]⟩
def sP (d:Desk_99) (l:List Report):AS:=⟨(6,.ptr 6 0) :: [(2,.rp (.str 10 d) 0)],[(6,.row 24 [.own 66]),(66,.own false (.sl 45 (.st 1)) l)],[],[]⟩
def shB:Sh:=⟨[(.cell 6 0,.own (.sl 45 (.st 1)))],[6]⟩
def cs41:List Ck:=[.own (.sl 45 (.st 1)),.d (.int .i64)]
noncomputable def ANG:Gx:={ gxb with fs:=[(78,ctr78),(79,ctr79),(80,ctr80)],fm:=[(77,ctrm77)] }
theorem AIZ:GxOk Tryz.prog ANG:=ACy ⟨⟨ok78,Tryz.call78⟩,⟨⟨ok79,Tryz.call79⟩,⟨⟨ok80,Tryz.call80⟩,trivial⟩⟩⟩ trivial ⟨⟨okm77,Tryz.call77⟩,trivial⟩
theorem ARu (d:Desk_99) (x:Dispute) (v:Verdict) (l:List Report):exec gxb 65 (fun _=>(none:Option Unit)) ATs AI7 (H6 shB) (fun _ _=>none) (fun _=>none) (sB d x v l)=U3 d x v l:=by kernel_rfl
theorem ATu (d:Desk_99) (l:List Report):exec ANG 65 (U0 ANG cs41 Tryz.f41.results.toList) ATt AK7 (U0 ANG cs41 Tryz.f41.results.toList) (fun _ _=>none) some (sP d l)=AAl d l:=by kernel_rfl
def AXR (M:List Nat) (b6:Nat) (Lb:Sx.A7) (x:Dispute×Verdict) (L:Sx.A7) (W:World):Prop:=∃ b7 b8 u,L=(8,.pointer (some ⟨b8,0,none⟩)) :: (7,.pointer (some ⟨b7,0,none⟩)) :: (15,J8 (.st 12) x.2) :: (14,J8 (.st 2) x.1) :: Lb/\Row 53 W b7 (ABV x.1)/\Row 111 W b8 (ADa x.2)/\Row 24 W b6 [u]/\(b7∉ob u/\b7≠b6/\b7∉M)/\(b8∉ob u/\b8≠b6/\b8∉M)
theorem AGy {e:TypeId} {W W':World} {b:Nat} {cs:List Value} {row:Option Nat} (h:Row e W b cs) (hg:W.grownBy W' row) (hr:∀ r,row=some r->∃ o:Obj,W.heap[r]?=some o/\o.isCells=false):Row e W' b cs:=by
 have h:W.heap[b]?=_:=h
 refine (hg.block b (J1 h) fun e'=>?_).trans h
 obtain⟨o',g1,g2⟩:=hr b e'.symm
 rw[h] at g1;cases g1
 cases g2
theorem AI8 [Anch] {w:World} {M:List Nat} {b6:Nat} {u:Value} {l:List Report} {L:Sx.A7} {W:World} {env:List (Nat×SV)} (e2:Hp w [] M (E9 ReportE 45 24 b6 u l) W) (l6:Sx.A5 L 6=some (.pointer (some ⟨b6,0,none⟩)))
  (hE:∀ t s,A1 env t=some s->∃ v,Sx.A5 L t=some v/\Ok (P:=Tryz.prog) (fun i=>if i=6 then .pointer (some ⟨b6,0,none⟩) else u) (A1 [(6,.row 24 [.own 66]),(66,.own false (.sl 45 (.st 1)) l)]) (mm (E9 ReportE 45 24 b6 u l) M) W s v) (hA:AnOk (P:=Tryz.prog) (mm (E9 ReportE 45 24 b6 u l) M) W) :
  Holds (P:=Tryz.prog) w [] M ⟨(6,.ptr 6 0) :: env,[(6,.row 24 [.own 66]),(66,.own false (.sl 45 (.st 1)) l)],[],[]⟩ L W:=by
 refine⟨E9 ReportE 45 24 b6 u l,fun i=>if i=6 then .pointer (some ⟨b6,0,none⟩) else u,fun i=>if i=6 then [u] else [],fun _=>[],fun i=>if i=6 then 1 else 0,e2,fun i a hi=>?_,fun i j a b hi hj e=>?_,fun i a hi=>?_,fun t s ht=>?_,hA⟩
 . rw[fnd_cons] at hi
   split at hi
   . rename_i e;subst e;cases hi;rfl
   rw[fnd_cons] at hi
   split at hi
   . rename_i e;subst e;cases hi;rfl
   cases hi
 . rw[fnd_cons] at hi hj
   split at hi <;> split at hj
   . rename_i e1 e2;rw[<-e1,<-e2]
   . rename_i e1 e2
     rw[fnd_cons] at hj
     split at hj
     . rename_i e3;subst e1 e3;cases e
     . cases hj
   . rename_i e1 e2
     rw[fnd_cons] at hi
     split at hi
     . rename_i e3;subst e2 e3;cases e
     . cases hi
   . rw[fnd_cons] at hi hj
     split at hi <;> split at hj
     . rename_i e3 e4;rw[<-e3,<-e4]
     . cases hj
     . cases hi
     . cases hi
 . rw[fnd_cons] at hi
   split at hi
   . rename_i e;subst e;cases hi
     exact⟨⟨b6,rfl⟩,u,[u],[],rfl,⟨rfl,Own.cells1 (e2.ownAt 0 rfl),Own.oneC (e2.ownAt 0 rfl)⟩,Own.cells1 (e2.ownAt 0 rfl),rfl⟩
   rw[fnd_cons] at hi
   split at hi
   . rename_i e;subst e;cases hi;trivial
   cases hi
 . rw[fnd_cons] at ht
   split at ht
   . rename_i e;subst e;cases ht;exact⟨_,l6,b6,rfl,rfl⟩
   . exact hE t s ht
noncomputable def E8 (d:Desk_99) (day:Int):Option (List Report×Int):=Option.bind (C4 d day) fun ys=>Option.bind (ABX (fun l (y:Dispute×Verdict)=>U3 d y.1 y.2 l) [] ys) fun l=>AAl d l
noncomputable def ctr41:Ctr:=⟨[.d (.st 10),.d (.int .i64)],cs41,fun a=>E8 a.1 a.2.1⟩
theorem ok41:Ctr.ok Tryz.prog 41 ctr41:=by
 refine⟨by decide,fun M w a vals r hM hg ha hr=>?_⟩
 obtain⟨d,day,_⟩:=a
 obtain⟨vd,_,rfl,hvd,⟨vk,_,rfl,hvk,rfl⟩⟩:=ha
 have hvd:OkD (P:=Tryz.prog) M w (.st 10) d vd:=hvd
 have hvk:OkD (P:=Tryz.prog) M w (.int .i64) day vk:=hvk
 have hr:E8 d day=some r:=hr
 unfold E8 at hr
 obtain⟨ys,hys,hr⟩:=Q1 hr
 obtain⟨l0,hl0,hr⟩:=Q1 hr
 obtain⟨ho1,ho2⟩:=AFB hl0
 have hvd0:=hvd
 obtain⟨cs,h1,h3⟩:=hvd
 obtain rfl:vd=.agg (List.toArray cs):=h3.elim (fun h=>h.2) fun h=>by cases h.1
 have hncs:cs.length=8:=(enc (P:=Tryz.prog) (.st 10)).len h1
 refine ABe (l:=[.agg (List.toArray cs),vk]) Tryz.func41 rfl rfl rfl ?_
 have hI:=Hp.start (Mu:=[]) hM
 refine A6 ?_
 refine A9 ?_
 refine AAE hI rfl rfl rfl ?_
 intro b2 w2 hI2 x2
 have hC2:=hI2.freezeRow 0 rfl
 have hI2:=hI2.erase 0
 refine G0 rfl rfl ?_
 refine G0 rfl rfl ?_
 refine Reg.nil ?_
 refine A6 ?_
 refine A9 ?_
 refine ACZ hI2 Tryz.zeroValue24 rfl rfl ?_
 intro b6 w3 hI3 x3
 refine Reg.nil ?_
 have hI3:Hp w [] M (E9 ReportE 45 24 b6 (.slice none 0 0) []) w3:=hI3.addNil ReportE 45
 have hx3:Adv M (mm (E9 ReportE 45 24 b6 (.slice none 0 0) []) M) w w3:=hI3.adv
 have hb6:w.heap.size<=b6:=((hI3.own _ (List.mem_of_getElem? (i:=1) rfl)).2 b6 (List.mem_singleton.2 rfl)).resolve_left (fun h=>by cases h)
 have hC3:RdC (mm (E9 ReportE 45 24 b6 (.slice none 0 0) []) M) w3 b2 0 cs:=(hC2.adv x3).adv (ACB ReportE 45)
 refine A6 ?_
 refine A6 ?_
 refine A9 ?_
 refine AA3 rfl hC3.cells Tryz.isAgg99 hncs Tryz.sizeOf99 rfl ?_
 refine H9 rfl rfl ?_
 refine W7 rfl Tryz.call45 rfl ?_
 refine (ok45.2 (mm (E9 ReportE 45 24 b6 (.slice none 0 0) []) M) w3 (d,day,()) [.agg cs.toArray,vk] ys hI3.mlt (hg.adv hx3) ⟨_,_,rfl,OkD.adv hvd0 hx3,_,_,rfl,OkD.adv hvk hx3,rfl⟩ hys).mono ?_
 rintro _ w4 ⟨_,rfl,⟨v13,rfl,⟨⟨gf,lb,rfl,heg,hok,hit⟩,_⟩⟩,x4⟩
 refine⟨_,rfl,?_⟩
 refine Reg.nil ?_
 have hI4:=hI3.ext x4
 have hA34:=Adv.of_ext (M:=mm (E9 ReportE 45 24 b6 (.slice none 0 0) []) M) x4
 have hC4:=hC3.adv hA34
 have hd4:=OkD.adv hvd0 (hx3.trans hA34)
 have hg4:=hg.adv (hx3.trans hA34)
 have hseq:=hit (mm (E9 ReportE 45 24 b6 (.slice none 0 0) []) M) w4 (Adv.refl _ _) hI4.mlt {x // x∈ys} Subtype.val ys.attach (List.attach_map_subtype_val ys)
 generalize hLb:((13,ABz [Value.func (.func gf) #[] lb]) :: (12,vk) :: (11,Value.agg cs.toArray) :: (6,Value.pointer (some ⟨b6,0,none⟩)) :: (5,Value.int .i64 0) :: (4,Value.slice none 0 0) :: (2,Value.pointer (some ⟨b2,0,none⟩)) :: P0 0 [Value.agg cs.toArray,vk])=Lb
 have lb2:Sx.A5 Lb 2=some (.pointer (some ⟨b2,0,none⟩)):=by rw[<-hLb];rfl
 have lb6:Sx.A5 Lb 6=some (.pointer (some ⟨b6,0,none⟩)):=by rw[<-hLb];rfl
 have lb13:Sx.A5 Lb 13=some (.func (.func gf) #[] lb):=by rw[<-hLb];rfl
 clear hLb
 have hcells:∀ x∈ys,okI (.st 2) x.1/\okI (.st 12) x.2:=hok
 let S0:=E9 ReportE 45 24 b6 (.slice none 0 0) []
 let I:List {x // x∈ys}->World->Prop:=fun pre W=>∃ l u,List.foldlM (fun l (y:Dispute×Verdict)=>U3 d y.1 y.2 l) [] (pre.map Subtype.val)=some l/\Hp w [] M (E9 ReportE 45 24 b6 u l) W/\Adv (mm S0 M) (mm (E9 ReportE 45 24 b6 u l) M) w4 W
 have hw4:w.heap.size<=w4.heap.size:=hI4.kp.size
 have hKI:∀ {u u':Value} {l l':List Report} {W W':World},Hp w [] M (E9 ReportE 45 24 b6 u l) W->Hp w [] M (E9 ReportE 45 24 b6 u' l') W'->Adv (mm S0 M) (mm (E9 ReportE 45 24 b6 u l) M) w4 W->Adv (mm (E9 ReportE 45 24 b6 u l) M) (mm (E9 ReportE 45 24 b6 u' l') M) W W'->KeepsFrom w4.heap.size W W'/\KI (mm S0 M) w4.heap.size W W':=fun {u u' l l' W W'} h h' hA hA'=>by
  obtain⟨_,k⟩:=h.kb h' hA'
  refine⟨⟨k.size,fun i o hB=>k.same i o (Nat.le_trans hw4 hB)⟩,hA'.kp.os,hA'.kp.tape,hA'.kp.output,hA'.kp.size,fun b hb hn=>?_⟩
  refine hA'.kp.block b (Nat.lt_of_lt_of_le hb hA.kp.size) fun hm=>?_
  exact (hA.new b hm).elim hn fun h=>by omega
 refine G5 ?_
 refine AMR (val:=fun x:{x // x∈ys}=>J8 (.st 2) x.1.1) (val2:=fun x:{x // x∈ys}=>J8 (.st 12) x.1.2) (K:=KI (mm S0 M) w4.heap.size) (xs:=ys.attach) lb13 heg rfl rfl hseq (fun h k=>h.trans k) (fun W k o o' hk _ _ _=>KI.putObj hk) I (fun _ _=>False) ?_ (fun _ _ _ _ h _ _=>h.elim) ⟨[],.slice none 0 0,rfl,hI4,Adv.refl _ _⟩ (fun x L' W=>AXR M b6 Lb x.1 L' W) ?_ ?_ ?_ ?_ (fun _ _ _ _ _ h _=>h.elim)
 . rintro pre W W' row ⟨l,u,e1,e2,e3⟩ hgr hr
   exact⟨l,u,e1,e2.turnG ATr (fun h=>h) hgr (fun r e=>⟨Nat.le_trans hw4 (hr r e).1,(hr r e).2⟩),Adv.turn (fun h=>h) e3 hgr hr⟩
 . rintro x L' _ W W' row ⟨b7,b8,u,e1,e2,e3,e4,e5⟩ hgr hr
   exact⟨b7,b8,u,e1,AGy e2 hgr fun r e=>(hr r e).2,AGy e3 hgr fun r e=>(hr r e).2,AGy e4 hgr fun r e=>(hr r e).2,e5⟩
 . rintro k pre x W ⟨l,u,e1,e2,e3⟩
   refine AHG ?_
   refine AA8 rfl ?_
   refine ACZ e2 Tryz.zeroValue53 rfl rfl ?_
   intro b7 w5 hI5 x5
   refine ABN 0 (vs:=ABV x.1.1) hI5 rfl rfl rfl rfl Tryz.sizeOf53 rfl rfl (C7 rfl (C7 rfl (C7 rfl ACU))) ?_
   intro w6 hI6 x6
   have hI6:Hp w [] M (rowR 53 b7 (ABV x.1.1) :: E9 ReportE 45 24 b6 u l) w6:=hI6
   refine Reg.nil ?_
   refine AA8 rfl ?_
   refine ACZ hI6 Tryz.zeroValue111 rfl rfl ?_
   intro b8 w7 hI7 x7
   refine ABN 0 (vs:=ADa x.1.2) hI7 rfl rfl rfl rfl Tryz.sizeOf111 rfl rfl (C7 rfl (C7 rfl (C7 rfl (C7 rfl (C7 rfl (C7 rfl (C7 rfl (C7 rfl ACU)))))))) ?_
   intro w8 hI8 x8
   have hI8:Hp w [] M (rowR 111 b8 (ADa x.1.2) :: rowR 53 b7 (ABV x.1.1) :: E9 ReportE 45 24 b6 u l) w8:=hI8
   have hI9:Hp w [] M (E9 ReportE 45 24 b6 u l) w8:=(hI8.erase 0).erase 0
   have hA:Adv (mm (E9 ReportE 45 24 b6 u l) M) (mm (E9 ReportE 45 24 b6 u l) M) W w8:=x5.trans (x6.trans (x7.trans (x8.trans ((F8 (σ:=rowR 111 b8 (ADa x.1.2) :: rowR 53 b7 (ABV x.1.1) :: E9 ReportE 45 24 b6 u l) 0).trans (F8 (σ:=rowR 53 b7 (ABV x.1.1) :: E9 ReportE 45 24 b6 u l) 0)))))
   obtain⟨k1,k2⟩:=hKI e2 hI9 e3 hA
   refine Reg.nil ⟨rfl,k1,k2,⟨l,u,e1,hI9,e3.trans hA⟩,b7,b8,u,rfl,hI8.row 1 rfl,hI8.row 0 rfl,hI8.row 3 rfl,⟨?_,?_,?_⟩,?_,?_,?_⟩
   . exact fun hb=>hI8.dis 1 2 _ _ rfl rfl (by omega) b7 (List.mem_singleton.2 rfl) hb
   . exact fun e=>hI8.dis 1 3 _ _ rfl rfl (by omega) b7 (List.mem_singleton.2 rfl) (List.mem_singleton.2 e)
   . exact hI8.sepM _ (List.mem_of_getElem? (i:=1) rfl) b7 (List.mem_singleton.2 rfl)
   . exact fun hb=>hI8.dis 0 2 _ _ rfl rfl (by omega) b8 (List.mem_singleton.2 rfl) hb
   . exact fun e=>hI8.dis 0 3 _ _ rfl rfl (by omega) b8 (List.mem_singleton.2 rfl) (List.mem_singleton.2 e)
   . exact hI8.sepM _ (List.mem_of_getElem? (i:=0) rfl) b8 (List.mem_singleton.2 rfl)
 . rintro k pre x L' W ⟨l,u,e1,e2,e3⟩ ⟨b7,b8,u',rfl,r7,r8,r6,s7,s8⟩ hlt
   obtain rfl:u'=u:=by
    have e9:W.heap[b6]?=_:=e2.row 1 rfl
    have e8:W.heap[b6]?=_:=r6
    rw[e9] at e8
    have:=Option.some.inj e8
    injection this with h9
    simpa using h9.symm
   obtain⟨l',hb',hfold⟩:=ho2 (pre.map Subtype.val) x.1 l (by simpa using hlt) (fun y hy=>by obtain⟨z,_,rfl⟩:=List.mem_map.1 hy;exact z.2) x.2 e1
   have hmem:∀ b,b∈mm (E9 ReportE 45 24 b6 u' l) M->b∈ob u'\/b=b6\/b∈M:=fun b hb=>by
    simp only[mm,ownR,rowR,List.mem_append,List.mem_cons,List.not_mem_nil,or_false] at hb
    rcases hb with h1|h1|h1
    . exact .inl h1
    . exact .inr (.inl h1)
    . exact .inr (.inr h1)
   letI:Anch:=AVD (mm (E9 ReportE 45 24 b6 u' l) M) W
   have hst:Holds (P:=Tryz.prog) w [] M (sB d x.1.1 x.1.2 l) ((8,.pointer (some ⟨b8,0,none⟩)) :: (7,.pointer (some ⟨b7,0,none⟩)) :: (15,J8 (.st 12) x.1.2) :: (14,J8 (.st 2) x.1.1) :: Lb) W:=by
    refine AI8 e2 lb6 (fun t s ht=>?_) ⟨Adv.refl _ _,hg4.adv e3⟩
    rw[fnd_cons] at ht
    split at ht
    . rename_i e;subst e;cases ht
      exact⟨_,lb2,b2,0,_,cs,rfl,hC4.adv e3,OkD.adv hd4 e3,rfl⟩
    rw[fnd_cons] at ht
    split at ht
    . rename_i e;subst e;cases ht
      exact⟨_,rfl,b7,0,_,ABV x.1.1,rfl,G8 (fun hb=>(hmem b7 hb).elim s7.1 fun h=>h.elim s7.2.1 s7.2.2) r7,AD0 (.st 2) (hcells x.1 x.2).1,rfl⟩
    rw[fnd_cons] at ht
    split at ht
    . rename_i e;subst e;cases ht
      exact⟨_,rfl,b8,0,_,ADa x.1.2,rfl,G8 (fun hb=>(hmem b8 hb).elim s8.1 fun h=>h.elim s8.2.1 s8.2.2) r8,AD0 (.st 12) (hcells x.1 x.2).2,rfl⟩
    cases ht
   refine AGr (ANF AF1 (some k) ATs AI7 (sh:=shB) ((ARu d x.1.1 x.1.2 l).trans hb') hst fun L2 W2 hE2 hH2=>?_)
   obtain⟨S2,ρ2,γ2,μ2,ι2,hS2⟩:=hH2
   obtain⟨v6,l26,bb,hbb,rfl⟩:=hS2.env 6 (.ptr 6 0) rfl
   have hbb6:bb=b6:=by
    have:=(hE2 6 (by decide)).trans lb6
    rw[l26] at this
    injection this with h9
    injection h9 with h9
    simpa using h9
   subst hbb6
   obtain⟨bq,hbq,rq,oq,iq⟩:=hS2.rowAt (i:=6) (e:=24) (l:=[.own 10600]) rfl
   rw[hbb] at hbq;cases hbq
   obtain⟨q,eq1,oq1⟩:=ACT oq
   have oq1:q=[]:=oq1
   rw[oq1] at eq1
   rw[eq1] at iq
   have io:=hS2.res 10600 (.own false (.sl 45 (.st 1)) l') rfl
   have io:S2[ι2 10600]?=some (ownR [] ReportE 45 (ρ2 10600) l'):=io
   have hni:ι2 10600≠ι2 6:=fun e=>by
    have:=hS2.inj 10600 6 _ _ rfl rfl e
    cases this
   have hsel:sel S2 [ι2 10600,ι2 6]=E9 ReportE 45 24 bb (ρ2 10600) l':=by
    simp only[sel,nthR_eq,io,iq]
   have hHp:=hS2.hp.sel [ι2 10600,ι2 6] (by simp[ABd,hni])
   rw[hsel] at hHp
   have hadv:Adv (mm (E9 ReportE 45 24 bb u' l) M) (mm (E9 ReportE 45 24 bb (ρ2 10600) l') M) W W2:=by
    have h1:Adv (mm (E9 ReportE 45 24 bb u' l) M) (mm S2 M) W W2:=hS2.anch.1
    have h2:=h1.trans (AHz (M:=M) (w:=W2) (σ:=S2) [ι2 10600,ι2 6])
    rw[hsel] at h2
    exact h2
   obtain⟨k1,k2⟩:=hKI e2 hHp e3 hadv
   exact⟨k1,k2,l',ρ2 10600,by rw[List.map_append];exact hfold,hHp,e3.trans hadv⟩
 . rintro D W hD ⟨l,u,e1,e2,e3⟩ hdef
   rw[List.attach_map_subtype_val,ho1] at e1
   cases e1
   have hDm:D∉mm (E9 ReportE 45 24 b6 u l0) M:=fun hb=>by
    simp only[mm,ownR,rowR,List.mem_append,List.mem_cons,List.not_mem_nil,or_false] at hb
    rcases hb with h1|h1|h1
    . obtain⟨o,h2,h3⟩:=(e2.ownAt 0 rfl).isC D h1
      rw[hdef] at h2;cases h2;cases h3
    . have h2:W.heap[b6]?=_:=e2.row 1 rfl
      rw[<-h1,hdef] at h2;cases h2
    . have:=hM D h1
      omega
   letI:Anch:=AHj D
   have hst:Holds (P:=Tryz.prog) w [] M (sP d l0) Lb W:=by
    refine AI8 e2 lb6 (fun t s ht=>?_) ⟨⟨hDm,hdef⟩,hg4.adv e3⟩
    rw[fnd_cons] at ht
    split at ht
    . rename_i e;subst e;cases ht
      exact⟨_,lb2,b2,0,_,cs,rfl,hC4.adv e3,OkD.adv hd4 e3,rfl⟩
    cases ht
   have hDw:w.heap.size<=D:=Nat.le_trans hw4 hD
   exact X8 (n:=3) (ACt (G9 AIZ ATt AK7 _ _ _ _ _ _ _ _ _ _ _ _ _ ((ATu d l0).trans hr) hst (fun σ2 L2 w2 h2 _ _ hH2=>AF5 (fun h=>h) AIZ (by decide) rfl hDw h2 hH2) (fun i σ2 L2 w2 h2=>by cases h2) (fun r' σ2 L2 w2 hp hk _ hH2=>by
    have hk:r'=r:=Option.some.inj hk
    subst hk
    exact AF5 (fun h=>h) AIZ (by decide) rfl hDw hp hH2) PZ.no))
end Go.Proofs.YtgioiejbphljoaaGreatDoor
set_option maxRecDepth 20000
set_option maxHeartbeats 4000000
namespace Go.Proofs.YtgioiejbphljoaaGreatDoor
open Go Go.Sx Go.Rx Go.RowKit
noncomputable def AB3 (d:Desk) (asked:List Asked) (day:Int):Option ((Desk_99×List Asked×List Report×Int)⊕(List Letter×Int)):=Option.bind (H7 d day) fun (r1,r2)=>cond ((!decide (r2=0))) (some (Sum.inr (([]:(List Letter)),r2))) (Option.bind (B8 (S:=(Int×Int)) (R:=(Unit⊕((List Letter)×Int))) (fun (x12,x13)=>cond (decide (x13 < (asked.length:Int))) (Option.bind (ixo asked x13) fun y14=>Option.bind (α:=(Bool)) (Option.bind (chk .i64 (x12+1)) fun n15=>Option.bind (D4 n15 (999999:Int) ([y14.id])) fun r16=>cond ((!r16)) (some true) (Option.bind (D4 (0:Int) (999999:Int) ([y14.who,y14.account])) fun r17=>cond ((!r17)) (some true) (Option.bind (D4 (0:Int) (100000:Int) ([y14.day])) fun r18=>some (!r18)))) ((fun x19=>cond (x19) (some (Sum.inr (Sum.inr (([]:(List Letter)),(53:Int))))) (Option.bind (chk .i64 (x13+1)) fun n20=>some (Sum.inl (y14.id,n20)))))) (some (Sum.inr (Sum.inl ())))) (((-1):Int),(0:Int))) ((Sum.elim (fun _=>cond (decide (40 < (asked.length:Int))) (some (Sum.inr (([]:(List Letter)),(53:Int)))) (Option.bind (E8 r1 day) fun (r21,r22)=>cond ((!decide (r22=0))) (some (Sum.inr (([]:(List Letter)),r22))) (some (Sum.inl (r1,asked,r21,day))))) (fun r23=>some (Sum.inr r23)))))
def AL6:An:=.nd (.x) (.nd (.x) (.nd (.x) (.nd (.x) (.nd (.nd (.x) (.lp ⟨[(.slot 10,.d (.int .i64)),(.slot 37,.d (.int .i64))],[8,4]⟩ [.exit 0 ⟨[],[8,4]⟩,.ret] (.nd (.x) (.nd (.x) (.nd (.nd (.x) (.nd (.nd (.jn [.norm ⟨[(.slot 63,.d .bool)],[12,8,4]⟩] (.x)) (.x)) (.x))) (.x)))))) (.x)))))
noncomputable def AAm (l:List Report) (y:Dispute) (v:Verdict):Option (Report×Bool):=Option.bind (S6 l v.day) fun r1=>some (((r1 y.report).getD (Report.mk 0 0 0 0 0 0 0 0)),((r1 y.report).isSome))
def AIa:An:=.x
noncomputable def AAQ (x:Desk_99) (l:List Report) (y:Dispute) (v:Verdict) (now:Report) (is_:Bool) (a:Asked):Option (Bool⊕Unit):=Option.bind (α:=(Bool)) (cond ((!decide (a.account=(((x.facts y.report).getD (Report.mk 0 0 0 0 0 0 0 0)).account)))) (some true) (cond (decide (v.day<=a.day)) (some true) (Option.bind (chk .i64 (v.day - a.day)) fun n2=>some (decide (x.desk.terms.lately < n2))))) ((fun x3=>cond (x3) (some (Sum.inr ())) (Option.bind (S6 l a.day) fun r4=>Option.bind (α:=(Bool)) (cond ((r4 y.report).isSome) (cond (decide ((((r4 y.report).getD (Report.mk 0 0 0 0 0 0 0 0)).about)<=a.day)) (cond ((!is_)) (some true) (some (!decide (((r4 y.report).getD (Report.mk 0 0 0 0 0 0 0 0))=now)))) (some false)) (some false)) ((fun x5=>some (Sum.inl (x5)))))))
def AGz:An:=.nd (.nd (.jn [.norm ⟨[(.slot 126,.d .bool)],[]⟩] (.x)) (.x)) (.nd (.x) (.jn [.norm ⟨[(.slot 153,.d .bool)],[]⟩] (.x)))
noncomputable def J6 (l:List Letter):Option (List Letter×Int):=Option.bind (H1 ([(49:Nat),(50:Nat)]) l) fun (_,m1)=>some (m1,(0:Int))
def AK8:An:=.x
end Go.Proofs.YtgioiejbphljoaaGreatDoor
namespace Go.Rx
open Go Go.Sx Go.RowKit
def AK9:Nat->Code->An->Bool
 |0,.seq _ _,_=>true
 |n+1,.seq _ b,.nd _ r=>AK9 n b r
 |_,_,_=>false
section
variable [Trk] [Sg] [Sf] {P:Program} [Se P] [Anch] {w0 w:World} {M:List Nat} {r:Option Nat} {n N:Nat} {ds:List Deferred}
theorem ALA [Sl (P:=P)] {G:Gx} (hG:GxOk P G):∀ (m:Nat) (c:Code) (an:An) {Y:Type} {KN:AS->Option Y} {KX:Nat->AS->Option Y} {σ:AS} {L:A7} {w:World} {z:Y} {A B:A3} {X:Nat->A3} {Z:List PanicEntry->A3},(∀ (L:A7) (w:World) (v:Value) (T t:Nat) (L2:A7) (ds:List Deferred),Nat.blt t pnc=true->(∀ u,u≠t->Sx.A5 L2 u=Sx.A5 L u)->X (ACj T t) ds ((t,v) :: L) w->Z [{ v:=.iface T v,recovered:=false }] ds L2 w)->AK9 m c an=true->exec G N (fun _=>(none:Option Unit)) (N0 m c) an KN KX (fun _=>none) σ=some z->Holds (P:=P) w0 [] M σ L w ->
  (∀ σ' L' w',KN σ'=some z->EnvS (C8 (N0 m c)++C6 an) L L'->Holds (P:=P) w0 [] M σ' L' w'->CF r n P N (AJS m c) ds L' w' A B X Z) ->
  (∀ i σ' L' w',KX i σ'=some z->EnvS (C8 (N0 m c)++C6 an) L L'->Holds (P:=P) w0 [] M σ' L' w'->X i ds L' w')->CF r n P N c ds L w A B X Z
 |0,.seq a b,an,Y,KN,KX,σ,L,w,z,A,B,X,Z,hX,_,h,hH,hA,hE=>AKh (G9 hG a an _ _ _ _ _ _ _ _ _ _ _ _ _ h hH (fun σ1 L1 w1 h1 _ hE1 hH1=>hA σ1 L1 w1 h1 hE1 hH1) (fun i σ2 L2 w2 h2 _ hE2 hH2=>hE i σ2 L2 w2 h2 hE2 hH2) (fun r σ2 L2 w2 h2 h3 _ hH2=>by cases h2) ⟨fun T t L1 L2 w v ht hl hx=>hX L1 w v T t L2 ds ht hl hx,fun _ _ _ _ h=>h⟩)
 |m+1,.seq a b,.nd l q,Y,KN,KX,σ,L,w,z,A,B,X,Z,hX,hc,h,hH,hA,hE=>by
  have hc:AK9 m b q=true:=hc
  have h:exec G N (fun _=>(none:Option Unit)) a l (fun σ'=>exec G N (fun _=>(none:Option Unit)) (N0 m b) q KN KX (fun _=>none) σ') KX (fun _=>none) σ=some z:=h
  have ha:∀ t∈C8 a++C6 l,t∈C8 (N0 (m+1) (.seq a b))++C6 (.nd l q):=fun t ht=>(List.mem_append.1 ht).elim (fun h=>List.mem_append_left _ (List.mem_append_left _ h)) fun h=>List.mem_append_right _ (AKl (.nd l q) t h)
  have hb:∀ t∈C8 (N0 m b)++C6 q,t∈C8 (N0 (m+1) (.seq a b))++C6 (.nd l q):=fun t ht=>(List.mem_append.1 ht).elim (fun h=>List.mem_append_left _ (List.mem_append_right _ h)) fun h=>List.mem_append_right _ (AKm (.nd l q) t h)
  refine AKh (G9 hG a l _ _ _ _ _ _ _ _ _ _ _ _ _ h hH (fun σ1 L1 w1 h1 _ hE1 hH1=>?_) (fun i σ2 L2 w2 h2 _ hE2 hH2=>hE i σ2 L2 w2 h2 (hE2.mono ha) hH2) (fun r σ2 L2 w2 h2 h3 _ hH2=>by cases h2) ⟨fun T t L1 L2 w v ht hl hx=>hX L1 w v T t L2 ds ht hl hx,fun _ _ _ _ h=>h⟩)
  exact ALA hG m b q hX hc h1 hH1 (fun σ2 L2 w2 h2 hE2 hH2=>hA σ2 L2 w2 h2 ((hE1.mono ha).trans (hE2.mono hb)) hH2) fun i σ2 L2 w2 h2 hE2 hH2=>hE i σ2 L2 w2 h2 ((hE1.mono ha).trans (hE2.mono hb)) hH2
 |m+1,.seq a b,.x,_,_,_,_,_,_,_,_,_,_,_,_,hc,_,_,_,_=>by cases hc
 |m+1,.seq a b,.jn _ _,_,_,_,_,_,_,_,_,_,_,_,_,hc,_,_,_,_=>by cases hc
 |m+1,.seq a b,.lp _ _ _,_,_,_,_,_,_,_,_,_,_,_,_,hc,_,_,_,_=>by cases hc
 |0,.skip,_,_,_,_,_,_,_,_,_,_,_,_,_,hc,_,_,_,_|0,.region _ _ _,_,_,_,_,_,_,_,_,_,_,_,_,_,hc,_,_,_,_|0,.cond _ _ _,_,_,_,_,_,_,_,_,_,_,_,_,_,hc,_,_,_,_|0,.loop _,_,_,_,_,_,_,_,_,_,_,_,_,_,hc,_,_,_,_|0,.exit _,_,_,_,_,_,_,_,_,_,_,_,_,_,hc,_,_,_,_|0,.ret,_,_,_,_,_,_,_,_,_,_,_,_,_,hc,_,_,_,_
 |0,.scope _,_,_,_,_,_,_,_,_,_,_,_,_,_,hc,_,_,_,_|0,.label _,_,_,_,_,_,_,_,_,_,_,_,_,_,hc,_,_,_,_|0,.goto _,_,_,_,_,_,_,_,_,_,_,_,_,_,hc,_,_,_,_|0,.refuse _,_,_,_,_,_,_,_,_,_,_,_,_,_,hc,_,_,_,_|0,.block _ _,_,_,_,_,_,_,_,_,_,_,_,_,_,hc,_,_,_,_|0,.rangeFunc _ _ _ _,_,_,_,_,_,_,_,_,_,_,_,_,_,hc,_,_,_,_
 |_+1,.skip,_,_,_,_,_,_,_,_,_,_,_,_,_,hc,_,_,_,_|_+1,.region _ _ _,_,_,_,_,_,_,_,_,_,_,_,_,_,hc,_,_,_,_|_+1,.cond _ _ _,_,_,_,_,_,_,_,_,_,_,_,_,_,hc,_,_,_,_|_+1,.loop _,_,_,_,_,_,_,_,_,_,_,_,_,_,hc,_,_,_,_|_+1,.exit _,_,_,_,_,_,_,_,_,_,_,_,_,_,hc,_,_,_,_|_+1,.ret,_,_,_,_,_,_,_,_,_,_,_,_,_,hc,_,_,_,_
 |_+1,.scope _,_,_,_,_,_,_,_,_,_,_,_,_,_,hc,_,_,_,_|_+1,.label _,_,_,_,_,_,_,_,_,_,_,_,_,_,hc,_,_,_,_|_+1,.goto _,_,_,_,_,_,_,_,_,_,_,_,_,_,hc,_,_,_,_|_+1,.refuse _,_,_,_,_,_,_,_,_,_,_,_,_,_,hc,_,_,_,_|_+1,.block _ _,_,_,_,_,_,_,_,_,_,_,_,_,_,hc,_,_,_,_|_+1,.rangeFunc _ _ _ _,_,_,_,_,_,_,_,_,_,_,_,_,_,hc,_,_,_,_=>by cases hc
end
end Go.Rx
namespace Go.Sx
open Go Go.RowKit
variable [Trk]
theorem ANH (m:Nat) {P:Program} {N:Nat} {ds:List Deferred} {L:A7} {w:World} {A B:A3} {X:Nat->A3} {Z:List PanicEntry->A3} {g:Operand} {p p2:Nat} {assign body:Code} {gf:Nat} {lb:Array Value} {α:Type} {val val2:α->Value} {xs:List α} {K:World->World->Prop}
  (hg:ev L g=some (.func (.func gf) #[] lb)) (eg:∀ args w,(callFunc gf args).run P w=.ok (.enter gf args) w) (hp:Nat.blt p N=true) (hp2:Nat.blt p2 N=true)
  (hseq:SeqStopsK Fence.wide (m+1) P gf lb (fun x:α=>#[val x,val2 x]) K (fun ys=>ys=xs) (fun pre=>pre <+: xs) xs.length w)
  (hKt:∀ {A B C:World},K A B->K B C->K A C) (hKb:∀ (W:World) (l:Nat) (o o':Obj),w.heap.size<=l->W.heap[l]?=some o->o.isCells=false->o.isWalk=false->K W (W.putObj l o'))
  (I Ix:List α->World->Prop) (hI:OwnFrom w.heap.size I) (hIx:OwnFrom w.heap.size Ix) (h0:I [] w)
  (AL:α->A7->World->Prop) (hAL:∀ x L',OwnFrom w.heap.size fun (_:Unit) W=>AL x L' W)
  (hassign:∀ (l:Nat) (pre:List α) (x:α) (W:World),I pre W->CI l m P N assign [] ((p2,val2 x) :: (p,val x) :: L) W (fun ds' L' W'=>ds'=[]/\KeepsFrom w.heap.size W W'/\K W W'/\I pre W'/\AL x L' W') (fun _ _ _=>False) NoX (fun _ _ _ _=>False))
  (hbody:∀ (l:Nat) (pre:List α) (x:α) (L':A7) (W:World),w.heap.size<=l->(∃ r,W.heap[l]?=some (.loop r))->I pre W->AL x L' W->pre.length < xs.length ->
   CI l m P N body [] L' W (fun _ _ W'=>KeepsFrom w.heap.size W W'/\K W W'/\I (pre++[x]) W') (fun _ _ W'=>KeepsFrom w.heap.size W W'/\Ix (pre++[x]) W') NoX (fun _ _ _ _=>False))
  (hdone:∀ (D:Nat) (W:World),w.heap.size<=D->I xs W->W.heap[D]?=some (.deferred (some []))->A ({ target:=.collected D,args:=#[] } :: ds) L W)
  (hstop:∀ (D:Nat) (pre:List α) (W:World),w.heap.size<=D->pre <+: xs->Ix pre W->W.heap[D]?=some (.deferred (some []))->B ({ target:=.collected D,args:=#[] } :: ds) L W) :
  CW P N (.rangeFunc g #[p,p2] assign body) ds L w A B X Z:=by
 intro a ha
 refine (wpIn_wide (n:=m+2)).1 ?_
 refine wpIn_rangeFunc_ownH (F:=Fence.wide) (n:=m+2) rfl (by omega) (ha.eval hg) trivial eg hseq (fun h k=>hKt h k) hKb (Below.refl _ _) (fun x=>rfl) I (fun c pre W=>c=.ret/\Ix pre W) hI
  (fun c s W W' row hs hgr hr=>⟨hs.1,hIx s W W' row hs.2 hgr hr⟩) h0 (fun x a' W=>∃ L',Knows N [] L' a'/\AL x L' W) (fun x a' s W W' row hs hgr hr=>?_) ?_ ?_ ?_ ?_
 . obtain⟨L',h1,h2⟩:=hs
   exact⟨L',h1,hAL x L' () W W' row h2 hgr hr⟩
 . intro l pre x W K' hi hK
   have hk:Knows N [] ((p2,val2 x) :: (p,val x) :: L) { tmps:=(a.tmps.setIfInBounds p (val x)).setIfInBounds p2 (val2 x),defers:=[] }:=by
    have h1:=(show Knows N [] L { a with defers:=[] } from ⟨ha.size,rfl,ha.val⟩).put hp (val x)
    exact h1.put hp2 (val2 x)
   have hz:(Array.foldl (fun (t:Array Value) (x:Tmp×Value)=>match x with|(p,v)=>t.setIfInBounds p v) a.tmps (#[p,p2].zip #[val x,val2 x]))=(a.tmps.setIfInBounds p (val x)).setIfInBounds p2 (val2 x):=by simp
   rw[hz]
   refine wpIn_mono (hassign l pre x W hi _ hk) fun e a' W' hq=>?_
   cases e with
   |normal=>obtain⟨ds',L',h1,rfl,h3,h4,h5,h6⟩:=hq;exact hK a' W' h3 h4 h5 ⟨L',h1,h6⟩
   |ret=>obtain⟨_,_,_,h⟩:=hq;exact h.elim
   |exit i=>obtain⟨_,_,_,h⟩:=hq;exact h.elim
   |panic c=>obtain⟨_,_,_,h⟩:=hq;exact h.elim
   |goto l=>exact hq.elim
   |outgrown=>exact hq.elim
 . intro l pre x a' W hwl hrec hi hA hl
   obtain⟨L',h1,h2⟩:=hA
   refine wpIn_mono (hbody l pre x L' W hwl hrec hi h2 hl a' h1) fun e a' W' hq=>?_
   cases e with
   |normal=>obtain⟨ds',L',h1,h3⟩:=hq;exact h3
   |ret=>obtain⟨ds',L',h1,h3,h4⟩:=hq;exact⟨h3,rfl,h4⟩
   |exit i=>obtain⟨_,_,_,h⟩:=hq;exact h.elim
   |panic c=>obtain⟨_,_,_,h⟩:=hq;exact h.elim
   |goto l=>exact hq.elim
   |outgrown=>exact hq.elim
 . intro D ys W hD hy hi hw
   subst hy
   exact⟨_,L,⟨ha.size,by rw[ha.defers],ha.val⟩,hdone D W hD hi hw⟩
 . intro D c pre W hD hy hi hw
   obtain⟨rfl,hi⟩:=hi
   exact wpIn_ret ⟨_,L,⟨ha.size,by rw[ha.defers],ha.val⟩,hstop D pre W hD hy hi hw⟩
theorem ANI (m:Nat) {l0:Nat} {P:Program} {N:Nat} {ds:List Deferred} {L:A7} {w:World} {A B:A3} {X:Nat->A3} {Z:List PanicEntry->A3} {g:Operand} {p p2:Nat} {assign body:Code} {gf:Nat} {lb:Array Value} {α:Type} {val val2:α->Value} {xs:List α} {K:World->World->Prop}
  (hrec0:∃ r,w.heap[l0]?=some (.loop r)) (hg:ev L g=some (.func (.func gf) #[] lb)) (eg:∀ args w,(callFunc gf args).run P w=.ok (.enter gf args) w) (hp:Nat.blt p N=true) (hp2:Nat.blt p2 N=true)
  (hseq:SeqStopsK Fence.wide (m+1) P gf lb (fun x:α=>#[val x,val2 x]) K (fun ys=>ys=xs) (fun pre=>pre <+: xs) xs.length w)
  (hKt:∀ {A B C:World},K A B->K B C->K A C) (hKb:∀ (W:World) (l:Nat) (o o':Obj),w.heap.size<=l->W.heap[l]?=some o->o.isCells=false->o.isWalk=false->K W (W.putObj l o'))
  (I Ix:List α->World->Prop) (hI:OwnFrom w.heap.size I) (hIx:OwnFrom w.heap.size Ix) (h0:I [] w)
  (AL:α->A7->World->Prop) (hAL:∀ x L',OwnFrom w.heap.size fun (_:Unit) W=>AL x L' W)
  (hassign:∀ (l:Nat) (pre:List α) (x:α) (W:World),I pre W->CI l m P N assign [] ((p2,val2 x) :: (p,val x) :: L) W (fun ds' L' W'=>ds'=[]/\KeepsFrom w.heap.size W W'/\K W W'/\I pre W'/\AL x L' W') (fun _ _ _=>False) NoX (fun _ _ _ _=>False))
  (hbody:∀ (l:Nat) (pre:List α) (x:α) (L':A7) (W:World),w.heap.size<=l->(∃ r,W.heap[l]?=some (.loop r))->I pre W->AL x L' W->pre.length < xs.length ->
   CI l m P N body [] L' W (fun _ _ W'=>KeepsFrom w.heap.size W W'/\K W W'/\I (pre++[x]) W') (fun _ _ W'=>KeepsFrom w.heap.size W W'/\Ix (pre++[x]) W') NoX (fun _ _ _ _=>False))
  (hdone:∀ (W:World),I xs W->A ds L W)
  (hno:∀ pre W,¬ Ix pre W) :
  CI l0 (m+2) P N (.rangeFunc g #[p,p2] assign body) ds L w A B X Z:=by
 intro a ha
 obtain⟨r0,hr0⟩:=hrec0
 refine wpIn_rangeFunc_ownN (F:=FW l0) (n:=m+2) (l₀:=l0) rfl hr0 (by omega) (ha.eval hg) trivial eg hseq (fun h k=>hKt h k) hKb (Below.refl _ _) (fun x=>rfl) I (fun c pre W=>c=.ret/\Ix pre W) hI
  (fun c s W W' row hs hgr hr=>⟨hs.1,hIx s W W' row hs.2 hgr hr⟩) h0 (fun x a' W=>∃ L',Knows N [] L' a'/\AL x L' W) (fun x a' s W W' row hs hgr hr=>?_) ?_ ?_ ?_ ?_
 . obtain⟨L',h1,h2⟩:=hs
   exact⟨L',h1,hAL x L' () W W' row h2 hgr hr⟩
 . intro l pre x W K' hi hK
   have hk:Knows N [] ((p2,val2 x) :: (p,val x) :: L) { tmps:=(a.tmps.setIfInBounds p (val x)).setIfInBounds p2 (val2 x),defers:=[] }:=by
    have h1:=(show Knows N [] L { a with defers:=[] } from ⟨ha.size,rfl,ha.val⟩).put hp (val x)
    exact h1.put hp2 (val2 x)
   have hz:(Array.foldl (fun (t:Array Value) (x:Tmp×Value)=>match x with|(p,v)=>t.setIfInBounds p v) a.tmps (#[p,p2].zip #[val x,val2 x]))=(a.tmps.setIfInBounds p (val x)).setIfInBounds p2 (val2 x):=by simp
   rw[hz]
   refine wpIn_mono (hassign l pre x W hi _ hk) fun e a' W' hq=>?_
   cases e with
   |normal=>obtain⟨ds',L',h1,rfl,h3,h4,h5,h6⟩:=hq;exact hK a' W' h3 h4 h5 ⟨L',h1,h6⟩
   |ret=>obtain⟨_,_,_,h⟩:=hq;exact h.elim
   |exit i=>obtain⟨_,_,_,h⟩:=hq;exact h.elim
   |panic c=>obtain⟨_,_,_,h⟩:=hq;exact h.elim
   |goto l=>exact hq.elim
   |outgrown=>exact hq.elim
 . intro l pre x a' W hwl hrec hi hA hl
   obtain⟨L',h1,h2⟩:=hA
   refine wpIn_mono (hbody l pre x L' W hwl hrec hi h2 hl a' h1) fun e a' W' hq=>?_
   cases e with
   |normal=>obtain⟨ds',L',h1,h3⟩:=hq;exact h3
   |ret=>obtain⟨ds',L',h1,h3,h4⟩:=hq;exact⟨h3,rfl,h4⟩
   |exit i=>obtain⟨_,_,_,h⟩:=hq;exact h.elim
   |panic c=>obtain⟨_,_,_,h⟩:=hq;exact h.elim
   |goto l=>exact hq.elim
   |outgrown=>exact hq.elim
 . intro ys W hy hi
   subst hy
   exact⟨_,L,ha,hdone W hi⟩
 . intro c pre W hy hi
   exact absurd hi.2 (hno _ _)
end Go.Sx
set_option maxRecDepth 20000
set_option maxHeartbeats 4000000
namespace Go.Proofs.YtgioiejbphljoaaGreatDoor
open Go Go.Sx Go.Rx Go.RowKit
theorem APt:Tryz.prog.cellsOf 116=2:=by kernel_rfl
theorem ATv:Tryz.prog.keyType 116=true:=by kernel_rfl
theorem ATw:Tryz.prog.cellsOf 3=1:=by kernel_rfl
def K116:Ky Tryz.prog 116 (Int×Int):=ASQ (show laidOutB Tryz.prog=true by kernel_rfl) (m:=2) (by omega) (of_decide_eq_true (by kernel_rfl)) (by kernel_rfl) (by rw[Tryz.underlying116]) (fun x=>.agg (List.toArray [.int .i64 x.1,.int .i64 x.2])) (fun x=>InK .i64 x.1/\InK .i64 x.2)
 (fun {x} h=>by
  exact AUn Tryz.underlying116 Tryz.underlying3 APt ATw ATv (of_decide_eq_true (by kernel_rfl)) h.1 h.2)
 (fun {a b} _ _ h=>by
  cases a;cases b;simp at h;simp[h])
abbrev MP (bd:Nat) (f:A4 (Int×Int) Int):List Res:=[mapO K116 (B3 .i64) false bd f]
theorem U4 {M':List Nat} {W W':World} {B:Nat} (h:Adv M' M' W W') (hb:∀ b∈M',b < B) (hB:B<=W.heap.size):KeepsFrom B W W'/\KI M' B W W':=
 ⟨⟨h.kp.size,fun k o hk ho _=>(h.kp.block k (J1 ho) fun hm=>by have:=hb k hm;omega).trans ho⟩,h.kp.os,h.kp.tape,h.kp.output,h.kp.size,fun b hb' hn=>h.kp.block b (Nat.lt_of_lt_of_le hb' hB) hn⟩
theorem AG0 {M:List Nat} {W W':World} {b o:Nat} {cs:List Value} {row:Option Nat} (h:RdC M W b o cs) (hg:W.grownBy W' row) (hr:∀ r,row=some r->∃ o:Obj,W.heap[r]?=some o/\o.isCells=false):RdC M W' b o cs:=by
 obtain⟨htn,_⟩:=ADU (B:=0) hg fun r e=>⟨Nat.zero_le _,hr r e⟩
 exact⟨h.out,Nat.lt_of_lt_of_le h.lt htn.1,htn.cells h.cells⟩
structure D16 (M':List Nat) (W:World) (x:Desk_99) (al:List Asked) (l:List Report) (p8 p4 p13:Value) (b14 bd:Nat):Prop where
 g:GlOk (P:=Tryz.prog) M' W
 h8:Ok (P:=Tryz.prog) (fun _=>undef) (fun _=>none) M' W (.rp (.str 10 x) 0) p8
 h4:Ok (P:=Tryz.prog) (fun _=>undef) (fun _=>none) M' W (.rp (.dat (.sl (.st 5)) al) 0) p4
 h13:Ok (P:=Tryz.prog) (fun _=>undef) (fun _=>none) M' W (.rp (.dat (.sl (.st 1)) l) 0) p13
 h14:RdC M' W b14 0 [.map (some bd)]
theorem D16.adv {M':List Nat} {W W':World} {x:Desk_99} {al:List Asked} {l:List Report} {p8 p4 p13:Value} {b14 bd:Nat} (h:D16 M' W x al l p8 p4 p13 b14 bd) (ha:Adv M' M' W W'):D16 M' W' x al l p8 p4 p13 b14 bd:=
 ⟨h.g.adv ha,Ok.adv ha _ h.h8,Ok.adv ha _ h.h4,Ok.adv ha _ h.h13,h.h14.adv ha⟩
noncomputable def inB (x:Desk_99) (l:List Report) (y:Dispute) (v:Verdict) (now:Report) (is_:Bool) (f:A4 (Int×Int) Int) (a:Int×Asked):Option (A4 (Int×Int) Int):=Option.bind (AAQ x l y v now is_ a.2) fun b=>some (match b with
 |.inl true=>B7 f (y.id,a.2.who) a.2.id
 |_=>f)
def AHw (a:Asked):List Value:=[.int .i64 a.id,.int .i64 a.who,.int .i64 a.account,.int .i64 a.day]
noncomputable def ATx:Code:=match Tryz.f16.body with
 |some (.seq _ (.seq _ (.seq _ (.seq _ (.seq _ (.seq _ (.seq _ (.seq _ (.seq _ (.seq (.seq _ (.block _ (.rangeFunc _ _ _ (.block _ c)))) _))))))))))=>c
 |_=>.skip
noncomputable def ATy:Code:=match ATx with
 |.seq _ (.seq _ (.block _ c))=>c
 |_=>.skip
noncomputable def ANJ:Code:=match ATy with
 |.rangeFunc _ _ _ (.block _ c)=>c
 |_=>.skip
def APu (σ:AS):Option (Bool⊕Unit):=match A1 σ.env 153 with
 |some (.bool b)=>some (.inl b)
 |_=>none
def ANK (x:Desk_99) (l:List Report) (y:Dispute) (v:Verdict) (now:Report) (is_:Bool) (a:Asked):List (Nat×SV):=[(8,.rp (.str 10 x) 0),(13,.rp (.dat (.sl (.st 1)) l) 0),(15,.rp (.str 2 y) 0),(16,.rp (.str 12 v) 0),(17,.rp (.str 1 now) 0),(18,.rp (.bool is_) 0),(20,.rp (.str 5 a) 0)]
noncomputable def APv:Gx:={ gxb with fs:=[(46,ctr46)] }
theorem AL7:GxOk Tryz.prog APv:=B1 ⟨⟨ok46,Tryz.call46⟩,trivial⟩
theorem ATz (x:Desk_99) (l:List Report) (y:Dispute) (v:Verdict) (now:Report) (is_:Bool) (a:Asked):exec APv 181 (fun _=>(none:Option Unit)) (N0 2 ANJ) AGz APu (fun i _=>bif Nat.beq i 5 then some (.inr ()) else none) (fun _=>none) ⟨ANK x l y v now is_ a,[],[],[]⟩=AAQ x l y v now is_ a:=by kernel_rfl
def AXS (M':List Nat) (Lb:Sx.A7) (a:Int×Asked) (L:Sx.A7) (W:World):Prop:=∃ b20,L=(20,.pointer (some ⟨b20,0,none⟩)) :: (98,J8 (.st 5) a.2) :: (97,J8 (.int .i64) a.1) :: Lb/\RdC M' W b20 0 (AHw a.2)
theorem ARv {l0:Nat} {w wi:World} {M:List Nat} {bd b14:Nat} {x:Desk_99} {al:List Asked} {l:List Report} {y:Dispute} {v:Verdict} {now:Report} {is_:Bool} {p8 p4 p13 p15 p16 p17 p18 pb:Value} {f f':A4 (Int×Int) Int} {Li:Sx.A7} {ds:List Deferred} {A B:A3} {X:Nat->A3} {Z:List PanicEntry->A3}
  (hbd:bd < wi.heap.size) (hI:Hp w [] M (MP bd f) wi) (hrec:∃ r,wi.heap[l0]?=some (.loop r)) (hD:D16 (bd :: M) wi x al l p8 p4 p13 b14 bd)
  (h15:Ok (P:=Tryz.prog) (fun _=>undef) (fun _=>none) (bd :: M) wi (.rp (.str 2 y) 0) p15) (h16:Ok (P:=Tryz.prog) (fun _=>undef) (fun _=>none) (bd :: M) wi (.rp (.str 12 v) 0) p16) (h17:Ok (P:=Tryz.prog) (fun _=>undef) (fun _=>none) (bd :: M) wi (.rp (.str 1 now) 0) p17) (h18:Ok (P:=Tryz.prog) (fun _=>undef) (fun _=>none) (bd :: M) wi (.rp (.bool is_) 0) p18) (hpb:Ok (P:=Tryz.prog) (fun _=>undef) (fun _=>none) (bd :: M) wi (.rp (.dat (.sl (.st 5)) al) 0) pb) (hky:InK .i64 y.id)
  (l8:Sx.A5 Li 8=some p8) (l13:Sx.A5 Li 13=some p13) (l14:Sx.A5 Li 14=some (.pointer (some ⟨b14,0,none⟩))) (l15:Sx.A5 Li 15=some p15) (l16:Sx.A5 Li 16=some p16) (l17:Sx.A5 Li 17=some p17) (l18:Sx.A5 Li 18=some p18) (l96:Sx.A5 Li 96=some (.func (.func 85) #[] #[pb]))
  (hbs:∀ a∈bwN al al.length,ADT [.int .i64,.st 5] a) (hr:ABX (inB x l y v now is_) f (bwN al al.length)=some f')
  (hA:∀ W,Hp w [] M (MP bd f') W->Adv (bd :: M) (bd :: M) wi W->A ds Li W):CI l0 3 Tryz.prog 181 ATy ds Li wi A B X Z:=by
 obtain⟨ho1,ho2⟩:=AFB hr
 have hMlt:MLt (bd :: M) wi:=hI.mlt
 have hwi:w.heap.size<=wi.heap.size:=hI.kp.size
 let I:List {x // x∈bwN al al.length}->World->Prop:=fun pre W=>∃ g,List.foldlM (inB x l y v now is_) f (pre.map Subtype.val)=some g/\Hp w [] M (MP bd g) W/\Adv (bd :: M) (bd :: M) wi W
 refine ANI 1 (val:=fun a:{x // x∈bwN al al.length}=>J8 (.int .i64) a.1.1) (val2:=fun a=>J8 (.st 5) a.1.2) (K:=KI (bd :: M) wi.heap.size) (xs:=(bwN al al.length).attach) hrec l96 Tryz.call85 rfl rfl (AIW 2 hMlt hD.g hpb Subtype.val _ (List.attach_map_subtype_val _)) (fun h k=>h.trans k) (fun W k o o' hk _ _ _=>KI.putObj hk) I (fun _ _=>False) ?_ (fun _ _ _ _ h _ _=>h.elim) ⟨f,rfl,hI,Adv.refl _ _⟩ (fun a L' W=>AXS (bd :: M) Li a.1 L' W) ?_ ?_ ?_ ?_ (fun _ _ h=>h)
 . rintro pre W W' row ⟨g,e1,e2,e3⟩ hgr hr
   exact⟨g,e1,Hp.turn (fun h=>h) e3.kp.size hwi (AQC hbd tn0) e2 hgr hr,Adv.turn (fun h=>h) e3 hgr hr⟩
 . rintro a L' _ W W' row ⟨b20,e1,e2⟩ hgr hr
   exact⟨b20,e1,AG0 e2 hgr fun r e=>(hr r e).2⟩
 . rintro k pre a W ⟨g,e1,e2,e3⟩
   refine AA8 rfl ?_
   refine ACZ e2 Tryz.zeroValue47 rfl rfl ?_
   intro b20 w5 hI5 x5
   refine ABN 0 (vs:=AHw a.1.2) hI5 rfl rfl rfl rfl Tryz.sizeOf47 rfl rfl (C7 rfl (C7 rfl (C7 rfl (C7 rfl ACU)))) ?_
   intro w6 hI6 x6
   have hI6:Hp w [] M (rowR 47 b20 (AHw a.1.2) :: MP bd g) w6:=hI6
   have hA:Adv (bd :: M) (bd :: M) W w6:=x5.trans (x6.trans (F8 (σ:=rowR 47 b20 (AHw a.1.2) :: MP bd g) 0))
   obtain⟨k1,k2⟩:=U4 hA hMlt e3.kp.size
   exact Reg.nil ⟨rfl,k1,k2,⟨g,e1,hI6.erase 0,e3.trans hA⟩,b20,rfl,hI6.freezeRow 0 rfl⟩
 . rintro k pre a L' W hwl hrk ⟨g,e1,e2,e3⟩ ⟨b20,rfl,e5⟩ hlt
   obtain⟨g',hb',hfold⟩:=ho2 (pre.map Subtype.val) a.1 g (by simpa using hlt) (fun y hy=>by obtain⟨z,_,rfl⟩:=List.mem_map.1 hy;exact z.2) a.2 e1
   unfold inB at hb'
   obtain⟨z,hz,hb'⟩:=Q1 hb'
   have hb':=Option.some.inj hb'
   have hDW:=hD.adv e3
   have hMW:MLt (bd :: M) W:=e2.mlt
   have hok:okI (.st 5) a.1.2:=(hbs a.1 a.2).2
   have hst:Holds (P:=Tryz.prog) W [] (bd :: M) ⟨ANK x l y v now is_ a.1.2,[],[],[]⟩ ((20,.pointer (some ⟨b20,0,none⟩)) :: (98,J8 (.st 5) a.1.2) :: (97,J8 (.int .i64) a.1.1) :: Li) W:=by
    refine Holds.start hMW (fun t s ht=>?_) ⟨trivial,hDW.g⟩
    unfold ANK at ht
    rw[fnd_cons] at ht
    split at ht
    . rename_i e;subst e;cases ht;exact⟨_,l8,hDW.h8⟩
    rw[fnd_cons] at ht
    split at ht
    . rename_i e;subst e;cases ht;exact⟨_,l13,hDW.h13⟩
    rw[fnd_cons] at ht
    split at ht
    . rename_i e;subst e;cases ht;exact⟨_,l15,Ok.adv e3 _ h15⟩
    rw[fnd_cons] at ht
    split at ht
    . rename_i e;subst e;cases ht;exact⟨_,l16,Ok.adv e3 _ h16⟩
    rw[fnd_cons] at ht
    split at ht
    . rename_i e;subst e;cases ht;exact⟨_,l17,Ok.adv e3 _ h17⟩
    rw[fnd_cons] at ht
    split at ht
    . rename_i e;subst e;cases ht;exact⟨_,l18,Ok.adv e3 _ h18⟩
    rw[fnd_cons] at ht
    split at ht
    . rename_i e;subst e;cases ht;exact⟨_,rfl,b20,0,_,AHw a.1.2,rfl,e5,AD0 (.st 5) hok,rfl⟩
    cases ht
   refine AEE ?_
   refine AGr (l:=k) ?_
   refine ALA AL7 2 ANJ AGz (KN:=APu) (KX:=fun i _=>bif Nat.beq i 5 then some (.inr ()) else none) ?_ rfl ((ATz x l y v now is_ a.1.2).trans hz) hst (fun σ' L2 W2 hK hE2 hH2=>?_) (fun i σ' L2 W2 hK hE2 hH2=>?_)
   . exact fun L w v T t L2 ds ht hl hx=>((PZ.no (Z:=fun _ _ _ _=>False) (ds:=ds)).block (i:=5) rfl).z T t L L2 w v ht hl hx
   . have hx2:Ext W W2:=hH2.ends
     have hI2:Hp w [] M (MP bd g) W2:=e2.ext hx2
     have hA2:Adv (bd :: M) (bd :: M) W W2:=Adv.of_ext hx2
     have lk:∀ t,t∈[14,15,20]->Sx.A5 L2 t=Sx.A5 ((20,.pointer (some ⟨b20,0,none⟩)) :: (98,J8 (.st 5) a.1.2) :: (97,J8 (.int .i64) a.1.1) :: Li) t:=fun t ht=>hE2 t fun hm=>(by decide:∀ t∈[14,15,20],t∉C8 (N0 2 ANJ)++C6 AGz) t ht hm
     obtain⟨b,hb,hzb⟩:∃ b,A1 σ'.env 153=some (.bool b)/\z=.inl b:=by
      unfold APu at hK
      split at hK
      . rename_i b hb;exact⟨b,hb,(Option.some.inj hK).symm⟩
      . cases hK
     subst hzb
     have l153:=hH2.slotB hb
     show CI k 1 Tryz.prog 181 (AJS 2 ANJ) [] L2 W2 _ _ _ _
     refine AQv l153 (fun hbt=>?_) (fun hbf=>?_)
     . subst hbt
       subst hb'
       have hDW2:=hDW.adv hA2
       obtain⟨b15,o15,u15,vs15,rfl,c15,hu15,hc15⟩:=Ok.adv (e3.trans hA2) _ h15
       obtain⟨cs15,hR15,hcs15⟩:=hu15
       obtain rfl:vs15=[.int .i64 y.id,.int .i64 y.report,.int .i64 y.day]:=by
        obtain⟨rfl,_⟩:=(DisputeE_R (x:=y)).1 hR15
        rcases hcs15 with⟨_,rfl⟩|⟨h,_⟩
        . simpa[Value.cells] using hc15.symm
        . cases h
       refine AA8 rfl ?_
       refine V0 ((lk 14 (by decide)).trans l14) ((hDW2.h14).cells.at 0 rfl) Tryz.isAgg106 rfl ?_
       refine ABM ((lk 15 (by decide)).trans l15) Tryz.underlying53 rfl Tryz.sizeOf3 rfl ?_
       refine V0 rfl (c15.cells.at 0 rfl) Tryz.isAgg3 rfl ?_
       refine ABM (lk 20 (by decide)) Tryz.underlying47 rfl Tryz.sizeOf3 rfl ?_
       refine V0 rfl ((e5.adv hA2).cells.at 1 rfl) Tryz.isAgg3 rfl ?_
       refine ASR Tryz.zeroValue116 rfl Tryz.underlying116 Tryz.sizeOf3 rfl rfl rfl rfl rfl ?_
       refine ABM (lk 20 (by decide)) Tryz.underlying47 rfl Tryz.sizeOf3 rfl ?_
       refine V0 rfl ((e5.adv hA2).cells.at 0 rfl) Tryz.isAgg3 rfl ?_
       obtain⟨ka,kb,_,_⟩:InK .i64 a.1.2.id/\InK .i64 a.1.2.who/\InK .i64 a.1.2.account/\InK .i64 a.1.2.day:=hok
       refine AML (K:=K116) (E:=B3 .i64) (ag:=false) 0 hI2 rfl rfl (a:=(y.id,a.1.2.who)) rfl ⟨hky,kb⟩ rfl (z:=a.1.2.id) ⟨[_],⟨rfl,ka⟩,.inr ⟨rfl,rfl⟩⟩ Tryz.underlying106 ?_
       intro w9 hI9 x9
       have hI9:Hp w [] M (MP bd (B7 g (y.id,a.1.2.who) a.1.2.id)) w9:=hI9
       have hA9:Adv (bd :: M) (bd :: M) W w9:=hA2.trans x9
       obtain⟨k1,k2⟩:=U4 hA9 hMlt e3.kp.size
       exact Reg.nil ⟨k1,k2,_,by rw[List.map_append];exact hfold,hI9,e3.trans hA9⟩
     . subst hbf
       subst hb'
       obtain⟨k1,k2⟩:=U4 hA2 hMlt e3.kp.size
       exact AQu ⟨k1,k2,g,by rw[List.map_append];exact hfold,hI2,e3.trans hA2⟩
   . have hx2:Ext W W2:=hH2.ends
     have hA2:Adv (bd :: M) (bd :: M) W W2:=Adv.of_ext hx2
     cases hi:Nat.beq i 5 with
     |false=>
      have hK:(bif Nat.beq i 5 then some (Sum.inr ()) else none)=some z:=hK
      rw[hi] at hK;cases hK
     |true=>
      have hK:(bif Nat.beq i 5 then some (Sum.inr ()) else none)=some z:=hK
      rw[hi] at hK
      have hK:Sum.inr ()=z:=Option.some.inj hK
      subst hK
      subst hb'
      obtain rfl:=Nat.eq_of_beq_eq_true hi
      obtain⟨k1,k2⟩:=U4 hA2 hMlt e3.kp.size
      exact S8 ⟨k1,k2,g,by rw[List.map_append];exact hfold,e2.ext hx2,e3.trans hA2⟩
 . rintro W ⟨g,e1,e2,e3⟩
   rw[List.attach_map_subtype_val,ho1] at e1
   cases e1
   exact hA W e2 e3
end Go.Proofs.YtgioiejbphljoaaGreatDoor
