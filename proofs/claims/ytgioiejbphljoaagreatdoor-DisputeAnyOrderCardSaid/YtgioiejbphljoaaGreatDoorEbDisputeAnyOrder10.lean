/-
  Part DisputeAnyOrder 10 of the texts that the statement's proof stands on: what memory holds, how code is walked, what the functions reckon. In the order in which they build.
-/
import Derived.RangeFuncNested
import Derived.Test.YtgioiejbphljoaaGreatDoorEbDisputeAnyOrder9
open List (mem_append mem_cons mem_map mem_singleton toArray)
open Nat (beq blt)
open Go.Proofs.Tryz
set_option linter.unusedVariables false
set_option linter.unusedSectionVars false
set_option maxRecDepth 20000
set_option maxHeartbeats 4000000
noncomputable section
namespace Go.Rx
open Go Go.Sx Go.RowKit
section
variable[Trk][Sg][Sf]{P:Program}[Se P][Anch]{w0 w:World}{M:List Nat}{N:Nat}{ds:List Deferred}
theorem APS[Sl (P:=P)]{G:Gx}(D:GxOk P G)(r:Option Nat){n:Nat}(c:Code)(an:An){sh:Sh}{σ:AS}{x:O9 sh.cs}{L:A8}{w:World}{A B:A5}{X:Nat->A5}{Z:List PanicEntry->A5}(h:exec G N (fun _=>(none:Option Unit)) c an (I9 sh) (fun _ _=>none) (fun _=>none) σ=some x)(C:Holds (P:=P) w0 [] M σ L w)(hA:∀L' w',EnvS (D7 c++D6 an) L L'->Holds (P:=P) w0 [] M (C0 (D7 c++D6 an) sh σ x) L' w'->A ds L' w'):CF r n P N c ds L w A B X Z:=
 ADd (I0 D c an _ _ _ _ _ _ _ _ _ _ _ _ _ h C (fun σ1 L1 w1 E V I H=>by
  obtain⟨S,ρ,γ,μ,ι,U⟩:=H;exact hA L1 w1 I (V2 U V E)) (fun i σ2 L2 w2 J=>by cases J) (fun r σ2 L2 w2 J F _ W=>by cases J) PZ.no)
end
theorem AHJ[Trk][Sg][Sf]{P:Program}[Se P][Sl (P:=P)][Sn P](J:¬Trk.t){G:Gx}(T:GxOk P G){f:Func}{cs:List Ck}{M:List Nat}{w:World}{r:E4 cs}(V:Nat.ble cs.length 4=true)(K:tnK cs=true){D:Nat}(hD:w.heap.size<=D){σ':AS}{L':A8}{w':World}(L:T7 G cs f.results.toList σ'=some r)(F:@Holds _ _ _ P _ (AI1 D) _ w [] M σ' L' w'):FinM P f (fun e w'=>∃vs,e=.returned (ACa vs)/\KsOk (P:=P) M (obK cs vs++M) w w' cs r vs/\Ext w w') [{ target:=.collected D,args:=#[] }] L' w':=by
 obtain⟨vs,N,Z,X,I⟩:=@ANm _ _ _ P _ _ (AI1 D) G T _ _ _ _ _ _ _ _ F L;obtain⟨S,ρ,γ,μ,ι,Q⟩:=F;have E:D∉mm S M/\w'.heap[D]?=some (.deferred (some [])):=by
  letI:=AI1 D
  exact Q.anch.1
 have H:Tn w' (w'.putObj D (.deferred none)):=⟨by simp,fun b o U W=>by
  by_cases e:b=D
  . subst e;rw[E.2]at U;cases U;cases W
  . exact(World.putObj_heap_other e).trans U⟩
 have hx:Ext w (w'.putObj D (.deferred none)):=⟨I.os,I.tape,I.output,AbP I.size (by simp),fun b O V=>(World.putObj_heap_other (by omega)).trans (I.block b O V),fun h=>absurd h J⟩;have B:=H4 (P:=P) (fn:=f) (R:=fun e w'=>∃vs,e=.returned (ACa vs)/\KsOk (P:=P) M (obK cs vs++M) w w' cs r vs/\Ext w w') (by simp) (AllRs.tn H N) (by rw[Z];exact V) ⟨vs,by rw[AFX],KsOk.tn H cs K X,hx⟩;obtain⟨_,v,A,Y⟩:=B;exact .inr ⟨D,_,rfl,run_takeDeferred E.2,v,fun a C=>A { tmps:=a.tmps,defers:=[] } ⟨C.size,rfl,C.val⟩,Y⟩
end Go.Rx
namespace Go.Proofs.YtgioiejbphljoaaGreatDoor
open Go Go.Sx Go.Rx Go.RowKit
theorem AWS:ALc ReportE:=fun h=>ReportE_R.2 (ReportE_R.1 h)
def AB8(x:Dispute):List Value:=[.int .i64 x.id,.int .i64 x.report,.int .i64 x.day]
def AEU(v:Verdict):List Value:=[.int .i64 v.day,.int .u8 v.is_,.int .i64 v.by_.id,.int .i64 v.by_.dispute,.int .i64 v.by_.day,.int .u8 v.by_.says,.int .i64 v.by_.about,.int .i64 v.by_.cents]
noncomputable def AaS:Code:=match f41.body with
 |some (.seq _ (.seq _ (.seq (.seq _ (.block _ c)) _)))=>c
 |_=>.skip
noncomputable def AWT:Code:=match AaS with
 |.rangeFunc _ _ _ b=>b
 |_=>.skip
noncomputable def AWU:Code:=match f41.body with
 |some (.seq _ (.seq _ (.seq _ c)))=>c
 |_=>.skip
def sB(d:Desk_99)(x:Dispute)(v:Verdict)(l:List Report):AS:=⟨(6,.ptr 6 0)::[(2,.rp (.str 10 d) 0),(7,.rp (.str 2 x) 0),(8,.rp (.str 12 v) 0)],[(6,.row 24 [.own 66]),(66,.own false (.sl 45 (.st 1)) l)],[],[]⟩
def sP(d:Desk_99)(l:List Report):AS:=⟨(6,.ptr 6 0)::[(2,.rp (.str 10 d) 0)],[(6,.row 24 [.own 66]),(66,.own false (.sl 45 (.st 1)) l)],[],[]⟩
def shB:Sh:=⟨[(.cell 6 0,.own (.sl 45 (.st 1)))],[6]⟩
def cs41:List Ck:=[.own (.sl 45 (.st 1)),.d (.int .i64)]
def APT:Gx:={ gxb with fs:=[(78,ctr78),(79,ctr79),(80,ctr80)],fm:=[(77,ctrm77)] }
theorem AJz:GxOk prog APT:=ACP ⟨⟨ok78,call78⟩,⟨ok79,call79⟩,⟨ok80,call80⟩,trivial⟩ trivial ⟨⟨okm77,call77⟩,trivial⟩
theorem AUY(d:Desk_99)(x:Dispute)(v:Verdict)(l:List Report):exec gxb 65 (fun _=>(none:Option Unit)) AWT AKf (I9 shB) (fun _ _=>none) (fun _=>none) (sB d x v l)=Y1 d x v l:=by kernel_rfl
theorem AWV(d:Desk_99)(l:List Report):exec APT 65 (T7 APT cs41 f41.results.toList) AWU AMs (T7 APT cs41 f41.results.toList) (fun _ _=>none) some (sP d l)=ABK d l:=by kernel_rfl
def AaT(M:List Nat)(b6:Nat)(Lb:Sx.A8)(x:Dispute×Verdict)(L:Sx.A8)(W:World):Prop:=∃b7 b8 u,L=(8,.pointer (some ⟨b8,0,none⟩))::(7,.pointer (some ⟨b7,0,none⟩))::(15,M9 (.st 12) x.2)::(14,M9 (.st 2) x.1)::Lb/\Row 53 W b7 (AB8 x.1)/\Row 111 W b8 (AEU x.2)/\Row 24 W b6 [u]/\(b7∉ob u/\b7≠b6/\b7∉M)/\(b8∉ob u/\b8≠b6/\b8∉M)
theorem AII{e:TypeId}{W W':World}{b:Nat}{cs:List Value}{row:Option Nat}(h:Row e W b cs)(I:W.grownBy W' row)(H:∀r,row=some r->∃o:Obj,W.heap[r]?=some o/\o.isCells=false):Row e W' b cs:=by
 have h:W.heap[b]?=_:=h;refine(I.block b (G6 h) fun e'=>?_).trans h;obtain⟨o',g1,g2⟩:=H b e'.symm;rw[h]at g1;cases g1;cases g2
theorem AKg[Anch]{w:World}{M:List Nat}{b6:Nat}{u:Value}{l:List Report}{L:Sx.A8}{W:World}{env:List (Nat×SV)}(e2:Hp w [] M (E1 ReportE 45 24 b6 u l) W)(l6:Sx.A6 L 6=some (.pointer (some ⟨b6,0,none⟩)))(J:∀t s,A1 env t=some s->∃v,Sx.A6 L t=some v/\Ok (P:=prog) (fun i=>if i=6 then .pointer (some ⟨b6,0,none⟩) else u) (A1 [(6,.row 24 [.own 66]),(66,.own false (.sl 45 (.st 1)) l)]) (mm (E1 ReportE 45 24 b6 u l) M) W s v)(hA:AnOk (P:=prog) (mm (E1 ReportE 45 24 b6 u l) M) W):
  Holds (P:=prog) w [] M ⟨(6,.ptr 6 0)::env,[(6,.row 24 [.own 66]),(66,.own false (.sl 45 (.st 1)) l)],[],[]⟩ L W:=by
 refine⟨E1 ReportE 45 24 b6 u l,fun i=>if i=6 then .pointer (some ⟨b6,0,none⟩) else u,fun i=>if i=6 then [u] else [],fun _=>[],fun i=>if i=6 then 1 else 0,e2,fun i a hi=>?_,fun i j a b hi H e=>?_,fun i a hi=>?_,fun t s I=>?_,hA⟩
 . rw[fnd_cons]at hi
   split at hi
   . rename_i e;subst e;cases hi;rfl
   rw[fnd_cons]at hi
   split at hi
   . rename_i e;subst e;cases hi;rfl
   cases hi
 . rw[fnd_cons]at hi H
   split at hi<;>split at H
   . rename_i e1 e2;rw[<-e1,<-e2]
   . rename_i e1 e2
     rw[fnd_cons]at H
     split at H
     . rename_i e3;subst e1 e3;cases e
     . cases H
   . rename_i e1 e2
     rw[fnd_cons]at hi
     split at hi
     . rename_i e3;subst e2 e3;cases e
     . cases hi
   . rw[fnd_cons]at hi H
     split at hi<;>split at H
     . rename_i e3 e4;rw[<-e3,<-e4]
     . cases H
     . cases hi
     . cases hi
 . rw[fnd_cons]at hi
   split at hi
   . rename_i e;subst e;cases hi
     exact⟨⟨b6,rfl⟩,u,[u],[],rfl,⟨rfl,Own.cells1 (e2.ownAt 0 rfl),Own.oneC (e2.ownAt 0 rfl)⟩,Own.cells1 (e2.ownAt 0 rfl),rfl⟩
   rw[fnd_cons]at hi
   split at hi
   . rename_i e;subst e;cases hi;trivial
   cases hi
 . rw[fnd_cons]at I
   split at I
   . rename_i e;subst e;cases I;exact⟨_,l6,b6,rfl,rfl⟩
   . exact J t s I
def F5(d:Desk_99)(day:Int):Option (List Report×Int):=(D5 d day).bind fun ys=>(ACC (fun l (y:Dispute×Verdict)=>Y1 d y.1 y.2 l) [] ys).bind fun l=>ABK d l
def ctr41:Ctr:=⟨[.d (.st 10),.d (.int .i64)],cs41,fun a=>F5 a.1 a.2.1⟩
theorem ok41:Ctr.ok prog 41 ctr41:=by
 refine⟨by decide,fun M w a vals r hM hg ha J=>?_⟩;obtain⟨d,day,_⟩:=a;obtain⟨vd,_,rfl,X,vk,_,rfl,g,rfl⟩:=ha;have X:OkD (P:=prog) M w (.st 10) d vd:=X;have g:OkD (P:=prog) M w (.int .i64) day vk:=g;have J:F5 d day=some r:=J;unfold F5 at J;obtain⟨ys,hys,J⟩:=C7 J;obtain⟨l0,hl0,J⟩:=C7 J;obtain⟨ho1,ho2⟩:=AGA hl0;have N:=X;obtain⟨cs,C,h3⟩:=X;obtain rfl:vd=.agg (toArray cs):=h3.elim (fun h=>h.2) fun h=>by cases h.1
 have hncs:cs.length=8:=(enc (P:=prog) (.st 10)).len C;refine ABV (l:=[.agg (toArray cs),vk]) func41 rfl rfl rfl ?_;have hI:=Hp.start (Mu:=[]) hM;refine A3 ?_;refine A7 ?_;refine S9 hI rfl rfl rfl ?_;intro b2 w2 R x2;have hC2:=R.freezeRow 0 rfl;have R:=R.erase 0;refine C9 rfl rfl ?_;refine C9 rfl rfl ?_;refine Reg.nil ?_;refine A3 ?_;refine A7 ?_;refine Q0 R zeroValue24 rfl rfl ?_;intro b6 w3 O x3;refine Reg.nil ?_;have O:Hp w [] M (E1 ReportE 45 24 b6 (.slice none 0 0) []) w3:=O.addNil ReportE 45;have Y:Adv M (mm (E1 ReportE 45 24 b6 (.slice none 0 0) []) M) w w3:=O.adv;have hb6:w.heap.size<=b6:=((O.own _ (AbB (i:=1) rfl)).2 b6 (mem_singleton.2 rfl)).resolve_left (fun h=>by cases h);have hC3:RdC (mm (E1 ReportE 45 24 b6 (.slice none 0 0) []) M) w3 b2 0 cs:=(hC2.adv x3).adv (ACr ReportE 45);refine A3 ?_;refine A3 ?_;refine A7 ?_;refine Z1 rfl hC3.cells isAgg99 hncs sizeOf99 rfl ?_;refine E9 rfl rfl ?_;refine H0 rfl call45 rfl ?_;refine(ok45.2 (mm (E1 ReportE 45 24 b6 (.slice none 0 0) []) M) w3 (d,day,()) [.agg cs.toArray,vk] ys O.mlt (hg.adv Y) ⟨_,_,rfl,OkD.adv N Y,_,_,rfl,OkD.adv g Y,rfl⟩ hys).mono ?_;rintro _ w4 ⟨_,rfl,⟨v13,rfl,⟨gf,lb,rfl,heg,hok,hit⟩,_⟩,x4⟩;refine⟨_,rfl,?_⟩;refine Reg.nil ?_;have p:=O.ext x4;have G:=Adv.of_ext (M:=mm (E1 ReportE 45 24 b6 (.slice none 0 0) []) M) x4;have hC4:=hC3.adv G;have hd4:=OkD.adv N (Y.trans G);have hg4:=hg.adv (Y.trans G);have hseq:=hit (mm (E1 ReportE 45 24 b6 (.slice none 0 0) []) M) w4 (Adv.refl _ _) p.mlt {x // x∈ys} Subtype.val ys.attach (Abp ys);generalize Z:((13,ACa [Value.func (.func gf) #[] lb])::(12,vk)::(11,Value.agg cs.toArray)::(6,Value.pointer (some ⟨b6,0,none⟩))::(5,Value.int .i64 0)::(4,Value.slice none 0 0)::(2,Value.pointer (some ⟨b2,0,none⟩))::R1 0 [Value.agg cs.toArray,vk])=Lb;have lb2:Sx.A6 Lb 2=some (.pointer (some ⟨b2,0,none⟩)):=by rw[<-Z];rfl
 have lb6:Sx.A6 Lb 6=some (.pointer (some ⟨b6,0,none⟩)):=by rw[<-Z];rfl
 have lb13:Sx.A6 Lb 13=some (.func (.func gf) #[] lb):=by rw[<-Z];rfl
 clear Z;have hcells:∀x∈ys,okI (.st 2) x.1/\okI (.st 12) x.2:=hok;let S0:=E1 ReportE 45 24 b6 (.slice none 0 0) [];let I:List {x // x∈ys}->World->Prop:=fun pre W=>∃l u,List.foldlM (fun l (y:Dispute×Verdict)=>Y1 d y.1 y.2 l) [] (pre.map Subtype.val)=some l/\Hp w [] M (E1 ReportE 45 24 b6 u l) W/\Adv (mm S0 M) (mm (E1 ReportE 45 24 b6 u l) M) w4 W;have f:w.heap.size<=w4.heap.size:=p.kp.size;have hKI:∀{u u':Value} {l l':List Report} {W W':World},Hp w [] M (E1 ReportE 45 24 b6 u l) W->Hp w [] M (E1 ReportE 45 24 b6 u' l') W'->Adv (mm S0 M) (mm (E1 ReportE 45 24 b6 u l) M) w4 W->Adv (mm (E1 ReportE 45 24 b6 u l) M) (mm (E1 ReportE 45 24 b6 u' l') M) W W'->KeepsFrom w4.heap.size W W'/\KI (mm S0 M) w4.heap.size W W':=fun {u u' l l' W W'} h h' hA Q=>by
  obtain⟨_,k⟩:=h.kb h' Q;refine⟨⟨k.size,fun i o hB=>k.same i o (AbP f hB)⟩,Q.kp.os,Q.kp.tape,Q.kp.output,Q.kp.size,fun b V hn=>?_⟩;refine Q.kp.block b (AbS V hA.kp.size) fun hm=>?_;exact(hA.new b hm).elim hn fun h=>by omega
 refine C8 ?_;refine AOd (val:=fun x:{x // x∈ys}=>M9 (.st 2) x.1.1) (val2:=fun x:{x // x∈ys}=>M9 (.st 12) x.1.2) (K:=KI (mm S0 M) w4.heap.size) (xs:=ys.attach) lb13 heg rfl rfl hseq (fun h k=>h.trans k) (fun W k o o' hk _ _ _=>KI.putObj hk) I (fun _ _=>False) ?_ (fun _ _ _ _ h _ _=>h.elim) ⟨[],.slice none 0 0,rfl,p,Adv.refl _ _⟩ (fun x L' W=>AaT M b6 Lb x.1 L' W) ?_ ?_ ?_ ?_ (fun _ _ _ _ _ h _=>h.elim)
 . rintro pre W W' row ⟨l,u,e1,e2,e3⟩ E J;exact⟨l,u,e1,e2.turnG AWS (fun h=>h) E (fun r e=>⟨AbP f (J r e).1,(J r e).2⟩),Adv.turn (fun h=>h) e3 E J⟩
 . rintro x L' _ W W' row ⟨b7,b8,u,e1,e2,e3,e4,e5⟩ E J;exact⟨b7,b8,u,e1,AII e2 E fun r e=>(J r e).2,AII e3 E fun r e=>(J r e).2,AII e4 E fun r e=>(J r e).2,e5⟩
 . rintro k pre x W ⟨l,u,e1,e2,e3⟩;refine AF8 ?_;refine AAC rfl ?_;refine Q0 e2 zeroValue53 rfl rfl ?_;intro b7 w5 hI5 x5;refine N3 0 (vs:=AB8 x.1.1) hI5 rfl rfl rfl rfl sizeOf53 rfl rfl (one1 rfl (one1 rfl (one1 rfl one0))) ?_;intro w6 m x6;have m:Hp w [] M (rowR 53 b7 (AB8 x.1.1)::E1 ReportE 45 24 b6 u l) w6:=m;refine Reg.nil ?_;refine AAC rfl ?_;refine Q0 m zeroValue111 rfl rfl ?_;intro b8 w7 hI7 x7;refine N3 0 (vs:=AEU x.1.2) hI7 rfl rfl rfl rfl sizeOf111 rfl rfl (one1 rfl (one1 rfl (one1 rfl (one1 rfl (one1 rfl (one1 rfl (one1 rfl (one1 rfl one0)))))))) ?_;intro w8 H x8;have H:Hp w [] M (rowR 111 b8 (AEU x.1.2)::rowR 53 b7 (AB8 x.1.1)::E1 ReportE 45 24 b6 u l) w8:=H;have hI9:Hp w [] M (E1 ReportE 45 24 b6 u l) w8:=(H.erase 0).erase 0;have hA:Adv (mm (E1 ReportE 45 24 b6 u l) M) (mm (E1 ReportE 45 24 b6 u l) M) W w8:=x5.trans (x6.trans (x7.trans (x8.trans ((E8 (σ:=rowR 111 b8 (AEU x.1.2)::rowR 53 b7 (AB8 x.1.1)::E1 ReportE 45 24 b6 u l) 0).trans (E8 (σ:=rowR 53 b7 (AB8 x.1.1)::E1 ReportE 45 24 b6 u l) 0)))));obtain⟨k1,k2⟩:=hKI e2 hI9 e3 hA;refine Reg.nil ⟨rfl,k1,k2,⟨l,u,e1,hI9,e3.trans hA⟩,b7,b8,u,rfl,H.row 1 rfl,H.row 0 rfl,H.row 3 rfl,⟨?_,?_,?_⟩,?_,?_,?_⟩
   . exact fun V=>H.dis 1 2 _ _ rfl rfl (by omega) b7 (mem_singleton.2 rfl) V
   . exact fun e=>H.dis 1 3 _ _ rfl rfl (by omega) b7 (mem_singleton.2 rfl) (mem_singleton.2 e)
   . exact H.sepM _ (AbB (i:=1) rfl) b7 (mem_singleton.2 rfl)
   . exact fun V=>H.dis 0 2 _ _ rfl rfl (by omega) b8 (mem_singleton.2 rfl) V
   . exact fun e=>H.dis 0 3 _ _ rfl rfl (by omega) b8 (mem_singleton.2 rfl) (mem_singleton.2 e)
   . exact H.sepM _ (AbB (i:=0) rfl) b8 (mem_singleton.2 rfl)
 . rintro k pre x L' W ⟨l,u,e1,e2,e3⟩ ⟨b7,b8,u',rfl,r7,r8,r6,s7,s8⟩ hlt;obtain rfl:u'=u:=by
    have e9:W.heap[b6]?=_:=e2.row 1 rfl;have e8:W.heap[b6]?=_:=r6;rw[e9]at e8;have:=AbA e8;injection this with h9;simpa using h9.symm
   obtain⟨l',hb',hfold⟩:=ho2 (pre.map Subtype.val) x.1 l (by simpa using hlt) (fun y hy=>by obtain⟨z,_,rfl⟩:=mem_map.1 hy;exact z.2) x.2 e1;have L:∀b,b∈mm (E1 ReportE 45 24 b6 u' l) M->b∈ob u'\/b=b6\/b∈M:=fun b V=>by
    simp only[mm,ownR,rowR,mem_append,mem_cons,List.not_mem_nil,or_false]at V;rcases V with C|C|C
    . exact .inl C
    . exact .inr (.inl C)
    . exact .inr (.inr C)
   letI:Anch:=AXz (mm (E1 ReportE 45 24 b6 u' l) M) W
   have j:Holds (P:=prog) w [] M (sB d x.1.1 x.1.2 l) ((8,.pointer (some ⟨b8,0,none⟩))::(7,.pointer (some ⟨b7,0,none⟩))::(15,M9 (.st 12) x.1.2)::(14,M9 (.st 2) x.1.1)::Lb) W:=by
    refine AKg e2 lb6 (fun t s U=>?_) ⟨Adv.refl _ _,hg4.adv e3⟩;rw[fnd_cons]at U;split at U
    . rename_i e;subst e;cases U;exact⟨_,lb2,b2,0,_,cs,rfl,hC4.adv e3,OkD.adv hd4 e3,rfl⟩
    rw[fnd_cons]at U;split at U
    . rename_i e;subst e;cases U;exact⟨_,rfl,b7,0,_,AB8 x.1.1,rfl,G9 (fun V=>(L b7 V).elim s7.1 fun h=>h.elim s7.2.1 s7.2.2) r7,AEw (.st 2) (hcells x.1 x.2).1,rfl⟩
    rw[fnd_cons]at U;split at U
    . rename_i e;subst e;cases U;exact⟨_,rfl,b8,0,_,AEU x.1.2,rfl,G9 (fun V=>(L b8 V).elim s8.1 fun h=>h.elim s8.2.1 s8.2.2) r8,AEw (.st 12) (hcells x.1 x.2).2,rfl⟩
    cases U
   refine AIB (APS AHF (some k) AWT AKf (sh:=shB) ((AUY d x.1.1 x.1.2 l).trans hb') j fun L2 W2 hE2 B=>?_);obtain⟨S2,ρ2,γ2,μ2,ι2,F⟩:=B;obtain⟨v6,l26,bb,hbb,rfl⟩:=F.env 6 (.ptr 6 0) rfl;have hbb6:bb=b6:=by
    have:=(hE2 6 (by decide)).trans lb6;rw[l26]at this;injection this with h9;injection h9 with h9;simpa using h9
   subst hbb6;obtain⟨bq,hbq,rq,oq,iq⟩:=F.rowAt (i:=6) (e:=24) (l:=[.own 10600]) rfl;rw[hbb]at hbq;cases hbq;obtain⟨q,eq1,oq1⟩:=ADD oq;have oq1:q=[]:=oq1;rw[oq1]at eq1;rw[eq1]at iq;have io:=F.res 10600 (.own false (.sl 45 (.st 1)) l') rfl;have io:S2[ι2 10600]?=some (ownR [] ReportE 45 (ρ2 10600) l'):=io;have hni:ι2 10600≠ι2 6:=fun e=>by
    have:=F.inj 10600 6 _ _ rfl rfl e;cases this
   have S:sel S2 [ι2 10600,ι2 6]=E1 ReportE 45 24 bb (ρ2 10600) l':=by
    simp only[sel,nthR_eq,io,iq]
   have v:=F.hp.sel [ι2 10600,ι2 6] (by simp[ACI,hni]);rw[S]at v;have c:Adv (mm (E1 ReportE 45 24 bb u' l) M) (mm (E1 ReportE 45 24 bb (ρ2 10600) l') M) W W2:=by
    have C:Adv (mm (E1 ReportE 45 24 bb u' l) M) (mm S2 M) W W2:=F.anch.1;have T:=C.trans (ABU (M:=M) (w:=W2) (σ:=S2) [ι2 10600,ι2 6]);rw[S]at T;exact T
   obtain⟨k1,k2⟩:=hKI e2 v e3 c;exact⟨k1,k2,l',ρ2 10600,by rw[AbT];exact hfold,v,e3.trans c⟩
 . rintro D W hD ⟨l,u,e1,e2,e3⟩ A;rw[Abp,ho1]at e1;cases e1
   have hDm:D∉mm (E1 ReportE 45 24 b6 u l0) M:=fun V=>by
    simp only[mm,ownR,rowR,mem_append,mem_cons,List.not_mem_nil,or_false]at V;rcases V with C|C|C
    . obtain⟨o,T,h3⟩:=(e2.ownAt 0 rfl).isC D C;rw[A]at T;cases T;cases h3
    . have T:W.heap[b6]?=_:=e2.row 1 rfl;rw[<-C,A]at T;cases T
    . have:=hM D C;omega
   letI:Anch:=AI1 D
   have j:Holds (P:=prog) w [] M (sP d l0) Lb W:=by
    refine AKg e2 lb6 (fun t s U=>?_) ⟨⟨hDm,A⟩,hg4.adv e3⟩;rw[fnd_cons]at U;split at U
    . rename_i e;subst e;cases U;exact⟨_,lb2,b2,0,_,cs,rfl,hC4.adv e3,OkD.adv hd4 e3,rfl⟩
    cases U
   have hDw:w.heap.size<=D:=AbP f hD;exact AAI (n:=3) (ADd (I0 AJz AWU AMs _ _ _ _ _ _ _ _ _ _ _ _ _ ((AWV d l0).trans J) j (fun σ2 L2 w2 T _ _ B=>AHJ (fun h=>h) AJz (by decide) rfl hDw T B) (fun i σ2 L2 w2 T=>by cases T) (fun r' σ2 L2 w2 hp hk _ B=>by
    have hk:r'=r:=AbA hk;subst hk;exact AHJ (fun h=>h) AJz (by decide) rfl hDw hp B) PZ.no))
def ACe(d:Desk)(asked:List Asked)(day:Int):Option ((Desk_99×List Asked×List Report×Int)⊕(List Letter×Int)):=(J2 d day).bind fun (r1,r2)=>cond ((!decide (r2=0))) (some (Sum.inr (([]:List Letter),r2))) ((B6 (S:=(Int×Int)) (R:=(Unit⊕((List Letter)×Int))) (fun (x12,x13)=>cond (decide (x13<(asked.length:Int))) ((ixo asked x13).bind fun y14=>Option.bind (α:=Bool) ((chk .i64 (x12+1)).bind fun n15=>(E0 n15 (999999:Int) ([y14.id])).bind fun r16=>cond ((!r16)) (some true) ((E0 (0:Int) (999999:Int) ([y14.who,y14.account])).bind fun r17=>cond ((!r17)) (some true) ((E0 (0:Int) (100000:Int) ([y14.day])).bind fun r18=>some (!r18)))) ((fun x19=>cond (x19) (some (Sum.inr (Sum.inr (([]:List Letter),(53:Int))))) ((chk .i64 (x13+1)).bind fun n20=>some (Sum.inl (y14.id,n20)))))) (some (Sum.inr (Sum.inl ())))) (((-1):Int),(0:Int))).bind ((Sum.elim (fun _=>cond (decide (40<(asked.length:Int))) (some (Sum.inr (([]:List Letter),(53:Int)))) ((F5 r1 day).bind fun (r21,r22)=>cond ((!decide (r22=0))) (some (Sum.inr (([]:List Letter),r22))) (some (Sum.inl (r1,asked,r21,day))))) (fun r23=>some (Sum.inr r23)))))
def AN2:An:=.nd .x (.nd .x (.nd .x (.nd .x (.nd (.nd .x (.lp ⟨[(.slot 10,.d (.int .i64)),(.slot 37,.d (.int .i64))],[8,4]⟩ [.exit 0 ⟨[],[8,4]⟩,.ret] (.nd .x (.nd .x (.nd (.nd .x (.nd (.nd (.jn [.norm ⟨[(.slot 63,.d .bool)],[12,8,4]⟩] .x) .x) .x)) .x))))) .x))))
def ABL(l:List Report)(y:Dispute)(v:Verdict):Option (Report×Bool):=(V8 l v.day).bind fun r1=>some (((r1 y.report).getD (Report.mk 0 0 0 0 0 0 0 0)),((r1 y.report).isSome))
def AJ0:An:=.x
def AAv(x:Desk_99)(l:List Report)(y:Dispute)(v:Verdict)(now:Report)(is_:Bool)(a:Asked):Option (Bool⊕Unit):=Option.bind (α:=Bool) (cond ((!decide (a.account=(((x.facts y.report).getD (Report.mk 0 0 0 0 0 0 0 0)).account)))) (some true) (cond (decide (v.day<=a.day)) (some true) ((chk .i64 (v.day-a.day)).bind fun n2=>some (decide (x.desk.terms.lately<n2))))) ((fun x3=>cond (x3) (some (Sum.inr ())) ((V8 l a.day).bind fun r4=>Option.bind (α:=Bool) (cond ((r4 y.report).isSome) (cond (decide ((((r4 y.report).getD (Report.mk 0 0 0 0 0 0 0 0)).about)<=a.day)) (cond ((!is_)) (some true) (some (!decide (((r4 y.report).getD (Report.mk 0 0 0 0 0 0 0 0))=now)))) (some false)) (some false)) ((fun x5=>some (Sum.inl (x5)))))))
def AIJ:An:=.nd (.nd (.jn [.norm ⟨[(.slot 126,.d .bool)],[]⟩] .x) .x) (.nd .x (.jn [.norm ⟨[(.slot 153,.d .bool)],[]⟩] .x))
def M4(l:List Letter):Option (List Letter×Int):=(I2 ([(49:Nat),(50:Nat)]) l).bind fun (_,m1)=>some (m1,(0:Int))
def AMt:An:=.x
end Go.Proofs.YtgioiejbphljoaaGreatDoor
namespace Go.Rx
open Go Go.Sx Go.RowKit
def AMu:Nat->Code->An->Bool
 |0,.seq _ _,_=>true
 |n+1,.seq _ b,.nd _ r=>AMu n b r
 |_,_,_=>false
section
variable[Trk][Sg][Sf]{P:Program}[Se P][Anch]{w0 w:World}{M:List Nat}{r:Option Nat}{n N:Nat}{ds:List Deferred}
theorem AMv[Sl (P:=P)]{G:Gx}(O:GxOk P G):∀(m:Nat) (c:Code) (an:An) {Y:Type} {KN:AS->Option Y} {KX:Nat->AS->Option Y} {σ:AS} {L:A8} {w:World} {z:Y} {A B:A5} {X:Nat->A5} {Z:List PanicEntry->A5},(∀(L:A8) (w:World) (v:Value) (T t:Nat) (L2:A8) (ds:List Deferred),blt t pnc=true->(∀u,u≠t->Sx.A6 L2 u=Sx.A6 L u)->X (ADS T t) ds ((t,v)::L) w->Z [{ v:=.iface T v,recovered:=false }] ds L2 w)->AMu m c an=true->exec G N (fun _=>(none:Option Unit)) (O7 m c) an KN KX (fun _=>none) σ=some z->Holds (P:=P) w0 [] M σ L w ->
  (∀σ' L' w',KN σ'=some z->EnvS (D7 (O7 m c)++D6 an) L L'->Holds (P:=P) w0 [] M σ' L' w'->CF r n P N (AK2 m c) ds L' w' A B X Z) ->
  (∀i σ' L' w',KX i σ'=some z->EnvS (D7 (O7 m c)++D6 an) L L'->Holds (P:=P) w0 [] M σ' L' w'->X i ds L' w')->CF r n P N c ds L w A B X Z
 |0,.seq a b,an,Y,KN,KX,σ,L,w,z,A,B,X,Z,D,_,h,K,hA,E=>AMS (I0 O a an _ _ _ _ _ _ _ _ _ _ _ _ _ h K (fun σ1 L1 w1 Q _ V C=>hA σ1 L1 w1 Q V C) (fun i σ2 L2 w2 U _ J I=>E i σ2 L2 w2 U J I) (fun r σ2 L2 w2 U S _ I=>by cases U) ⟨fun T t L1 L2 w v W hl hx=>D L1 w v T t L2 ds W hl hx,fun _ _ _ _ h=>h⟩)
 |m+1,.seq a b,.nd l q,Y,KN,KX,σ,L,w,z,A,B,X,Z,D,H,h,K,hA,E=>by
  have H:AMu m b q=true:=H;have h:exec G N (fun _=>(none:Option Unit)) a l (fun σ'=>exec G N (fun _=>(none:Option Unit)) (O7 m b) q KN KX (fun _=>none) σ') KX (fun _=>none) σ=some z:=h;have F:∀t∈D7 a++D6 l,t∈D7 (O7 (m+1) (.seq a b))++D6 (.nd l q):=fun t W=>(mem_append.1 W).elim (fun h=>AbD _ (AbD _ h)) fun h=>AbE _ (AMW (.nd l q) t h);have R:∀t∈D7 (O7 m b)++D6 q,t∈D7 (O7 (m+1) (.seq a b))++D6 (.nd l q):=fun t W=>(mem_append.1 W).elim (fun h=>AbD _ (AbE _ h)) fun h=>AbE _ (AMX (.nd l q) t h);refine AMS (I0 O a l _ _ _ _ _ _ _ _ _ _ _ _ _ h K (fun σ1 L1 w1 Q _ V C=>?_) (fun i σ2 L2 w2 U _ J I=>E i σ2 L2 w2 U (J.mono F) I) (fun r σ2 L2 w2 U S _ I=>by cases U) ⟨fun T t L1 L2 w v W hl hx=>D L1 w v T t L2 ds W hl hx,fun _ _ _ _ h=>h⟩);exact AMv O m b q D H Q C (fun σ2 L2 w2 U J I=>hA σ2 L2 w2 U ((V.mono F).trans (J.mono R)) I) fun i σ2 L2 w2 U J I=>E i σ2 L2 w2 U ((V.mono F).trans (J.mono R)) I
 |m+1,.seq a b,.x,_,_,_,_,_,_,_,_,_,_,_,_,H,_,_,_,_=>by cases H
 |m+1,.seq a b,.jn _ _,_,_,_,_,_,_,_,_,_,_,_,_,H,_,_,_,_=>by cases H
 |m+1,.seq a b,.lp _ _ _,_,_,_,_,_,_,_,_,_,_,_,_,H,_,_,_,_=>by cases H
 |0,.skip,_,_,_,_,_,_,_,_,_,_,_,_,_,H,_,_,_,_|0,.region _ _ _,_,_,_,_,_,_,_,_,_,_,_,_,_,H,_,_,_,_|0,.cond _ _ _,_,_,_,_,_,_,_,_,_,_,_,_,_,H,_,_,_,_|0,.loop _,_,_,_,_,_,_,_,_,_,_,_,_,_,H,_,_,_,_|0,.exit _,_,_,_,_,_,_,_,_,_,_,_,_,_,H,_,_,_,_|0,.ret,_,_,_,_,_,_,_,_,_,_,_,_,_,H,_,_,_,_
 |0,.scope _,_,_,_,_,_,_,_,_,_,_,_,_,_,H,_,_,_,_|0,.label _,_,_,_,_,_,_,_,_,_,_,_,_,_,H,_,_,_,_|0,.goto _,_,_,_,_,_,_,_,_,_,_,_,_,_,H,_,_,_,_|0,.refuse _,_,_,_,_,_,_,_,_,_,_,_,_,_,H,_,_,_,_|0,.block _ _,_,_,_,_,_,_,_,_,_,_,_,_,_,H,_,_,_,_|0,.rangeFunc _ _ _ _,_,_,_,_,_,_,_,_,_,_,_,_,_,H,_,_,_,_
 |_+1,.skip,_,_,_,_,_,_,_,_,_,_,_,_,_,H,_,_,_,_|_+1,.region _ _ _,_,_,_,_,_,_,_,_,_,_,_,_,_,H,_,_,_,_|_+1,.cond _ _ _,_,_,_,_,_,_,_,_,_,_,_,_,_,H,_,_,_,_|_+1,.loop _,_,_,_,_,_,_,_,_,_,_,_,_,_,H,_,_,_,_|_+1,.exit _,_,_,_,_,_,_,_,_,_,_,_,_,_,H,_,_,_,_|_+1,.ret,_,_,_,_,_,_,_,_,_,_,_,_,_,H,_,_,_,_
 |_+1,.scope _,_,_,_,_,_,_,_,_,_,_,_,_,_,H,_,_,_,_|_+1,.label _,_,_,_,_,_,_,_,_,_,_,_,_,_,H,_,_,_,_|_+1,.goto _,_,_,_,_,_,_,_,_,_,_,_,_,_,H,_,_,_,_|_+1,.refuse _,_,_,_,_,_,_,_,_,_,_,_,_,_,H,_,_,_,_|_+1,.block _ _,_,_,_,_,_,_,_,_,_,_,_,_,_,H,_,_,_,_|_+1,.rangeFunc _ _ _ _,_,_,_,_,_,_,_,_,_,_,_,_,_,H,_,_,_,_=>by cases H
end
end Go.Rx
namespace Go.Sx
open Go Go.RowKit
variable[Trk]{P:Program}{N:Nat}{ds:List Deferred}{L:A8}{w:World}{A:A5}{B:A5}{X:Nat->A5}{Z:List PanicEntry->A5}{g:Operand}{p:Nat}{p2:Nat}{assign:Code}{body:Code}{gf:Nat}{lb:Array Value}{α:Type}{xs:List α}
theorem APU(m:Nat){val val2:α->Value}{K:World->World->Prop}(z:ev L g=some (.func (.func gf) #[] lb))(eg:∀args w,(callFunc gf args).run P w=.ok (.enter gf args) w)(y:blt p N=true)(S:blt p2 N=true)(E:SeqStopsK Fence.wide (m+1) P gf lb (fun x:α=>#[val x,val2 x]) K (fun ys=>ys=xs) (fun pre=>pre <+: xs) xs.length w)(M:∀{A B C:World},K A B->K B C->K A C)(b:∀(W:World) (l:Nat) (o o':Obj),w.heap.size<=l->W.heap[l]?=some o->o.isCells=false->o.isWalk=false->K W (W.putObj l o'))(I Ix:List α->World->Prop)(hI:OwnFrom w.heap.size I)(d:OwnFrom w.heap.size Ix)(h0:I [] w)(AL:α->A8->World->Prop)(f:∀x L',OwnFrom w.heap.size fun (_:Unit) W=>AL x L' W)(hassign:∀(l:Nat) (pre:List α) (x:α) (W:World),I pre W->CI l m P N assign [] ((p2,val2 x)::(p,val x)::L) W (fun ds' L' W'=>ds'=[]/\KeepsFrom w.heap.size W W'/\K W W'/\I pre W'/\AL x L' W') (fun _ _ _=>False) NoX (fun _ _ _ _=>False))(hbody:∀(l:Nat) (pre:List α) (x:α) (L':A8) (W:World),w.heap.size<=l->(∃r,W.heap[l]?=some (.loop r))->I pre W->AL x L' W->pre.length<xs.length ->
   CI l m P N body [] L' W (fun _ _ W'=>KeepsFrom w.heap.size W W'/\K W W'/\I (pre++[x]) W') (fun _ _ W'=>KeepsFrom w.heap.size W W'/\Ix (pre++[x]) W') NoX (fun _ _ _ _=>False))(hdone:∀(D:Nat) (W:World),w.heap.size<=D->I xs W->W.heap[D]?=some (.deferred (some []))->A ({ target:=.collected D,args:=#[] }::ds) L W)(hstop:∀(D:Nat) (pre:List α) (W:World),w.heap.size<=D->pre <+: xs->Ix pre W->W.heap[D]?=some (.deferred (some []))->B ({ target:=.collected D,args:=#[] }::ds) L W):
  CW P N (.rangeFunc g #[p,p2] assign body) ds L w A B X Z:=by
 intro a J
 refine(wpIn_wide (n:=m+2)).1 ?_
 refine wpIn_rangeFunc_ownH (F:=Fence.wide) (n:=m+2) rfl (by omega) (J.eval z) trivial eg E (fun h k=>M h k) b (Below.refl _ _) (fun x=>rfl) I (fun c pre W=>c=.ret/\Ix pre W) hI
  (fun c s W W' row T V R=>⟨T.1,d s W W' row T.2 V R⟩) h0 (fun x a' W=>∃L',Knows N [] L' a'/\AL x L' W) (fun x a' s W W' row T V R=>?_) ?_ ?_ ?_ ?_
 . obtain⟨L',U,q⟩:=T
   exact⟨L',U,f x L' () W W' row q V R⟩
 . intro l pre x W K' hi hK
   have hk:Knows N [] ((p2,val2 x)::(p,val x)::L) { tmps:=(a.tmps.setIfInBounds p (val x)).setIfInBounds p2 (val2 x),defers:=[] }:=by
    have U:=(show Knows N [] L { a with defers:=[] } from⟨J.size,rfl,J.val⟩).put y (val x);exact U.put S (val2 x)
   have u:(Array.foldl (fun (t:Array Value) (x:Tmp×Value)=>match x with|(p,v)=>t.setIfInBounds p v) a.tmps (#[p,p2].zip #[val x,val2 x]))=(a.tmps.setIfInBounds p (val x)).setIfInBounds p2 (val2 x):=by simp
   rw[u]
   refine wpIn_mono (hassign l pre x W hi _ hk) fun e a' W' H=>?_
   cases e with
   |normal=>obtain⟨ds',L',U,rfl,Q,j,h5,h6⟩:=H;exact hK a' W' Q j h5 ⟨L',U,h6⟩
   |ret=>obtain⟨_,_,_,h⟩:=H;exact h.elim
   |exit i=>obtain⟨_,_,_,h⟩:=H;exact h.elim
   |panic c=>obtain⟨_,_,_,h⟩:=H;exact h.elim
   |goto l=>exact H.elim
   |outgrown=>exact H.elim
 . intro l pre x a' W Y O hi hA hl
   obtain⟨L',U,q⟩:=hA
   refine wpIn_mono (hbody l pre x L' W Y O hi q hl a' U) fun e a' W' H=>?_
   cases e with
   |normal=>obtain⟨ds',L',U,Q⟩:=H;exact Q
   |ret=>obtain⟨ds',L',U,Q,j⟩:=H;exact⟨Q,rfl,j⟩
   |exit i=>obtain⟨_,_,_,h⟩:=H;exact h.elim
   |panic c=>obtain⟨_,_,_,h⟩:=H;exact h.elim
   |goto l=>exact H.elim
   |outgrown=>exact H.elim
 . intro D ys W hD hy hi G
   subst hy
   exact⟨_,L,⟨J.size,by rw[J.defers],J.val⟩,hdone D W hD hi G⟩
 . intro D c pre W hD hy hi G
   obtain⟨rfl,hi⟩:=hi
   exact wpIn_ret ⟨_,L,⟨J.size,by rw[J.defers],J.val⟩,hstop D pre W hD hy hi G⟩
theorem APV(m:Nat){l0:Nat}{val val2:α->Value}{K:World->World->Prop}(hrec0:∃r,w.heap[l0]?=some (.loop r))(z:ev L g=some (.func (.func gf) #[] lb))(eg:∀args w,(callFunc gf args).run P w=.ok (.enter gf args) w)(y:blt p N=true)(R:blt p2 N=true)(V:SeqStopsK Fence.wide (m+1) P gf lb (fun x:α=>#[val x,val2 x]) K (fun ys=>ys=xs) (fun pre=>pre <+: xs) xs.length w)(M:∀{A B C:World},K A B->K B C->K A C)(b:∀(W:World) (l:Nat) (o o':Obj),w.heap.size<=l->W.heap[l]?=some o->o.isCells=false->o.isWalk=false->K W (W.putObj l o'))(I Ix:List α->World->Prop)(hI:OwnFrom w.heap.size I)(d:OwnFrom w.heap.size Ix)(h0:I [] w)(AL:α->A8->World->Prop)(f:∀x L',OwnFrom w.heap.size fun (_:Unit) W=>AL x L' W)(hassign:∀(l:Nat) (pre:List α) (x:α) (W:World),I pre W->CI l m P N assign [] ((p2,val2 x)::(p,val x)::L) W (fun ds' L' W'=>ds'=[]/\KeepsFrom w.heap.size W W'/\K W W'/\I pre W'/\AL x L' W') (fun _ _ _=>False) NoX (fun _ _ _ _=>False))(hbody:∀(l:Nat) (pre:List α) (x:α) (L':A8) (W:World),w.heap.size<=l->(∃r,W.heap[l]?=some (.loop r))->I pre W->AL x L' W->pre.length<xs.length ->
   CI l m P N body [] L' W (fun _ _ W'=>KeepsFrom w.heap.size W W'/\K W W'/\I (pre++[x]) W') (fun _ _ W'=>KeepsFrom w.heap.size W W'/\Ix (pre++[x]) W') NoX (fun _ _ _ _=>False))(hdone:∀(W:World),I xs W->A ds L W)(S:∀pre W,¬Ix pre W):
  CI l0 (m+2) P N (.rangeFunc g #[p,p2] assign body) ds L w A B X Z:=by
 intro a Q
 obtain⟨r0,Y⟩:=hrec0
 refine wpIn_rangeFunc_ownN (F:=FW l0) (n:=m+2) (l₀:=l0) rfl Y (by omega) (Q.eval z) trivial eg V (fun h k=>M h k) b (Below.refl _ _) (fun x=>rfl) I (fun c pre W=>c=.ret/\Ix pre W) hI
  (fun c s W W' row O U G=>⟨O.1,d s W W' row O.2 U G⟩) h0 (fun x a' W=>∃L',Knows N [] L' a'/\AL x L' W) (fun x a' s W W' row O U G=>?_) ?_ ?_ ?_ ?_
 . obtain⟨L',J,q⟩:=O
   exact⟨L',J,f x L' () W W' row q U G⟩
 . intro l pre x W K' hi hK
   have hk:Knows N [] ((p2,val2 x)::(p,val x)::L) { tmps:=(a.tmps.setIfInBounds p (val x)).setIfInBounds p2 (val2 x),defers:=[] }:=by
    have J:=(show Knows N [] L { a with defers:=[] } from⟨Q.size,rfl,Q.val⟩).put y (val x);exact J.put R (val2 x)
   have u:(Array.foldl (fun (t:Array Value) (x:Tmp×Value)=>match x with|(p,v)=>t.setIfInBounds p v) a.tmps (#[p,p2].zip #[val x,val2 x]))=(a.tmps.setIfInBounds p (val x)).setIfInBounds p2 (val2 x):=by simp
   rw[u]
   refine wpIn_mono (hassign l pre x W hi _ hk) fun e a' W' H=>?_
   cases e with
   |normal=>obtain⟨ds',L',J,rfl,E,j,h5,h6⟩:=H;exact hK a' W' E j h5 ⟨L',J,h6⟩
   |ret=>obtain⟨_,_,_,h⟩:=H;exact h.elim
   |exit i=>obtain⟨_,_,_,h⟩:=H;exact h.elim
   |panic c=>obtain⟨_,_,_,h⟩:=H;exact h.elim
   |goto l=>exact H.elim
   |outgrown=>exact H.elim
 . intro l pre x a' W T D hi hA hl
   obtain⟨L',J,q⟩:=hA
   refine wpIn_mono (hbody l pre x L' W T D hi q hl a' J) fun e a' W' H=>?_
   cases e with
   |normal=>obtain⟨ds',L',J,E⟩:=H;exact E
   |ret=>obtain⟨ds',L',J,E,j⟩:=H;exact⟨E,rfl,j⟩
   |exit i=>obtain⟨_,_,_,h⟩:=H;exact h.elim
   |panic c=>obtain⟨_,_,_,h⟩:=H;exact h.elim
   |goto l=>exact H.elim
   |outgrown=>exact H.elim
 . intro ys W hy hi
   subst hy
   exact⟨_,L,Q,hdone W hi⟩
 . intro c pre W hy hi
   exact absurd hi.2 (S _ _)
end Go.Sx
namespace Go.Proofs.YtgioiejbphljoaaGreatDoor
open Go Go.Sx Go.Rx Go.RowKit
theorem ASK:prog.cellsOf 116=2:=by kernel_rfl
theorem AWW:prog.keyType 116=true:=by kernel_rfl
theorem AQw:prog.cellsOf 3=1:=by kernel_rfl
def K116:Ky prog 116 (Int×Int):=APs (show laidOutB prog=true by kernel_rfl) (m:=2) (by omega) (AbH (by kernel_rfl)) (by kernel_rfl) (by rw[underlying116]) (fun x=>.agg (toArray [.int .i64 x.1,.int .i64 x.2])) (fun x=>InK .i64 x.1/\InK .i64 x.2)
 (fun {x} h=>by
  exact AXX underlying116 underlying3 ASK AQw AWW (AbH (by kernel_rfl)) h.1 h.2)
 (fun {a b} _ _ h=>by
  cases a;cases b;simp at h;simp[h])
abbrev MP(bd:Nat)(f:A4 (Int×Int) Int):List Res:=[mapO K116 (A9 .i64) false bd f]
theorem Y2{M':List Nat}{W W':World}{B:Nat}(h:Adv M' M' W W')(U:∀b∈M',b<B)(V:B<=W.heap.size):KeepsFrom B W W'/\KI M' B W W':=
 ⟨⟨h.kp.size,fun k o hk I _=>(h.kp.block k (G6 I) fun hm=>by have:=U k hm;omega).trans I⟩,h.kp.os,h.kp.tape,h.kp.output,h.kp.size,fun b H J=>h.kp.block b (AbS H V) J⟩
theorem AIK{M:List Nat}{W W':World}{b o:Nat}{cs:List Value}{row:Option Nat}(h:RdC M W b o cs)(J:W.grownBy W' row)(I:∀r,row=some r->∃o:Obj,W.heap[r]?=some o/\o.isCells=false):RdC M W' b o cs:=by
 obtain⟨H,_⟩:=AEO (B:=0) J fun r e=>⟨Abe _,I r e⟩;exact⟨h.out,AbS h.lt H.1,H.cells h.cells⟩
structure D16(M':List Nat)(W:World)(x:Desk_99)(al:List Asked)(l:List Report)(p8 p4 p13:Value)(b14 bd:Nat):Prop where
 g:GlOk (P:=prog) M' W
 h8:Ok (P:=prog) (fun _=>undef) (fun _=>none) M' W (.rp (.str 10 x) 0) p8
 h4:Ok (P:=prog) (fun _=>undef) (fun _=>none) M' W (.rp (.dat (.sl (.st 5)) al) 0) p4
 h13:Ok (P:=prog) (fun _=>undef) (fun _=>none) M' W (.rp (.dat (.sl (.st 1)) l) 0) p13
 h14:RdC M' W b14 0 [.map (some bd)]
theorem D16.adv{M':List Nat}{W W':World}{x:Desk_99}{al:List Asked}{l:List Report}{p8 p4 p13:Value}{b14 bd:Nat}(h:D16 M' W x al l p8 p4 p13 b14 bd)(H:Adv M' M' W W'):D16 M' W' x al l p8 p4 p13 b14 bd:=
 ⟨h.g.adv H,Ok.adv H _ h.h8,Ok.adv H _ h.h4,Ok.adv H _ h.h13,h.h14.adv H⟩
def inB(x:Desk_99)(l:List Report)(y:Dispute)(v:Verdict)(now:Report)(is_:Bool)(f:A4 (Int×Int) Int)(a:Int×Asked):Option (A4 (Int×Int) Int):=(AAv x l y v now is_ a.2).bind fun b=>some (match b with
 |.inl true=>B4 f (y.id,a.2.who) a.2.id
 |_=>f)
def AJI(a:Asked):List Value:=[.int .i64 a.id,.int .i64 a.who,.int .i64 a.account,.int .i64 a.day]
noncomputable def AWX:Code:=match f16.body with
 |some (.seq _ (.seq _ (.seq _ (.seq _ (.seq _ (.seq _ (.seq _ (.seq _ (.seq _ (.seq (.seq _ (.block _ (.rangeFunc _ _ _ (.block _ c)))) _))))))))))=>c
 |_=>.skip
noncomputable def AWY:Code:=match AWX with
 |.seq _ (.seq _ (.block _ c))=>c
 |_=>.skip
noncomputable def APW:Code:=match AWY with
 |.rangeFunc _ _ _ (.block _ c)=>c
 |_=>.skip
def ASL(σ:AS):Option (Bool⊕Unit):=match A1 σ.env 153 with
 |some (.bool b)=>some (.inl b)
 |_=>none
def APX(x:Desk_99)(l:List Report)(y:Dispute)(v:Verdict)(now:Report)(is_:Bool)(a:Asked):List (Nat×SV):=[(8,.rp (.str 10 x) 0),(13,.rp (.dat (.sl (.st 1)) l) 0),(15,.rp (.str 2 y) 0),(16,.rp (.str 12 v) 0),(17,.rp (.str 1 now) 0),(18,.rp (.bool is_) 0),(20,.rp (.str 5 a) 0)]
def ASM:Gx:={ gxb with fs:=[(46,ctr46)] }
theorem AN3:GxOk prog ASM:=B1 ⟨⟨ok46,call46⟩,trivial⟩
theorem AWZ(x:Desk_99)(l:List Report)(y:Dispute)(v:Verdict)(now:Report)(is_:Bool)(a:Asked):exec ASM 181 (fun _=>(none:Option Unit)) (O7 2 APW) AIJ ASL (fun i _=>bif beq i 5 then some (.inr ()) else none) (fun _=>none) ⟨APX x l y v now is_ a,[],[],[]⟩=AAv x l y v now is_ a:=by kernel_rfl
def AaU(M':List Nat)(Lb:Sx.A8)(a:Int×Asked)(L:Sx.A8)(W:World):Prop:=∃b20,L=(20,.pointer (some ⟨b20,0,none⟩))::(98,M9 (.st 5) a.2)::(97,M9 (.int .i64) a.1)::Lb/\RdC M' W b20 0 (AJI a.2)
theorem AUZ{l0:Nat}{w wi:World}{M:List Nat}{bd b14:Nat}{x:Desk_99}{al:List Asked}{l:List Report}{y:Dispute}{v:Verdict}{now:Report}{is_:Bool}{p8 p4 p13 p15 p16 p17 p18 pb:Value}{f f':A4 (Int×Int) Int}{Li:Sx.A8}{ds:List Deferred}{A B:A5}{X:Nat->A5}{Z:List PanicEntry->A5}(hbd:bd<wi.heap.size)(hI:Hp w [] M (MP bd f) wi)(N:∃r,wi.heap[l0]?=some (.loop r))(hD:D16 (bd::M) wi x al l p8 p4 p13 b14 bd)(q:Ok (P:=prog) (fun _=>undef) (fun _=>none) (bd::M) wi (.rp (.str 2 y) 0) p15)(h16:Ok (P:=prog) (fun _=>undef) (fun _=>none) (bd::M) wi (.rp (.str 12 v) 0) p16)(h17:Ok (P:=prog) (fun _=>undef) (fun _=>none) (bd::M) wi (.rp (.str 1 now) 0) p17)(h18:Ok (P:=prog) (fun _=>undef) (fun _=>none) (bd::M) wi (.rp (.bool is_) 0) p18)(hpb:Ok (P:=prog) (fun _=>undef) (fun _=>none) (bd::M) wi (.rp (.dat (.sl (.st 5)) al) 0) pb)(hky:InK .i64 y.id)(l8:Sx.A6 Li 8=some p8)(l13:Sx.A6 Li 13=some p13)(l14:Sx.A6 Li 14=some (.pointer (some ⟨b14,0,none⟩)))(l15:Sx.A6 Li 15=some p15)(l16:Sx.A6 Li 16=some p16)(l17:Sx.A6 Li 17=some p17)(l18:Sx.A6 Li 18=some p18)(l96:Sx.A6 Li 96=some (.func (.func 85) #[] #[pb]))(hbs:∀a∈bwN al al.length,AEN [.int .i64,.st 5] a)(G:ACC (inB x l y v now is_) f (bwN al al.length)=some f')(hA:∀W,Hp w [] M (MP bd f') W->Adv (bd::M) (bd::M) wi W->A ds Li W):CI l0 3 prog 181 AWY ds Li wi A B X Z:=by
 obtain⟨ho1,ho2⟩:=AGA G;have V:MLt (bd::M) wi:=hI.mlt;have hwi:w.heap.size<=wi.heap.size:=hI.kp.size;let I:List {x // x∈bwN al al.length}->World->Prop:=fun pre W=>∃g,List.foldlM (inB x l y v now is_) f (pre.map Subtype.val)=some g/\Hp w [] M (MP bd g) W/\Adv (bd::M) (bd::M) wi W;refine APV 1 (val:=fun a:{x // x∈bwN al al.length}=>M9 (.int .i64) a.1.1) (val2:=fun a=>M9 (.st 5) a.1.2) (K:=KI (bd::M) wi.heap.size) (xs:=(bwN al al.length).attach) N l96 call85 rfl rfl (AJx 2 V hD.g hpb Subtype.val _ (Abp _)) (fun h k=>h.trans k) (fun W k o o' hk _ _ _=>KI.putObj hk) I (fun _ _=>False) ?_ (fun _ _ _ _ h _ _=>h.elim) ⟨f,rfl,hI,Adv.refl _ _⟩ (fun a L' W=>AaU (bd::M) Li a.1 L' W) ?_ ?_ ?_ ?_ (fun _ _ h=>h)
 . rintro pre W W' row ⟨g,e1,e2,e3⟩ D G;exact⟨g,e1,Hp.turn (fun h=>h) e3.kp.size hwi (ASp hbd tn0) e2 D G,Adv.turn (fun h=>h) e3 D G⟩
 . rintro a L' _ W W' row ⟨b20,e1,e2⟩ D G;exact⟨b20,e1,AIK e2 D fun r e=>(G r e).2⟩
 . rintro k pre a W ⟨g,e1,e2,e3⟩;refine AAC rfl ?_;refine Q0 e2 zeroValue47 rfl rfl ?_;intro b20 w5 hI5 x5;refine N3 0 (vs:=AJI a.1.2) hI5 rfl rfl rfl rfl sizeOf47 rfl rfl (one1 rfl (one1 rfl (one1 rfl (one1 rfl one0)))) ?_;intro w6 F x6;have F:Hp w [] M (rowR 47 b20 (AJI a.1.2)::MP bd g) w6:=F;have hA:Adv (bd::M) (bd::M) W w6:=x5.trans (x6.trans (E8 (σ:=rowR 47 b20 (AJI a.1.2)::MP bd g) 0));obtain⟨k1,k2⟩:=Y2 hA V e3.kp.size;exact Reg.nil ⟨rfl,k1,k2,⟨g,e1,F.erase 0,e3.trans hA⟩,b20,rfl,F.freezeRow 0 rfl⟩
 . rintro k pre a L' W hwl hrk ⟨g,e1,e2,e3⟩ ⟨b20,rfl,e5⟩ hlt;obtain⟨g',U,hfold⟩:=ho2 (pre.map Subtype.val) a.1 g (by simpa using hlt) (fun y hy=>by obtain⟨z,_,rfl⟩:=mem_map.1 hy;exact z.2) a.2 e1;unfold inB at U;obtain⟨z,hz,U⟩:=C7 U;have U:=AbA U;have Q:=hD.adv e3;have hMW:MLt (bd::M) W:=e2.mlt;have S:okI (.st 5) a.1.2:=(hbs a.1 a.2).2;have hst:Holds (P:=prog) W [] (bd::M) ⟨APX x l y v now is_ a.1.2,[],[],[]⟩ ((20,.pointer (some ⟨b20,0,none⟩))::(98,M9 (.st 5) a.1.2)::(97,M9 (.int .i64) a.1.1)::Li) W:=by
    refine Holds.start hMW (fun t s H=>?_) ⟨trivial,Q.g⟩;unfold APX at H;rw[fnd_cons]at H;split at H
    . rename_i e;subst e;cases H;exact⟨_,l8,Q.h8⟩
    rw[fnd_cons]at H;split at H
    . rename_i e;subst e;cases H;exact⟨_,l13,Q.h13⟩
    rw[fnd_cons]at H;split at H
    . rename_i e;subst e;cases H;exact⟨_,l15,Ok.adv e3 _ q⟩
    rw[fnd_cons]at H;split at H
    . rename_i e;subst e;cases H;exact⟨_,l16,Ok.adv e3 _ h16⟩
    rw[fnd_cons]at H;split at H
    . rename_i e;subst e;cases H;exact⟨_,l17,Ok.adv e3 _ h17⟩
    rw[fnd_cons]at H;split at H
    . rename_i e;subst e;cases H;exact⟨_,l18,Ok.adv e3 _ h18⟩
    rw[fnd_cons]at H;split at H
    . rename_i e;subst e;cases H;exact⟨_,rfl,b20,0,_,AJI a.1.2,rfl,e5,AEw (.st 5) S,rfl⟩
    cases H
   refine ADM ?_;refine AIB (l:=k) ?_;refine AMv AN3 2 APW AIJ (KN:=ASL) (KX:=fun i _=>bif beq i 5 then some (.inr ()) else none) ?_ rfl ((AWZ x l y v now is_ a.1.2).trans hz) hst (fun σ' L2 W2 hK m O=>?_) (fun i σ' L2 W2 hK m O=>?_)
   . exact fun L w v T t L2 ds H hl hx=>((PZ.no (Z:=fun _ _ _ _=>False) (ds:=ds)).block (i:=5) rfl).z T t L L2 w v H hl hx
   . have C:Ext W W2:=O.ends;have j:Hp w [] M (MP bd g) W2:=e2.ext C;have J:Adv (bd::M) (bd::M) W W2:=Adv.of_ext C;have lk:∀t,t∈[14,15,20]->Sx.A6 L2 t=Sx.A6 ((20,.pointer (some ⟨b20,0,none⟩))::(98,M9 (.st 5) a.1.2)::(97,M9 (.int .i64) a.1.1)::Li) t:=fun t H=>m t fun hm=>(by decide:∀t∈[14,15,20],t∉D7 (O7 2 APW)++D6 AIJ) t H hm;obtain⟨b,hb,u⟩:∃b,A1 σ'.env 153=some (.bool b)/\z=.inl b:=by
      unfold ASL at hK;split at hK
      . rename_i b hb;exact⟨b,hb,(AbA hK).symm⟩
      . cases hK
     subst u;have l153:=O.slotB hb;show CI k 1 prog 181 (AK2 2 APW) [] L2 W2 _ _ _ _;refine AJW l153 (fun hbt=>?_) (fun hbf=>?_)
     . subst hbt;subst U;have n:=Q.adv J;obtain⟨b15,o15,u15,vs15,rfl,c15,R,c⟩:=Ok.adv (e3.trans J) _ q;obtain⟨cs15,d,hcs15⟩:=R;obtain rfl:vs15=[.int .i64 y.id,.int .i64 y.report,.int .i64 y.day]:=by
        obtain⟨rfl,_⟩:=(DisputeE_R (x:=y)).1 d;rcases hcs15 with⟨_,rfl⟩|⟨h,_⟩
        . simpa[Value.cells] using c.symm
        . cases h
       refine AAC rfl ?_;refine K4 ((lk 14 (by decide)).trans l14) ((n.h14).cells.at 0 rfl) isAgg106 rfl ?_;refine M7 ((lk 15 (by decide)).trans l15) underlying53 rfl sizeOf3 rfl ?_;refine K4 rfl (c15.cells.at 0 rfl) isAgg3 rfl ?_;refine M7 (lk 20 (by decide)) underlying47 rfl sizeOf3 rfl ?_;refine K4 rfl ((e5.adv J).cells.at 1 rfl) isAgg3 rfl ?_;refine AU6 zeroValue116 rfl underlying116 sizeOf3 rfl rfl rfl rfl rfl ?_;refine M7 (lk 20 (by decide)) underlying47 rfl sizeOf3 rfl ?_;refine K4 rfl ((e5.adv J).cells.at 0 rfl) isAgg3 rfl ?_;obtain⟨ka,kb,_,_⟩:InK .i64 a.1.2.id/\InK .i64 a.1.2.who/\InK .i64 a.1.2.account/\InK .i64 a.1.2.day:=S;refine AKp (K:=K116) (E:=A9 .i64) (ag:=false) 0 j rfl rfl (a:=(y.id,a.1.2.who)) rfl ⟨hky,kb⟩ rfl (z:=a.1.2.id) ⟨[_],⟨rfl,ka⟩,.inr ⟨rfl,rfl⟩⟩ underlying106 ?_;intro w9 Y x9;have Y:Hp w [] M (MP bd (B4 g (y.id,a.1.2.who) a.1.2.id)) w9:=Y;have p:Adv (bd::M) (bd::M) W w9:=J.trans x9;obtain⟨k1,k2⟩:=Y2 p V e3.kp.size;exact Reg.nil ⟨k1,k2,_,by rw[AbT];exact hfold,Y,e3.trans p⟩
     . subst hbf;subst U;obtain⟨k1,k2⟩:=Y2 J V e3.kp.size;exact AJV ⟨k1,k2,g,by rw[AbT];exact hfold,j,e3.trans J⟩
   . have C:Ext W W2:=O.ends;have J:Adv (bd::M) (bd::M) W W2:=Adv.of_ext C;cases hi:beq i 5 with
     |false=>
      have hK:(bif beq i 5 then some (Sum.inr ()) else none)=some z:=hK
      rw[hi]at hK;cases hK
     |true=>
      have hK:(bif beq i 5 then some (Sum.inr ()) else none)=some z:=hK
      rw[hi]at hK
      have hK:Sum.inr ()=z:=AbA hK
      subst hK
      subst U
      obtain rfl:=AbG hi
      obtain⟨k1,k2⟩:=Y2 J V e3.kp.size
      exact K2 ⟨k1,k2,g,by rw[AbT];exact hfold,e2.ext C,e3.trans J⟩
 . rintro W ⟨g,e1,e2,e3⟩;rw[Abp,ho1]at e1;cases e1
   exact hA W e2 e3
def AIL(x:Desk_99)(al:List Asked)(l:List Report)(f:A4 (Int×Int) Int)(y:Dispute×Verdict):Option (A4 (Int×Int) Int):=(ABL l y.1 y.2).bind fun n=>(X4 al).bind fun bs=>ACC (inB x l y.1 y.2 n.1 n.2) f bs
noncomputable def ASN:Code:=match AWX with
 |.seq c _=>c
 |_=>.skip
noncomputable def AaV:Code:=match f16.body with
 |some (.seq _ (.seq _ (.seq _ (.seq _ (.seq _ (.seq _ (.seq _ (.seq _ (.seq _ (.seq (.seq _ (.block _ c)) _))))))))))=>c
 |_=>.skip
def AWa(σ:AS):Option (Report×Bool):=match A1 σ.env 17,A1 σ.env 18,A1 σ.res 17,A1 σ.res 18 with
 |some (.ptr 17 0),some (.ptr 18 0),some (.row 45 c),some (.row 4 [.bool b])=>match B3 (.agg c) with
  |[]=>match C5 (A1 σ.res) (.st 1) (.agg c) with
   |some r=>some (r,b)
   |none=>none
  |_=>none
 |_,_,_,_=>none
def APY(l:List Report)(y:Dispute)(v:Verdict):List (Nat×SV):=[(13,.rp (.dat (.sl (.st 1)) l) 0),(15,.rp (.str 2 y) 0),(16,.rp (.str 12 v) 0)]
theorem AYr(l:List Report)(y:Dispute)(v:Verdict):exec ASM 181 (fun _=>(none:Option Unit)) ASN AJ0 AWa (fun _ _=>none) (fun _=>none) ⟨APY l y v,[],[],[]⟩=ABL l y v:=by kernel_rfl
def ALo(M':List Nat)(Lb:Sx.A8)(y:Dispute×Verdict)(L:Sx.A8)(W:World):Prop:=∃b15 b16,L=(16,.pointer (some ⟨b16,0,none⟩))::(15,.pointer (some ⟨b15,0,none⟩))::(84,M9 (.st 12) y.2)::(83,M9 (.st 2) y.1)::Lb/\RdC M' W b15 0 (AB8 y.1)/\RdC M' W b16 0 (AEU y.2)
theorem AUa{w wl:World}{M:List Nat}{bd b14:Nat}{x:Desk_99}{day:Int}{al:List Asked}{l:List Report}{p8 p4 p13 p1 p2:Value}{f f':A4 (Int×Int) Int}{ys:List (Dispute×Verdict)}{Lb:Sx.A8}{ds:List Deferred}{A B:A5}{X:Nat->A5}{Z:List PanicEntry->A5}(hbd:bd<wl.heap.size)(hI:Hp w [] M (MP bd f) wl)(hD:D16 (bd::M) wl x al l p8 p4 p13 b14 bd)(h1:Ok (P:=prog) (fun _=>undef) (fun _=>none) (bd::M) wl (.rp (.str 10 x) 0) p1)(h2:Ok (P:=prog) (fun _=>undef) (fun _=>none) (bd::M) wl (.rp (.int .i64 day) 0) p2)(l4:Sx.A6 Lb 4=some p4)(l8:Sx.A6 Lb 8=some p8)(l13:Sx.A6 Lb 13=some p13)(l14:Sx.A6 Lb 14=some (.pointer (some ⟨b14,0,none⟩)))(l82:Sx.A6 Lb 82=some (.func (.func 84) #[] #[p1,p2]))(hys:AGW x day x.desk.disputes=some ys)(hok:∀y∈ys,AEN [.st 2,.st 12] y)(p:ACC (AIL x al l) f ys=some f')(hA:∀D W,wl.heap.size<=D->Hp w [] M (MP bd f') W->Adv (bd::M) (bd::M) wl W->W.heap[D]?=some (.deferred (some []))->A ({ target:=.collected D,args:=#[] }::ds) Lb W):CW prog 181 AaV ds Lb wl A B X Z:=by
 obtain⟨ho1,ho2⟩:=AGA p;have E:MLt (bd::M) wl:=hI.mlt;have hwl:w.heap.size<=wl.heap.size:=hI.kp.size;let I:List {x // x∈ys}->World->Prop:=fun pre W=>∃g,List.foldlM (AIL x al l) f (pre.map Subtype.val)=some g/\Hp w [] M (MP bd g) W/\Adv (bd::M) (bd::M) wl W;refine APU 3 (val:=fun a:{x // x∈ys}=>M9 (.st 2) a.1.1) (val2:=fun a=>M9 (.st 12) a.1.2) (K:=KI (bd::M) wl.heap.size) (xs:=ys.attach) l82 call84 rfl rfl (AFp 4 E hD.g h1 h2 hys Subtype.val _ (Abp _)) (fun h k=>h.trans k) (fun W k o o' hk _ _ _=>KI.putObj hk) I (fun _ _=>False) ?_ (fun _ _ _ _ h _ _=>h.elim) ⟨f,rfl,hI,Adv.refl _ _⟩ (fun a L' W=>ALo (bd::M) Lb a.1 L' W) ?_ ?_ ?_ ?_ (fun _ _ _ _ _ h _=>h.elim)
 . rintro pre W W' row ⟨g,e1,e2,e3⟩ C p;exact⟨g,e1,Hp.turn (fun h=>h) e3.kp.size hwl (ASp hbd tn0) e2 C p,Adv.turn (fun h=>h) e3 C p⟩
 . rintro a L' _ W W' row ⟨b15,b16,e1,e2,e3⟩ C p;exact⟨b15,b16,e1,AIK e2 C fun r e=>(p r e).2,AIK e3 C fun r e=>(p r e).2⟩
 . rintro k pre a W ⟨g,e1,e2,e3⟩;refine AF8 ?_;refine AAC rfl ?_;refine Q0 e2 zeroValue53 rfl rfl ?_;intro b15 w5 hI5 x5;refine N3 0 (vs:=AB8 a.1.1) hI5 rfl rfl rfl rfl sizeOf53 rfl rfl (one1 rfl (one1 rfl (one1 rfl one0))) ?_;intro w6 Y x6;have Y:Hp w [] M (rowR 53 b15 (AB8 a.1.1)::MP bd g) w6:=Y;have hA6:Adv (bd::M) (bd::M) W w6:=x5.trans (x6.trans (E8 (σ:=rowR 53 b15 (AB8 a.1.1)::MP bd g) 0));have hC6:RdC (bd::M) w6 b15 0 (AB8 a.1.1):=Y.freezeRow 0 rfl;have hI6':Hp w [] M (MP bd g) w6:=Y.erase 0;refine Reg.nil ?_;refine AAC rfl ?_;refine Q0 hI6' zeroValue111 rfl rfl ?_;intro b16 w7 hI7 x7;refine N3 0 (vs:=AEU a.1.2) hI7 rfl rfl rfl rfl sizeOf111 rfl rfl (one1 rfl (one1 rfl (one1 rfl (one1 rfl (one1 rfl (one1 rfl (one1 rfl (one1 rfl one0)))))))) ?_;intro w8 T x8;have T:Hp w [] M (rowR 111 b16 (AEU a.1.2)::MP bd g) w8:=T;have hA8:Adv (bd::M) (bd::M) w6 w8:=x7.trans (x8.trans (E8 (σ:=rowR 111 b16 (AEU a.1.2)::MP bd g) 0));have hA:=hA6.trans hA8;obtain⟨k1,k2⟩:=Y2 hA E e3.kp.size;exact Reg.nil ⟨rfl,k1,k2,⟨g,e1,T.erase 0,e3.trans hA⟩,b15,b16,rfl,hC6.adv hA8,T.freezeRow 0 rfl⟩
 . rintro k pre a L' W hwlk O ⟨g,e1,e2,e3⟩ ⟨b15,b16,rfl,e5,e6⟩ hlt;obtain⟨g',U,hfold⟩:=ho2 (pre.map Subtype.val) a.1 g (by simpa using hlt) (fun y hy=>by obtain⟨z,_,rfl⟩:=mem_map.1 hy;exact z.2) a.2 e1;unfold AIL at U;obtain⟨n,hn,U⟩:=C7 U;obtain⟨bs,Q,U⟩:=C7 U;obtain⟨hbok,rfl⟩:(∀y∈bwN al al.length,AEN [.int .i64,.st 5] y)/\bwN al al.length=bs:=by
    unfold X4 at Q;split at Q
    . rename_i h;exact⟨h,AbA Q⟩
    . cases Q
   have hDW:=hD.adv e3;have hMW:MLt (bd::M) W:=e2.mlt;have V:=hok a.1 a.2;have o15:Ok (P:=prog) (fun _=>undef) (fun _=>none) (bd::M) W (.rp (.str 2 a.1.1) 0) (.pointer (some ⟨b15,0,none⟩)):=⟨b15,0,_,AB8 a.1.1,rfl,e5,AEw (.st 2) V.1,rfl⟩;have o16:Ok (P:=prog) (fun _=>undef) (fun _=>none) (bd::M) W (.rp (.str 12 a.1.2) 0) (.pointer (some ⟨b16,0,none⟩)):=⟨b16,0,_,AEU a.1.2,rfl,e6,AEw (.st 12) V.2,rfl⟩;have hst:Holds (P:=prog) W [] (bd::M) ⟨APY l a.1.1 a.1.2,[],[],[]⟩ ((16,.pointer (some ⟨b16,0,none⟩))::(15,.pointer (some ⟨b15,0,none⟩))::(84,M9 (.st 12) a.1.2)::(83,M9 (.st 2) a.1.1)::Lb) W:=by
    refine Holds.start hMW (fun t s J=>?_) ⟨trivial,hDW.g⟩;unfold APY at J;rw[fnd_cons]at J;split at J
    . rename_i e;subst e;cases J;exact⟨_,l13,hDW.h13⟩
    rw[fnd_cons]at J;split at J
    . rename_i e;subst e;cases J;exact⟨_,rfl,o15⟩
    rw[fnd_cons]at J;split at J
    . rename_i e;subst e;cases J;exact⟨_,rfl,o16⟩
    cases J
   refine ADM ?_;refine AF8 ?_;refine AIB (l:=k) (I0 AN3 ASN AJ0 _ _ _ _ _ _ _ _ _ _ _ _ _ ((AYr l a.1.1 a.1.2).trans hn) hst (fun σ' L2 W2 hK _ hE2 hH2=>?_) (fun i σ2 L2 w2 h2=>by cases h2) (fun r σ2 L2 w2 h2 h3 _ hH2=>by cases h2) ((PZ.no (Z:=fun _ _ _ _=>False)).block (i:=3) rfl));obtain⟨S,ρ,γ,μ,ι,d⟩:=hH2;have F:Ext W W2:=d.hp.kp;obtain⟨c,b,r,h17,h18,q17,q18,R,htd,rfl⟩:∃c b r,A1 σ'.env 17=some (.ptr 17 0)/\A1 σ'.env 18=some (.ptr 18 0)/\A1 σ'.res 17=some (.row 45 c)/\A1 σ'.res 18=some (.row 4 [.bool b])/\B3 (.agg c)=[]/\C5 (A1 σ'.res) (.st 1) (.agg c)=some r/\n=(r,b):=by
    unfold AWa at hK;split at hK
    . rename_i c b g1 g2 g3 g4;split at hK
      . rename_i g5;split at hK
        . rename_i r g6;exact⟨c,b,r,g1,g2,g3,g4,g5,g6,(AbA hK).symm⟩
        . cases hK
      . cases hK
    . cases hK
   obtain⟨v17,l17,b17,L,rfl⟩:=d.env 17 (.ptr 17 0) h17;obtain⟨v18,l18,b18,N,rfl⟩:=d.env 18 (.ptr 18 0) h18;obtain⟨b17',hb17',r17,o17,i17⟩:=d.rowAt q17;obtain⟨b18',hb18',r18,o18,i18⟩:=d.rowAt q18;rw[L]at hb17';cases hb17';rw[N]at hb18';cases hb18';have ok17:Ok (P:=prog) (fun _=>undef) (fun _=>none) (bd::M) W2 (.rp (.str 1 r) 0) (.pointer (some ⟨b17,0,none⟩)):=⟨b17,0,.agg (toArray (γ 17)),γ 17,rfl,G9 (d.hp.sepM _ (AbB i17) b17 (mem_singleton.2 rfl)) r17,I5 (M:=mm S (bd::M)) (fun b hb=>mem_mm.2 (.inr hb)) (.st 1) (.agg c) (fun i hi=>by rw[R]at hi;cases hi) htd ⟨γ 17,rfl,o17⟩,rfl⟩;have ok18:Ok (P:=prog) (fun _=>undef) (fun _=>none) (bd::M) W2 (.rp (.bool b) 0) (.pointer (some ⟨b18,0,none⟩)):=by
    obtain⟨u,cu,q,e9,hu,v,hq⟩:=o18;have hu:u=.bool b:=hu;have hq:q=[]:=hq;subst hu hq;have v:#[Value.bool b]=toArray cu:=v;have:cu=[Value.bool b]:=by simpa using v.symm
    subst this;have e9:γ 18=[.bool b]:=e9;exact⟨b18,0,.bool b,[.bool b],rfl,e9▸G9 (d.hp.sepM _ (AbB i18) b18 (mem_singleton.2 rfl)) r18,rfl,rfl⟩
   have lk:∀t,t∈[4,8,13,14,15,16]->Sx.A6 L2 t=Sx.A6 ((16,.pointer (some ⟨b16,0,none⟩))::(15,.pointer (some ⟨b15,0,none⟩))::(84,M9 (.st 12) a.1.2)::(83,M9 (.st 2) a.1.1)::Lb) t:=fun t J=>hE2 t fun hm=>(by decide:∀t∈[4,8,13,14,15,16],t∉D7 ASN++D6 AJ0) t J hm;clear hE2 hK h17 h18 q17 q18 R htd L N r17 r18 o17 o18 i17 i18 d;have hA2:Adv (bd::M) (bd::M) W W2:=Adv.of_ext F;have j:=hDW.adv hA2;obtain⟨b4,o4,u4,vs4,hp4,c4,hu4,hc4⟩:=j.h4;obtain⟨sa4,n4,hsl4,_⟩:=(OkD.rds hu4.2).shape;obtain rfl:vs4=[u4]:=by
    subst hsl4;exact(AbJ Array.toList hc4).symm
   have l4':=(lk 4 (by decide)).trans (show _=some p4 from l4);rw[hp4]at l4';show CI k 3 prog 181 _ [] L2 W2 _ _ _ _;refine AF8 ?_;refine AAC rfl ?_;refine K4 l4' (c4.cells.at 0 rfl) isAgg29 rfl ?_;refine H0 rfl call47 rfl ?_;refine(C47 (hMW.ext F) hu4.2).mono ?_;rintro _ W3 ⟨pb,rfl,hpb,x3⟩;refine⟨_,rfl,?_⟩;refine Reg.nil ?_;refine ADM ?_;have G:Adv (bd::M) (bd::M) W2 W3:=Adv.of_ext x3;have H:=hA2.trans G;refine AUZ (w:=w) (wi:=W3) (f:=g) (f':=g') (AbS (hMW bd (AbF ..)) H.kp.size) (e2.ext (F.trans x3)) ?_ (j.adv G) (Ok.adv H _ o15) (Ok.adv H _ o16) (Ok.adv G _ ok17) (Ok.adv G _ ok18) hpb V.1.1 ((lk 8 (by decide)).trans l8) ((lk 13 (by decide)).trans l13) ((lk 14 (by decide)).trans l14) (lk 15 (by decide)) (lk 16 (by decide)) l17 l18 rfl hbok U fun W4 hI4 hA4=>?_
   . obtain⟨rk,O⟩:=O;exact⟨rk,((F.trans x3).block k (G6 O) (by simp)).trans O⟩
   . have m:=H.trans hA4;obtain⟨k1,k2⟩:=Y2 m E e3.kp.size;exact⟨k1,k2,g',by rw[AbT];exact hfold,hI4,e3.trans m⟩
 . rintro D W hDw ⟨g,e1,e2,e3⟩ hdef;rw[Abp,ho1]at e1;cases e1
   exact hA D W hDw e2 e3 hdef
def AFf(ls:List Letter)(y:(Int×Int)×Int):Option (List Letter):=appo 24 ls [Letter.mk y.1.1 y.1.2 y.2]
noncomputable def AWb:Code:=match f16.body with
 |some (.seq _ (.seq _ (.seq _ (.seq _ (.seq _ (.seq _ (.seq _ (.seq _ (.seq _ (.seq _ c))))))))))=>c
 |_=>.skip
noncomputable def AaW:Code:=match AWb with
 |.seq _ (.seq c _)=>c
 |_=>.skip
noncomputable def AWc:Code:=match AWb with
 |.seq _ (.seq _ c)=>c
 |_=>.skip
def Dok(D:Nat)(M:List Nat)(W:World):Prop:=D∉M/\W.heap[D]?=some (.deferred (some []))
theorem Dok.adv{D:Nat}{M M':List Nat}{W W':World}(h:Dok D M W)(k:Adv M M' W W'):Dok D M' W':=by
 have H:D<W.heap.size:=G6 h.2;exact⟨fun hm=>(k.new D hm).elim h.1 fun I=>by omega,(k.kp.block D H h.1).trans h.2⟩
theorem AWd{w wt:World}{M:List Nat}{D bd b14:Nat}{f:A4 (Int×Int) Int}{Lb:Sx.A8}{ds:List Deferred}{A B:A5}{X:Nat->A5}{Z:List PanicEntry->A5}{z:List Letter×Int}(hI:Hp w [] M [ownR [] LetterE 70 (.slice none 0 0) []] wt)(hm:RdF K116 (A9 .i64) false M wt (.map (some bd)) f)(h14:RdC M wt b14 0 [.map (some bd)])(hDk:Dok D M wt)(hz:X6 f (fun xs=>(List.foldlM AFf [] xs).bind M4)=some z)(l14:Sx.A6 Lb 14=some (.pointer (some ⟨b14,0,none⟩)))(l23:Sx.A6 Lb 23=some (.slice none 0 0))(hA:∀L' W v ls,M4 ls=some z->Hp w [] M [ownR [] LetterE 70 v ls] W->Sx.A6 L' 23=some v->Adv M (mm [ownR [] LetterE 70 v ls] M) wt W->Dok D (mm [ownR [] LetterE 70 v ls] M) W->A ds L' W):CW prog 181 AaW ds Lb wt A B X Z:=by
 have j:RdF K116 (A9 .i64) false (mm [ownR [] LetterE 70 (.slice none 0 0) ([]:List Letter)] M) wt (.map (some bd)) f:=hm;refine A3 ?_;refine A7 ?_;refine K4 l14 (h14.cells.at 0 rfl) isAgg106 rfl ?_;refine ARE hI j rfl underlying106 rfl ?_;intro r b c es xs w1 hX hL hI1 P;refine Reg.nil ?_;obtain⟨Bd,hBd,V⟩:=ALW hz hL;subst hBd;have N:Adv M (mm (N8 r b c es xs none xs::[ownR [] LetterE 70 (.slice none 0 0) ([]:List Letter)]) M) wt w1:=P;refine C8 ?_;refine AAj (ι:=A8×Value×List Letter×List ((Int×Int)×Int)×List ((Int×Int)×Int)) (fun q=>q.1) (fun q W=>(Sx.A6 q.1 163=some (.pointer (some ⟨r,0,none⟩))/\Sx.A6 q.1 23=some q.2.1)/\(q.2.2.2.1++q.2.2.2.2).Perm xs/\List.foldlM AFf [] q.2.2.2.1=some q.2.2.1/\Hp w [] M [N8 r b c es xs none q.2.2.2.2,ownR [] LetterE 70 q.2.1 q.2.2.1] W/\RdX K116 (A9 .i64) false (mm [N8 r b c es xs none q.2.2.2.2,ownR [] LetterE 70 q.2.1 q.2.2.1] M) W b es c xs/\Adv M (mm [N8 r b c es xs none q.2.2.2.2,ownR [] LetterE 70 q.2.1 q.2.2.1] M) wt W) (fun q=>q.2.2.2.2.length) ((163,.pointer (some ⟨r,0,none⟩))::(162,.map (some bd))::Lb,.slice none 0 0,[],[],xs) ⟨⟨rfl,l23⟩,Ab6 _,rfl,hI1,hX.adv P,N⟩ (Sub.refl _) ?_;rintro⟨L1,v,ls,d,l⟩ W1 ⟨⟨k1,k2⟩,k3,k4,k5,k6,k7⟩;dsimp only at k1 k2 k3 k4 k5 k6 k7 ⊢;refine A3 ?_;refine A7 ?_;refine ARF 0 k5 k6 rfl k1 rfl (fun hl=>?_) (fun y l' k v' W2 e Q R=>?_)
 . refine AE5 (vs:=[.bool false]) rfl rfl rfl ?_;refine Reg.nil ?_;refine A3 ?_;refine ABM rfl ?_;refine U1 (K2 ?_);subst hl;obtain⟨s,F,a⟩:=V d (by simpa using k3);rw[k4]at F;cases F
   have G:Adv M (mm [ownR [] LetterE 70 v ls] M) wt W1:=k7.trans (E8 (σ:=[N8 r b c es xs none ([]:List ((Int×Int)×Int)),ownR [] LetterE 70 v ls]) 0);exact hA _ W1 v ls a (k5.erase 0) k2 G (hDk.adv G)
 . refine AE5 (vs:=[.bool true,k,v']) rfl rfl rfl ?_;refine Reg.nil ?_;refine A3 ?_;refine ABw rfl ?_;refine E7 ?_;refine C8 ?_;refine A3 ?_;refine A7 ?_;have hX2:=k6.adv R;refine ARG 0 Q hX2 rfl k1 rfl fun v2 g L=>?_;obtain⟨o,n⟩:InK .i64 y.1.1/\InK .i64 y.1.2:=g;obtain⟨rfl,m⟩:v2=.int .i64 y.2/\InK .i64 y.2:=by
    obtain⟨cs,⟨h1,h2⟩,⟨S,_⟩|⟨_,S⟩⟩:=L
    . cases S
    . rw[h1]at S;exact⟨(List.singleton_inj.1 S).symm,h2⟩
   refine AE5 (vs:=[K116.val y.1,.int .i64 y.2]) rfl rfl rfl ?_;refine AE5 (vs:=[K116.val y.1,.int .i64 y.2]) rfl rfl rfl ?_;refine Q0 Q zeroValue116 rfl rfl ?_;intro b24 w5 hI5 x5;refine N3 0 (vs:=[.int .i64 y.1.1,.int .i64 y.1.2]) hI5 rfl rfl rfl rfl sizeOf116 rfl rfl (one1 rfl (one1 rfl one0)) ?_;intro w6 I x6;have I:Hp w [] M (rowR 116 b24 [.int .i64 y.1.1,.int .i64 y.1.2]::[N8 r b c es xs (some y) l',ownR [] LetterE 70 v ls]) w6:=I;refine C9 rfl rfl ?_;refine Reg.nil ?_;refine A7 ?_;have C:RdC [] w6 b24 0 ([y.1.1,y.1.2].map (Value.int .i64)):=G9 (fun h=>by cases h) (I.row 0 rfl);obtain⟨s0,H,_⟩:=V (d++(y::l')) (((Ab6 d).append e.symm).trans k3);rw[AcP,k4]at H;simp only[Option.bind_eq_bind,Option.bind_some,List.foldlM_cons]at H;obtain⟨ls',U,H⟩:=C7 H;obtain⟨x,J⟩:=ABx U;refine E9 k2 rfl ?_;refine ASj (i:=0) (z:=y.1.1) C rfl rfl rfl underlying116 rfl sizeOf3 rfl fun u=>?_;refine K4 rfl (u.cells.at 0 rfl) isAgg3 rfl ?_;refine ASj (i:=1) (z:=y.1.2) C rfl rfl rfl underlying116 rfl sizeOf3 rfl fun t=>?_;refine K4 rfl (t.cells.at 0 rfl) isAgg3 rfl ?_;refine E9 rfl rfl ?_;refine AE7 [(0,1),(1,1),(2,1)] zeroValue70 rfl underlying70 (fun _=>by simp[sizeOf3]) rfl (Cls.cons rfl (Cls.cons rfl (Cls.cons rfl Cls.nil))) rfl rfl ?_;refine AEJ (E:=LetterE) (xs:=[Letter.mk y.1.1 y.1.2 y.2]) rsl37 I rfl rfl (Cls.cons rfl Cls.nil) (Chs.cons (LetterE_R.2 ⟨rfl,o,n,m⟩) Chs.nil) rfl rfl ?_;intro v8 w8 O x8;have p:=O.freeze 0 rfl;have hI9:=O.erase 0;refine ADs 2 rsl37 hI9 rfl rfl rfl p x rfl ?_;intro v10 w10 T x10;refine C9 rfl rfl ?_;have K:Hp w [] M [N8 r b c es xs (some y) l',ownR [] LetterE 70 v10 ls'] w10:=by rw[J];exact T.erase 0
   have hIb:Hp w [] M [N8 r b c es xs none l',ownR [] LetterE 70 v10 ls'] w10:=K.upd 0 rfl (Kp.refl _ _) (fun b hb=>.inl hb) rfl fun M' hM'=>by
    obtain⟨seen,q1,q2,_⟩:=K.get 0 rfl;exact⟨seen,q1,q2,fun _ h=>by cases h⟩
   have Y:Adv (mm [N8 r b c es xs none l,ownR [] LetterE 70 v ls] M) (mm [N8 r b c es xs none l',ownR [] LetterE 70 v10 ls'] M) W1 w10:=by
    have h1:=R.trans (x5.trans (x6.trans (x8.trans ((E8 (σ:=ownR [] LetterE 70 v8 [Letter.mk y.1.1 y.1.2 y.2]::rowR 116 b24 [.int .i64 y.1.1,.int .i64 y.1.2]::[N8 r b c es xs (some y) l',ownR [] LetterE 70 v ls]) 0).trans (x10.trans (E8 (σ:=rowR 116 b24 [.int .i64 y.1.1,.int .i64 y.1.2]::[N8 r b c es xs (some y) l',ownR [] LetterE 70 v10 (ls++[Letter.mk y.1.1 y.1.2 y.2])]) 0))))));rw[J];exact h1
   refine Reg.nil ⟨rfl,(_,v10,ls',d++[y],l'),?_,Sub.refl _,?_⟩
   . refine⟨⟨k1,rfl⟩,?_,?_,hIb,k6.adv Y,k7.trans Y⟩
     . rw[Abs];exact((Ab6 d).append e.symm).trans k3
     . rw[AcP,k4];simp only[Option.bind_eq_bind,Option.bind_some,List.foldlM_cons,U,List.foldlM_nil];rfl
   . have:=e.length_eq;simp at this;dsimp only;omega
end Go.Proofs.YtgioiejbphljoaaGreatDoor
namespace Go.Rx
open Go Go.Sx Go.RowKit
theorem HS.rdsM[Trk][Sg][Sf]{P:Program}[Se P][Anch]{w0 w:World}{M:List Nat}{σ:AS}{L:A8}{S:List Res}{ρ:Nat->Value}{γ:Nat->List Value}{μ:Nat->List Nat}{ι:Nat->Nat}(h:HS (P:=P) w0 [] M σ L w S ρ γ μ ι)(I:List Nat):Rds (P:=P) ρ (A1 σ.res) M w I:=fun i _ p c x V=>by
 have D:=h.res i _ V;have hm:=AbB D;have H:=h.hp.all _ hm;have U:=h.hp.sepM _ hm;have C:=h.row i _ V;cases c with
 |sl e t=>
  have H:Sx.Own (enc (P:=P) t) e 0 (mm S M) w (ρ i) x:=H
  have W:=(H.mon fun b J=>.inr (mem_mm.2 (.inr J))).rd fun b J=>U b (by
   show b∈(F2 (P:=P) _ (ρ i) (.sl e t) x).fp;rw[ocR_fp];exact J)
  exact⟨[ρ i],⟨_,rfl,W⟩,.inr ⟨rfl,rfl⟩⟩
 |mp m k v=>
  obtain⟨b,J⟩:=C
  have H:(mapRes (P:=P) (bif p then μ i else []) m k v (blk (ρ i)) x).holds (mm S M) w:=H
  have U:∀b'∈(mapRes (P:=P) (bif p then μ i else []) m k v (blk (ρ i)) x).fp,b'∉M:=U
  rw[J]at H U ⊢
  unfold mapRes at H U
  cases hK:Se.ky (P:=P) m k with
  |none=>rw[hK]at H;exact H.elim
  |some K=>
   rw[hK]at H U
   obtain⟨es,c,xs,g1,g2,g3,g4⟩:=H
   exact⟨[_],⟨_,K,rfl,hK,b,rfl,U b (mem_singleton.2 rfl),es,c,xs,g1,g2,g3.mon fun b J=>.inl (mem_mm.2 (.inr J)),g4⟩,.inr ⟨rfl,rfl⟩⟩
end Go.Rx
namespace Go.Proofs.YtgioiejbphljoaaGreatDoor
open Go Go.Sx Go.Rx Go.RowKit
noncomputable def c16:Code:=match f16.body with
 |some c=>c
 |none=>.skip
def KNp(σ:AS):Option ((Desk_99×List Asked×List Report×Int)⊕(List Letter×Int)):=match A1 σ.env 4,A1 σ.env 8,A1 σ.env 13,A1 σ.env 2,A1 σ.res 4,A1 σ.res 8,A1 σ.res 13 with
 |some (.ptr 4 0),some (.ptr 8 0),some (.ptr 13 0),some (.int .i64 k),some (.row 29 [s4]),some (.row 99 c8),some (.row 24 [s13])=>match C5 (A1 σ.res) (.st 10) (.agg c8),C5 (A1 σ.res) (.sl (.st 5)) s4,C5 (A1 σ.res) (.sl (.st 1)) s13 with
  |some x,some a,some l=>some (.inl (x,a,l,k))
  |_,_,_=>none
 |_,_,_,_,_,_,_=>none
def cs16:List Ck:=[.own (.sl 70 (.st 6)),.d (.int .i64)]
def APZ:Gx:={ gxb with fs:=[(40,ctr40),(41,ctr41),(44,ctr44)] }
theorem AN4:GxOk prog APZ:=B1 ⟨⟨ok40,call40⟩,⟨ok41,call41⟩,⟨ok44,call44⟩,trivial⟩
def AK5:Gx:={ gxb with fs:=[(49,ctr49),(50,ctr50)],fm:=[(48,ctrm48)] }
theorem AIM:GxOk prog AK5:=ACP ⟨⟨ok49,call49⟩,⟨ok50,call50⟩,trivial⟩ trivial ⟨⟨okm48,call48⟩,trivial⟩
theorem AYs(d:Desk)(asked:List Asked)(day:Int):X2 APZ 181 (T7 APZ cs16 f16.results.toList) (O7 7 c16) AN2 KNp (fun r=>some (.inr r)) ⟨[(0,.str 4 d),(1,.dat (.sl (.st 5)) asked),(2,.int .i64 day)],[],[],[]⟩=ACe d asked day:=by kernel_rfl
theorem AWe(l:List Letter):exec AK5 181 (T7 AK5 cs16 f16.results.toList) AWc AMt (T7 AK5 cs16 f16.results.toList) (fun _ _=>none) some ⟨[(23,.own 23)],[(23,.own false (.sl 70 (.st 6)) l)],[],[]⟩=M4 l:=by kernel_rfl
def F4(d:Desk)(asked:List Asked)(day:Int):Option (List Letter×Int):=(ACe d asked day).bind fun z=>Sum.elim (fun q=>(D5 q.1 q.2.2.2).bind fun ys=>(ACC (AIL q.1 q.2.1 q.2.2.1) fnone ys).bind fun f=>X6 f fun xs=>(List.foldlM AFf [] xs).bind M4) (fun r=>some r) z
def ctr16:Ctr:=⟨[.d (.st 4),.d (.sl (.st 5)),.d (.int .i64)],cs16,fun a=>F4 a.1 a.2.1 a.2.2.1⟩
theorem ok16:Ctr.ok prog 16 ctr16:=by
 refine⟨by decide,fun M w a vals r hM hg ha I=>?_⟩;obtain⟨d,asked,day,_⟩:=a;obtain⟨vd,_,rfl,O,va,_,rfl,Q,vk,_,rfl,K,rfl⟩:=ha;have O:OkD (P:=prog) M w (.st 4) d vd:=O;have Q:OkD (P:=prog) M w (.sl (.st 5)) asked va:=Q;have K:OkD (P:=prog) M w (.int .i64) day vk:=K;have I:F4 d asked day=some r:=I;unfold F4 at I;obtain⟨z,hz,I⟩:=C7 I;have h0:Holds (P:=prog) w [] M ⟨[(0,.str 4 d),(1,.dat (.sl (.st 5)) asked),(2,.int .i64 day)],[],[],[]⟩ [(0,vd),(1,va),(2,vk)] w:=by
  refine Holds.start hM (fun t s H=>?_) ⟨trivial,hg⟩;rw[fnd_cons]at H;split at H
  . rename_i e;subst e;cases H;exact⟨vd,rfl,O⟩
  rw[fnd_cons]at H;split at H
  . rename_i e;subst e;cases H;exact⟨va,rfl,rfl,Q⟩
  rw[fnd_cons]at H;split at H
  . rename_i e;subst e;cases H;exact⟨vk,rfl,E3 (.int .i64) K⟩
  . cases H
 refine ABV (l:=[vd,va,vk]) (fn:=f16) func16 rfl rfl rfl ?_;refine ADi (P:=prog) (pr:=T7 APZ cs16 f16.results.toList) AN4 7 c16 AN2 (by decide) ((AYs d asked day).trans hz) h0 (fun σ' L' w1 hK hE hH=>?_) (fun r' σ' L' w' hp hk hH=>?_);rotate_left
 . have hk:Sum.inr r'=z:=AbA hk;subst hk;have I:some r'=some r:=I;cases I
   exact FinM.of (AGR AN4 (by decide) hp hH)
 clear hE h0;obtain⟨S,ρ,γ,μ,ι,J⟩:=hH;obtain⟨c8,s4,s13,x,al,l,k,g4,g8,g13,g2,r4,r8,r13,t8,t4,t13,rfl⟩:∃c8 s4 s13 x al l k,A1 σ'.env 4=some (.ptr 4 0)/\A1 σ'.env 8=some (.ptr 8 0)/\A1 σ'.env 13=some (.ptr 13 0)/\A1 σ'.env 2=some (.int .i64 k)/\A1 σ'.res 4=some (.row 29 [s4])/\A1 σ'.res 8=some (.row 99 c8)/\A1 σ'.res 13=some (.row 24 [s13])/\C5 (A1 σ'.res) (.st 10) (.agg c8)=some x/\C5 (A1 σ'.res) (.sl (.st 5)) s4=some al/\C5 (A1 σ'.res) (.sl (.st 1)) s13=some l/\z=.inl (x,al,l,k):=by
  unfold KNp at hK;split at hK
  . rename_i k s4 c8 s13 q1 q2 q3 q4 q5 q6 q7;split at hK
    . rename_i x a l q8 q9 q10;exact⟨c8,s4,s13,x,a,l,k,q1,q2,q3,q4,q5,q6,q7,q8,q9,q10,(AbA hK).symm⟩
    . cases hK
  . cases hK
 have I:((D5 x k).bind fun ys=>(ACC (AIL x al l) fnone ys).bind fun f=>X6 f fun xs=>(List.foldlM AFf [] xs).bind M4)=some r:=I;obtain⟨ys,G,I⟩:=C7 I;obtain⟨f,hf,I⟩:=C7 I;obtain⟨hok,R⟩:(∀y∈ys,AEN [.st 2,.st 12] y)/\AGW x k x.desk.disputes=some ys:=by
  unfold D5 at G;obtain⟨ys',h1,B⟩:=C7 G;split at B
  . rename_i h3;cases B;exact⟨h3,h1⟩
  . cases B
 obtain⟨v4,l4,b4,g,rfl⟩:=J.env 4 (.ptr 4 0) g4;obtain⟨v8,l8,b8,L,rfl⟩:=J.env 8 (.ptr 8 0) g8;obtain⟨v13,l13,b13,E,rfl⟩:=J.env 13 (.ptr 13 0) g13;obtain⟨v2,l2,rfl,hkk⟩:=J.env 2 (.int .i64 k) g2;obtain⟨b4',e4,row4,o4,i4⟩:=J.rowAt r4;obtain⟨b8',e8,row8,o8,i8⟩:=J.rowAt r8;obtain⟨b13',e13,row13,o13,i13⟩:=J.rowAt r13;rw[g]at e4;cases e4;rw[L]at e8;cases e8;rw[E]at e13;cases e13;have memM:∀b∈M,b∈mm S M:=fun b m=>mem_mm.2 (.inr m);have one:∀{s:SV} {vs:List Value} {t:Ty} {y:List (den t)},OkL (P:=prog) ρ (A1 σ'.res) (mm S M) w1 [s] vs->C5 (A1 σ'.res) (.sl t) s=some y->∃u,vs=[u]/\OkD (P:=prog) M w1 (.sl t) y u/\u.cells=toArray vs:=fun {s vs t y} h H=>by
  obtain⟨u,c,q,rfl,hu,hc,hq⟩:=h;have hq:q=[]:=hq;subst hq;have hd:=I5 (M:=mm S M) memM (.sl t) s (J.rdsM _) H hu;obtain⟨sa,n,hsl,_⟩:=(OkD.rds hd).shape;have:c=[u]:=by
   subst hsl;exact(AbJ Array.toList hc).symm
  subst this;exact⟨u,rfl,hd,hc⟩
 have d8:Ok (P:=prog) (fun _=>undef) (fun _=>none) M w1 (.rp (.str 10 x) 0) (.pointer (some ⟨b8,0,none⟩)):=⟨b8,0,.agg (toArray (γ 8)),γ 8,rfl,G9 (J.hp.sepM _ (AbB i8) b8 (mem_singleton.2 rfl)) row8,I5 (M:=mm S M) memM (.st 10) (.agg c8) (J.rdsM _) t8 ⟨γ 8,rfl,o8⟩,rfl⟩;obtain⟨u4,eu4,du4,cu4⟩:=one o4 t4;obtain⟨u13,eu13,du13,cu13⟩:=one o13 t13;have d4:Ok (P:=prog) (fun _=>undef) (fun _=>none) M w1 (.rp (.dat (.sl (.st 5)) al) 0) (.pointer (some ⟨b4,0,none⟩)):=⟨b4,0,u4,γ 4,rfl,G9 (J.hp.sepM _ (AbB i4) b4 (mem_singleton.2 rfl)) row4,⟨rfl,du4⟩,cu4⟩;have d13:Ok (P:=prog) (fun _=>undef) (fun _=>none) M w1 (.rp (.dat (.sl (.st 1)) l) 0) (.pointer (some ⟨b13,0,none⟩)):=⟨b13,0,u13,γ 13,rfl,G9 (J.hp.sepM _ (AbB i13) b13 (mem_singleton.2 rfl)) row13,⟨rfl,du13⟩,cu13⟩;have hI1:Hp w [] M [] w1:=J.hp.sel [] rfl;have X:GlOk (P:=prog) M w1:=J.anch.2.adv (Adv.drop memM);clear one hK J g4 g8 g13 g2 r4 r8 r13 t8 t4 t13 row4 row8 row13 o4 o8 o13 i4 i8 i13 g L E eu4 eu13 cu4 cu13;refine A3 ?_;refine A7 ?_;refine AKo K116 (A9 .i64) false hI1 rfl ?_;intro bd w2 hI2 x2;refine Q0 hI2 zeroValue106 rfl rfl ?_;intro b14 w3 hI3 x3;refine N3 0 (vs:=[.map (some bd)]) hI3 rfl rfl rfl rfl sizeOf106 rfl rfl (one1 rfl one0) ?_;intro w4 C x4;have C:Hp w [] M (rowR 106 b14 [.map (some bd)]::MP bd fnone) w4:=C;refine Reg.nil ?_;have h14:RdC (bd::M) w4 b14 0 [.map (some bd)]:=C.freezeRow 0 rfl;have V:Hp w [] M (MP bd fnone) w4:=C.erase 0;have U:Adv M (bd::M) w1 w4:=x2.trans (x3.trans (x4.trans (E8 (σ:=rowR 106 b14 [.map (some bd)]::MP bd fnone) 0)));have hD5:D16 (bd::M) w4 x al l (.pointer (some ⟨b8,0,none⟩)) (.pointer (some ⟨b4,0,none⟩)) (.pointer (some ⟨b13,0,none⟩)) b14 bd:=⟨X.adv U,Ok.adv U _ d8,Ok.adv U _ d4,Ok.adv U _ d13,h14⟩;have hx8:=hD5.h8;obtain⟨b8',o8,u8,vs8,hp8,c8',hu8,hc8⟩:=hx8;obtain⟨cs8,o,N⟩:=hu8;obtain rfl:u8=.agg (toArray cs8):=N.elim (fun h=>h.2) fun h=>by cases h.1
 obtain rfl:cs8=vs8:=AbJ Array.toList hc8;cases hp8
 refine A3 ?_;refine A3 ?_;refine A7 ?_;refine Z1 l8 c8'.cells isAgg99 ((enc (P:=prog) (.st 10)).len o) sizeOf99 rfl ?_;refine E9 l2 rfl ?_;refine H0 rfl call45 rfl ?_;refine(C45 V.mlt ⟨cs8,o,.inl ⟨rfl,rfl⟩⟩ hkk).mono ?_;rintro _ w5 ⟨p1,p2,rfl,hp1,hp2,x5⟩;refine⟨_,rfl,?_⟩;refine Reg.nil ?_;refine C8 ?_;have A:Adv (bd::M) (bd::M) w4 w5:=Adv.of_ext x5;refine AUa (w:=w) (wl:=w5) (f:=fnone) (f':=f) (AbS (V.mlt bd (AbF ..)) x5.size) (V.ext x5) (hD5.adv A) hp1 hp2 l4 l8 l13 rfl rfl R hok hf fun D W hDw p hA7 Z=>?_;refine A3 ?_;refine A7 ?_;refine C9 rfl rfl ?_;refine Reg.nil ?_;have F:w.heap.size<=D:=AbP (AbP V.kp.size x5.size) hDw;have hDk:Dok D M W:=⟨fun hm=>by have:=hM D hm;omega,Z⟩;have h14W:RdC M W b14 0 [.map (some bd)]:=(h14.adv (A.trans hA7)).adv (Adv.drop fun b m=>AbC _ m);have hm:=p.freezeM 0 rfl;have hI8:Hp w [] M [ownR [] LetterE 70 (.slice none 0 0) []] W:=(p.erase 0).addNil LetterE 70;have hg8:GlOk (P:=prog) M W:=(X.adv (U.trans (A.trans hA7))).adv (Adv.drop fun b m=>AbC _ m);refine A3 ?_;refine AWd (f:=f) hI8 hm h14W hDk I rfl rfl fun L9 W9 v9 ls hls T l23 hA9 v=>?_;letI:Anch:=AI1 D
 have hst:Holds (P:=prog) w [] M ⟨[(23,.own 23)],[(23,.own false (.sl 70 (.st 6)) ls)],[],[]⟩ L9 W9:=by
  refine⟨[ownR [] LetterE 70 v9 ls],fun _=>v9,fun _=>[],fun _=>[],fun _=>0,T,fun i a hi=>?_,fun i j a b hi hj _=>?_,fun i a hi=>?_,fun t s H=>?_,v,hg8.adv hA9⟩
  . rw[fnd_cons]at hi;split at hi
    . rename_i e;subst e;cases hi;rfl
    . cases hi
  . rw[fnd_cons]at hi hj;split at hi<;>split at hj
    . rename_i e1 e2;rw[<-e1,<-e2]
    . cases hj
    . cases hi
    . cases hi
  . rw[fnd_cons]at hi;split at hi
    . rename_i e;subst e;cases hi;trivial
    . cases hi
  . rw[fnd_cons]at H;split at H
    . rename_i e;subst e;cases H;exact⟨v9,l23,rfl,Own.cells1 (T.ownAt 0 rfl),Own.oneC (T.ownAt 0 rfl)⟩
    . cases H
 exact AAI (n:=3) (ADd (I0 AIM AWc AMt _ _ _ _ _ _ _ _ _ _ _ _ _ ((AWe ls).trans hls) hst (fun σ2 L2 w2 B _ _ Y=>AHJ (fun h=>h) AIM (by decide) rfl F B Y) (fun i σ2 L2 w2 B=>by cases B) (fun r' σ2 L2 w2 hp hk _ Y=>by
  have hk:r'=r:=AbA hk;subst hk;exact AHJ (fun h=>h) AIM (by decide) rfl F hp Y) PZ.no))
def K8(d:Desk)(day:Int):Option ((List Report)×Int):=(J2 d day).bind fun (r1,r2)=>cond ((!decide (r2=0))) (some (([]:List Report),r2)) ((F5 r1 day).bind fun (r3,r4)=>some (r3,r4))
def AaX:An:=.x
def ctr14:Ctr:=⟨[.d (.st 4),.d (.int .i64)],[.own (.sl 45 (.st 1)),.d (.int .i64)],fun a=>K8 a.1 a.2.1⟩
theorem ok14:Ctr.ok prog 14 ctr14:=B0 (G:={ gxb with fs:=[(40,ctr40),(41,ctr41)] }) (an:=AaX) (B1 ⟨⟨ok40,call40⟩,⟨ok41,call41⟩,trivial⟩) func14 rfl rfl rfl rfl (fun a=>by kernel_rfl)
end Go.Proofs.YtgioiejbphljoaaGreatDoor
namespace Go.Proofs.YtgioiejbphljoaaGreatDoor
open Go Go.Sx Go.Rx
namespace S
def decd(d:Desk)(day:Int):List (Dispute×Verdict):=(d.disputes.filter fun x=>decide (3<=wh d x day)).map fun x=>(x,dec d x)
variable{d:Desk}{day:Int}{x:Int}{D:Desk_99}{v:Verdict}
theorem decd_mem{y:Dispute×Verdict}:y∈decd d day↔y.1∈d.disputes/\3<=wh d y.1 day/\y.2=dec d y.1:=by
 unfold decd;rw[AcO];constructor
 . rintro⟨x,hx,rfl⟩;obtain⟨I,H⟩:=List.mem_filter.1 hx;exact⟨I,AbH H,rfl⟩
 . rintro⟨I,H,J⟩;exact⟨y.1,List.mem_filter.2 ⟨I,AbL H⟩,by rw[<-J]⟩
theorem W0(h:-1000000000000000<=x/\x<=1000000000000000):InK .i64 x:=InK.i64.2 (by omega)
theorem ATE(h:0<=x/\x<=255):InK .u8 x:=InK.u8.2 (by omega)
theorem AWf(hv:Vd d){a:Answer}(J:a∈d.answers):(0<=a.id/\a.id<=999999)/\(0<=a.dispute/\a.dispute<=999999)/\(0<=a.day/\a.day<=100000)/\(1<=a.says/\a.says<=3)/\(0<=a.about/\a.about<=100000)/\(0<=a.cents/\a.cents<=1000000000000):=by
 obtain⟨v1,v2,v3,x,H,v4,v5,v6⟩:=hv.a.v a J;obtain⟨x1,_,f,I,_⟩:=hv.x.v x H;have hm:most f.kind<=1000000000000:=by unfold most;split<;>(try split)<;>omega
 refine⟨v1,by rw[<-v4];exact x1,v2,v3,?_⟩;by_cases e:a.says=2
 . have:=v6 e f I;omega
 . have:=v5 e;omega
theorem ATF(hv:Vd d)(x:Dispute):(0<=(dec d x).by_.id/\(dec d x).by_.id<=999999)/\(0<=(dec d x).by_.dispute/\(dec d x).by_.dispute<=999999)/\(0<=(dec d x).by_.day/\(dec d x).by_.day<=100000)/\(0<=(dec d x).by_.says/\(dec d x).by_.says<=3)/\(0<=(dec d x).by_.about/\(dec d x).by_.about<=100000)/\(0<=(dec d x).by_.cents/\(dec d x).by_.cents<=1000000000000):=by
 by_cases c:(dec d x).is_=5
 . have e:(dec d x).by_=zeroA:=by rw[((AEz hv x).is5 c).1]
   rw[e];unfold zeroA;dsimp only;omega
 . have:=AWf hv (List.mem_filter.1 ((AEz hv x).by_ c).2.1).1;omega
theorem AKh(hD:Dw d D)(hv:Vd d):D5 D day=some (decd d day):=by
 have key:∀l:List Dispute,(∀x∈l,x∈d.disputes)->AGW D day l=some ((l.filter fun x=>decide (3<=wh d x day)).map fun x=>(x,dec d x)):=by
  intro l;induction l with
  |nil=>intro _;rfl
  |cons x l ih=>
   intro h
   unfold AGW
   rw[AHG hD hv (h x (AbF ..)),bindS,ih (fun y hy=>h y (AbC _ hy)),bindS]
   congr 1
   rw[Ab4]
   by_cases c:3<=wh d x day
   . rw[AbO (show decide (3<=wh d x day)=true from AbL c),AbV]
     exact AbO c
   . rw[if_neg (show ¬decide (3<=wh d x day)=true from fun h=>c (AbH h))]
     exact if_neg c
 unfold D5;rw[hD.d,key _ fun _ h=>h,bindS];refine AbO fun y hy=>?_;obtain⟨U,K,C⟩:=decd_mem.1 hy;obtain⟨x1,x2,f,V,x3,x4⟩:=hv.x.v _ U;have I:=ABc V;have H:=hv.r.v f I.1;have E:=hv.t.1;have hk:=ASH hv y.1;have W:=AGZ hv U;have F:=ATF hv y.1;have J:0<=y.1.report/\y.1.report<=999999:=by rw[<-I.2.1];exact H.2.1
 have hmade:=H.2.2.2.2.2.1;have e:AEN [.st 2,.st 12] y↔(InK .i64 y.1.id/\InK .i64 y.1.report/\InK .i64 y.1.day)/\(InK .i64 y.2.day/\InK .u8 y.2.is_/\InK .i64 y.2.by_.id/\InK .i64 y.2.by_.dispute/\InK .i64 y.2.by_.day/\InK .u8 y.2.by_.says/\InK .i64 y.2.by_.about/\InK .i64 y.2.by_.cents):=AdJ;rw[e,C];exact⟨⟨W0 (by omega),W0 (by omega),W0 (by omega)⟩,W0 (by omega),ATE (by omega),W0 (by omega),W0 (by omega),W0 (by omega),ATE (by omega),W0 (by omega),W0 (by omega)⟩
def AFg:Report:=Report.mk 0 0 0 0 0 0 0 0
def ACf(d:Desk)(x:Dispute)(v:Verdict):Report:=
 let f:=(fct d.reports x.report).getD AFg
 if v.is_=3 then Report.mk x.id f.source f.account v.day v.by_.about 8 v.by_.cents f.id else Report.mk x.id f.source f.account v.day 0 9 0 f.id
theorem AUb(hD:Dw d D){x:Dispute}{l:List Report}(hl:l.length<=1000000):Y1 D x v l=some (l++[ACf d x v]):=by
 unfold Y1 ACf;rw[hD.f,hD.d];by_cases c:v.is_=3
 . rw[AbL c,condT,bindS,AbO c];exact Ret.eq (Ret.bind (Ret.appo (by simp only[List.length_singleton];omega) (by simp only[List.length_singleton];omega) (Ret.ok rfl)))
 . rw[AbK c,condF,bindS,if_neg c];exact Ret.eq (Ret.bind (Ret.appo (by simp only[List.length_singleton];omega) (by simp only[List.length_singleton];omega) (Ret.ok rfl)))
def more(d:Desk)(day:Int):List Report:=(decd d day).map fun y=>ACf d y.1 y.2
theorem AMw{x:Dispute}:(ACf d x v).id=x.id:=by unfold ACf;split<;>rfl
theorem AFh:(decd d day).length<=d.disputes.length:=by
 unfold decd;rw[Abd];exact Ab1 ..
theorem AHK(hv:Vd d):((more d day).map (·.id)).Nodup:=by
 unfold more decd;rw[Abl,Abl];rw[show(((fun r:Report=>r.id) ∘ fun y:Dispute×Verdict=>ACf d y.1 y.2) ∘ fun x=>(x,dec d x))=fun x:Dispute=>x.id from funext fun x=>AMw];exact(AcN _ Abu).nodup hv.x.nd
def AEV(d:Desk)(day:Int)(r:List Report×Int):Prop:=(60<d.reports.length+(more d day).length/\r=([],9))\/(d.reports.length+(more d day).length<=60/\∃m:List Report,m.Perm (more d day)/\m.Pairwise (le2 (·.made) (·.id))/\r=(d.reports++m,0))
theorem ASO{a b:List Report}(C:a.length<=100000)(W:b.length<=100000):V7 [a,b]=some (a++b):=by
 refine Ret.eq ?_;unfold V7;refine Ret.bind (C3 2 (fun n (t:Int×Int)=>t.1=n/\(n=0->t.2=0)/\(n=1->t.2=a.length)/\(n=2->t.2=a.length+b.length)) ⟨rfl,fun _=>rfl,fun h=>by omega,fun h=>by omega⟩ ?_ ?_)
 . rintro n U ⟨_,s⟩ ⟨rfl,J,I,H⟩;have:n=0\/n=1:=by omega
   rcases this with rfl|rfl
   . have:s=0:=J rfl;subst this;exact Ret.condT rfl (Ret.bind (Ret.val (show ixo [a,b] 0=some a from rfl) (Ret.bind (Ret.chk (by omega) (Ret.condF (AbK (by omega)) (Ret.bind (Ret.chk (by decide) (Ret.next ⟨rfl,fun h=>by omega,fun _=>by dsimp only;omega,fun h=>by omega⟩))))))))
   . have:s=a.length:=I rfl;subst this;exact Ret.condT rfl (Ret.bind (Ret.val (show ixo [a,b] 1=some b from rfl) (Ret.bind (Ret.chk (by omega) (Ret.condF (AbK (by omega)) (Ret.bind (Ret.chk (by decide) (Ret.next ⟨rfl,fun h=>by omega,fun h=>by omega,fun _=>rfl⟩))))))))
 rintro⟨_,s⟩ ⟨rfl,J,I,H⟩;have:s=a.length+b.length:=H rfl;subst this;have V:N2 () ((a.length:Int)+b.length)=some []:=by
  unfold N2;exact AbO ⟨by omega,by omega⟩
 refine Ret.condF rfl (Ret.done ?_);rw[V,bindS];refine Ret.bind (C3 2 (fun n (t:Int×List Report)=>t.1=n/\(n=0->t.2=[])/\(n=1->t.2=a)/\(n=2->t.2=a++b)) ⟨rfl,fun _=>rfl,fun h=>by omega,fun h=>by omega⟩ ?_ ?_)
 . rintro n U ⟨_,s⟩ ⟨rfl,J,I,H⟩;have:n=0\/n=1:=by omega
   rcases this with rfl|rfl
   . have:s=[]:=J rfl;subst this;exact Ret.condT rfl (Ret.bind (Ret.val (show ixo [a,b] 0=some a from rfl) (Ret.bind (Ret.appo (by simp only[List.length_nil];omega) (by simp only[List.length_nil];omega) (Ret.bind (Ret.chk (by decide) (Ret.next ⟨rfl,fun h=>by omega,fun _=>rfl,fun h=>by omega⟩)))))))
   . have:s=a:=I rfl;subst this;exact Ret.condT rfl (Ret.bind (Ret.val (show ixo [s,b] 1=some b from rfl) (Ret.bind (Ret.appo (by omega) (by omega) (Ret.bind (Ret.chk (by decide) (Ret.next ⟨rfl,fun h=>by omega,fun h=>by omega,fun _=>rfl⟩)))))))
 . rintro⟨_,s⟩ ⟨rfl,J,I,H⟩;have:s=a++b:=H rfl;subst this;exact Ret.condF rfl (Ret.done (Ret.ok rfl))
theorem AMx(hD:Dw d D)(hv:Vd d):Ret (F5 D day) (AEV d day):=by
 have J:=hv.x.len;have W:=hv.r.len;have I:(more d day).length<=20:=by
  unfold more;rw[Abd];exact AbP AFh J
 unfold F5;rw[AKh hD hv,bindS];refine Ret.bind (Ret.over (fun pre (l:List Report)=>l=pre.map fun y=>ACf d y.1 y.2) rfl (fun pre y s U F hy H=>?_) fun s H=>?_)
 . subst H;rw[AUb hD (by rw[Abd];have:=AFh (d:=d) (day:=day);omega)];exact Ret.ok (by rw[AbT];rfl)
 . subst H;show Ret (ABK D (more d day)) (AEV d day);unfold ABK;rw[hD.d];refine Ret.bind (Ret.chk (by omega) (Ret.cond (fun c=>Ret.ok (.inl ⟨?_,rfl⟩)) fun c=>?_))
   . have c:=AbH c;omega
   have c:=AbM c;have V:=AJG (x:=more d day) (cmp:=fun a b=>K6 a b [78,79]) (k1:=(·.made)) (k2:=(·.id)) (fun a b=>AHH (D:=fd160.D) (fun _=>rfl) (fun _=>rfl)) (fun a b E C _ e=>V9 (AHK hv) a b E C e) (by omega);refine Ret.bind (Ret.bind (V.mono fun m hm=>Ret.ok ?_));have I:=hm.1.length_eq;dsimp only;rw[ASO (a:=d.reports) (b:=m) (by omega) (by omega),bindS];exact Ret.ok (.inr ⟨by omega,m,hm.1,hm.2,rfl⟩)
theorem AFi(hv:Vd d)(hd:0<=day/\day<=100000):Ret (K8 d day) (AEV d day):=by
 obtain⟨D,I,hD⟩:=ADj hv hd;unfold K8;rw[I,bindS];exact Ret.condF (by decide) (Ret.bind ((AMx hD hv).mono fun r H=>Ret.ok H))
theorem AIN(hv:Vd d){r r':List Report×Int}(h:AEV d day r)(E:AEV d day r'):r=r':=by
 rcases h with⟨D,rfl⟩|⟨D,m,H,C,rfl⟩<;>rcases E with⟨W,rfl⟩|⟨W,m',V,U,rfl⟩
 . rfl
 . omega
 . omega
 . rw[AB7 (H.trans V.symm) C U fun a b J I _ e=>V9 (AHK hv) a b (H.mem_iff.1 J) (H.mem_iff.1 I) e]
end S
namespace S
def stF(l:List Report)(day i:Int):Option Report:=(T (Z0 l day)).find? fun r=>decide (r.id=i)
theorem ASP{l:List Report}(I:(l.map (·.id)).Nodup){i:Int}{r:Report}:(l.find? fun r=>decide (r.id=i))=some r↔r∈l/\r.id=i:=by
 constructor
 . intro h;exact⟨AcF h,AbH (Acj (p:=fun r:Report=>decide (r.id=i)) h)⟩
 . rintro⟨h,rfl⟩;cases H:l.find? fun s=>decide (s.id=r.id) with
   |none=>exact absurd (AbL rfl) (List.find?_eq_none.1 H r h)
   |some g=>rw[V9 I g r (AcF H) h (AbH (Acj (p:=fun s:Report=>decide (s.id=r.id)) H))]
theorem AJ1{l:List Report}(h:VL l){day i:Int}{r:Report}:stF l day i=some r↔r∈T (Z0 l day)/\r.id=i:=ASP (AGd (AAu h day))
theorem AN5{l:List Report}(h:VL l){day:Int}(hd:0<=day/\day<=100000):V8 l day=some (stF l day):=by
 refine Ret.eq ?_;unfold V8;refine B9 (APR h hd) fun z W=>?_;obtain⟨out,e⟩:=z;obtain⟨rfl,U,_⟩:=W;have V:=U.length_eq;have C:=AK4 (AAu h day);have hnd:(out.map (·.id)).Nodup:=(U.map _).nodup_iff.2 (AGd (AAu h day));refine Ret.bind (C3 out.length (fun n (t:Int×A4 Int Report)=>t.1=n/\∀i r,t.2 i=some r↔r∈out.take n/\r.id=i) ⟨rfl,fun i r=>by simp[fnone]⟩ ?_ ?_)
 . rintro n H ⟨_,m⟩ ⟨rfl,hm⟩;dsimp only at hm H;refine Ret.condT (Y8 H) (Ret.bind (K1 H (Ret.bind (Ret.chk (by dsimp only at *;omega) (Ret.next ⟨by dsimp only;omega,fun i r=>?_⟩)))));dsimp only[B4];rw[G1 H];by_cases e:i=out[n].id
   . subst e;rw[AbO rfl];constructor
     . intro I;cases I;exact⟨.inr rfl,rfl⟩
     . rintro⟨I|I,J⟩
       . rw[V9 hnd r _ (Acr I) (AbX H) J]
       . rw[I]
   . rw[if_neg e,hm];constructor
     . rintro⟨I,J⟩;exact⟨.inl I,J⟩
     . rintro⟨I|rfl,J⟩
       . exact⟨I,J⟩
       . exact absurd J.symm e
 . rintro⟨_,m⟩ ⟨rfl,hm⟩;dsimp only at hm;rw[Abf]at hm;refine Ret.condF (Y9 (AbQ _)) (Ret.done (Ret.ok ?_));funext i;apply Ac7;intro r;rw[hm,AJ1 h,U.mem_iff]
def wrong(d:Desk)(l:List Report)(x:Dispute)(a:Asked):Bool:=
 decide (a.account=((fct d.reports x.report).getD AFg).account)&&(decide (a.day<(dec d x).day)&&(decide ((dec d x).day-a.day<=d.terms.lately)&&(match stF l a.day x.report with
  |none=>false
  |some was=>decide (was.about<=a.day)&&(match stF l (dec d x).day x.report with
   |none=>true
   |some now=>!decide (was=now)))))
structure AskV(asked:List Asked):Prop where
 len:asked.length<=40
 v:∀a∈asked,(0<=a.id/\a.id<=999999)/\(0<=a.who/\a.who<=999999)/\(0<=a.account/\a.account<=999999)/\(0<=a.day/\a.day<=100000)
 up:∀(n:Nat) (h:n+1<asked.length),asked[n].id<asked[n+1].id
def ACH(d:Desk)(l:List Report)(x:Dispute)(f:A4 (Int×Int) Int)(a:Asked):A4 (Int×Int) Int:=if wrong d l x a then B4 f (x.id,a.who) a.id else f
def AGe(d:Desk)(l:List Report)(asked:List Asked)(f:A4 (Int×Int) Int)(y:Dispute×Verdict):A4 (Int×Int) Int:=asked.reverse.foldl (ACH d l y.1) f
def ADl(d:Desk)(l:List Report)(asked:List Asked)(day:Int):A4 (Int×Int) Int:=(decd d day).foldl (AGe d l asked) fnone
theorem AQx:∀(l:List Asked) (n:Nat),n<=l.length->(bwN l n).map (·.2)=(l.take n).reverse
 |l,0,_=>rfl
 |l,n+1,h=>by
  have H:n<l.length:=by omega
  unfold bwN;rw[AbI H];show l[n]::(bwN l n).map (·.2)=_;rw[AQx l n (by omega),Q3 H,List.reverse_append];rfl
theorem AMy:∀(l:List Asked) (n:Nat) (y:Int×Asked),n<=l.length->y∈bwN l n->y.2∈l/\0<=y.1/\y.1<n
 |l,0,y,_,h=>by cases h
 |l,n+1,y,I,h=>by
  have H:n<l.length:=by omega
  unfold bwN at h;rw[AbI H]at h;rcases mem_cons.1 h with rfl|h
  . exact⟨AbX H,by dsimp only;omega,by dsimp only;omega⟩
  . have:=AMy l n y (by omega) h;exact⟨this.1,this.2.1,by omega⟩
theorem APa{asked:List Asked}(H:AskV asked):X4 asked=some (bwN asked asked.length):=by
 unfold X4;refine AbO fun y hy=>?_;obtain⟨I,U,J⟩:=AMy asked asked.length y (AbQ _) hy;have hl:=H.len;obtain⟨v1,v2,v3,v4⟩:=H.v _ I;have e:AEN [.int .i64,.st 5] y↔InK .i64 y.1/\(InK .i64 y.2.id/\InK .i64 y.2.who/\InK .i64 y.2.account/\InK .i64 y.2.day):=AdJ;rw[e];exact⟨W0 (by omega),W0 (by omega),W0 (by omega),W0 (by omega),W0 (by omega)⟩
section
variable{d:Desk}{D:Desk_99}(hD:Dw d D)(hv:Vd d){l:List Report}(hl:VL l)
include hD hv hl
variable{x:Dispute}{f:A4 (Int×Int) Int}
theorem AYt(hx:x∈d.disputes):ABL l x (dec d x)=some ((stF l (dec d x).day x.report).getD AFg,(stF l (dec d x).day x.report).isSome):=by
 unfold ABL;rw[AN5 hl (AGZ hv hx),bindS];rfl
theorem AYu(hx:x∈d.disputes){a:Int×Asked}(J:0<=a.2.day/\a.2.day<=100000):Go.Proofs.YtgioiejbphljoaaGreatDoor.inB D l x (dec d x) ((stF l (dec d x).day x.report).getD AFg) ((stF l (dec d x).day x.report).isSome) f a=some (ACH d l x f a.2):=by
 have I:=AGZ hv hx;unfold Go.Proofs.YtgioiejbphljoaaGreatDoor.inB ACH;have key:∃b:Bool⊕Unit,AAv D l x (dec d x) ((stF l (dec d x).day x.report).getD AFg) ((stF l (dec d x).day x.report).isSome) a.2=some b/\(wrong d l x a.2=true↔b=.inl true):=by
  show Ret _ fun b:Bool⊕Unit=>wrong d l x a.2=true↔b=.inl true;unfold AAv wrong;rw[hD.f,hD.d];have no:∀{o:Option (Bool⊕Unit)} {b:Bool},b=false->Ret (cond true (some (Sum.inr ())) o) fun c:Bool⊕Unit=>b=true↔c=.inl true:=fun {o b} h=>Ret.condT rfl (Ret.ok (by subst h;exact⟨(fun h=>by cases h),(fun h=>by cases h)⟩));refine Ret.bind (Ret.cond (fun c=>Ret.ok (no ?_)) fun c=>Ret.cond (fun c2=>Ret.ok (no ?_)) fun c2=>Ret.bind (Ret.chk (by omega) (Ret.ok ?_)))
  . have c:decide (a.2.account=((fct d.reports x.report).getD AFg).account)=false:=by
     rw[Bool.not_eq_true']at c;exact c
    rw[c];rfl
  . have c2:=AbH c2;rw[AbK (show ¬a.2.day<(dec d x).day by omega)];simp
  have c:decide (a.2.account=((fct d.reports x.report).getD AFg).account)=true:=by
   rw[Bool.not_eq_false']at c;exact c
  have c2:=AbM c2;rw[c,AbL (show a.2.day<(dec d x).day by omega),Bool.true_and,Bool.true_and];refine Ret.cond (fun c3=>Ret.ok ?_) fun c3=>?_
  . have c3:=AbH c3;rw[AbK (show ¬(dec d x).day-a.2.day<=d.terms.lately by omega)];exact⟨(fun h=>by cases h),(fun h=>by cases h)⟩
  have c3:=AbM c3;rw[AbL (show(dec d x).day-a.2.day<=d.terms.lately by omega),Bool.true_and];rw[AN5 hl J,bindS];have fin:∀{b b':Bool},b=b'->Ret (some (Sum.inl b':Bool⊕Unit)) fun c:Bool⊕Unit=>b=true↔c=.inl true:=fun {b b'} h=>Ret.ok (by subst h;exact⟨fun h=>by rw[h],fun h=>by injection h⟩);refine Ret.bind ?_;cases V:stF l a.2.day x.report with
  |none=>exact Ret.condF rfl (Ret.ok (fin rfl))
  |some was=>
   refine Ret.condT rfl (Ret.cond (fun c4=>?_) fun c4=>Ret.ok (fin ?_))
   . have c4:decide (was.about<=a.2.day)=true:=c4
     dsimp only
     rw[c4,Bool.true_and]
     cases W:stF l (dec d x).day x.report with
     |none=>exact Ret.condT rfl (Ret.ok (fin rfl))
     |some now=>exact Ret.condF rfl (Ret.ok (fin rfl))
   . have c4:decide (was.about<=a.2.day)=false:=c4
     dsimp only
     rw[c4];rfl
 obtain⟨b,U,H⟩:=key;rw[U,bindS];congr 1;by_cases c:wrong d l x a.2=true
 . rw[AbO c,H.1 c]
 . rw[if_neg c];cases b with
   |inr u=>rfl
   |inl b=>
    cases b with
    |false=>rfl
    |true=>exact absurd (H.2 rfl) c
theorem AWg{asked:List Asked}(J:AskV asked){y:Dispute×Verdict}{day:Int}(hy:y∈decd d day):AIL D asked l f y=some (AGe d l asked f y):=by
 obtain⟨U,E,W⟩:=decd_mem.1 hy;refine Ret.eq ?_;unfold AIL;rw[W,AYt hD hv hl U,bindS,APa J,bindS];refine Ret.over (fun pre (g:A4 (Int×Int) Int)=>g=(pre.map (·.2)).foldl (ACH d l y.1) f) rfl (fun pre a s V C I H=>?_) fun s H=>?_
 . have:=J.v _ (AMy asked asked.length a (AbQ _) I).1;rw[AYu hD hv hl U this.2.2.2];refine Ret.ok ?_;rw[AbT,Acz,<-H];rfl
 . rw[H,AQx asked _ (AbQ _),Abf];rfl
end
theorem AFj{κ α:Type}[DecidableEq κ]{f:A4 κ α}{l:List (κ×α)}(h:Lists f l)(a:κ)(z:α):∃l',Lists (B4 f a z) l'/\l'.length<=l.length+1:=by
 by_cases c:∃x∈l,x.1=a
 . obtain⟨⟨a',y⟩,hx,rfl⟩:=c;obtain⟨j,H⟩:=Abj hx;exact⟨_,h.set H z,by rw[AcX];omega⟩
 . exact⟨_,h.push z fun x hx e=>c ⟨x,hx,e⟩,by simp⟩
theorem AKi{d:Desk}{l:List Report}{asked:List Asked}:∀(ys:List (Dispute×Verdict)) (f:A4 (Int×Int) Int) (xs:List ((Int×Int)×Int)),Lists f xs->∃xs',Lists (ys.foldl (AGe d l asked) f) xs'/\xs'.length<=xs.length+ys.length*asked.length:=by
 have inner:∀(aq:List Asked) (x:Dispute) (f:A4 (Int×Int) Int) (xs:List ((Int×Int)×Int)),Lists f xs->∃xs',Lists (aq.foldl (ACH d l x) f) xs'/\xs'.length<=xs.length+aq.length:=by
  intro aq;induction aq with
  |nil=>intro x f xs h;exact⟨xs,h,by simp⟩
  |cons a aq ih=>
   intro x f xs h
   have:∃xs',Lists (ACH d l x f a) xs'/\xs'.length<=xs.length+1:=by
    unfold ACH;split
    . exact AFj h _ _
    . exact⟨xs,h,by omega⟩
   obtain⟨xs',I,J⟩:=this
   obtain⟨xs2,H,U⟩:=ih x _ xs' I
   exact⟨xs2,H,by simp only[List.length_cons];omega⟩
 intro ys;induction ys with
 |nil=>intro f xs h;exact⟨xs,h,by simp⟩
 |cons y ys ih=>
  intro f xs h
  obtain⟨xs',I,J⟩:=inner asked.reverse y.1 f xs h
  obtain⟨xs2,H,U⟩:=ih _ xs' I
  refine⟨xs2,H,?_⟩
  rw[List.length_reverse]at J
  simp only[List.length_cons,Nat.add_mul,Nat.one_mul]
  omega
def mkL(y:(Int×Int)×Int):Letter:=Letter.mk y.1.1 y.1.2 y.2
structure LetS(F:A4 (Int×Int) Int)(out:List Letter):Prop where
 mem:∀z:Letter,z∈out↔F (z.dispute,z.who)=some z.asked
 nd:(out.map fun z=>(z.dispute,z.who)).Nodup
 ord:out.Pairwise (le2 (·.dispute) (·.who))
variable{F:A4 (Int×Int) Int}{asked:List Asked}{d:Desk}{day:Int}
theorem AN6{out:List Letter}(h:(out.map fun z=>(z.dispute,z.who)).Nodup):∀a b,a∈out->b∈out->a.dispute=b.dispute->a.who=b.who->a=b:=fun a b J I e1 e2=>by
 rw[List.Nodup,AcU]at h;obtain⟨i,hi,rfl⟩:=AcJ J;obtain⟨j,H,rfl⟩:=AcJ I;rw[AcE]at h;have e:(out[i].dispute,out[i].who)=(out[j].dispute,out[j].who):=by rw[e1,e2]
 rcases AdF i j with c|c|c
 . exact absurd e (h i j hi H c)
 . subst c;rfl
 . exact absurd e.symm (h j i H hi c)
theorem AIO{a b:List Letter}(H:LetS F a)(I:LetS F b):a=b:=by
 have nd:∀{x:List Letter},LetS F x->x.Nodup:=fun h=>(List.pairwise_map.1 h.nd).imp fun h e=>h (by rw[e]);refine AB7 ((Abw (nd H) (nd I)).2 fun z=>by rw[H.mem,I.mem]) H.ord I.ord (AN6 H.nd)
theorem AQz{xs0:List ((Int×Int)×Int)}(I:Lists F xs0)(hl:xs0.length<=100000):Ret (X6 F fun xs=>(List.foldlM AFf [] xs).bind M4) fun r=>r.2=0/\LetS F r.1:=by
 have each:∀xs,Lists F xs->Ret ((List.foldlM AFf [] xs).bind M4) fun r=>r=(r.1,0)/\LetS F r.1:=fun xs H=>by
  have W:xs.Perm xs0:=(Abw ((List.pairwise_map.1 H.1).imp fun h e=>h (by rw[e])) ((List.pairwise_map.1 I.1).imp fun h e=>h (by rw[e]))).2 fun y=>(H.2 y.1 y.2).trans (I.2 y.1 y.2).symm;have J:=W.length_eq;have fold:∀(l:List ((Int×Int)×Int)) (pre:List Letter),pre.length+l.length<=1000000->List.foldlM AFf pre l=some (pre++l.map mkL):=by
   intro l;induction l with
   |nil=>intro pre _;simp
   |cons y l ih=>
    intro pre h
    rw[Ab8]at h
    rw[Ab9]
    have:AFf pre y=some (pre++[mkL y]):=AAH (by simp;omega) (by simp;omega)
    rw[this]
    show List.foldlM AFf (pre++[mkL y]) l=_
    rw[ih _ (by simp;omega)]
    simp
  rw[fold xs [] (by simp;omega),Abb,bindS];unfold M4;have hnd:((xs.map mkL).map fun z=>(z.dispute,z.who)).Nodup:=by
   rw[Abl];exact H.1
  have C:=AJG (x:=xs.map mkL) (cmp:=fun a b=>K7 a b [49,50]) (k1:=(·.dispute)) (k2:=(·.who)) (fun a b=>AHH (D:=fd118.D) (fun _=>rfl) (fun _=>rfl)) (AN6 hnd) (by rw[Abd];omega);refine Ret.bind (Ret.bind (C.mono fun m hm=>Ret.ok (Ret.ok ⟨rfl,fun z=>?_,(hm.1.map _).nodup_iff.2 hnd,hm.2⟩)));rw[hm.1.mem_iff,AcO,<-H.2];constructor
  . rintro⟨y,hy,rfl⟩;exact hy
  . intro h;exact⟨_,h,rfl⟩
 obtain⟨r,Q,V,U⟩:=each _ I;refine⟨r,AJS I fun xs H=>?_,by rw[V],U⟩;obtain⟨r',O,K,E⟩:=each xs H;rw[O,K,V,AIO E U]
theorem AUc(hl:asked.length<=1000000):Ret (P1 asked) fun b=>b=true->AskV asked:=by
 unfold P1;refine Ret.cond (fun _=>Ret.ok fun h=>by cases h) fun c1=>?_;have c1:=AbM c1;refine Ret.bind (C3 asked.length (fun n (t:Int)=>t=n/\(∀a∈asked.take n,(0<=a.id/\a.id<=999999)/\(0<=a.who/\a.who<=999999)/\(0<=a.account/\a.account<=999999)/\(0<=a.day/\a.day<=100000))/\∀(m:Nat) (h:m+1<asked.length),m+1<n->asked[m].id<asked[m+1].id) ⟨rfl,fun a h=>by simp at h,fun m _ h=>by omega⟩ ?_ ?_)
 . rintro n H _ ⟨rfl,hv,U⟩;have bad:∀{o:Option (Int⊕(Unit⊕Bool))} {N:Int->Prop},Ret (cond true (some (Sum.inr (Sum.inr false))) o) (Nxt N (fun a=>Ret (Sum.elim (fun _=>some true) (fun r27=>some r27) a) fun b=>b=true->AskV asked)):=fun {o N}=>Ret.condT rfl (Ret.done (Ret.elimR (Ret.ok fun h=>by cases h)));refine Ret.condT (Y8 H) (Ret.bind (K1 H (Ret.bind ?_)));rw[within5,bindS];refine Ret.no bad fun c2=>?_;rw[within5,bindS];refine Ret.no bad fun c3=>?_;rw[within5,bindS];refine Ret.no bad fun c4=>?_;rw[within5,bindS];refine Ret.no bad fun c5=>?_;have J:∀a∈asked.take (n+1),(0<=a.id/\a.id<=999999)/\(0<=a.who/\a.who<=999999)/\(0<=a.account/\a.account<=999999)/\(0<=a.day/\a.day<=100000):=fun a I=>by
    rw[G1 H]at I;rcases I with I|rfl
    . exact hv a I
    . exact⟨H2 c2,H2 c3,H2 c4,H2 c5⟩
   have go:(∀(m:Nat) (h:m+1<asked.length),m+1<n+1->asked[m].id<asked[m+1].id)->Ret (cond false (some (Sum.inr (Sum.inr false))) ((chk .i64 ((n:Int)+1)).bind fun n20=>some (Sum.inl n20))) (Nxt (fun (t:Int)=>t=((n+1:Nat):Int)/\(∀a∈asked.take (n+1),(0<=a.id/\a.id<=999999)/\(0<=a.who/\a.who<=999999)/\(0<=a.account/\a.account<=999999)/\(0<=a.day/\a.day<=100000))/\∀(m:Nat) (h:m+1<asked.length),m+1<n+1->asked[m].id<asked[m+1].id) (fun a=>Ret (Sum.elim (fun (_:Unit)=>some true) (fun r27=>some r27) a) fun b=>b=true->AskV asked)):=fun h=>Ret.condF rfl (Ret.bind (Ret.chk (by omega) (Ret.next ⟨by omega,J,h⟩)));refine Ret.cond (fun c6=>?_) fun c6=>Ret.ok (go fun m h hm=>?_)
   . have c6:=AbH c6;obtain⟨k,rfl⟩:∃k,n=k+1:=⟨n-1,by omega⟩;have hk:k<asked.length:=by omega
     refine Ret.bind (Ret.chk (by omega) (Ret.bind ?_));rw[show((k+1:Nat):Int)-1=(k:Int) by omega];refine K1 hk (Ret.ok ?_);by_cases c7:asked[k+1].id<=asked[k].id
     . rw[AbL c7];exact bad
     . rw[AbK c7];refine go fun m h hm=>?_;by_cases e:m=k
       . subst e;omega
       . exact U m h (by omega)
   . have c6:=AbM c6;omega
 . rintro _ ⟨rfl,hv,U⟩;rw[Abf]at hv;exact Ret.condF (Y9 (AbQ _)) (Ret.done (Ret.elimL (Ret.ok fun _=>⟨by omega,hv,fun n h=>U n h h⟩)))
def LtS(d:Desk)(asked:List Asked)(day:Int)(r:List Letter×Int):Prop:=∃z,AEV d day z/\((z.2=9/\r=([],9))\/(z.2=0/\r.2=0/\LetS (ADl d z.1 asked day) r.1))
theorem AGf(hv:Vd d){z:List Report×Int}(E:AEV d day z)(K:z.2=0):VL z.1:=by
 rcases E with⟨_,rfl⟩|⟨F,m,C,Q,rfl⟩
 . cases K
 have mm:∀r∈m,∃x∈d.disputes,r=ACf d x (dec d x)/\3<=(dec d x).is_:=fun r H=>by
  have H:=C.mem_iff.1 H;unfold more at H;obtain⟨y,hy,rfl⟩:=mem_map.1 H;obtain⟨y1,y2,y3⟩:=decd_mem.1 hy;refine⟨y.1,y1,by rw[y3],?_⟩;unfold wh at y2;split at y2
  . exact y2
  . split at y2<;>omega
 refine⟨?_,fun r H=>?_,fun a J b I e=>?_⟩
 . dsimp only;rw[AbU,C.length_eq];exact F
 . rcases mem_append.1 H with H|H
   . exact hv.r.v r H
   . obtain⟨x,hx,rfl,O⟩:=mm r H;obtain⟨x1,x2,f,D,x3,x4⟩:=hv.x.v x hx;have V:=ABc D;obtain⟨u1,u2,u3,u4,u5,u6,u7,u8,_⟩:=hv.r.v f V.1;have W:=AGZ hv hx;have I:=ATF hv x;have U:f.id≠x.id:=x2 f V.1;unfold ACf;rw[D];dsimp only[Option.getD_some];split
     . exact⟨(show(1:Int)<=8/\(8:Int)<=9 from by decide),x1,u3,u4,u2,W,I.2.2.2.2.1,I.2.2.2.2.2,(fun h=>absurd (show(8:Int)<=7 from h) (by decide)),(fun _=>U),(fun h=>absurd (show(8:Int)=9 from h) (by decide))⟩
     . exact⟨(show(1:Int)<=9/\(9:Int)<=9 from by decide),x1,u3,u4,u2,W,(show(0:Int)<=0/\(0:Int)<=100000 from by decide),(show(0:Int)<=0/\(0:Int)<=0 from by decide),(fun h=>absurd (show(9:Int)<=7 from h) (by decide)),(fun _=>U),(fun _=>rfl)⟩
 . rcases mem_append.1 J with J|J<;>rcases mem_append.1 I with I|I
   . exact hv.r.cons a J b I e
   . obtain⟨x,hx,rfl,_⟩:=mm b I;rw[AMw]at e;exact absurd e ((hv.x.v x hx).2.1 a J)
   . obtain⟨x,hx,rfl,_⟩:=mm a J;rw[AMw]at e;exact absurd e.symm ((hv.x.v x hx).2.1 b I)
   . exact V9 (AHK hv) a b (C.mem_iff.1 J) (C.mem_iff.1 I) e
theorem AGg(hv:Vd d)(I:AskV asked)(hd:0<=day/\day<=100000):Ret (F4 d asked day) (LtS d asked day):=by
 obtain⟨D,B,hD⟩:=ADj hv hd;have O:=I.len;unfold F4;refine Ret.bind ?_;unfold ACe;rw[B,bindS];refine Ret.condF (by decide) (Ret.bind (C3 asked.length (fun n (t:Int×Int)=>t.2=n/\-1<=t.1/\t.1<=999999/\∀(h:n<asked.length),t.1<asked[n].id) ⟨rfl,by decide,by decide,fun h=>?_⟩ ?_ ?_))
 . have:=(I.v _ (AbX h)).1;dsimp only;omega
 . rintro n H ⟨p,_⟩ ⟨rfl,F,E,K⟩;dsimp only at K F E;have C:=K H;obtain⟨v1,v2,v3,v4⟩:=I.v _ (AbX H);refine Ret.condT (Y8 H) (Ret.bind (K1 H (Ret.bind (Ret.bind (Ret.chk (by omega) ?_)))));rw[d_in1,AAr (by omega),bindS];refine Ret.condF rfl ?_;rw[d_in2,AAr v2,AAr v3,bindS];refine Ret.condF rfl ?_;rw[d_in1,AAr v4,bindS];refine Ret.ok (Ret.condF rfl (Ret.bind (Ret.chk (by omega) (Ret.next ⟨by dsimp only;omega,by dsimp only;omega,by dsimp only;omega,fun h=>I.up n h⟩))))
 . rintro⟨p,_⟩ ⟨rfl,_⟩;refine Ret.condF (Y9 (AbQ _)) (Ret.done (Ret.elimL (Ret.condF (AbK (by omega)) (B9 (AMx hD hv (day:=day)) fun z J=>?_))));obtain⟨l,e⟩:=z;rcases id J with⟨g1,g2⟩|⟨g1,m,g2,g3,g4⟩
   . obtain⟨rfl,rfl⟩:=Acg g2;exact Ret.condT rfl (Ret.ok (Ret.elimR (Ret.ok ⟨_,J,.inl ⟨rfl,rfl⟩⟩)))
   . obtain⟨rfl,rfl⟩:=Acg g4;have Q:=AGf hv J rfl;refine Ret.condF rfl (Ret.ok (Ret.elimL ?_));dsimp only;rw[AKh hD hv,bindS];refine Ret.bind (Ret.over (fun pre (f:A4 (Int×Int) Int)=>f=pre.foldl (AGe d (d.reports++m) asked) fnone) rfl (fun pre y s C K hy W=>?_) fun s W=>?_)
     . rw[AWg hD hv Q I hy];refine Ret.ok ?_;rw[Acz,<-W];rfl
     . obtain⟨xs,V,U⟩:=AKi (d:=d) (l:=d.reports++m) (asked:=asked) (decd d day) fnone [] ⟨AcW,fun a y=>by simp[fnone]⟩;have A:=AFh (d:=d) (day:=day);have Y:=hv.x.len;have:(decd d day).length*asked.length<=20*40:=Nat.mul_le_mul (by omega) O;rw[W];exact(AQz V (by simp only[List.length_nil]at U;omega)).mono fun r T=>⟨_,J,.inr ⟨rfl,T.1,T.2⟩⟩
end S
end Go.Proofs.YtgioiejbphljoaaGreatDoor
namespace Go.Proofs.YtgioiejbphljoaaGreatDoor
open Go Go.Sx Go.Rx Go.RowKit
def D0:Desk:=Desk.mk (Terms.mk 30 100 60) ([(Report.mk 1 70 5 12 10 3 500 0),(Report.mk 2 70 5 22 20 5 40 0),(Report.mk 3 70 5 26 25 6 500 0)]) ([(Dispute.mk 51 1 40),(Dispute.mk 52 2 41),(Dispute.mk 53 3 42)]) ([(Answer.mk 1 51 50 2 10 450),(Answer.mk 2 52 72 3 0 0),(Answer.mk 3 53 60 1 0 0),(Answer.mk 4 53 61 3 0 0)])
def A0:List Asked:=[(Asked.mk 5 900 5 15),(Asked.mk 6 900 5 45),(Asked.mk 7 901 5 55),(Asked.mk 8 902 6 45)]
def l33:List Report:=D0.reports++[Report.mk 51 70 5 50 10 8 450 1,Report.mk 52 70 5 72 0 9 0 2]
def AMz:Prop:=∃l x due,K8 D0 72=some (l,0)/\F4 D0 A0 72=some (x,0)/\P6 D0 45=some (due,0)/\AAt 51 49 1 50=some true/\AAt 52 72 5 72=some true/\AAt 53 90 2 60=some true/\R0 3 160 2=some true/\R0 3 161 0=some true/\R0 3 50 1=some true /\
 T3 l l33=some true/\O0 x [Letter.mk 51 900 5,Letter.mk 52 900 6,Letter.mk 52 901 7]=some true/\O6 due [51,52,53]=some true
open Classical in
def U4:Option Bool:=if AMz then some true else none
def ctr21:Ctr:=⟨[],[.d .bool],fun _=>U4⟩
variable{M:List Nat}{w:World}{w0:World}{L:A8}{σ:AS}
theorem AN8:GxOk prog gxb:=B1 trivial
theorem C33(D:MLt M w)(C:GlOk (P:=prog) M w):Calls prog 33 #[] w fun e w'=>∃vr vx va,e=.returned (.agg (toArray [.int .i64 30,.int .i64 100,.int .i64 60,vr,vx,va]))/\Sx.Own (enc (P:=prog) (.st 1)) 45 0 (ob vr++M) w' vr D0.reports/\(∀b∈ob vr,w.heap.size<=b)/\Ext w w':=by
 have O:Holds (P:=prog) w [] M ⟨[],[],[],[]⟩ (R1 0 []) w:=Holds.start D (fun t s W=>by cases W) ⟨trivial,C⟩;refine ABV (l:=[]) (fn:=f33) func33 rfl rfl rfl ?_;refine A3 ?_;refine ABd AN8 (by exact rfl) O fun L1 w1 F V=>?_;refine A3 ?_;refine ABd AN8 (by exact rfl) V fun L2 w2 E U=>?_;have K:=AFa (env':=[(0,.ptr 0 0)]) (res':=[(14,.own false (.sl 60 (.st 3)) D0.answers),(9,.own false (.sl 53 (.st 2)) D0.disputes),(5,.own false (.sl 45 (.st 1)) D0.reports),(0,.row 28 [.int .i64 30,.int .i64 100,.int .i64 60,.own 5,.own 9,.own 14])]) U ⟨rfl,trivial⟩ fun _=>rfl;clear V U;obtain⟨S,ρ,γ,μ,ι,H⟩:=K;obtain⟨v0,l0,bb0,I,rfl⟩:=H.env 0 (.ptr 0 0) rfl;obtain⟨b0,e0,r0,o0,i0⟩:=H.rowAt (i:=0) (e:=28) (l:=[.int .i64 30,.int .i64 100,.int .i64 60,.own 5,.own 9,.own 14]) rfl;rw[I]at e0;cases e0;obtain⟨qa,g4,k0,oa⟩:=AAs o0;obtain⟨qb,ea,k1,ob⟩:=AAs oa;obtain⟨qc,eb,k2,oc⟩:=AAs ob;obtain⟨qd,ec,od⟩:=ADD oc;obtain⟨qe,ed,oe⟩:=ADD od;obtain⟨qf,ee,of⟩:=ADD oe;have of:qf=[]:=of;rw[of]at ee;rw[ee]at ed;rw[ed]at ec;rw[ec]at eb;rw[eb]at ea;rw[ea]at g4;rw[g4]at r0;have i5:=H.res 5 (.own false (.sl 45 (.st 1)) D0.reports) rfl;refine C4 ?_;have J:=AIf (P:=prog) (c:=.sl 45 (.st 1)) (x:=D0.reports) (v:=ρ 5) H.hp (ι 5) i5;exact FinM.of (H4 (rs:=[.cell 0 28]) (vs:=[_]) rfl (.cons (.agg l0 r0.rd.cells isAgg28 rfl sizeOf28) .nil) rfl ⟨ρ 5,ρ 9,ρ 14,rfl,J.1,J.2,H.hp.kp⟩)
def AM0:Gx:={ gxb with fs:=[(14,ctr14),(16,ctr16),(18,ctr18),(19,ctr19),(24,ctr24),(31,ctr31),(32,ctr32),(33,ctr33),(37,ctr37),(54,ctr54)] }
theorem J4:GxOk prog AM0:=B1 ⟨⟨ok14,call14⟩,⟨ok16,call16⟩,⟨ok18,call18⟩,⟨ok19,call19⟩,⟨ok24,call24⟩,⟨ok31,call31⟩,⟨ok32,call32⟩,⟨ok33,call33⟩,⟨ok37,call37⟩,⟨ok54,call54⟩,trivial⟩
def APb:Code->Nat->List Oper
 |.region _ o _,0=>o.toList
 |.seq a _,0=>APb a 0
 |.seq _ b,n+1=>APb b n
 |_,_=>[]
noncomputable def c21:Code:=match Tryz.f21.body with
 |some c=>c
 |none=>.skip
def o21:List Oper:=APb c21 4
theorem I4[Trk][Sg][Sf]{P:Program}[Se P][Sl (P:=P)][Anch]{Mu M:List Nat}{G:Gx}{N:Nat}{ds:List Deferred}{A B:A5}{X:Nat->A5}{Z:List PanicEntry->A5}{all l:List Oper}{σ σ':AS}{Y:Type}{o:Option Y}{x:Y}{K:Y->Option AS}(J:GxOk P G)(n:Nat)(I:Holds (P:=P) w0 Mu M σ L w)(H:o=some x)(h:D4 G N all some (l.take n) σ=Option.bind o K)(hk:K x=some σ')(hA:∀L' w',EnvS (C6 (l.take n)) L L'->Holds (P:=P) w0 Mu M σ' L' w'->Reg P N (toArray all) .seq (l.drop n) ds L' w' A B X Z):Reg P N (toArray all) .seq l ds L w A B X Z:=by
 have:=Holds.ops (P:=P) (A:=A) (B:=B) (X:=X) (Z:=Z) (ds:=ds) (l:=l.take n) (rest:=l.drop n) J (by rw[h,H];exact hk) I hA;rwa [Aco]at this
def r33:List Report:=[Report.mk 51 70 5 50 10 8 450 1,Report.mk 52 70 5 72 0 9 0 2]
def s33(σ:AS)(l:List Report):AS:=apps (some 50) ([.del 49 (.dat (.sl (.st 1)) r33)]++[.hnd 46 (.own false (.sl 45 (.st 1)) l),.put (.own 46)]) { σ with env:=(43,.bool true)::σ.env }
theorem AYv(_:Holds (P:=prog) w0 [] M σ L w)(e:D4 AM0 Tryz.f21.ntmps o21 some (List.take 1 (List.drop 27 o21)) σ=AFG AM0 50 (A1 σ.res) (fun l=>some (apps (some 50) l { σ with env:=(43,.bool true)::σ.env })) .append [.own 46,.own 49] [24,24])(e2:AFG AM0 50 (A1 σ.res) (fun l=>some (apps (some 50) l { σ with env:=(43,.bool true)::σ.env })) .append [.own 46,.own 49] [24,24]=AOh 50 (A1 σ.res) (fun l=>some (apps (some 50) l { σ with env:=(43,.bool true)::σ.env })) 45 (.st 1) 64 [.del 49 (.dat (.sl (.st 1)) r33)] [49] r33 (.own 46))(e3:A1 σ.res 46=some (AR.own false (.sl 45 (.st 1)) D0.reports)):
  D4 AM0 Tryz.f21.ntmps o21 some (List.take 1 (List.drop 27 o21)) σ=(appo 64 D0.reports r33).bind fun l=>some (s33 σ l):=by
 rw[e,e2]
 unfold AOh
 dsimp only
 rw[e3]
 kernel_rfl
theorem ANG[Trk][Sg][Sf]{P:Program}[Se P][Anch]{w0 w:World}{Mu M:List Nat}{L:A8}{σ:AS}{env':List (Nat×SV)}{res':List (Nat×AR)}(h:Holds (P:=P) w0 Mu M σ L w)(hE:AllE σ.env env')(hr:σ.res=res'):Holds (P:=P) w0 Mu M ⟨env',res',[],[]⟩ L w:=AFa h hE fun j=>by rw[hr]
theorem ok21:Ctr.ok prog 21 ctr21:=by
 refine⟨by decide,fun M w a vals r hM hg Y I=>?_⟩;have Y:vals=[]:=Y;subst Y;have I:U4=some r:=I;unfold U4 at I;by_cases hA:AMz;rotate_left
 . rw[if_neg hA]at I;cases I
 rw[AbO hA]at I;cases I
 obtain⟨l,x,due,a1,a2,a3,b1,b2,b3,b4,b5,b6,e1,e2,e3⟩:=hA;have h0:Holds (P:=prog) w [] M ⟨[],[],[],[]⟩ (R1 0 []) w:=Holds.start hM (fun t s T=>by cases T) ⟨trivial,hg⟩;refine ABV (l:=[]) (fn:=Tryz.f21) func21 rfl rfl rfl ?_;refine A3 ?_;refine ABd J4 (by exact rfl) h0 fun L1 w1 hE1 h1=>?_;refine A3 ?_;refine ABt J4 h1 a1 (by exact rfl) (by exact rfl) fun L2 w2 hE2 h2=>?_;refine A3 ?_;refine ABt J4 h2 a2 (by exact rfl) (by exact rfl) fun L3 w3 hE3 h3=>?_;refine A3 ?_;refine ABt J4 h3 a3 (by exact rfl) (by exact rfl) fun L4 w4 hE4 h4=>?_;refine A3 ?_;refine A7 ?_;show Reg prog _ (toArray o21) .seq o21 _ _ _ _ _ _ _;refine I4 J4 2 h4 b1 (by exact rfl) (by exact rfl) fun L5 w5 hE5 h5=>?_;refine I4 J4 3 h5 b2 (by exact rfl) (by exact rfl) fun L6 w6 hE6 z=>?_;refine I4 J4 3 z b3 (by exact rfl) (by exact rfl) fun L7 w7 hE7 y=>?_;refine I4 J4 3 y b4 (by exact rfl) (by exact rfl) fun L8 w8 hE8 u=>?_;refine I4 J4 3 u b5 (by exact rfl) (by exact rfl) fun L9 w9 hE9 q=>?_;refine I4 J4 3 q b6 (by exact rfl) (by exact rfl) fun L10 w10 p Q=>?_;refine I4 J4 5 Q (o:=some ()) (x:=()) (K:=fun _=>_) rfl (by exact rfl) (by exact rfl) fun L11 w11 n O=>?_;have H:=O.slotB (t:=43) (b:=true) rfl;obtain⟨S,ρ,γ,μ,ι,A⟩:=O;refine Reg.take (j:=20) (t:=43) rfl H ?_;refine H0 (xs:=[]) (vs:=[]) rfl call33 rfl ?_;refine(C33 (M:=mm S M) A.hp.mlt A.anch.2).mono fun e w12 h=>?_;obtain⟨vr,vx,va,rfl,U,V,W⟩:=h;refine⟨_,rfl,?_⟩;refine Reg.take (j:=20) (t:=43) rfl H ?_;refine AQ5 (cs:=[.int .i64 30,.int .i64 100,.int .i64 60,vr,vx,va]) rfl underlying28 rfl isAgg24 rfl rfl ?_;obtain⟨q1,q2⟩:=AJg (d:=none) A W (i:=46) (c:=.sl 45 (.st 1)) (x:=D0.reports) (v:=vr) ⟨trivial,U,V⟩;have F:Holds (P:=prog) w [] M _ _ w12:=⟨_,_,_,_,_,q1.put (d:=46) (s:=.own 46) (v:=vr) (q2 _)⟩;have E:=F.toL (L2:=(46,vr)::(45,.agg (toArray [.int .i64 30,.int .i64 100,.int .i64 60,vr,vx,va]))::L11) (fun t s T=>by
  have n45:¬45=t:=fun e=>by
   subst e;cases (show none=some s from T)
  by_cases e46:46=t
  . rw[look_cons,AbO e46,look_cons,AbO e46]
  . rw[look_cons,if_neg e46,look_cons,if_neg n45,look_cons,if_neg e46])
 have C:appo 64 D0.reports r33=some l33:=AAH (by decide) (by decide);refine I4 J4 3 E (o:=some ()) (x:=()) (K:=fun _=>_) rfl (by exact rfl) (by exact rfl) fun L13 w13 m J=>?_;refine I4 J4 1 J C (AYv J (by exact rfl) (by exact rfl) (by exact rfl)) rfl fun L14 w14 k D=>?_;have R:=ANG (env':=[(43,.bool true),(44,.own 9),(50,.own 46),(3,.own 15),(4,.int .i64 0),(5,.own 20),(6,.int .i64 0)]) (res':=[(46,.own false (.sl 45 (.st 1)) l33),(20,.own false (.sl 3 (.int .i64)) due),(15,.own false (.sl 70 (.st 6)) x),(9,.own false (.sl 45 (.st 1)) l)]) D ⟨by kernel_rfl,by kernel_rfl,by kernel_rfl,by kernel_rfl,by kernel_rfl,by kernel_rfl,by kernel_rfl,trivial⟩ (by kernel_rfl);clear h1 h2 h3 h4 h5 z y u q Q F E J D q1 q2;refine I4 J4 1 R e1 (by exact rfl) (by exact rfl) fun L17 w17 g Z=>?_;refine I4 J4 12 Z e2 (by exact rfl) (by exact rfl) fun L18 w18 f X=>?_;refine I4 J4 9 X e3 (by exact rfl) (by exact rfl) fun L19 w19 L G=>?_;refine I4 J4 2 G (o:=some ()) (x:=()) (K:=fun _=>_) rfl (by exact rfl) (by exact rfl) fun L20 w20 N B=>?_;refine Reg.nil ?_;refine C4 ?_;exact FinM.of (AGR J4 (cs:=[.d .bool]) rfl (by exact rfl) B)
end Go.Proofs.YtgioiejbphljoaaGreatDoor
namespace Go.Proofs.YtgioiejbphljoaaGreatDoor
open Go Go.Sx Go.Rx
namespace S
def AGh(d:Desk)(l:List Report)(x:Dispute)(asked:List Asked)(who:Int):Option Int:=(asked.find? fun a=>wrong d l x a&&decide (a.who=who)).map (·.id)
variable{d:Desk}{x:Dispute}{asked:List Asked}{day:Int}
theorem ATG{d:Desk}{l:List Report}{x:Dispute}:∀(aq:List Asked) (f:A4 (Int×Int) Int) (k:Int×Int),aq.reverse.foldl (ACH d l x) f k=if k.1=x.id then(match AGh d l x aq k.2 with
  |some z=>some z
  |none=>f k) else f k
 |[],f,k=>by simp[AGh]
 |a::aq,f,k=>by
  rw[List.reverse_cons,Acz,List.foldl_cons,List.foldl_nil];generalize I:aq.reverse.foldl (ACH d l x) f=g;have hi:=ATG (d:=d) (l:=l) (x:=x) aq f k;rw[I]at hi;unfold ACH AGh;rw[List.find?_cons];by_cases H:wrong d l x a=true
  . rw[H,AbO rfl,Bool.true_and];obtain⟨k1,k2⟩:=k;dsimp only at hi ⊢;by_cases e1:k1=x.id
    . subst e1;rw[AbO rfl];by_cases e:a.who=k2
      . subst e;simp[B4]
      . have e2:¬k2=a.who:=fun h=>e h.symm;rw[AbK e];rw[AbO rfl]at hi;unfold B4;rw[if_neg (fun h=>e2 (Acg h).2),hi];rfl
    . rw[if_neg e1]at hi ⊢;unfold B4;rw[if_neg (fun h=>e1 (Acg h).1),hi]
  . have H:wrong d l x a=false:=by simpa using H
    rw[H];simp only[Bool.false_eq_true,if_false,Bool.false_and];rw[hi];rfl
theorem APc{d:Desk}{l:List Report}{asked:List Asked}{k:Int×Int}:∀(ys:List (Dispute×Verdict)) (f:A4 (Int×Int) Int),(ys.map (·.1.id)).Nodup->(ys.foldl (AGe d l asked) f) k=match ys.find? fun y=>decide (y.1.id=k.1) with
  |some y=>(match AGh d l y.1 asked k.2 with
   |some z=>some z
   |none=>f k)
  |none=>f k
 |[],f,_=>rfl
 |y::ys,f,h=>by
  rw[AbV,List.nodup_cons]at h;rw[List.foldl_cons,APc ys _ h.2,List.find?_cons];have e1:AGe d l asked f y k=if k.1=y.1.id then(match AGh d l y.1 asked k.2 with
   |some z=>some z
   |none=>f k) else f k:=ATG asked f k
  by_cases e:y.1.id=k.1
  . rw[AbL e];have I:(ys.find? fun y=>decide (y.1.id=k.1))=none:=List.find?_eq_none.2 fun z H hd=>h.1 (mem_map.2 ⟨z,H,(AbH hd).trans e.symm⟩);rw[I];show AGe d l asked f y k=_;rw[e1,AbO e.symm]
  . rw[AbK e];have e2:AGe d l asked f y k=f k:=by rw[e1,if_neg fun h=>e h.symm]
    rw[e2]
theorem AQ0(hv:Vd d){l:List Report}(hx:x∈d.disputes)(who:Int):ADl d l asked day (x.id,who)=if 3<=wh d x day then AGh d l x asked who else none:=by
 have hnd:((decd d day).map (·.1.id)).Nodup:=by
  unfold decd;rw[Abl];exact(AcN _ Abu).nodup hv.x.nd
 unfold ADl;rw[APc _ _ hnd];cases H:(decd d day).find? fun y=>decide (y.1.id=(x.id,who).1) with
 |none=>
  have:¬3<=wh d x day:=fun I=>absurd (AbL rfl) (List.find?_eq_none.1 H (x,dec d x) (decd_mem.2 ⟨hx,I,rfl⟩))
  rw[if_neg this];rfl
 |some y=>
  obtain⟨y1,y2,_⟩:=decd_mem.1 (AcF H)
  have:y.1=x:=V9 hv.x.nd y.1 x y1 hx (AbH (Acj (p:=fun y:Dispute×Verdict=>decide (y.1.id=(x.id,who).1)) H))
  rw[this]at y2
  rw[AbO y2]
  dsimp only
  rw[this]
  cases AGh d l x asked who<;>rfl
theorem AQ1{l:List Report}(hv:Vd d){i who z:Int}(h:ADl d l asked day (i,who)=some z):∃x∈d.disputes,x.id=i:=by
 have hnd:((decd d day).map (·.1.id)).Nodup:=by
  unfold decd;rw[Abl];exact(AcN _ Abu).nodup hv.x.nd
 unfold ADl at h;rw[APc _ _ hnd]at h;cases H:(decd d day).find? fun y=>decide (y.1.id=(i,who).1) with
 |none=>rw[H]at h;cases h
 |some y=>
  obtain⟨y1,y2,_⟩:=decd_mem.1 (AcF H)
  exact⟨y.1,y1,AbH (Acj (p:=fun y:Dispute×Verdict=>decide (y.1.id=(i,who).1)) H)⟩
end S
namespace S
theorem D0_VL:VL D0.reports:=by
 refine⟨by decide,fun r H=>?_,fun a J b I e=>?_⟩
 . have h:∀r∈D0.reports,V r:=by unfold V;decide +kernel
   exact h r H
 . have h:∀a∈D0.reports,∀b∈D0.reports,a.id=b.id->a=b:=by decide +kernel
   exact h a J b I e
theorem AEG:Vd D0:=by
 refine⟨?_,D0_VL,⟨by decide,fun x hx=>?_,by decide +kernel⟩,by decide,fun a U=>?_,by decide +kernel⟩
 . unfold TV;decide +kernel
 . have h:∀x∈D0.disputes,((0<=x.id/\x.id<=999999)/\(∀r∈D0.reports,r.id≠x.id))/\(match fct D0.reports x.report with
    |none=>false
    |some f=>decide (f.made<=x.day/\x.day<=100000-D0.terms.answer-1))=true:=by decide +kernel
   obtain⟨J,H⟩:=h x hx;cases I:fct D0.reports x.report with
   |none=>rw[I]at H;cases H
   |some f=>rw[I]at H;exact⟨J.1,J.2,f,I,AbH H⟩
 . have h:∀a∈D0.answers,(0<=a.id/\a.id<=999999)/\(0<=a.day/\a.day<=100000)/\(1<=a.says/\a.says<=3)/\∃x∈D0.disputes,x.id=a.dispute/\(a.says≠2->a.about=0/\a.cents=0)/\(a.says=2->(match fct D0.reports x.report with
    |none=>true
    |some f=>decide ((0<=a.about/\a.about<=100000)/\0<=a.cents/\a.cents<=most f.kind))=true):=by decide +kernel
   obtain⟨J,H,E,x,D,C,W,V⟩:=h a U;refine⟨J,H,E,x,D,C,W,fun e f I=>?_⟩;have:=V e;rw[I]at this;exact AbH this
theorem APd{i day w n:Int}{x:Dispute}(hx:x∈D0.disputes)(hi:x.id=i)(hd:0<=day/\day<=100000)(I:wh D0 x day=w)(H:(dec D0 x).day=n):AAt i day w n=some true:=by
 unfold AAt;rw[show AAh=some D0 from rfl,bindS,<-hi,AUW AEG hx hd,bindS];dsimp only;rw[AbL (show(0:Int)=0 from rfl),AbL I,AbL H];rfl
theorem AJ2{i day m:Int}(hd:0<=day/\day<=100000)(I:(fct D0.reports i).isSome=true)(H:AC5 D0 i day=m):R0 i day m=some true:=by
 unfold R0;rw[show AAh=some D0 from rfl,bindS,AMl AEG hd,AbO I,bindS];dsimp only;rw[AbL (show(0:Int)=0 from rfl),AbL H];rfl
theorem AM1{a:List Report}(hl:a.length<=1000000):T3 a a=some true:=by
 refine Ret.eq ?_;unfold T3;refine Ret.condF (by simp) (Ret.bind (C3 a.length (fun n (t:Int)=>t=n) rfl ?_ ?_))
 . rintro n H _ rfl;exact Ret.condT (Y8 H) (Ret.bind (K1 H (Ret.bind (K1 H (Ret.condF (by simp) (Ret.bind (Ret.chk (by omega) (Ret.next (by omega)))))))))
 . rintro _ rfl;exact Ret.condF (Y9 (AbQ _)) (Ret.done (Ret.elimL (Ret.ok rfl)))
theorem AGi{a:List Letter}(hl:a.length<=1000000):O0 a a=some true:=by
 refine Ret.eq ?_;unfold O0;refine Ret.condF (by simp) (Ret.bind (C3 a.length (fun n (t:Int)=>t=n) rfl ?_ ?_))
 . rintro n H _ rfl;exact Ret.condT (Y8 H) (Ret.bind (K1 H (Ret.bind (K1 H (Ret.condF (by simp) (Ret.bind (Ret.chk (by omega) (Ret.next (by omega)))))))))
 . rintro _ rfl;exact Ret.condF (Y9 (AbQ _)) (Ret.done (Ret.elimL (Ret.ok rfl)))
theorem AGj{a:List Int}(hl:a.length<=1000000):O6 a a=some true:=by
 refine Ret.eq ?_;unfold O6;refine Ret.condF (by simp) (Ret.bind (C3 a.length (fun n (t:Int)=>t=n) rfl ?_ ?_))
 . rintro n H _ rfl;exact Ret.condT (Y8 H) (Ret.bind (K1 H (Ret.bind (K1 H (Ret.condF (by simp) (Ret.bind (Ret.chk (by omega) (Ret.next (by omega)))))))))
 . rintro _ rfl;exact Ret.condF (Y9 (AbQ _)) (Ret.done (Ret.elimL (Ret.ok rfl)))
theorem AE1{α:Type}{k1 k2:α->Int}{a b:α}(h:decide (k1 a<k1 b\/k1 a=k1 b/\k2 a<=k2 b)=true):le2 k1 k2 a b:=AbH (p:=k1 a<k1 b\/k1 a=k1 b/\k2 a<=k2 b) h
theorem AWi:AEV D0 72 (l33,0):=by
 refine .inr ⟨by decide +kernel,[Report.mk 51 70 5 50 10 8 450 1,Report.mk 52 70 5 72 0 9 0 2],?_,?_,rfl⟩
 . rw[show more D0 72=[Report.mk 51 70 5 50 10 8 450 1,Report.mk 52 70 5 72 0 9 0 2] from by kernel_rfl]
 . exact .cons (fun b H=>by rw[mem_singleton.1 H];exact AE1 (by decide)) (Ach _ _)
theorem AYw:AskV A0:=by
 refine⟨by decide,?_,?_⟩
 . decide +kernel
 . intro n h;have H:n+1<4:=h;have:n=0\/n=1\/n=2:=by omega
   rcases this with rfl|rfl|rfl
   . exact(by decide:(5:Int)<6)
   . exact(by decide:(6:Int)<7)
   . exact(by decide:(7:Int)<8)
def L0:List Letter:=[Letter.mk 51 900 5,Letter.mk 52 900 6,Letter.mk 52 901 7]
theorem AaY:ADl D0 l33 A0 72=B4 (B4 (B4 (B4 fnone (51,900) 6) (51,900) 5) (52,901) 7) (52,900) 6:=by kernel_rfl
theorem AaZ:LetS (ADl D0 l33 A0 72) L0:=by
 rw[AaY];refine⟨fun z=>?_,by decide,?_⟩
 . obtain⟨a,b,c⟩:=z;unfold L0 B4 fnone;simp only[mem_cons,List.not_mem_nil,or_false,Letter.mk.injEq,Prod.mk.injEq];split
   . rename_i h;simp[h.1,h.2,eq_comm]
   . rename_i U;split
     . rename_i h;simp[h.1,h.2,eq_comm]
     . rename_i J;split
       . rename_i h;simp[h.1,h.2,eq_comm]
       . rename_i I;simp;omega
 . unfold L0;refine .cons (fun b H=>?_) (.cons (fun b H=>?_) (Ach _ _))
   . simp only[mem_cons,List.not_mem_nil,or_false]at H;rcases H with rfl|rfl<;>exact AE1 (by decide)
   . rw[mem_singleton.1 H];exact AE1 (by decide)
theorem AYx:AJy D0 45 [51,52,53]:=by
 refine⟨D0.disputes,.refl _,?_,by decide +kernel⟩;show List.Pairwise _ [Dispute.mk 51 1 40,Dispute.mk 52 2 41,Dispute.mk 53 3 42];refine .cons (fun b H=>?_) (.cons (fun b H=>?_) (Ach _ _))
 . simp only[mem_cons,List.not_mem_nil,or_false]at H;rcases H with rfl|rfl<;>exact AE1 (by decide)
 . rw[mem_singleton.1 H];exact AE1 (by decide)
theorem AM2{d:Desk}(hv:Vd d){day:Int}{a b:List Int}(J:AJy d day a)(I:AJy d day b):a=b:=by
 obtain⟨m,H,W,rfl⟩:=J;obtain⟨m',V,U,rfl⟩:=I;rw[AB7 (H.trans V.symm) W U fun x y hx hy _ e=>V9 hv.x.nd x y (H.mem_iff.1 hx) (H.mem_iff.1 hy) e]
theorem ASQ:AMz:=by
 have d1:Dispute.mk 51 1 40∈D0.disputes:=.head _;have d2:Dispute.mk 52 2 41∈D0.disputes:=.tail _ (.head _);have d3:Dispute.mk 53 3 42∈D0.disputes:=.tail _ (.tail _ (.head _));have a1:K8 D0 72=some (l33,0):=by
  obtain⟨r,J,H⟩:=AFi AEG (day:=72) (by decide);rw[J,AIN AEG H AWi]
 have a2:F4 D0 A0 72=some (L0,0):=by
  obtain⟨r,J,z,H,U⟩:=AGg AEG AYw (day:=72) (by decide);have V:=AIN AEG H AWi;subst V;rcases U with⟨I,_⟩|⟨_,I,W⟩
  . cases I
  . obtain⟨x,e⟩:=r;have I:e=0:=I;subst I;have hx:x=L0:=AIO W AaZ;rw[J,hx]
 have a3:P6 D0 45=some ([51,52,53],0):=by
  obtain⟨r,J,H,U⟩:=APP AEG (day:=45) (by decide);obtain⟨x,e⟩:=r;have H:e=0:=H;subst H;have hx:x=[51,52,53]:=AM2 AEG U AYx;rw[J,hx]
 refine⟨l33,L0,[51,52,53],a1,a2,a3,APd d1 rfl (by decide) (by kernel_rfl) (by kernel_rfl),APd d2 rfl (by decide) (by kernel_rfl) (by kernel_rfl),APd d3 rfl (by decide) (by kernel_rfl) (by kernel_rfl),AJ2 (by decide) (by kernel_rfl) (by kernel_rfl),AJ2 (by decide) (by kernel_rfl) (by kernel_rfl),AJ2 (by decide) (by kernel_rfl) (by kernel_rfl),AM1 (by decide),AGi (by decide),AGj (by decide)⟩
theorem AUd:U4=some true:=AbO ASQ
end S
end Go.Proofs.YtgioiejbphljoaaGreatDoor
namespace Go.Rx
open Go Go.Sx Go.RowKit
section
variable[Sg][Sf](G:Gx)
def AJ3(R:Nat->Option AR):(c:Ck)->SV->Option c.den
 |.d t,s=>match t,s with
  |.int k,.int k' n=>if k=k' then some n else none
  |.bool,.bool b=>some b
  |_,_=>none
 |.own c,s=>match s with
  |.own i=>match R i with
   |some (.own false c' x)=>castO c' c x
   |_=>none
  |_=>none
 |_,_=>none
def AJ4(R:Nat->Option AR):(cs:List Ck)->List SV->Option (E4 cs)
 |[],l=>match l with
  |[]=>some ()
  |_=>none
 |[c],l=>match l with
  |[s]=>AJ3 R c s
  |_=>none
 |c::d::l,q=>match q with
  |s::q=>match AJ3 R c s,AJ4 R (d::l) q with
   |some x,some y=>some (x,y)
   |_,_=>none
  |[]=>none
def AEW:List SV->List Nat
 |.own i::l=>i::AEW l
 |_::l=>AEW l
 |[]=>[]
def ndK:List Nat->Bool
 |[]=>true
 |i::l=>bif has l i then false else ndK l
def APe(cs:List Ck)(rs:List ResultVar)(σ:AS):Option (E4 cs):=match rs with
 |[r]=>match AAf G σ r with
  |some (.agg l)=>match ndK (AEW l) with
   |true=>AJ4 (A1 σ.res) cs l
   |false=>none
  |_=>none
 |_=>none
def ATH(f:Func)(an:An)(ps:List Pt)(cs:List Ck)(a:E2 ps):Option (E4 cs):=match f.body with
 |some c=>exec G f.ntmps (APe G cs f.results.toList) c an (APe G cs f.results.toList) (fun _ _=>none) some ⟨ABr 0 ps a,[],[],[]⟩
 |none=>none
end
variable[Trk][Sg][Sf]{P:Program}[Se P]
theorem AOA:∀{l:List Nat},ndK l=true->l.Nodup
 |[],_=>AcW
 |i::l,h=>by
  have h:(bif has l i then false else ndK l)=true:=h
  cases H:has l i with
  |true=>rw[H]at h;cases h
  |false=>
   rw[H]at h
   exact List.nodup_cons.2 ⟨fun hi=>(by rw[has_iff.2 hi]at H;cases H),AOA h⟩
section
variable[Anch]{w0 w:World}{M:List Nat}{σ:AS}{L:A8}{S:List Res}{ρ:Nat->Value}{γ:Nat->List Value}{μ:Nat->List Nat}{ι:Nat->Nat}{G:Gx}
theorem AOB(h:HS (P:=P) w0 [] M σ L w S ρ γ μ ι){O:List Nat}(C:∀b∈O,b∈mm S M){c:Ck}{s:SV}{x:c.den}{u:Value}(J:Ok (P:=P) ρ (A1 σ.res) (mm S M) w s u)(hx:AJ3 (A1 σ.res) c s=some x):
  u.cells=#[u]/\ALn (P:=P) O M w0 w c x u/\∀b∈obC c u,∃i a,s=.own i/\A1 σ.res i=some a/\b∈(H1 (P:=P) (ρ i) (γ i) (μ i) a).fp:=by
 have D:∀b∈O++M,b∈mm S M:=fun b I=>(mem_append.1 I).elim (C b) fun I=>mem_mm.2 (.inr I)
 cases c with
 |d t=>
  cases t with
  |int k=>
   cases s with
   |int k' n=>
    have H:(if k=k' then(some n:Option Int) else none)=(some x:Option Int):=hx
    by_cases e:k=k'
    . rw[AbO e]at H
      subst e
      have U:n=x:=AbA H
      subst U
      obtain⟨rfl,hk⟩:=J
      exact⟨rfl,⟨_,⟨rfl,hk⟩,.inr ⟨rfl,rfl⟩⟩,fun b I=>by cases I⟩
    . rw[if_neg e]at H;cases H
   |_=>exact(A2 hx).elim
  |bool=>
   cases s with
   |bool b=>
    have hx:some b=some x:=hx
    cases hx
    have J:u=_:=J
    subst J
    exact⟨rfl,⟨_,rfl,.inr ⟨rfl,rfl⟩⟩,fun b I=>by cases I⟩
   |_=>exact(A2 hx).elim
  |_=>exact(A2 hx).elim
 |own c=>
  cases s with
  |own i=>
   have hx:(match A1 σ.res i with
    |some (.own false c' y)=>castO c' c y
    |_=>none)=some x:=hx
   cases hi:A1 σ.res i with
   |none=>rw[hi]at hx;exact(A2 hx).elim
   |some a=>
    rw[hi]at hx
    cases a with
    |row _ _=>exact(A2 hx).elim
    |own p c' y=>
     cases p with
     |true=>exact(A2 hx).elim
     |false=>
      obtain⟨e,hy⟩:=AAo (show castO c' c y=some x from hx)
      subst e
      have hy:y=x:=hy
      subst hy
      obtain⟨e,E,_⟩:=J
      subst e
      have V:=h.res i _ hi
      have W:=AIf (P:=P) h.hp (ι i) V
      refine⟨E,⟨h.row i _ hi,(F2 (P:=P) [] (ρ i) c' y).adv (Adv.drop D) (fun _ _=>rfl) (h.hp.all _ (AbB V)),W.2⟩,fun b I=>⟨i,_,rfl,hi,AEk (P:=P) I⟩⟩
  |_=>exact(A2 hx).elim
 |undef=>exact(A2 hx).elim
 |it t=>exact(A2 hx).elim
 |np t=>exact(A2 hx).elim
theorem AUe{s:SV}{l:List SV}{i:Nat}(h:i∈AEW l):i∈AEW (s::l):=by
 cases s<;>first|exact h|exact AbC _ h
theorem AUf{s:SV}{l:List SV}(h:(AEW (s::l)).Nodup):(AEW l).Nodup:=by
 cases s<;>first|exact h|exact(List.nodup_cons.1 h).2
theorem AUg(h:HS (P:=P) w0 [] M σ L w S ρ γ μ ι){O:List Nat}(A:∀b∈O,b∈mm S M):∀(cs:List Ck) (l:List SV) {x:E4 cs} {vs:List Value},OkL (P:=P) ρ (A1 σ.res) (mm S M) w l vs->(AEW l).Nodup->AJ4 (A1 σ.res) cs l=some x ->
  KsD (P:=P) O M w0 w cs x vs/\∀b∈obK cs vs,∃i∈AEW l,∃a,A1 σ.res i=some a/\b∈(H1 (P:=P) (ρ i) (γ i) (μ i) a).fp:=by
 have cell:∀{u:Value} {c:List Value},u.cells=#[u]->u.cells=toArray c->c=[u]:=fun W J=>by
  rw[W]at J;have:=AbJ Array.toList J;simpa using this.symm
 intro cs
 induction cs with
 |nil=>
  intro l x vs C _ hx
  cases l with
  |nil=>exact⟨C,fun b H=>by cases H⟩
  |cons _ _=>exact(A2 hx).elim
 |cons c cs ih=>
  intro l x vs C Y hx
  cases cs with
  |nil=>
   cases l with
   |nil=>exact(A2 hx).elim
   |cons s q=>
    cases q with
    |cons _ _=>exact(A2 hx).elim
    |nil=>
     obtain⟨u,cl,r,rfl,W,J,V⟩:=C
     obtain⟨k1,k2,k3⟩:=AOB h A W (show AJ3 (A1 σ.res) c s=some x from hx)
     obtain rfl:=cell k1 J
     have V:r=[]:=V
     subst V
     refine⟨⟨u,rfl,k1,k2⟩,fun b H=>?_⟩
     rw[show [u]++([]:List Value)=u::[] from rfl,AEu]at H
     rcases mem_append.1 H with H|H
     . obtain⟨i,a,rfl,I,U⟩:=k3 b H
       exact⟨i,AbF ..,a,I,U⟩
     . cases H
  |cons d cs=>
   cases l with
   |nil=>exact(A2 hx).elim
   |cons s q=>
    have hx:(match AJ3 (A1 σ.res) c s,AJ4 (A1 σ.res) (d::cs) q with
     |some x,some y=>some (x,y)
     |_,_=>none)=some x:=hx
    cases hy:AJ3 (A1 σ.res) c s with
    |none=>rw[hy]at hx;exact(A2 hx).elim
    |some y=>
     cases E:AJ4 (A1 σ.res) (d::cs) q with
     |none=>rw[hy,E]at hx;exact(A2 hx).elim
     |some z=>
      rw[hy,E]at hx
      have hx:(y,z)=x:=AbA hx
      subst hx
      obtain⟨u,cl,r,rfl,W,J,V⟩:=C
      obtain⟨k1,k2,k3⟩:=AOB h A W hy
      obtain rfl:=cell k1 J
      obtain⟨g1,g2⟩:=ih q V (AUf Y) E
      refine⟨⟨u,r,rfl,k1,k2,fun b H Q=>?_,g1⟩,fun b H=>?_⟩
      . obtain⟨i,a,rfl,I,U⟩:=k3 b H
        obtain⟨j,K,a',D,T⟩:=g2 b Q
        have F:i≠j:=fun e=>by
         subst e;exact(List.nodup_cons.1 Y).1 K
        exact h.hp.dis (ι i) (ι j) _ _ (h.res i a I) (h.res j a' D) (fun e=>F (h.inj i j a a' I D e)) b U T
      . rw[show [u]++r=u::r from rfl,AEu]at H
        rcases mem_append.1 H with H|H
        . obtain⟨i,a,rfl,I,U⟩:=k3 b H
          exact⟨i,AbF ..,a,I,U⟩
        . obtain⟨j,K,a',D,T⟩:=g2 b H
          exact⟨j,AUe K,a',D,T⟩
end
theorem AUh[Sl (P:=P)]{G:Gx}(K:GxOk P G){k:Nat}{f:Func}{c:Code}{an:An}{ps:List Pt}{cs:List Ck}{F:E2 ps->Option (E4 cs)}(Y:P.funcs[k]?=some f)(J:f.body=some c)(hl:Nat.ble ps.length f.ntmps=true)(X:∀a,F a=ATH G f an ps cs a):CtrA.ok P k ⟨ps,cs,F⟩:=by
 refine fun M w a vals r B T E I=>?_;have I:F a=some r:=I;rw[X]at I;unfold ATH at I;rw[J]at I;have U:∀(ps:List Pt) {a:E2 ps} {vals:List Value},ArgsOk M w ps a vals->vals.length=ps.length:=by
  intro ps;induction ps with
  |nil=>intro a vals h;have h:vals=[]:=h;rw[h];rfl
  |cons p ps ih=>intro a vals h;obtain⟨v,r,rfl,_,D⟩:=h;simp[ih D]
 have L:Holds w [] M ⟨ABr 0 ps a,[],[],[]⟩ (R1 0 vals) w:=by
  refine⟨[],fun _=>undef,fun _=>[],fun _=>[],fun _=>0,Hp.start B,(fun i a h=>by cases h),(fun i j a b h=>by cases h),(fun i a h=>by cases h),fun t s h=>?_,trivial,T⟩;exact AHA ps 0 E t s h
 have fin:∀σ' L' w',APe G cs f.results.toList σ'=some r->Holds w [] M σ' L' w'->ABh P f (fun e w'=>∃vs,e=.returned (.agg (toArray vs))/\Ext w w'/\KsD (P:=P) (obK cs vs) M w w' cs r vs) [] L' w':=fun σ' L' w' H V=>by
  obtain⟨S,ρ,γ,μ,ι,W⟩:=V;unfold APe at H;split at H
  . rename_i r0 C;split at H
    . rename_i l hl;cases hnd:ndK (AEW l) with
      |false=>rw[hnd]at H;exact(A2 H).elim
      |true=>
       rw[hnd]at H
       obtain⟨v,N,vs,rfl,D⟩:=AJq W K hl
       have key:=fun O A=>AUg W (O:=O) A cs l D (AOA hnd) (show AJ4 (A1 σ'.res) cs l=some r from H)
       refine H4 (rs:=[r0]) (vs:=[_]) (by rw[<-C]) (.cons N .nil) rfl ⟨vs,rfl,W.hp.kp,(key _ fun b J=>?_).1⟩
       obtain⟨i,_,a,R,Z⟩:=(key [] fun b J=>by cases J).2 b J
       exact mem_mm.2 (.inl ⟨_,AbB (W.res i a R),Z⟩)
    . cases H
  . cases H
 refine C1 Y J rfl (by rw[U ps E];exact hl) ?_;refine AAI (n:=3) ?_;exact I0 K c an _ _ _ _ _ _ _ _ _ _ _ _ _ I L (fun σ' L' w' H _ _ V=>fin σ' L' w' H V) (fun i σ' L' w' H=>by cases H) (fun r' σ' L' w' Q hk _ V=>by
  have hk:r'=r:=AbA hk;subst hk;exact fin σ' L' w' Q V) PZ.no
end Go.Rx
namespace Go.Proofs.YtgioiejbphljoaaGreatDoor
open Go Go.Sx Go.Rx Go.RowKit
def AAw(d:Desk):Option (Int×Int×Int×(List Report)×(List Dispute)×(List Answer)):=(appo 64 ([]:List Report) d.reports).bind fun l1=>(appo 24 ([]:List Dispute) d.disputes).bind fun l2=>(appo 48 ([]:List Answer) d.answers).bind fun l3=>some (d.terms.answer,d.terms.mark,d.terms.lately,l1,l2,l3)
def AYy:An:=.x
def ctrm13:CtrM:={ ps:=[],i:=0,c:=.sl 0 (.int .i64),rs:=[],F:=fun _ _=>none,ag:=some ⟨[.d (.st 4)],[.d (.int .i64),.d (.int .i64),.d (.int .i64),.own (.sl 45 (.st 1)),.own (.sl 53 (.st 2)),.own (.sl 60 (.st 3))],fun a=>AAw a.1⟩ }
theorem okm13:CtrM.ok prog 13 ctrm13:=AUh (G:={ gxb with fs:=[],fm:=[] }) (an:=AYy) (ACP trivial trivial trivial) func13 rfl rfl (fun a=>by kernel_rfl)
end Go.Proofs.YtgioiejbphljoaaGreatDoor
namespace Go.Proofs.YtgioiejbphljoaaGreatDoor
open Go Go.Sx Go.Rx
namespace S
variable{d:Desk}{asked:List Asked}{day:Int}
theorem AUi(J:d.reports.length<=1000000)(I:d.disputes.length<=1000000)(H:d.answers.length<=1000000):AAw d=some (d.terms.answer,d.terms.mark,d.terms.lately,d.reports,d.disputes,d.answers):=by
 unfold AAw;rw[AAH (by simp only[List.length_nil];omega) (by simp only[List.length_nil];omega),bindS,AAH (by simp only[List.length_nil];omega) (by simp only[List.length_nil];omega),bindS,AAH (by simp only[List.length_nil];omega) (by simp only[List.length_nil];omega),bindS];rfl
theorem AUj(hv:Vd d){r r':List Letter×Int}(h:LtS d asked day r)(D:LtS d asked day r'):r=r':=by
 obtain⟨z,U,V⟩:=h;obtain⟨z',I,J⟩:=D;have:=AIN hv I U;subst this;obtain⟨a,e⟩:=r;obtain⟨b,f⟩:=r';rcases V with⟨C,H⟩|⟨C,H,W⟩<;>rcases J with⟨g1,g2⟩|⟨g1,g2,g3⟩
 . rw[H,g2]
 . omega
 . omega
 . have H:e=0:=H;have g2:f=0:=g2;have:a=b:=AIO W g3;rw[H,g2,this]
theorem AWj(hv:Vd d)(F:asked.length<=40){r:List Letter×Int}(h:LtS d asked day r):r.1.length<=1000000:=by
 obtain⟨z,K,E⟩:=h;obtain⟨out,e⟩:=r;rcases E with⟨_,V⟩|⟨_,_,H⟩
 . show out.length<=_;rw[(Acg V).1];exact Abe _
 dsimp only at H ⊢;obtain⟨xs,q1,q2⟩:=AKi (d:=d) (l:=z.1) (asked:=asked) (S.decd d day) fnone [] ⟨AcW,fun a y=>by simp[fnone]⟩;have C:(out.map fun z=>((z.dispute,z.who),z.asked)).Perm xs:=(Abw ?_ ((List.pairwise_map.1 q1.1).imp fun h e=>h (by rw[e]))).2 fun y=>?_
 . have U:=C.length_eq;rw[Abd]at U;have D:=AFh (d:=d) (day:=day);have W:=hv.x.len;have V:(S.decd d day).length*asked.length<=20*40:=Nat.mul_le_mul (by omega) F;simp only[List.length_nil]at q2;omega
 . rw[List.Nodup,AcU];exact(List.pairwise_map.1 H.nd).imp fun h e=>h (Acg e).1
 . obtain⟨⟨a,b⟩,c⟩:=y;rw[AcO];have U:=H.mem (Letter.mk a b c);refine Iff.trans ?_ (q1.2 (a,b) c).symm;constructor
   . rintro⟨w,J,I⟩;obtain⟨w1,w2⟩:=Acg I;obtain⟨w3,w4⟩:=Acg w1;have:=(H.mem w).1 J;rw[w3,w4,w2]at this;exact this
   . exact fun J=>⟨_,U.2 J,rfl⟩
theorem ASR{x:Dispute}{A:Int}{l l':List Answer}{v v':Verdict}(h:DecL x A l v)(V:DecL x A l' v')(H:∀a∈l',a∈l)(W:∀a∈l,win x (x.day+A) a=true->a.day<=v.day->a∈l')(nd:∀a∈l,∀b∈l,a.id=b.id->a=b):v'=v:=by
 by_cases c:v.is_=5
 . obtain⟨U,J⟩:=h.is5 c;by_cases c':v'.is_=5
   . rw[U,(V.is5 c').1]
   . obtain⟨_,g2,g3,_⟩:=V.by_ c';rw[J _ (H _ g2)]at g3;cases g3
 . obtain⟨U,J,I,C⟩:=h.by_ c;have hd:v.day=v.by_.day:=by rw[U]
   have hm:=W _ J I (by omega);by_cases c':v'.is_=5
   . rw[(V.is5 c').2 _ hm]at I;cases I
   . obtain⟨g1,g2,g3,g4⟩:=V.by_ c';have e1:=AbM (C _ (H _ g2) g3);have e2:=AbM (g4 _ hm I);have:v'.by_=v.by_:=nd _ (H _ g2) _ J (by omega);rw[g1,U,this]
end S
end Go.Proofs.YtgioiejbphljoaaGreatDoor
namespace Go.Proofs.YtgioiejbphljoaaGreatDoor
open Go Go.Sx Go.Rx Go.RowKit
open Classical in
def Y3(l:List Report)(account day known:Int):Option Book:=(Q5 l known).bind fun d=>(J1 d).bind fun fs=>
 if fs.length*64<=140737488355328/\∀r∈fs,InR r then some (Book.mk (fs.filter fun r=>decide (r.account=account)&&decide (r.about<=day))) else none
def AlK(M:List Nat)(b5 b6 b9:Nat)(x:ACd)(L:Sx.A8)(W:World):Prop:=∃b10 u,Sub [(5,.pointer (some ⟨b5,0,none⟩)),(6,.pointer (some ⟨b6,0,none⟩)),(9,.pointer (some ⟨b9,0,none⟩)),(10,.pointer (some ⟨b10,0,none⟩))] L/\Row 45 W b10 (AAA x.1)/\Row 146 W b9 [u]/\b10∉ob u/\b10≠b9/\b10∉M
theorem AJ5{M:List Nat}{w:World}(hM:MLt M w)(hG:GlOk (P:=prog) M w){l:List Report}{v_l_0:Value}(f_l_0:RdS ReportE M w v_l_0 l){account:Int}(f_account_0:InK .i64 account){day:Int}(f_day_0:InK .i64 day){known:Int}(f_known_0:InK .i64 known){r0:Book}(h:Y3 l account day known=some r0):
  Calls prog 73 (toArray [v_l_0,Value.int .i64 account,Value.int .i64 day,Value.int .i64 known]) w fun e w'=>∃v0_0:Value,e=.returned (Value.agg (toArray [v0_0]))/\RdS ReportE M w' v0_0 r0.facts/\Ext w w':=by
 unfold Y3 at h
 obtain⟨d,hd,h⟩:=C7 h
 obtain⟨fs,hfs,h⟩:=C7 h
 split at h
 . rename_i hc
   obtain rfl:=AbA h
   obtain⟨xs,j⟩:∃xs:List ACd,xs.map Subtype.val=fs:=⟨fs.attach.map fun r=>⟨r.1,hc.2 r.1 r.2⟩,by rw[Abl];exact Abp fs⟩
   have hxl:xs.length=fs.length:=by rw[<-j,Abd]
   obtain⟨p,hp⟩:∃p:Report->Bool,p=fun r=>decide (r.account=account)&&decide (r.about<=day):=⟨_,rfl⟩
   rw[<-hp,<-j]
   rw[<-j]at hfs
   refine ABV func73 rfl ntmps73 rfl ?_
   have hI:=Hp.start (Mu:=[]) hM
   refine A3 ?_
   refine A7 ?_
   refine S9 hI rfl rfl rfl ?_
   intro b5 w2 hI2 x2
   have hC5:=hI2.freezeRow 0 rfl
   have hI3:=hI2.erase 0
   refine S9 hI3 rfl rfl rfl ?_
   intro b6 w4 hI4 x4
   have hC6:=hI4.freezeRow 0 rfl
   have y:=hI4.erase 0
   refine Q0 y zeroValue146 rfl rfl ?_
   intro b8 w6 C x6
   refine Reg.nil ?_
   have a06:Adv M (mm [rowR 146 b8 [.slice none 0 0]] M) w w6:=C.adv
   have f:RdC (mm [rowR 146 b8 [.slice none 0 0]] M) w6 b5 0 [.int .i64 account]:=hC5.adv (x4.trans ((E8 (σ:=[rowR 3 b6 [.int .i64 day]]) 0).trans x6))
   have c:RdC (mm [rowR 146 b8 [.slice none 0 0]] M) w6 b6 0 [.int .i64 day]:=hC6.adv x6
   have hJ:=Hp.start (Mu:=[]) C.mlt
   obtain⟨M6,q⟩:∃M6,M6=mm [rowR 146 b8 [.slice none 0 0]] M:=⟨_,rfl⟩
   have hJ:Hp w6 [] M6 [] w6:=by rw[q];exact hJ
   rw[<-q]at a06 f c
   have hb8M:b8∈M6:=by rw[q];simp[mm,rowR]
   refine A3 ?_
   refine A7 ?_
   refine Q0 hJ zeroValue146 rfl rfl ?_
   intro b9 w7 s x7
   refine Reg.nil ?_
   have a07:=a06.trans s.adv
   refine A3 ?_
   refine A3 ?_
   refine A7 ?_
   refine E9 rfl rfl ?_
   refine E9 rfl rfl ?_
   refine H0 rfl call68 rfl ?_
   refine(ok68.2 _ w7 (l,known,()) [v_l_0,.int .i64 known] d s.mlt (hG.adv a07) ⟨v_l_0,_,rfl,⟨[v_l_0],⟨v_l_0,rfl,f_l_0.adv a07⟩,.inr ⟨rfl,rfl⟩⟩,_,[],rfl,⟨[_],⟨rfl,f_known_0⟩,.inr ⟨rfl,rfl⟩⟩,rfl⟩ hd).mono ?_
   rintro _ w8 ⟨_,rfl,⟨v2,rfl,O⟩,e8⟩
   refine⟨_,rfl,?_⟩
   have O:OkD (P:=prog) _ w8 (.st 14) d v2:=O
   have hJ8:=s.ext e8
   refine H0 rfl call69 rfl ?_
   refine(ABs hJ8.mlt O).mono ?_
   rintro _ w9 ⟨vi,rfl,hf,e9⟩
   refine⟨_,rfl,?_⟩
   have hJ9:=hJ8.ext e9
   refine Reg.nil ?_
   have H:Hp w6 [] M6 (E1 ReportE 45 146 b9 (.slice none 0 0) []) w9:=hJ9.addNil ReportE 45
   have hb9:b9<w9.heap.size:=H.mlt b9 (by simp[mm,rowR])
   have hgn:gOf w9 b9=none:=by rw[H.gof];rfl
   obtain⟨lb,hv,hseq⟩:=AHZ 2 hJ9.mlt ((hG.adv a07).adv ((Adv.of_ext e8).trans (Adv.of_ext e9))) hf hfs hb9 (fun g Q=>by rw[hgn]at Q;cases Q)
   subst hv
   refine ADF (L:=[(14,_),(5,.pointer (some ⟨b5,0,none⟩)),(6,.pointer (some ⟨b6,0,none⟩)),(8,.pointer (some ⟨b8,0,none⟩)),(9,.pointer (some ⟨b9,0,none⟩))]) (Sub.cons rfl (Sub.cons rfl (Sub.cons rfl (Sub.cons rfl (Sub.cons rfl (Sub.nil _)))))) ?_
   refine C8 ?_
   refine AKC (val:=fun r:ACd=>.agg (AAA r.1).toArray) (K:=KB b9) (xs:=xs) rfl call105 rfl hseq (fun h k=>h.trans k) (fun W lp o o' hlp z hc _=>KB.putObj z hc (by omega))
    (fun pre W=>∃v',Hp w6 [] M6 (E1 ReportE 45 146 b9 v' ((pre.map Subtype.val).filter p)) W/\w9.heap.size<=W.heap.size/\pre.length<=xs.length) (fun _ _=>False) ?_ (fun _ _ _ _ h _ _=>h.elim) ⟨_,H,AbQ _,Abe _⟩ (AlK M6 b5 b6 b9) ?_ ?_ ?_ ?_ (fun _ _ _ _ _ h _=>h.elim)
   . rintro pre W W' row ⟨v',I,O,i⟩ Q hr
     exact⟨v',I.turnG AJC (fun h=>h) Q (fun r e=>⟨AbP H.kp.size (hr r e).1,(hr r e).2⟩),AbP O Q.size,i⟩
   . rintro x L' _ W W' row ⟨b10,u,I,O,i,h4,h5,h6⟩ Q hr
     have hcl:∀(b:Nat) (o:Obj),W.heap[b]?=some o->o.isCells=true->W'.heap[b]?=W.heap[b]?:=fun b o F hc=>Q.block b (G6 F) fun e=>by
      obtain⟨_,o',g1,g2⟩:=hr b e.symm;rw[F]at g1;cases g1;rw[hc]at g2;cases g2
     exact⟨b10,u,I,(hcl b10 _ O rfl).trans O,(hcl b9 _ i rfl).trans i,h4,h5,h6⟩
   . rintro l' pre x W ⟨v',I,O,i⟩
     refine AAC rfl ?_
     refine Q0 I zeroValue45 rfl rfl ?_
     intro b10 w5 y x5
     refine N3 0 y rfl rfl rfl rfl sizeOf45 rfl rfl (one1 rfl (one1 rfl (one1 rfl (one1 rfl (one1 rfl (one1 rfl (one1 rfl (one1 rfl one0)))))))) ?_
     intro w6' C x6
     have V:Hp w6 [] M6 (rowR 45 b10 (AAA x.1)::E1 ReportE 45 146 b9 v' ((pre.map Subtype.val).filter p)) w6':=C
     have hI7:Hp w6 [] M6 (E1 ReportE 45 146 b9 v' ((pre.map Subtype.val).filter p)) w6':=V.erase 0
     have hA:Adv (mm (E1 ReportE 45 146 b9 v' ((pre.map Subtype.val).filter p)) M6) (mm (E1 ReportE 45 146 b9 v' ((pre.map Subtype.val).filter p)) M6) W w6':=x5.trans (x6.trans (E8 (σ:=rowR 45 b10 (AAA x.1)::E1 ReportE 45 146 b9 v' ((pre.map Subtype.val).filter p)) 0))
     obtain⟨n,Y⟩:=I.kb hI7 hA
     refine Reg.nil ⟨rfl,⟨Y.size,fun k o hB=>Y.same k o (AbP H.kp.size hB)⟩,n,⟨v',hI7,AbP O hA.kp.size,i⟩,b10,v',Sub.cons rfl (Sub.cons rfl (Sub.cons rfl (Sub.cons rfl (Sub.nil _)))),V.row 0 rfl,V.row 2 rfl,?_,?_,?_⟩
     . intro F
       exact V.dis 0 1 _ _ rfl rfl (by omega) b10 (by simp[rowR]) F
     . intro F
       exact V.dis 0 2 _ _ rfl rfl (by omega) b10 (by simp[rowR]) (by simp[rowR,F])
     . exact V.sepM _ (AbF ..) b10 (by simp[rowR])
   . rintro l' pre x L' W ⟨v',I,O,i⟩ ⟨b10,u,hs,hr10,hru,h10u,h109,h10M⟩ hlt
     have huv:u=v':=by
      have e1:W.heap[b9]?=_:=hru;have e2:W.heap[b9]?=_:=I.row 1 rfl;rw[e1]at e2;have:=AbA e2;injection this with J;simpa using J
     subst huv
     refine APx hs ?_
     refine ADM ?_
     have X:RdC (mm (E1 ReportE 45 146 b9 u ((pre.map Subtype.val).filter p)) M6) W b10 0 (AAA x.1):=G9 (fun F=>by
      simp only[mm,ownR,rowR,mem_append,mem_cons,List.not_mem_nil,or_false]at F;rcases F with J|J|J
      . exact h10u J
      . exact h109 J
      . exact h10M J) hr10
     have hC5W:=f.adv I.adv
     have hC6W:=c.adv I.adv
     obtain⟨q0,q1,q2,q3,q4,q5,q6,q7⟩:=x.2
     have m:p x.1=(decide (x.1.account=account)&&decide (x.1.about<=day)):=by rw[hp]
     have hlen:((pre.map Subtype.val).filter p).length<=pre.length:=by
      have:=Ab1 p (pre.map Subtype.val);rwa [Abd]at this
     have keep:p x.1=false->KeepsFrom w9.heap.size W W/\KB b9 W W/\∃v',Hp w6 [] M6 (E1 ReportE 45 146 b9 v' (((pre++[x]).map Subtype.val).filter p)) W/\w9.heap.size<=W.heap.size/\(pre++[x]).length<=xs.length:=fun hf=>by
      refine⟨⟨AbQ _,fun _ _ _ h _=>h⟩,KB.refl _ _,u,?_,O,by simp;omega⟩;have J:((pre++[x]).map Subtype.val).filter p=(pre.map Subtype.val).filter p:=by simp[hf]
      rw[J];exact I
     refine AF8 ?_
     refine AAC rfl ?_
     refine M7 rfl underlying45 rfl sizeOf3 rfl ?_
     refine K4 rfl (X.cells.at 2 rfl) isAgg3 rfl ?_
     refine K4 rfl (hC5W.cells.at 0 rfl) isAgg3 rfl ?_
     refine AOO rfl rfl rfl ?_
     refine E9 rfl rfl ?_
     refine AIS (t:=20) rfl (fun Q=>?_) (fun Q=>?_)
     . refine Reg.take rfl rfl ?_
       refine M7 rfl underlying45 rfl sizeOf3 rfl ?_
       refine Reg.take rfl rfl ?_
       refine K4 rfl (X.cells.at 4 rfl) isAgg3 rfl ?_
       refine Reg.take rfl rfl ?_
       refine K4 rfl (hC6W.cells.at 0 rfl) isAgg3 rfl ?_
       refine Reg.take rfl rfl ?_
       refine AOM rfl rfl rfl ?_
       refine AOK rfl rfl rfl ?_
       refine Reg.nil ?_
       refine AJW rfl (fun B=>?_) (fun B=>?_)
       . refine AAC rfl ?_
         refine M7 rfl underlying146 rfl sizeOf24 rfl ?_
         refine K4 rfl ((I.row 1 rfl).rd.cells.at 0 rfl) isAgg24 rfl ?_
         refine Z1 rfl X.cells isAgg45 rfl sizeOf45 rfl ?_
         refine AEJ (E:=ReportE) (xs:=[x.1]) AJs I rfl rfl (Cls.cons rfl Cls.nil) (Chs.cons (ReportE_R.2 ⟨rfl,q0,q1,q2,q3,q4,q5,q6,q7⟩) Chs.nil) rfl rfl ?_
         intro v8 w8' hI8 x8
         have hf9:=hI8.freeze 0 rfl
         have hI9:=hI8.erase 0
         refine ADs 0 AJs hI9 rfl rfl rfl hf9 ⟨?_,?_⟩ rfl ?_
         . have:[x.1].length=1:=rfl
           omega
         . have:[x.1].length=1:=rfl
           omega
         intro v10 w10 G x10
         refine M7 rfl underlying146 rfl sizeOf24 rfl ?_
         refine N3 1 G rfl rfl rfl (Own.cells1 (G.ownAt 0 rfl)) sizeOf24 rfl rfl (one1 (Own.oneC (G.ownAt 0 rfl)) one0) ?_
         intro w11 hI11 x11
         have J:((pre++[x]).map Subtype.val).filter p=(pre.map Subtype.val).filter p++[x.1]:=by
          have:p x.1=true:=by rw[m,Q,B];rfl
          simp[this]
         have N:Hp w6 [] M6 (E1 ReportE 45 146 b9 v10 (((pre++[x]).map Subtype.val).filter p)) w11:=by rw[J];exact hI11
         have hA:Adv (mm (E1 ReportE 45 146 b9 u ((pre.map Subtype.val).filter p)) M6) (mm (E1 ReportE 45 146 b9 v10 (((pre++[x]).map Subtype.val).filter p)) M6) W w11:=by
          rw[J];exact x8.trans ((E8 (σ:=ownR [] ReportE 45 v8 [x.1]::E1 ReportE 45 146 b9 u ((pre.map Subtype.val).filter p)) 0).trans (x10.trans x11))
         obtain⟨n,Y⟩:=I.kb N hA
         exact Reg.nil ⟨⟨Y.size,fun k o hB=>Y.same k o (AbP H.kp.size hB)⟩,n,v10,N,AbP O hA.kp.size,by simp;omega⟩
       . refine AJV ?_
         exact keep (by rw[m,B];simp)
     . refine Reg.pass rfl rfl rfl rfl ?_
       refine Reg.pass rfl rfl rfl rfl ?_
       refine Reg.pass rfl rfl rfl rfl ?_
       refine Reg.pass rfl rfl rfl rfl ?_
       refine AOL rfl rfl rfl ?_
       refine Reg.nil ?_
       refine AJW (b:=false) rfl (fun B=>by cases B) (fun _=>?_)
       refine AJV ?_
       exact keep (by rw[m,Q];simp)
   . rintro D W hD ⟨v',I,O,i⟩ U
     refine A3 ?_
     refine A7 ?_
     have R:Ext w6 W:=I.kp
     have hr8:Row 146 w6 b8 [.slice none 0 0]:=C.row 0 rfl
     have Z:Row 146 W b8 [.slice none 0 0]:=(R.block b8 hr8.rd.lt (by simp)).trans hr8
     have hb8:w.heap.size<=b8:=by
      have:=(C.own _ (AbF ..)).2 b8 (by simp[rowR]);rcases this with J|J
      . cases J
      . exact J
     refine Z1 rfl (I.row 1 rfl).rd.cells isAgg146 rfl sizeOf146 rfl ?_
     refine AOT rfl rfl rfl Z sizeOf146 rfl rfl (one1 (Own.oneC (I.ownAt 0 rfl)) one0) (fun w11 T A=>?_)
     refine Reg.nil ?_
     refine C4 ?_
     have T:Row 146 w11 b8 [v']:=T
     have hDW:D<W.heap.size:=G6 U
     have S:D≠b8:=fun e=>by
      rw[e]at U;have:W.heap[b8]?=_:=Z;rw[this]at U;cases U
     have hdef11:w11.heap[D]?=some (.deferred (some [])):=(A.block D hDW (by simpa using S)).trans U
     have hne:∀b,b≠D->(w11.putObj D (.deferred none)).heap[b]?=w11.heap[b]?:=fun b F=>World.putObj_heap_other F
     have hob:∀b∈ob v',(w11.putObj D (.deferred none)).heap[b]?=W.heap[b]?:=fun b F=>by
      obtain⟨o,z,hoc⟩:=(I.ownAt 0 rfl).isC b F;have hbD:b≠D:=fun e=>by
       rw[e,U]at z;cases z;cases hoc
      have hb8':b≠b8:=fun e=>by
       have:=I.sepM _ (AbF ..) b F;rw[e]at this;exact this hb8M
      rw[hne b hbD];exact A.block b (G6 z) (by simpa using hb8')
     have hsz:w11.heap.size<=(w11.putObj D (.deferred none)).heap.size:=by simp
     have hx1:Ext w w11:=(C.kp.trans R).tail A fun x hx=>by
      have:x=b8:=by simpa using hx
      omega
     have hx2:Ext w (w11.putObj D (.deferred none)):=by
      have Q:=grownBy_putObj' w11 D (.deferred none);have hk:Kp [D] w11 (w11.putObj D (.deferred none)):=AKk Q (fun t=>t.elim) (fun k e=>by cases e;simp);refine hx1.tail hk fun x hx=>?_;have:x=D:=by simpa using hx
      subst this;exact AbP (AbP C.kp.size H.kp.size) hD
     refine .inr ⟨D,_,rfl,run_takeDeferred hdef11,.agg #[v'],fun a ha=>?_,v',rfl,?_,hx2⟩
     . have hrow:Row 146 (w11.putObj D (.deferred none)) b8 [v']:=(hne b8 (Ac3 S)).trans T
       have key:∀(L:Sx.A8),Sx.A6 L 8=some (.pointer (some ⟨b8,0,none⟩))->∀a:Act,Knows f73.ntmps [] L a->(results f73 a.tmps).run prog (w11.putObj D (.deferred none))=.ok (.agg #[v']) (w11.putObj D (.deferred none)):=fun L hL a ha=>by
        obtain⟨_,v,hrun,hR⟩:ABh prog f73 (fun e _=>e=.returned (.agg #[v'])) [] L (w11.putObj D (.deferred none)):=H4 results73 (AllRs.cons (RsOk.agg hL hrow.rd.cells isAgg146 rfl sizeOf146) AllRs.nil) rfl rfl;have:=hrun _ ha;injection hR with hR;rw[hR]at this;exact this
       refine key _ ?_ { a with defers:=[] } ⟨ha.size,rfl,ha.val⟩
       rfl
     . have z:Sx.Own ReportE 45 0 (ob v'++M) (w11.putObj D (.deferred none)) v' ((xs.map Subtype.val).filter p):=(I.ownAt 0 rfl).flat AJC hob
       have hlast:=(Own.flat (M':=M) AJC (I.ownAt 0 rfl) hob).rd (fun b F hbM=>by
        have J:=(I.own _ (AbF ..)).2 b F;rcases J with J|J
        . cases J
        . have:=hM b hbM;have:=C.kp.size;omega)
       exact hlast
 . cases h
end Go.Proofs.YtgioiejbphljoaaGreatDoor
namespace Go.Proofs.YtgioiejbphljoaaGreatDoor
open Go Go.Sx Go.Rx Go.RowKit
variable{M:List Nat}{w:World}{v:Value}{k:IntKind}{x:Int}
theorem okS{α:Ty}{l:List (den α)}(h:RdS (enc (P:=prog) α) M w v l):OkD (P:=prog) M w (.sl α) l v:=⟨[v],⟨v,rfl,h⟩,.inr ⟨rfl,rfl⟩⟩
theorem okN(h:InK k x):OkD (P:=prog) M w (.int k) x (.int k x):=⟨[_],⟨rfl,h⟩,.inr ⟨rfl,rfl⟩⟩
theorem ASS{b:Book}(h:RdS ReportE M w v b.facts):OkD (P:=prog) M w (.st 15) b (.agg (toArray [v])):=⟨[v],⟨v,rfl,h⟩,.inl ⟨rfl,rfl⟩⟩
theorem AK6(h:OkD (P:=prog) M w (.int k) x v):v=.int k x/\InK k x:=by
 obtain⟨cs,⟨H,hk⟩,I⟩:=h;have H:cs=[.int k x]:=H;subst H;exact I.elim (fun h=>by cases h.1) fun h=>⟨by have:=h.2;simp at this;exact this.symm,hk⟩
theorem AYz{x:Bool}(h:OkD (P:=prog) M w .bool x v):v=.bool x:=by
 obtain⟨cs,H,I⟩:=h;have H:cs=[.bool x]:=H;subst H;exact I.elim (fun h=>by cases h.1) fun h=>by have:=h.2;simp at this;exact this.symm
theorem ATJ{t:Told}(h:OkD (P:=prog) M w (.st 7) t v):∃u,v=.agg (toArray [.int .u8 t.known,.int .i64 t.cents,.int .i64 t.since,u])/\InK .u8 t.known/\InK .i64 t.cents/\InK .i64 t.since/\RdS (A9 .i64) M w u t.by_:=by
 obtain⟨cs,H,I⟩:=h;have I:v=.agg (toArray cs):=I.elim (fun h=>h.2) fun h=>by cases h.1
 have H:ToldE.R M w cs t:=H;simp only[ToldE,mapE_R,prodE_R,intE_R,sliceE_R]at H;obtain⟨_,_,rfl,⟨rfl,k1⟩,_,_,rfl,⟨rfl,k2⟩,_,_,rfl,⟨rfl,k3⟩,u,rfl,k4⟩:=H;exact⟨u,I,k1,k2,k3,k4⟩
theorem AWk{w':World}{Mo:List Nat}{l:List Report}(h:CkOk (P:=prog) M Mo w w' (.own (.sl 45 (.st 1))) l v):Sx.Own ReportE 45 0 M w' v l/\∀b∈ob v,w.heap.size<=b:=by
 obtain⟨_,H,J⟩:=h;have H:Sx.Own ReportE 45 0 (ob v++M) w' v l:=H;exact⟨H.mon fun b I=>.inr (mem_append.2 (.inr I)),J⟩
variable{v:Value}{b:Book}{kind:Int}{r0:Told}
theorem AJJ(H:MLt M w)(I:GlOk (P:=prog) M w){l:List Report}(f:RdS ReportE M w v l){r0:Int}(h:J0 l=some r0):
  Calls prog 65 (toArray [v]) w fun e w'=>e=.returned (.int .i64 r0)/\InK .i64 r0/\Ext w w':=by
 refine(ok65.2 M w (l,()) [v] r0 H I ⟨v,_,rfl,okS (α:=.st 1) f,rfl⟩ h).mono ?_
 rintro _ w' ⟨_,rfl,⟨v,rfl,U⟩,J⟩
 obtain⟨rfl,hk⟩:=AK6 U
 exact⟨rfl,hk,J⟩
theorem AGk(J:MLt M w)(U:GlOk (P:=prog) M w){lo hi:Int}(I:InK .i64 lo)(H:InK .i64 hi){l:List Int}(f:RdS (A9 .i64) M w v l){r0:Bool}(h:G5 lo hi l=some r0):
  Calls prog 66 (toArray [.int .i64 lo,.int .i64 hi,v]) w fun e w'=>e=.returned (.bool r0)/\Ext w w':=by
 refine(ok66.2 M w (lo,hi,l,()) _ r0 J U ⟨_,_,rfl,okN I,_,_,rfl,okN H,_,_,rfl,okS (α:=.int .i64) f,rfl⟩ h).mono ?_
 rintro _ w' ⟨_,rfl,⟨v,rfl,I⟩,H⟩
 obtain rfl:=AYz I
 exact⟨rfl,H⟩
theorem ACn(H:MLt M w)(I:GlOk (P:=prog) M w)(f:RdS ReportE M w v b.facts)(hk:InK .u8 kind){r0:List Report}(h:I6 b kind=some r0):
  Calls prog 117 (toArray [.agg (toArray [v]),.int .u8 kind]) w fun e w'=>∃u,e=.returned u/\(Sx.Own ReportE 45 0 M w' u r0/\∀b∈ob u,w.heap.size<=b)/\Ext w w':=by
 refine(ok117.2 M w (b,kind,()) _ r0 H I ⟨_,_,rfl,ASS f,_,_,rfl,okN hk,rfl⟩ h).mono ?_
 rintro _ w' ⟨_,rfl,⟨v,rfl,U⟩,J⟩
 exact⟨v,rfl,AWk U,J⟩
theorem AJ6(H:MLt M w)(I:GlOk (P:=prog) M w){l:List Report}(f:RdS ReportE M w v l){only:Bool}(h:Q7 l only=some r0):
  Calls prog 132 (toArray [v,.bool only]) w fun e w'=>∃u,e=.returned (.agg (toArray [.int .u8 r0.known,.int .i64 r0.cents,.int .i64 r0.since,u]))/\InK .u8 r0.known/\InK .i64 r0.cents/\InK .i64 r0.since/\RdS (A9 .i64) M w' u r0.by_/\Ext w w':=by
 refine(ok132.2 M w (l,only,()) _ r0 H I ⟨_,_,rfl,okS (α:=.st 1) f,_,_,rfl,⟨[_],rfl,.inr ⟨rfl,rfl⟩⟩,rfl⟩ h).mono ?_
 rintro _ w' ⟨_,rfl,⟨v,rfl,U⟩,J⟩
 obtain⟨u,rfl,k1,k2,k3,k4⟩:=ATJ U
 exact⟨u,rfl,k1,k2,k3,k4,J⟩
theorem AAP(H:MLt M w)(I:GlOk (P:=prog) M w)(f:RdS ReportE M w v b.facts)(hk:InK .u8 kind)(h:G8 b kind=some r0):
  Calls prog 110 (toArray [.agg (toArray [v]),.int .u8 kind]) w fun e w'=>∃u,e=.returned (.agg (toArray [.int .u8 r0.known,.int .i64 r0.cents,.int .i64 r0.since,u]))/\InK .u8 r0.known/\InK .i64 r0.cents/\InK .i64 r0.since/\RdS (A9 .i64) M w' u r0.by_/\Ext w w':=by
 refine(ok110.2 M w (b,kind,()) _ r0 H I ⟨_,_,rfl,ASS f,_,_,rfl,okN hk,rfl⟩ h).mono ?_
 rintro _ w' ⟨_,rfl,⟨v,rfl,U⟩,J⟩
 obtain⟨u,rfl,k1,k2,k3,k4⟩:=ATJ U
 exact⟨u,rfl,k1,k2,k3,k4,J⟩
end Go.Proofs.YtgioiejbphljoaaGreatDoor
namespace Go.Rx
open Go Go.Sx Go.RowKit
variable[Trk][Sg][Sf]
structure Jf(n b0:Nat)(val:Nat->Option Value)(Q:(Nat->Bool)->A8->World->Prop)(L0:A8)(D:Nat->Bool)(L:A8)(W:World):Prop where
 base:∀t,¬(b0<=t/\t<b0+n)->Sx.A6 L t=Sx.A6 L0 t
 f:∀k v,val k=some v->D k=true->Sx.A6 L (b0+k)=some v
 q:Q D L W
variable{n b0:Nat}{val:Nat->Option Value}{Q:(Nat->Bool)->A8->World->Prop}{L0 L:A8}{D:Nat->Bool}{W W':World}
theorem Jf.start(h:Q (fun _=>false) L0 W):Jf n b0 val Q L0 (fun _=>false) L0 W:=⟨fun _ _=>rfl,(fun _ _ _ h=>by cases h),h⟩
theorem Jf.put{k:Nat}{v:Value}(h:Jf n b0 val Q L0 D L W)(hk:k<n)(hv:∀u,val k=some u->u=v)(J:Q (fun j=>beq j k||D j) ((b0+k,v)::L) W'):Jf n b0 val Q L0 (fun j=>beq j k||D j) ((b0+k,v)::L) W':=by
 refine⟨fun t I=>?_,fun j u H hd=>?_,J⟩
 . rw[look_cons,if_neg (by omega)];exact h.base t I
 . rw[look_cons];by_cases e:k=j
   . subst e;rw[AbO rfl,hv u H]
   . rw[if_neg (by omega)];have hd:(beq j k||D j)=true:=hd;rw[R6 (Ac3 e),Bool.false_or]at hd;exact h.f j u H hd
theorem Jf.sto{k:Nat}(h:Jf n b0 val Q L0 D L W)(hk:val k=none)(I:Q (fun j=>beq j k||D j) L W'):Jf n b0 val Q L0 (fun j=>beq j k||D j) L W':=by
 refine⟨h.base,fun j u H hd=>?_,I⟩;have hd:(beq j k||D j)=true:=hd;rw[R6 (fun e=>by subst e;rw[hk]at H;cases H),Bool.false_or]at hd;exact h.f j u H hd
theorem djT{D:Nat->Bool}{j k:Nat}(h:D j=true):(beq j k||D j)=true:=(AbJ (beq j k||·) h).trans (Bool.or_true _)
def atC:List Nat->Code->Code
 |1::p,.seq a _=>atC p a
 |2::p,.seq _ b=>atC p b
 |3::p,.block _ a=>atC p a
 |3::p,.loop a=>atC p a
 |_,c=>c
def AWl:Code->List Oper
 |.region _ l _=>l.toList
 |_=>[]
end Go.Rx
end
