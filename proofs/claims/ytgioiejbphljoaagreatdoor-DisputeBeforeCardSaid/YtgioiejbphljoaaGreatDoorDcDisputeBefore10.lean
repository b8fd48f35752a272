/-
  What DisputeBefore stands on, part 10: memory, code, plain reckoning.
-/
import Derived.RangeFuncNested
import Derived.Test.YtgioiejbphljoaaGreatDoorDcDisputeBefore9
open List (mem_append mem_cons mem_map mem_of_getElem? mem_singleton toArray)
open Nat (beq blt)
open Go.Proofs.Tryz
set_option linter.unusedVariables false
set_option linter.unusedSectionVars false
set_option maxRecDepth 20000
set_option maxHeartbeats 4000000
noncomputable section
namespace Go.Rx
open Go Go.Sx Go.RowKit
section
variable[Trk][Sg][Sf]{P:Program}[Se P][Anch]{w0 w:World}{M:List Nat}{N:Nat}{ds:List Deferred}
theorem AO3[Sl (P:=P)]{G:Gx}(hG:GxOk P G)(r:Option Nat){n:Nat}(c:Code)(an:An){sh:Sh}{σ:AS}{x:O6 sh.cs}{L:A8}{w:World}{A B:A5}{X:Nat->A5}{Z:List PanicEntry->A5}(h:exec G N (fun _=>(none:Option Unit)) c an (I3 sh) (fun _ _=>none) (fun _=>none) σ=some x)(hH:Holds (P:=P) w0 [] M σ L w)(hA:∀L' w',EnvS (D6 c++D5 an) L L'->Holds (P:=P) w0 [] M (B8 (D6 c++D5 an) sh σ x) L' w'->A ds L' w'):CF r n P N c ds L w A B X Z:=
 ADY (I9 hG c an _ _ _ _ _ _ _ _ _ _ _ _ _ h hH (fun σ1 L1 w1 h1 hR hE1 hH1=>by
  obtain⟨S,ρ,γ,μ,ι,hS⟩:=hH1;exact hA L1 w1 hE1 (U4 hS hR h1)) (fun i σ2 L2 w2 h2=>by cases h2) (fun r σ2 L2 w2 h2 h3 _ hH2=>by cases h2) PZ.no)
end
theorem AGz[Trk][Sg][Sf]{P:Program}[Se P][Sl (P:=P)][Sn P](htk:¬Trk.t){G:Gx}(hG:GxOk P G){f:Func}{cs:List Ck}{M:List Nat}{w:World}{r:H9 cs}(hn:Nat.ble cs.length 4=true)(hc:tnK cs=true){D:Nat}(hD:w.heap.size<=D){σ':AS}{L':A8}{w':World}(h1:S8 G cs f.results.toList σ'=some r)(hH:@Holds _ _ _ P _ (AIe D) _ w [] M σ' L' w'):FinM P f (fun e w'=>∃vs,e=.returned (ACW vs)/\KsOk (P:=P) M (obK cs vs++M) w w' cs r vs/\Ext w w') [{ target:=.collected D,args:=#[] }] L' w':=by
 obtain⟨vs,h2,h3,h4,h5⟩:=@ANR _ _ _ P _ _ (AIe D) G hG _ _ _ _ _ _ _ _ hH h1;obtain⟨S,ρ,γ,μ,ι,hS⟩:=hH;have hQ:D∉mm S M/\w'.heap[D]?=some (.deferred (some [])):=by
  letI:=AIe D
  exact hS.anch.1
 have htn:Tn w' (w'.putObj D (.deferred none)):=⟨by simp,fun b o ho hcl=>by
  by_cases e:b=D
  . subst e;rw[hQ.2]at ho;cases ho;cases hcl
  . exact(World.putObj_heap_other e).trans ho⟩
 have hx:Ext w (w'.putObj D (.deferred none)):=⟨h5.os,h5.tape,h5.output,Aad h5.size (by simp),fun b hb hn=>(World.putObj_heap_other (by omega)).trans (h5.block b hb hn),fun h=>absurd h htk⟩;have h6:=H2 (P:=P) (fn:=f) (R:=fun e w'=>∃vs,e=.returned (ACW vs)/\KsOk (P:=P) M (obK cs vs++M) w w' cs r vs/\Ext w w') (by simp) (AllRs.tn htn h2) (by rw[h3];exact hn) ⟨vs,by rw[AFN],KsOk.tn htn cs hc h4,hx⟩;obtain⟨_,v,h7,h8⟩:=h6;exact .inr ⟨D,_,rfl,run_takeDeferred hQ.2,v,fun a ha=>h7 { tmps:=a.tmps,defers:=[] } ⟨ha.size,rfl,ha.val⟩,h8⟩
end Go.Rx
namespace Go.Proofs.YtgioiejbphljoaaGreatDoor
open Go Go.Sx Go.Rx Go.RowKit
theorem AVm:ALG ReportE:=fun h=>ReportE_R.2 (ReportE_R.1 h)
def AB4(x:Dispute):List Value:=[.int .i64 x.id,.int .i64 x.report,.int .i64 x.day]
def AEO(v:Verdict):List Value:=[.int .i64 v.day,.int .u8 v.is_,.int .i64 v.by_.id,.int .i64 v.by_.dispute,.int .i64 v.by_.day,.int .u8 v.by_.says,.int .i64 v.by_.about,.int .i64 v.by_.cents]
noncomputable def AZh:Code:=match f41.body with
 |some (.seq _ (.seq _ (.seq (.seq _ (.block _ c)) _)))=>c
 |_=>.skip
noncomputable def AVn:Code:=match AZh with
 |.rangeFunc _ _ _ b=>b
 |_=>.skip
noncomputable def AVo:Code:=match f41.body with
 |some (.seq _ (.seq _ (.seq _ c)))=>c
 |_=>.skip
def sB(d:Desk_99)(x:Dispute)(v:Verdict)(l:List Report):AS:=⟨(6,.ptr 6 0)::[(2,.rp (.str 10 d) 0),(7,.rp (.str 2 x) 0),(8,.rp (.str 12 v) 0)],[(6,.row 24 [.own 66]),(66,.own false (.sl 45 (.st 1)) l)],[],[]⟩
def sP(d:Desk_99)(l:List Report):AS:=⟨(6,.ptr 6 0)::[(2,.rp (.str 10 d) 0)],[(6,.row 24 [.own 66]),(66,.own false (.sl 45 (.st 1)) l)],[],[]⟩
def shB:Sh:=⟨[(.cell 6 0,.own (.sl 45 (.st 1)))],[6]⟩
def cs41:List Ck:=[.own (.sl 45 (.st 1)),.d (.int .i64)]
def AO4:Gx:={ gxb with fs:=[(78,ctr78),(79,ctr79),(80,ctr80)],fm:=[(77,ctrm77)] }
theorem AJe:GxOk prog AO4:=AEn ⟨⟨ok78,call78⟩,⟨⟨ok79,call79⟩,⟨⟨ok80,call80⟩,trivial⟩⟩⟩ trivial ⟨⟨okm77,call77⟩,trivial⟩
theorem AT1(d:Desk_99)(x:Dispute)(v:Verdict)(l:List Report):exec gxb 65 (fun _=>(none:Option Unit)) AVn AKI (I3 shB) (fun _ _=>none) (fun _=>none) (sB d x v l)=X2 d x v l:=by kernel_rfl
theorem AVp(d:Desk_99)(l:List Report):exec AO4 65 (S8 AO4 cs41 f41.results.toList) AVo AMT (S8 AO4 cs41 f41.results.toList) (fun _ _=>none) some (sP d l)=ABE d l:=by kernel_rfl
def AZi(M:List Nat)(b6:Nat)(Lb:Sx.A8)(x:Dispute×Verdict)(L:Sx.A8)(W:World):Prop:=∃b7 b8 u,L=(8,.pointer (some ⟨b8,0,none⟩))::(7,.pointer (some ⟨b7,0,none⟩))::(15,M8 (.st 12) x.2)::(14,M8 (.st 2) x.1)::Lb/\Row 53 W b7 (AB4 x.1)/\Row 111 W b8 (AEO x.2)/\Row 24 W b6 [u]/\(b7∉ob u/\b7≠b6/\b7∉M)/\(b8∉ob u/\b8≠b6/\b8∉M)
theorem AHw{e:TypeId}{W W':World}{b:Nat}{cs:List Value}{row:Option Nat}(h:Row e W b cs)(hg:W.grownBy W' row)(hr:∀r,row=some r->∃o:Obj,W.heap[r]?=some o/\o.isCells=false):Row e W' b cs:=by
 have h:W.heap[b]?=_:=h;refine(hg.block b (G0 h) fun e'=>?_).trans h;obtain⟨o',g1,g2⟩:=hr b e'.symm;rw[h]at g1;cases g1;cases g2
theorem AKJ[Anch]{w:World}{M:List Nat}{b6:Nat}{u:Value}{l:List Report}{L:Sx.A8}{W:World}{env:List (Nat×SV)}(e2:Hp w [] M (D9 ReportE 45 24 b6 u l) W)(l6:Sx.A6 L 6=some (.pointer (some ⟨b6,0,none⟩)))(hE:∀t s,A1 env t=some s->∃v,Sx.A6 L t=some v/\Ok (P:=prog) (fun i=>if i=6 then .pointer (some ⟨b6,0,none⟩) else u) (A1 [(6,.row 24 [.own 66]),(66,.own false (.sl 45 (.st 1)) l)]) (mm (D9 ReportE 45 24 b6 u l) M) W s v)(hA:AnOk (P:=prog) (mm (D9 ReportE 45 24 b6 u l) M) W):
  Holds (P:=prog) w [] M ⟨(6,.ptr 6 0)::env,[(6,.row 24 [.own 66]),(66,.own false (.sl 45 (.st 1)) l)],[],[]⟩ L W:=by
 refine⟨D9 ReportE 45 24 b6 u l,fun i=>if i=6 then .pointer (some ⟨b6,0,none⟩) else u,fun i=>if i=6 then [u] else [],fun _=>[],fun i=>if i=6 then 1 else 0,e2,fun i a hi=>?_,fun i j a b hi hj e=>?_,fun i a hi=>?_,fun t s ht=>?_,hA⟩
 . rw[fnd_cons]at hi
   split at hi
   . rename_i e;subst e;cases hi;rfl
   rw[fnd_cons]at hi
   split at hi
   . rename_i e;subst e;cases hi;rfl
   cases hi
 . rw[fnd_cons]at hi hj
   split at hi<;>split at hj
   . rename_i e1 e2;rw[<-e1,<-e2]
   . rename_i e1 e2
     rw[fnd_cons]at hj
     split at hj
     . rename_i e3;subst e1 e3;cases e
     . cases hj
   . rename_i e1 e2
     rw[fnd_cons]at hi
     split at hi
     . rename_i e3;subst e2 e3;cases e
     . cases hi
   . rw[fnd_cons]at hi hj
     split at hi<;>split at hj
     . rename_i e3 e4;rw[<-e3,<-e4]
     . cases hj
     . cases hi
     . cases hi
 . rw[fnd_cons]at hi
   split at hi
   . rename_i e;subst e;cases hi
     exact⟨⟨b6,rfl⟩,u,[u],[],rfl,⟨rfl,Own.cells1 (e2.ownAt 0 rfl),Own.oneC (e2.ownAt 0 rfl)⟩,Own.cells1 (e2.ownAt 0 rfl),rfl⟩
   rw[fnd_cons]at hi
   split at hi
   . rename_i e;subst e;cases hi;trivial
   cases hi
 . rw[fnd_cons]at ht
   split at ht
   . rename_i e;subst e;cases ht;exact⟨_,l6,b6,rfl,rfl⟩
   . exact hE t s ht
def F1(d:Desk_99)(day:Int):Option (List Report×Int):=(D4 d day).bind fun ys=>(AB8 (fun l (y:Dispute×Verdict)=>X2 d y.1 y.2 l) [] ys).bind fun l=>ABE d l
def ctr41:Ctr:=⟨[.d (.st 10),.d (.int .i64)],cs41,fun a=>F1 a.1 a.2.1⟩
theorem ok41:Ctr.ok prog 41 ctr41:=by
 refine⟨by decide,fun M w a vals r hM hg ha hr=>?_⟩;obtain⟨d,day,_⟩:=a;obtain⟨vd,_,rfl,hvd,⟨vk,_,rfl,hvk,rfl⟩⟩:=ha;have hvd:OkD (P:=prog) M w (.st 10) d vd:=hvd;have hvk:OkD (P:=prog) M w (.int .i64) day vk:=hvk;have hr:F1 d day=some r:=hr;unfold F1 at hr;obtain⟨ys,hys,hr⟩:=C5 hr;obtain⟨l0,hl0,hr⟩:=C5 hr;obtain⟨ho1,ho2⟩:=AFz hl0;have hvd0:=hvd;obtain⟨cs,h1,h3⟩:=hvd;obtain rfl:vd=.agg (toArray cs):=h3.elim (fun h=>h.2) fun h=>by cases h.1
 have hncs:cs.length=8:=(enc (P:=prog) (.st 10)).len h1;refine ABQ (l:=[.agg (toArray cs),vk]) func41 rfl rfl rfl ?_;have hI:=Hp.start (Mu:=[]) hM;refine A3 ?_;refine A7 ?_;refine R7 hI rfl rfl rfl ?_;intro b2 w2 hI2 x2;have hC2:=hI2.freezeRow 0 rfl;have hI2:=hI2.erase 0;refine C6 rfl rfl ?_;refine C6 rfl rfl ?_;refine Reg.nil ?_;refine A3 ?_;refine A7 ?_;refine P5 hI2 zeroValue24 rfl rfl ?_;intro b6 w3 hI3 x3;refine Reg.nil ?_;have hI3:Hp w [] M (D9 ReportE 45 24 b6 (.slice none 0 0) []) w3:=hI3.addNil ReportE 45;have hx3:Adv M (mm (D9 ReportE 45 24 b6 (.slice none 0 0) []) M) w w3:=hI3.adv;have hb6:w.heap.size<=b6:=((hI3.own _ (AaP (i:=1) rfl)).2 b6 (mem_singleton.2 rfl)).resolve_left (fun h=>by cases h);have hC3:RdC (mm (D9 ReportE 45 24 b6 (.slice none 0 0) []) M) w3 b2 0 cs:=(hC2.adv x3).adv (ACm ReportE 45);refine A3 ?_;refine A3 ?_;refine A7 ?_;refine Y0 rfl hC3.cells isAgg99 hncs sizeOf99 rfl ?_;refine E5 rfl rfl ?_;refine G6 rfl call45 rfl ?_;refine(ok45.2 (mm (D9 ReportE 45 24 b6 (.slice none 0 0) []) M) w3 (d,day,()) [.agg cs.toArray,vk] ys hI3.mlt (hg.adv hx3) ⟨_,_,rfl,OkD.adv hvd0 hx3,_,_,rfl,OkD.adv hvk hx3,rfl⟩ hys).mono ?_;rintro _ w4 ⟨_,rfl,⟨v13,rfl,⟨⟨gf,lb,rfl,heg,hok,hit⟩,_⟩⟩,x4⟩;refine⟨_,rfl,?_⟩;refine Reg.nil ?_;have hI4:=hI3.ext x4;have hA34:=Adv.of_ext (M:=mm (D9 ReportE 45 24 b6 (.slice none 0 0) []) M) x4;have hC4:=hC3.adv hA34;have hd4:=OkD.adv hvd0 (hx3.trans hA34);have hg4:=hg.adv (hx3.trans hA34);have hseq:=hit (mm (D9 ReportE 45 24 b6 (.slice none 0 0) []) M) w4 (Adv.refl _ _) hI4.mlt {x // x∈ys} Subtype.val ys.attach (Aa2 ys);generalize hLb:((13,ACW [Value.func (.func gf) #[] lb])::(12,vk)::(11,Value.agg cs.toArray)::(6,Value.pointer (some ⟨b6,0,none⟩))::(5,Value.int .i64 0)::(4,Value.slice none 0 0)::(2,Value.pointer (some ⟨b2,0,none⟩))::T7 0 [Value.agg cs.toArray,vk])=Lb;have lb2:Sx.A6 Lb 2=some (.pointer (some ⟨b2,0,none⟩)):=by rw[<-hLb];rfl
 have lb6:Sx.A6 Lb 6=some (.pointer (some ⟨b6,0,none⟩)):=by rw[<-hLb];rfl
 have lb13:Sx.A6 Lb 13=some (.func (.func gf) #[] lb):=by rw[<-hLb];rfl
 clear hLb;have hcells:∀x∈ys,okI (.st 2) x.1/\okI (.st 12) x.2:=hok;let S0:=D9 ReportE 45 24 b6 (.slice none 0 0) [];let I:List {x // x∈ys}->World->Prop:=fun pre W=>∃l u,List.foldlM (fun l (y:Dispute×Verdict)=>X2 d y.1 y.2 l) [] (pre.map Subtype.val)=some l/\Hp w [] M (D9 ReportE 45 24 b6 u l) W/\Adv (mm S0 M) (mm (D9 ReportE 45 24 b6 u l) M) w4 W;have hw4:w.heap.size<=w4.heap.size:=hI4.kp.size;have hKI:∀{u u':Value} {l l':List Report} {W W':World},Hp w [] M (D9 ReportE 45 24 b6 u l) W->Hp w [] M (D9 ReportE 45 24 b6 u' l') W'->Adv (mm S0 M) (mm (D9 ReportE 45 24 b6 u l) M) w4 W->Adv (mm (D9 ReportE 45 24 b6 u l) M) (mm (D9 ReportE 45 24 b6 u' l') M) W W'->KeepsFrom w4.heap.size W W'/\KI (mm S0 M) w4.heap.size W W':=fun {u u' l l' W W'} h h' hA hA'=>by
  obtain⟨_,k⟩:=h.kb h' hA';refine⟨⟨k.size,fun i o hB=>k.same i o (Aad hw4 hB)⟩,hA'.kp.os,hA'.kp.tape,hA'.kp.output,hA'.kp.size,fun b hb hn=>?_⟩;refine hA'.kp.block b (Aah hb hA.kp.size) fun hm=>?_;exact(hA.new b hm).elim hn fun h=>by omega
 refine C4 ?_;refine AOE (val:=fun x:{x // x∈ys}=>M8 (.st 2) x.1.1) (val2:=fun x:{x // x∈ys}=>M8 (.st 12) x.1.2) (K:=KI (mm S0 M) w4.heap.size) (xs:=ys.attach) lb13 heg rfl rfl hseq (fun h k=>h.trans k) (fun W k o o' hk _ _ _=>KI.putObj hk) I (fun _ _=>False) ?_ (fun _ _ _ _ h _ _=>h.elim) ⟨[],.slice none 0 0,rfl,hI4,Adv.refl _ _⟩ (fun x L' W=>AZi M b6 Lb x.1 L' W) ?_ ?_ ?_ ?_ (fun _ _ _ _ _ h _=>h.elim)
 . rintro pre W W' row ⟨l,u,e1,e2,e3⟩ hgr hr;exact⟨l,u,e1,e2.turnG AVm (fun h=>h) hgr (fun r e=>⟨Aad hw4 (hr r e).1,(hr r e).2⟩),Adv.turn (fun h=>h) e3 hgr hr⟩
 . rintro x L' _ W W' row ⟨b7,b8,u,e1,e2,e3,e4,e5⟩ hgr hr;exact⟨b7,b8,u,e1,AHw e2 hgr fun r e=>(hr r e).2,AHw e3 hgr fun r e=>(hr r e).2,AHw e4 hgr fun r e=>(hr r e).2,e5⟩
 . rintro k pre x W ⟨l,u,e1,e2,e3⟩;refine AFx ?_;refine Z1 rfl ?_;refine P5 e2 zeroValue53 rfl rfl ?_;intro b7 w5 hI5 x5;refine N2 0 (vs:=AB4 x.1.1) hI5 rfl rfl rfl rfl sizeOf53 rfl rfl (one1 rfl (one1 rfl (one1 rfl one0))) ?_;intro w6 hI6 x6;have hI6:Hp w [] M (rowR 53 b7 (AB4 x.1.1)::D9 ReportE 45 24 b6 u l) w6:=hI6;refine Reg.nil ?_;refine Z1 rfl ?_;refine P5 hI6 zeroValue111 rfl rfl ?_;intro b8 w7 hI7 x7;refine N2 0 (vs:=AEO x.1.2) hI7 rfl rfl rfl rfl sizeOf111 rfl rfl (one1 rfl (one1 rfl (one1 rfl (one1 rfl (one1 rfl (one1 rfl (one1 rfl (one1 rfl one0)))))))) ?_;intro w8 hI8 x8;have hI8:Hp w [] M (rowR 111 b8 (AEO x.1.2)::rowR 53 b7 (AB4 x.1.1)::D9 ReportE 45 24 b6 u l) w8:=hI8;have hI9:Hp w [] M (D9 ReportE 45 24 b6 u l) w8:=(hI8.erase 0).erase 0;have hA:Adv (mm (D9 ReportE 45 24 b6 u l) M) (mm (D9 ReportE 45 24 b6 u l) M) W w8:=x5.trans (x6.trans (x7.trans (x8.trans ((E3 (σ:=rowR 111 b8 (AEO x.1.2)::rowR 53 b7 (AB4 x.1.1)::D9 ReportE 45 24 b6 u l) 0).trans (E3 (σ:=rowR 53 b7 (AB4 x.1.1)::D9 ReportE 45 24 b6 u l) 0)))));obtain⟨k1,k2⟩:=hKI e2 hI9 e3 hA;refine Reg.nil ⟨rfl,k1,k2,⟨l,u,e1,hI9,e3.trans hA⟩,b7,b8,u,rfl,hI8.row 1 rfl,hI8.row 0 rfl,hI8.row 3 rfl,⟨?_,?_,?_⟩,?_,?_,?_⟩
   . exact fun hb=>hI8.dis 1 2 _ _ rfl rfl (by omega) b7 (mem_singleton.2 rfl) hb
   . exact fun e=>hI8.dis 1 3 _ _ rfl rfl (by omega) b7 (mem_singleton.2 rfl) (mem_singleton.2 e)
   . exact hI8.sepM _ (AaP (i:=1) rfl) b7 (mem_singleton.2 rfl)
   . exact fun hb=>hI8.dis 0 2 _ _ rfl rfl (by omega) b8 (mem_singleton.2 rfl) hb
   . exact fun e=>hI8.dis 0 3 _ _ rfl rfl (by omega) b8 (mem_singleton.2 rfl) (mem_singleton.2 e)
   . exact hI8.sepM _ (AaP (i:=0) rfl) b8 (mem_singleton.2 rfl)
 . rintro k pre x L' W ⟨l,u,e1,e2,e3⟩ ⟨b7,b8,u',rfl,r7,r8,r6,s7,s8⟩ hlt;obtain rfl:u'=u:=by
    have e9:W.heap[b6]?=_:=e2.row 1 rfl;have e8:W.heap[b6]?=_:=r6;rw[e9]at e8;have:=AaO e8;injection this with h9;simpa using h9.symm
   obtain⟨l',hb',hfold⟩:=ho2 (pre.map Subtype.val) x.1 l (by simpa using hlt) (fun y hy=>by obtain⟨z,_,rfl⟩:=mem_map.1 hy;exact z.2) x.2 e1;have hmem:∀b,b∈mm (D9 ReportE 45 24 b6 u' l) M->b∈ob u'\/b=b6\/b∈M:=fun b hb=>by
    simp only[mm,ownR,rowR,mem_append,mem_cons,List.not_mem_nil,or_false]at hb;rcases hb with h1|h1|h1
    . exact .inl h1
    . exact .inr (.inl h1)
    . exact .inr (.inr h1)
   letI:Anch:=AXH (mm (D9 ReportE 45 24 b6 u' l) M) W
   have hst:Holds (P:=prog) w [] M (sB d x.1.1 x.1.2 l) ((8,.pointer (some ⟨b8,0,none⟩))::(7,.pointer (some ⟨b7,0,none⟩))::(15,M8 (.st 12) x.1.2)::(14,M8 (.st 2) x.1.1)::Lb) W:=by
    refine AKJ e2 lb6 (fun t s ht=>?_) ⟨Adv.refl _ _,hg4.adv e3⟩;rw[fnd_cons]at ht;split at ht
    . rename_i e;subst e;cases ht;exact⟨_,lb2,b2,0,_,cs,rfl,hC4.adv e3,OkD.adv hd4 e3,rfl⟩
    rw[fnd_cons]at ht;split at ht
    . rename_i e;subst e;cases ht;exact⟨_,rfl,b7,0,_,AB4 x.1.1,rfl,G5 (fun hb=>(hmem b7 hb).elim s7.1 fun h=>h.elim s7.2.1 s7.2.2) r7,AEm (.st 2) (hcells x.1 x.2).1,rfl⟩
    rw[fnd_cons]at ht;split at ht
    . rename_i e;subst e;cases ht;exact⟨_,rfl,b8,0,_,AEO x.1.2,rfl,G5 (fun hb=>(hmem b8 hb).elim s8.1 fun h=>h.elim s8.2.1 s8.2.2) r8,AEm (.st 12) (hcells x.1 x.2).2,rfl⟩
    cases ht
   refine AHp (AO3 AGw (some k) AVn AKI (sh:=shB) ((AT1 d x.1.1 x.1.2 l).trans hb') hst fun L2 W2 hE2 hH2=>?_);obtain⟨S2,ρ2,γ2,μ2,ι2,hS2⟩:=hH2;obtain⟨v6,l26,bb,hbb,rfl⟩:=hS2.env 6 (.ptr 6 0) rfl;have hbb6:bb=b6:=by
    have:=(hE2 6 (by decide)).trans lb6;rw[l26]at this;injection this with h9;injection h9 with h9;simpa using h9
   subst hbb6;obtain⟨bq,hbq,rq,oq,iq⟩:=hS2.rowAt (i:=6) (e:=24) (l:=[.own 10600]) rfl;rw[hbb]at hbq;cases hbq;obtain⟨q,eq1,oq1⟩:=AC5 oq;have oq1:q=[]:=oq1;rw[oq1]at eq1;rw[eq1]at iq;have io:=hS2.res 10600 (.own false (.sl 45 (.st 1)) l') rfl;have io:S2[ι2 10600]?=some (ownR [] ReportE 45 (ρ2 10600) l'):=io;have hni:ι2 10600≠ι2 6:=fun e=>by
    have:=hS2.inj 10600 6 _ _ rfl rfl e;cases this
   have hsel:sel S2 [ι2 10600,ι2 6]=D9 ReportE 45 24 bb (ρ2 10600) l':=by
    simp only[sel,nthR_eq,io,iq]
   have hHp:=hS2.hp.sel [ι2 10600,ι2 6] (by simp[ACF,hni]);rw[hsel]at hHp;have hadv:Adv (mm (D9 ReportE 45 24 bb u' l) M) (mm (D9 ReportE 45 24 bb (ρ2 10600) l') M) W W2:=by
    have h1:Adv (mm (D9 ReportE 45 24 bb u' l) M) (mm S2 M) W W2:=hS2.anch.1;have h2:=h1.trans (ABP (M:=M) (w:=W2) (σ:=S2) [ι2 10600,ι2 6]);rw[hsel]at h2;exact h2
   obtain⟨k1,k2⟩:=hKI e2 hHp e3 hadv;exact⟨k1,k2,l',ρ2 10600,by rw[Aai];exact hfold,hHp,e3.trans hadv⟩
 . rintro D W hD ⟨l,u,e1,e2,e3⟩ hdef;rw[Aa2,ho1]at e1;cases e1
   have hDm:D∉mm (D9 ReportE 45 24 b6 u l0) M:=fun hb=>by
    simp only[mm,ownR,rowR,mem_append,mem_cons,List.not_mem_nil,or_false]at hb;rcases hb with h1|h1|h1
    . obtain⟨o,h2,h3⟩:=(e2.ownAt 0 rfl).isC D h1;rw[hdef]at h2;cases h2;cases h3
    . have h2:W.heap[b6]?=_:=e2.row 1 rfl;rw[<-h1,hdef]at h2;cases h2
    . have:=hM D h1;omega
   letI:Anch:=AIe D
   have hst:Holds (P:=prog) w [] M (sP d l0) Lb W:=by
    refine AKJ e2 lb6 (fun t s ht=>?_) ⟨⟨hDm,hdef⟩,hg4.adv e3⟩;rw[fnd_cons]at ht;split at ht
    . rename_i e;subst e;cases ht;exact⟨_,lb2,b2,0,_,cs,rfl,hC4.adv e3,OkD.adv hd4 e3,rfl⟩
    cases ht
   have hDw:w.heap.size<=D:=Aad hw4 hD;exact AAh (n:=3) (ADY (I9 AJe AVo AMT _ _ _ _ _ _ _ _ _ _ _ _ _ ((AVp d l0).trans hr) hst (fun σ2 L2 w2 h2 _ _ hH2=>AGz (fun h=>h) AJe (by decide) rfl hDw h2 hH2) (fun i σ2 L2 w2 h2=>by cases h2) (fun r' σ2 L2 w2 hp hk _ hH2=>by
    have hk:r'=r:=AaO hk;subst hk;exact AGz (fun h=>h) AJe (by decide) rfl hDw hp hH2) PZ.no))
def ACb(d:Desk)(asked:List Asked)(day:Int):Option ((Desk_99×List Asked×List Report×Int)⊕(List Letter×Int)):=(I7 d day).bind fun (r1,r2)=>cond ((!decide (r2=0))) (some (Sum.inr (([]:(List Letter)),r2))) ((B7 (S:=(Int×Int)) (R:=(Unit⊕((List Letter)×Int))) (fun (x12,x13)=>cond (decide (x13<(asked.length:Int))) ((ixo asked x13).bind fun y14=>Option.bind (α:=(Bool)) ((chk .i64 (x12+1)).bind fun n15=>(D8 n15 (999999:Int) ([y14.id])).bind fun r16=>cond ((!r16)) (some true) ((D8 (0:Int) (999999:Int) ([y14.who,y14.account])).bind fun r17=>cond ((!r17)) (some true) ((D8 (0:Int) (100000:Int) ([y14.day])).bind fun r18=>some (!r18)))) ((fun x19=>cond (x19) (some (Sum.inr (Sum.inr (([]:(List Letter)),(53:Int))))) ((chk .i64 (x13+1)).bind fun n20=>some (Sum.inl (y14.id,n20)))))) (some (Sum.inr (Sum.inl ())))) (((-1):Int),(0:Int))).bind ((Sum.elim (fun _=>cond (decide (40<(asked.length:Int))) (some (Sum.inr (([]:(List Letter)),(53:Int)))) ((F1 r1 day).bind fun (r21,r22)=>cond ((!decide (r22=0))) (some (Sum.inr (([]:(List Letter)),r22))) (some (Sum.inl (r1,asked,r21,day))))) (fun r23=>some (Sum.inr r23)))))
def ANi:An:=.nd (.x) (.nd (.x) (.nd (.x) (.nd (.x) (.nd (.nd (.x) (.lp ⟨[(.slot 10,.d (.int .i64)),(.slot 37,.d (.int .i64))],[8,4]⟩ [.exit 0 ⟨[],[8,4]⟩,.ret] (.nd (.x) (.nd (.x) (.nd (.nd (.x) (.nd (.nd (.jn [.norm ⟨[(.slot 63,.d .bool)],[12,8,4]⟩] (.x)) (.x)) (.x))) (.x)))))) (.x)))))
def ABF(l:List Report)(y:Dispute)(v:Verdict):Option (Report×Bool):=(V0 l v.day).bind fun r1=>some (((r1 y.report).getD (Report.mk 0 0 0 0 0 0 0 0)),((r1 y.report).isSome))
def AJf:An:=.x
def AAm(x:Desk_99)(l:List Report)(y:Dispute)(v:Verdict)(now:Report)(is_:Bool)(a:Asked):Option (Bool⊕Unit):=Option.bind (α:=(Bool)) (cond ((!decide (a.account=(((x.facts y.report).getD (Report.mk 0 0 0 0 0 0 0 0)).account)))) (some true) (cond (decide (v.day<=a.day)) (some true) ((chk .i64 (v.day-a.day)).bind fun n2=>some (decide (x.desk.terms.lately<n2))))) ((fun x3=>cond (x3) (some (Sum.inr ())) ((V0 l a.day).bind fun r4=>Option.bind (α:=(Bool)) (cond ((r4 y.report).isSome) (cond (decide ((((r4 y.report).getD (Report.mk 0 0 0 0 0 0 0 0)).about)<=a.day)) (cond ((!is_)) (some true) (some (!decide (((r4 y.report).getD (Report.mk 0 0 0 0 0 0 0 0))=now)))) (some false)) (some false)) ((fun x5=>some (Sum.inl (x5)))))))
def AHx:An:=.nd (.nd (.jn [.norm ⟨[(.slot 126,.d .bool)],[]⟩] (.x)) (.x)) (.nd (.x) (.jn [.norm ⟨[(.slot 153,.d .bool)],[]⟩] (.x)))
def K8(l:List Letter):Option (List Letter×Int):=(H5 ([(49:Nat),(50:Nat)]) l).bind fun (_,m1)=>some (m1,(0:Int))
def AMU:An:=.x
end Go.Proofs.YtgioiejbphljoaaGreatDoor
namespace Go.Rx
open Go Go.Sx Go.RowKit
def AMV:Nat->Code->An->Bool
 |0,.seq _ _,_=>true
 |n+1,.seq _ b,.nd _ r=>AMV n b r
 |_,_,_=>false
section
variable[Trk][Sg][Sf]{P:Program}[Se P][Anch]{w0 w:World}{M:List Nat}{r:Option Nat}{n N:Nat}{ds:List Deferred}
theorem AMW[Sl (P:=P)]{G:Gx}(hG:GxOk P G):∀(m:Nat) (c:Code) (an:An) {Y:Type} {KN:AS->Option Y} {KX:Nat->AS->Option Y} {σ:AS} {L:A8} {w:World} {z:Y} {A B:A5} {X:Nat->A5} {Z:List PanicEntry->A5},(∀(L:A8) (w:World) (v:Value) (T t:Nat) (L2:A8) (ds:List Deferred),blt t pnc=true->(∀u,u≠t->Sx.A6 L2 u=Sx.A6 L u)->X (ADM T t) ds ((t,v)::L) w->Z [{ v:=.iface T v,recovered:=false }] ds L2 w)->AMV m c an=true->exec G N (fun _=>(none:Option Unit)) (O4 m c) an KN KX (fun _=>none) σ=some z->Holds (P:=P) w0 [] M σ L w ->
  (∀σ' L' w',KN σ'=some z->EnvS (D6 (O4 m c)++D5 an) L L'->Holds (P:=P) w0 [] M σ' L' w'->CF r n P N (AKe m c) ds L' w' A B X Z) ->
  (∀i σ' L' w',KX i σ'=some z->EnvS (D6 (O4 m c)++D5 an) L L'->Holds (P:=P) w0 [] M σ' L' w'->X i ds L' w')->CF r n P N c ds L w A B X Z
 |0,.seq a b,an,Y,KN,KX,σ,L,w,z,A,B,X,Z,hX,_,h,hH,hA,hE=>AL5 (I9 hG a an _ _ _ _ _ _ _ _ _ _ _ _ _ h hH (fun σ1 L1 w1 h1 _ hE1 hH1=>hA σ1 L1 w1 h1 hE1 hH1) (fun i σ2 L2 w2 h2 _ hE2 hH2=>hE i σ2 L2 w2 h2 hE2 hH2) (fun r σ2 L2 w2 h2 h3 _ hH2=>by cases h2) ⟨fun T t L1 L2 w v ht hl hx=>hX L1 w v T t L2 ds ht hl hx,fun _ _ _ _ h=>h⟩)
 |m+1,.seq a b,.nd l q,Y,KN,KX,σ,L,w,z,A,B,X,Z,hX,hc,h,hH,hA,hE=>by
  have hc:AMV m b q=true:=hc;have h:exec G N (fun _=>(none:Option Unit)) a l (fun σ'=>exec G N (fun _=>(none:Option Unit)) (O4 m b) q KN KX (fun _=>none) σ') KX (fun _=>none) σ=some z:=h;have ha:∀t∈D6 a++D5 l,t∈D6 (O4 (m+1) (.seq a b))++D5 (.nd l q):=fun t ht=>(mem_append.1 ht).elim (fun h=>AaR _ (AaR _ h)) fun h=>AaS _ (AL8 (.nd l q) t h);have hb:∀t∈D6 (O4 m b)++D5 q,t∈D6 (O4 (m+1) (.seq a b))++D5 (.nd l q):=fun t ht=>(mem_append.1 ht).elim (fun h=>AaR _ (AaS _ h)) fun h=>AaS _ (AL9 (.nd l q) t h);refine AL5 (I9 hG a l _ _ _ _ _ _ _ _ _ _ _ _ _ h hH (fun σ1 L1 w1 h1 _ hE1 hH1=>?_) (fun i σ2 L2 w2 h2 _ hE2 hH2=>hE i σ2 L2 w2 h2 (hE2.mono ha) hH2) (fun r σ2 L2 w2 h2 h3 _ hH2=>by cases h2) ⟨fun T t L1 L2 w v ht hl hx=>hX L1 w v T t L2 ds ht hl hx,fun _ _ _ _ h=>h⟩);exact AMW hG m b q hX hc h1 hH1 (fun σ2 L2 w2 h2 hE2 hH2=>hA σ2 L2 w2 h2 ((hE1.mono ha).trans (hE2.mono hb)) hH2) fun i σ2 L2 w2 h2 hE2 hH2=>hE i σ2 L2 w2 h2 ((hE1.mono ha).trans (hE2.mono hb)) hH2
 |m+1,.seq a b,.x,_,_,_,_,_,_,_,_,_,_,_,_,hc,_,_,_,_=>by cases hc
 |m+1,.seq a b,.jn _ _,_,_,_,_,_,_,_,_,_,_,_,_,hc,_,_,_,_=>by cases hc
 |m+1,.seq a b,.lp _ _ _,_,_,_,_,_,_,_,_,_,_,_,_,hc,_,_,_,_=>by cases hc
 |0,.skip,_,_,_,_,_,_,_,_,_,_,_,_,_,hc,_,_,_,_|0,.region _ _ _,_,_,_,_,_,_,_,_,_,_,_,_,_,hc,_,_,_,_|0,.cond _ _ _,_,_,_,_,_,_,_,_,_,_,_,_,_,hc,_,_,_,_|0,.loop _,_,_,_,_,_,_,_,_,_,_,_,_,_,hc,_,_,_,_|0,.exit _,_,_,_,_,_,_,_,_,_,_,_,_,_,hc,_,_,_,_|0,.ret,_,_,_,_,_,_,_,_,_,_,_,_,_,hc,_,_,_,_
 |0,.scope _,_,_,_,_,_,_,_,_,_,_,_,_,_,hc,_,_,_,_|0,.label _,_,_,_,_,_,_,_,_,_,_,_,_,_,hc,_,_,_,_|0,.goto _,_,_,_,_,_,_,_,_,_,_,_,_,_,hc,_,_,_,_|0,.refuse _,_,_,_,_,_,_,_,_,_,_,_,_,_,hc,_,_,_,_|0,.block _ _,_,_,_,_,_,_,_,_,_,_,_,_,_,hc,_,_,_,_|0,.rangeFunc _ _ _ _,_,_,_,_,_,_,_,_,_,_,_,_,_,hc,_,_,_,_
 |_+1,.skip,_,_,_,_,_,_,_,_,_,_,_,_,_,hc,_,_,_,_|_+1,.region _ _ _,_,_,_,_,_,_,_,_,_,_,_,_,_,hc,_,_,_,_|_+1,.cond _ _ _,_,_,_,_,_,_,_,_,_,_,_,_,_,hc,_,_,_,_|_+1,.loop _,_,_,_,_,_,_,_,_,_,_,_,_,_,hc,_,_,_,_|_+1,.exit _,_,_,_,_,_,_,_,_,_,_,_,_,_,hc,_,_,_,_|_+1,.ret,_,_,_,_,_,_,_,_,_,_,_,_,_,hc,_,_,_,_
 |_+1,.scope _,_,_,_,_,_,_,_,_,_,_,_,_,_,hc,_,_,_,_|_+1,.label _,_,_,_,_,_,_,_,_,_,_,_,_,_,hc,_,_,_,_|_+1,.goto _,_,_,_,_,_,_,_,_,_,_,_,_,_,hc,_,_,_,_|_+1,.refuse _,_,_,_,_,_,_,_,_,_,_,_,_,_,hc,_,_,_,_|_+1,.block _ _,_,_,_,_,_,_,_,_,_,_,_,_,_,hc,_,_,_,_|_+1,.rangeFunc _ _ _ _,_,_,_,_,_,_,_,_,_,_,_,_,_,hc,_,_,_,_=>by cases hc
end
end Go.Rx
namespace Go.Sx
open Go Go.RowKit
variable[Trk]
section
variable{P:Program}{N:Nat}{ds:List Deferred}{L:A8}{w:World}{A:A5}{B:A5}{X:Nat->A5}{Z:List PanicEntry->A5}{g:Operand}{p:Nat}{p2:Nat}{assign:Code}{body:Code}{gf:Nat}{lb:Array Value}{α:Type}{xs:List α}
theorem AO5(m:Nat){val val2:α->Value}{K:World->World->Prop}(hg:ev L g=some (.func (.func gf) #[] lb))(eg:∀args w,(callFunc gf args).run P w=.ok (.enter gf args) w)(hp:blt p N=true)(hp2:blt p2 N=true)(hseq:SeqStopsK Fence.wide (m+1) P gf lb (fun x:α=>#[val x,val2 x]) K (fun ys=>ys=xs) (fun pre=>pre <+: xs) xs.length w)(hKt:∀{A B C:World},K A B->K B C->K A C)(hKb:∀(W:World) (l:Nat) (o o':Obj),w.heap.size<=l->W.heap[l]?=some o->o.isCells=false->o.isWalk=false->K W (W.putObj l o'))(I Ix:List α->World->Prop)(hI:OwnFrom w.heap.size I)(hIx:OwnFrom w.heap.size Ix)(h0:I [] w)(AL:α->A8->World->Prop)(hAL:∀x L',OwnFrom w.heap.size fun (_:Unit) W=>AL x L' W)(hassign:∀(l:Nat) (pre:List α) (x:α) (W:World),I pre W->CI l m P N assign [] ((p2,val2 x)::(p,val x)::L) W (fun ds' L' W'=>ds'=[]/\KeepsFrom w.heap.size W W'/\K W W'/\I pre W'/\AL x L' W') (fun _ _ _=>False) NoX (fun _ _ _ _=>False))(hbody:∀(l:Nat) (pre:List α) (x:α) (L':A8) (W:World),w.heap.size<=l->(∃r,W.heap[l]?=some (.loop r))->I pre W->AL x L' W->pre.length<xs.length ->
   CI l m P N body [] L' W (fun _ _ W'=>KeepsFrom w.heap.size W W'/\K W W'/\I (pre++[x]) W') (fun _ _ W'=>KeepsFrom w.heap.size W W'/\Ix (pre++[x]) W') NoX (fun _ _ _ _=>False))(hdone:∀(D:Nat) (W:World),w.heap.size<=D->I xs W->W.heap[D]?=some (.deferred (some []))->A ({ target:=.collected D,args:=#[] }::ds) L W)(hstop:∀(D:Nat) (pre:List α) (W:World),w.heap.size<=D->pre <+: xs->Ix pre W->W.heap[D]?=some (.deferred (some []))->B ({ target:=.collected D,args:=#[] }::ds) L W):
  CW P N (.rangeFunc g #[p,p2] assign body) ds L w A B X Z:=by
 intro a ha
 refine(wpIn_wide (n:=m+2)).1 ?_
 refine wpIn_rangeFunc_ownH (F:=Fence.wide) (n:=m+2) rfl (by omega) (ha.eval hg) trivial eg hseq (fun h k=>hKt h k) hKb (Below.refl _ _) (fun x=>rfl) I (fun c pre W=>c=.ret/\Ix pre W) hI
  (fun c s W W' row hs hgr hr=>⟨hs.1,hIx s W W' row hs.2 hgr hr⟩) h0 (fun x a' W=>∃L',Knows N [] L' a'/\AL x L' W) (fun x a' s W W' row hs hgr hr=>?_) ?_ ?_ ?_ ?_
 . obtain⟨L',h1,h2⟩:=hs
   exact⟨L',h1,hAL x L' () W W' row h2 hgr hr⟩
 . intro l pre x W K' hi hK
   have hk:Knows N [] ((p2,val2 x)::(p,val x)::L) { tmps:=(a.tmps.setIfInBounds p (val x)).setIfInBounds p2 (val2 x),defers:=[] }:=by
    have h1:=(show Knows N [] L { a with defers:=[] } from⟨ha.size,rfl,ha.val⟩).put hp (val x);exact h1.put hp2 (val2 x)
   have hz:(Array.foldl (fun (t:Array Value) (x:Tmp×Value)=>match x with|(p,v)=>t.setIfInBounds p v) a.tmps (#[p,p2].zip #[val x,val2 x]))=(a.tmps.setIfInBounds p (val x)).setIfInBounds p2 (val2 x):=by simp
   rw[hz]
   refine wpIn_mono (hassign l pre x W hi _ hk) fun e a' W' hq=>?_
   cases e with
   |normal=>obtain⟨ds',L',h1,rfl,h3,h4,h5,h6⟩:=hq;exact hK a' W' h3 h4 h5 ⟨L',h1,h6⟩
   |ret=>obtain⟨_,_,_,h⟩:=hq;exact h.elim
   |exit i=>obtain⟨_,_,_,h⟩:=hq;exact h.elim
   |panic c=>obtain⟨_,_,_,h⟩:=hq;exact h.elim
   |goto l=>exact hq.elim
   |outgrown=>exact hq.elim
 . intro l pre x a' W hwl hrec hi hA hl
   obtain⟨L',h1,h2⟩:=hA
   refine wpIn_mono (hbody l pre x L' W hwl hrec hi h2 hl a' h1) fun e a' W' hq=>?_
   cases e with
   |normal=>obtain⟨ds',L',h1,h3⟩:=hq;exact h3
   |ret=>obtain⟨ds',L',h1,h3,h4⟩:=hq;exact⟨h3,rfl,h4⟩
   |exit i=>obtain⟨_,_,_,h⟩:=hq;exact h.elim
   |panic c=>obtain⟨_,_,_,h⟩:=hq;exact h.elim
   |goto l=>exact hq.elim
   |outgrown=>exact hq.elim
 . intro D ys W hD hy hi hw
   subst hy
   exact⟨_,L,⟨ha.size,by rw[ha.defers],ha.val⟩,hdone D W hD hi hw⟩
 . intro D c pre W hD hy hi hw
   obtain⟨rfl,hi⟩:=hi
   exact wpIn_ret ⟨_,L,⟨ha.size,by rw[ha.defers],ha.val⟩,hstop D pre W hD hy hi hw⟩
theorem AO6(m:Nat){l0:Nat}{val val2:α->Value}{K:World->World->Prop}(hrec0:∃r,w.heap[l0]?=some (.loop r))(hg:ev L g=some (.func (.func gf) #[] lb))(eg:∀args w,(callFunc gf args).run P w=.ok (.enter gf args) w)(hp:blt p N=true)(hp2:blt p2 N=true)(hseq:SeqStopsK Fence.wide (m+1) P gf lb (fun x:α=>#[val x,val2 x]) K (fun ys=>ys=xs) (fun pre=>pre <+: xs) xs.length w)(hKt:∀{A B C:World},K A B->K B C->K A C)(hKb:∀(W:World) (l:Nat) (o o':Obj),w.heap.size<=l->W.heap[l]?=some o->o.isCells=false->o.isWalk=false->K W (W.putObj l o'))(I Ix:List α->World->Prop)(hI:OwnFrom w.heap.size I)(hIx:OwnFrom w.heap.size Ix)(h0:I [] w)(AL:α->A8->World->Prop)(hAL:∀x L',OwnFrom w.heap.size fun (_:Unit) W=>AL x L' W)(hassign:∀(l:Nat) (pre:List α) (x:α) (W:World),I pre W->CI l m P N assign [] ((p2,val2 x)::(p,val x)::L) W (fun ds' L' W'=>ds'=[]/\KeepsFrom w.heap.size W W'/\K W W'/\I pre W'/\AL x L' W') (fun _ _ _=>False) NoX (fun _ _ _ _=>False))(hbody:∀(l:Nat) (pre:List α) (x:α) (L':A8) (W:World),w.heap.size<=l->(∃r,W.heap[l]?=some (.loop r))->I pre W->AL x L' W->pre.length<xs.length ->
   CI l m P N body [] L' W (fun _ _ W'=>KeepsFrom w.heap.size W W'/\K W W'/\I (pre++[x]) W') (fun _ _ W'=>KeepsFrom w.heap.size W W'/\Ix (pre++[x]) W') NoX (fun _ _ _ _=>False))(hdone:∀(W:World),I xs W->A ds L W)(hno:∀pre W,¬Ix pre W):
  CI l0 (m+2) P N (.rangeFunc g #[p,p2] assign body) ds L w A B X Z:=by
 intro a ha
 obtain⟨r0,hr0⟩:=hrec0
 refine wpIn_rangeFunc_ownN (F:=FW l0) (n:=m+2) (l₀:=l0) rfl hr0 (by omega) (ha.eval hg) trivial eg hseq (fun h k=>hKt h k) hKb (Below.refl _ _) (fun x=>rfl) I (fun c pre W=>c=.ret/\Ix pre W) hI
  (fun c s W W' row hs hgr hr=>⟨hs.1,hIx s W W' row hs.2 hgr hr⟩) h0 (fun x a' W=>∃L',Knows N [] L' a'/\AL x L' W) (fun x a' s W W' row hs hgr hr=>?_) ?_ ?_ ?_ ?_
 . obtain⟨L',h1,h2⟩:=hs
   exact⟨L',h1,hAL x L' () W W' row h2 hgr hr⟩
 . intro l pre x W K' hi hK
   have hk:Knows N [] ((p2,val2 x)::(p,val x)::L) { tmps:=(a.tmps.setIfInBounds p (val x)).setIfInBounds p2 (val2 x),defers:=[] }:=by
    have h1:=(show Knows N [] L { a with defers:=[] } from⟨ha.size,rfl,ha.val⟩).put hp (val x);exact h1.put hp2 (val2 x)
   have hz:(Array.foldl (fun (t:Array Value) (x:Tmp×Value)=>match x with|(p,v)=>t.setIfInBounds p v) a.tmps (#[p,p2].zip #[val x,val2 x]))=(a.tmps.setIfInBounds p (val x)).setIfInBounds p2 (val2 x):=by simp
   rw[hz]
   refine wpIn_mono (hassign l pre x W hi _ hk) fun e a' W' hq=>?_
   cases e with
   |normal=>obtain⟨ds',L',h1,rfl,h3,h4,h5,h6⟩:=hq;exact hK a' W' h3 h4 h5 ⟨L',h1,h6⟩
   |ret=>obtain⟨_,_,_,h⟩:=hq;exact h.elim
   |exit i=>obtain⟨_,_,_,h⟩:=hq;exact h.elim
   |panic c=>obtain⟨_,_,_,h⟩:=hq;exact h.elim
   |goto l=>exact hq.elim
   |outgrown=>exact hq.elim
 . intro l pre x a' W hwl hrec hi hA hl
   obtain⟨L',h1,h2⟩:=hA
   refine wpIn_mono (hbody l pre x L' W hwl hrec hi h2 hl a' h1) fun e a' W' hq=>?_
   cases e with
   |normal=>obtain⟨ds',L',h1,h3⟩:=hq;exact h3
   |ret=>obtain⟨ds',L',h1,h3,h4⟩:=hq;exact⟨h3,rfl,h4⟩
   |exit i=>obtain⟨_,_,_,h⟩:=hq;exact h.elim
   |panic c=>obtain⟨_,_,_,h⟩:=hq;exact h.elim
   |goto l=>exact hq.elim
   |outgrown=>exact hq.elim
 . intro ys W hy hi
   subst hy
   exact⟨_,L,ha,hdone W hi⟩
 . intro c pre W hy hi
   exact absurd hi.2 (hno _ _)
end
end Go.Sx
namespace Go.Proofs.YtgioiejbphljoaaGreatDoor
open Go Go.Sx Go.Rx Go.RowKit
theorem ARt:prog.cellsOf 116=2:=by kernel_rfl
theorem AVq:prog.keyType 116=true:=by kernel_rfl
theorem AQX:prog.cellsOf 3=1:=by kernel_rfl
def K116:Ky prog 116 (Int×Int):=APS (show laidOutB prog=true by kernel_rfl) (m:=2) (by omega) (AaW (by kernel_rfl)) (by kernel_rfl) (by rw[underlying116]) (fun x=>.agg (toArray [.int .i64 x.1,.int .i64 x.2])) (fun x=>InK .i64 x.1/\InK .i64 x.2)
 (fun {x} h=>by
  exact AWp underlying116 underlying3 ARt AQX AVq (AaW (by kernel_rfl)) h.1 h.2)
 (fun {a b} _ _ h=>by
  cases a;cases b;simp at h;simp[h])
abbrev MP(bd:Nat)(f:A4 (Int×Int) Int):List Res:=[mapO K116 (A9 .i64) false bd f]
theorem X3{M':List Nat}{W W':World}{B:Nat}(h:Adv M' M' W W')(hb:∀b∈M',b<B)(hB:B<=W.heap.size):KeepsFrom B W W'/\KI M' B W W':=
 ⟨⟨h.kp.size,fun k o hk ho _=>(h.kp.block k (G0 ho) fun hm=>by have:=hb k hm;omega).trans ho⟩,h.kp.os,h.kp.tape,h.kp.output,h.kp.size,fun b hb' hn=>h.kp.block b (Aah hb' hB) hn⟩
theorem AHy{M:List Nat}{W W':World}{b o:Nat}{cs:List Value}{row:Option Nat}(h:RdC M W b o cs)(hg:W.grownBy W' row)(hr:∀r,row=some r->∃o:Obj,W.heap[r]?=some o/\o.isCells=false):RdC M W' b o cs:=by
 obtain⟨htn,_⟩:=AEH (B:=0) hg fun r e=>⟨Aas _,hr r e⟩;exact⟨h.out,Aah h.lt htn.1,htn.cells h.cells⟩
structure D16(M':List Nat)(W:World)(x:Desk_99)(al:List Asked)(l:List Report)(p8 p4 p13:Value)(b14 bd:Nat):Prop where
 g:GlOk (P:=prog) M' W
 h8:Ok (P:=prog) (fun _=>undef) (fun _=>none) M' W (.rp (.str 10 x) 0) p8
 h4:Ok (P:=prog) (fun _=>undef) (fun _=>none) M' W (.rp (.dat (.sl (.st 5)) al) 0) p4
 h13:Ok (P:=prog) (fun _=>undef) (fun _=>none) M' W (.rp (.dat (.sl (.st 1)) l) 0) p13
 h14:RdC M' W b14 0 [.map (some bd)]
theorem D16.adv{M':List Nat}{W W':World}{x:Desk_99}{al:List Asked}{l:List Report}{p8 p4 p13:Value}{b14 bd:Nat}(h:D16 M' W x al l p8 p4 p13 b14 bd)(ha:Adv M' M' W W'):D16 M' W' x al l p8 p4 p13 b14 bd:=
 ⟨h.g.adv ha,Ok.adv ha _ h.h8,Ok.adv ha _ h.h4,Ok.adv ha _ h.h13,h.h14.adv ha⟩
def inB(x:Desk_99)(l:List Report)(y:Dispute)(v:Verdict)(now:Report)(is_:Bool)(f:A4 (Int×Int) Int)(a:Int×Asked):Option (A4 (Int×Int) Int):=(AAm x l y v now is_ a.2).bind fun b=>some (match b with
 |.inl true=>B4 f (y.id,a.2.who) a.2.id
 |_=>f)
def AIv(a:Asked):List Value:=[.int .i64 a.id,.int .i64 a.who,.int .i64 a.account,.int .i64 a.day]
noncomputable def AVr:Code:=match f16.body with
 |some (.seq _ (.seq _ (.seq _ (.seq _ (.seq _ (.seq _ (.seq _ (.seq _ (.seq _ (.seq (.seq _ (.block _ (.rangeFunc _ _ _ (.block _ c)))) _))))))))))=>c
 |_=>.skip
noncomputable def AVs:Code:=match AVr with
 |.seq _ (.seq _ (.block _ c))=>c
 |_=>.skip
noncomputable def AO7:Code:=match AVs with
 |.rangeFunc _ _ _ (.block _ c)=>c
 |_=>.skip
def ARu(σ:AS):Option (Bool⊕Unit):=match A1 σ.env 153 with
 |some (.bool b)=>some (.inl b)
 |_=>none
def AO8(x:Desk_99)(l:List Report)(y:Dispute)(v:Verdict)(now:Report)(is_:Bool)(a:Asked):List (Nat×SV):=[(8,.rp (.str 10 x) 0),(13,.rp (.dat (.sl (.st 1)) l) 0),(15,.rp (.str 2 y) 0),(16,.rp (.str 12 v) 0),(17,.rp (.str 1 now) 0),(18,.rp (.bool is_) 0),(20,.rp (.str 5 a) 0)]
def ARv:Gx:={ gxb with fs:=[(46,ctr46)] }
theorem ANj:GxOk prog ARv:=B1 ⟨⟨ok46,call46⟩,trivial⟩
theorem AVt(x:Desk_99)(l:List Report)(y:Dispute)(v:Verdict)(now:Report)(is_:Bool)(a:Asked):exec ARv 181 (fun _=>(none:Option Unit)) (O4 2 AO7) AHx ARu (fun i _=>bif beq i 5 then some (.inr ()) else none) (fun _=>none) ⟨AO8 x l y v now is_ a,[],[],[]⟩=AAm x l y v now is_ a:=by kernel_rfl
def AZj(M':List Nat)(Lb:Sx.A8)(a:Int×Asked)(L:Sx.A8)(W:World):Prop:=∃b20,L=(20,.pointer (some ⟨b20,0,none⟩))::(98,M8 (.st 5) a.2)::(97,M8 (.int .i64) a.1)::Lb/\RdC M' W b20 0 (AIv a.2)
theorem AT2{l0:Nat}{w wi:World}{M:List Nat}{bd b14:Nat}{x:Desk_99}{al:List Asked}{l:List Report}{y:Dispute}{v:Verdict}{now:Report}{is_:Bool}{p8 p4 p13 p15 p16 p17 p18 pb:Value}{f f':A4 (Int×Int) Int}{Li:Sx.A8}{ds:List Deferred}{A B:A5}{X:Nat->A5}{Z:List PanicEntry->A5}(hbd:bd<wi.heap.size)(hI:Hp w [] M (MP bd f) wi)(hrec:∃r,wi.heap[l0]?=some (.loop r))(hD:D16 (bd::M) wi x al l p8 p4 p13 b14 bd)(h15:Ok (P:=prog) (fun _=>undef) (fun _=>none) (bd::M) wi (.rp (.str 2 y) 0) p15)(h16:Ok (P:=prog) (fun _=>undef) (fun _=>none) (bd::M) wi (.rp (.str 12 v) 0) p16)(h17:Ok (P:=prog) (fun _=>undef) (fun _=>none) (bd::M) wi (.rp (.str 1 now) 0) p17)(h18:Ok (P:=prog) (fun _=>undef) (fun _=>none) (bd::M) wi (.rp (.bool is_) 0) p18)(hpb:Ok (P:=prog) (fun _=>undef) (fun _=>none) (bd::M) wi (.rp (.dat (.sl (.st 5)) al) 0) pb)(hky:InK .i64 y.id)(l8:Sx.A6 Li 8=some p8)(l13:Sx.A6 Li 13=some p13)(l14:Sx.A6 Li 14=some (.pointer (some ⟨b14,0,none⟩)))(l15:Sx.A6 Li 15=some p15)(l16:Sx.A6 Li 16=some p16)(l17:Sx.A6 Li 17=some p17)(l18:Sx.A6 Li 18=some p18)(l96:Sx.A6 Li 96=some (.func (.func 85) #[] #[pb]))(hbs:∀a∈bwN al al.length,AEG [.int .i64,.st 5] a)(hr:AB8 (inB x l y v now is_) f (bwN al al.length)=some f')(hA:∀W,Hp w [] M (MP bd f') W->Adv (bd::M) (bd::M) wi W->A ds Li W):CI l0 3 prog 181 AVs ds Li wi A B X Z:=by
 obtain⟨ho1,ho2⟩:=AFz hr;have hMlt:MLt (bd::M) wi:=hI.mlt;have hwi:w.heap.size<=wi.heap.size:=hI.kp.size;let I:List {x // x∈bwN al al.length}->World->Prop:=fun pre W=>∃g,List.foldlM (inB x l y v now is_) f (pre.map Subtype.val)=some g/\Hp w [] M (MP bd g) W/\Adv (bd::M) (bd::M) wi W;refine AO6 1 (val:=fun a:{x // x∈bwN al al.length}=>M8 (.int .i64) a.1.1) (val2:=fun a=>M8 (.st 5) a.1.2) (K:=KI (bd::M) wi.heap.size) (xs:=(bwN al al.length).attach) hrec l96 call85 rfl rfl (AJb 2 hMlt hD.g hpb Subtype.val _ (Aa2 _)) (fun h k=>h.trans k) (fun W k o o' hk _ _ _=>KI.putObj hk) I (fun _ _=>False) ?_ (fun _ _ _ _ h _ _=>h.elim) ⟨f,rfl,hI,Adv.refl _ _⟩ (fun a L' W=>AZj (bd::M) Li a.1 L' W) ?_ ?_ ?_ ?_ (fun _ _ h=>h)
 . rintro pre W W' row ⟨g,e1,e2,e3⟩ hgr hr;exact⟨g,e1,Hp.turn (fun h=>h) e3.kp.size hwi (ASO hbd tn0) e2 hgr hr,Adv.turn (fun h=>h) e3 hgr hr⟩
 . rintro a L' _ W W' row ⟨b20,e1,e2⟩ hgr hr;exact⟨b20,e1,AHy e2 hgr fun r e=>(hr r e).2⟩
 . rintro k pre a W ⟨g,e1,e2,e3⟩;refine Z1 rfl ?_;refine P5 e2 zeroValue47 rfl rfl ?_;intro b20 w5 hI5 x5;refine N2 0 (vs:=AIv a.1.2) hI5 rfl rfl rfl rfl sizeOf47 rfl rfl (one1 rfl (one1 rfl (one1 rfl (one1 rfl one0)))) ?_;intro w6 hI6 x6;have hI6:Hp w [] M (rowR 47 b20 (AIv a.1.2)::MP bd g) w6:=hI6;have hA:Adv (bd::M) (bd::M) W w6:=x5.trans (x6.trans (E3 (σ:=rowR 47 b20 (AIv a.1.2)::MP bd g) 0));obtain⟨k1,k2⟩:=X3 hA hMlt e3.kp.size;exact Reg.nil ⟨rfl,k1,k2,⟨g,e1,hI6.erase 0,e3.trans hA⟩,b20,rfl,hI6.freezeRow 0 rfl⟩
 . rintro k pre a L' W hwl hrk ⟨g,e1,e2,e3⟩ ⟨b20,rfl,e5⟩ hlt;obtain⟨g',hb',hfold⟩:=ho2 (pre.map Subtype.val) a.1 g (by simpa using hlt) (fun y hy=>by obtain⟨z,_,rfl⟩:=mem_map.1 hy;exact z.2) a.2 e1;unfold inB at hb';obtain⟨z,hz,hb'⟩:=C5 hb';have hb':=AaO hb';have hDW:=hD.adv e3;have hMW:MLt (bd::M) W:=e2.mlt;have hok:okI (.st 5) a.1.2:=(hbs a.1 a.2).2;have hst:Holds (P:=prog) W [] (bd::M) ⟨AO8 x l y v now is_ a.1.2,[],[],[]⟩ ((20,.pointer (some ⟨b20,0,none⟩))::(98,M8 (.st 5) a.1.2)::(97,M8 (.int .i64) a.1.1)::Li) W:=by
    refine Holds.start hMW (fun t s ht=>?_) ⟨trivial,hDW.g⟩;unfold AO8 at ht;rw[fnd_cons]at ht;split at ht
    . rename_i e;subst e;cases ht;exact⟨_,l8,hDW.h8⟩
    rw[fnd_cons]at ht;split at ht
    . rename_i e;subst e;cases ht;exact⟨_,l13,hDW.h13⟩
    rw[fnd_cons]at ht;split at ht
    . rename_i e;subst e;cases ht;exact⟨_,l15,Ok.adv e3 _ h15⟩
    rw[fnd_cons]at ht;split at ht
    . rename_i e;subst e;cases ht;exact⟨_,l16,Ok.adv e3 _ h16⟩
    rw[fnd_cons]at ht;split at ht
    . rename_i e;subst e;cases ht;exact⟨_,l17,Ok.adv e3 _ h17⟩
    rw[fnd_cons]at ht;split at ht
    . rename_i e;subst e;cases ht;exact⟨_,l18,Ok.adv e3 _ h18⟩
    rw[fnd_cons]at ht;split at ht
    . rename_i e;subst e;cases ht;exact⟨_,rfl,b20,0,_,AIv a.1.2,rfl,e5,AEm (.st 5) hok,rfl⟩
    cases ht
   refine ADG ?_;refine AHp (l:=k) ?_;refine AMW ANj 2 AO7 AHx (KN:=ARu) (KX:=fun i _=>bif beq i 5 then some (.inr ()) else none) ?_ rfl ((AVt x l y v now is_ a.1.2).trans hz) hst (fun σ' L2 W2 hK hE2 hH2=>?_) (fun i σ' L2 W2 hK hE2 hH2=>?_)
   . exact fun L w v T t L2 ds ht hl hx=>((PZ.no (Z:=fun _ _ _ _=>False) (ds:=ds)).block (i:=5) rfl).z T t L L2 w v ht hl hx
   . have hx2:Ext W W2:=hH2.ends;have hI2:Hp w [] M (MP bd g) W2:=e2.ext hx2;have hA2:Adv (bd::M) (bd::M) W W2:=Adv.of_ext hx2;have lk:∀t,t∈[14,15,20]->Sx.A6 L2 t=Sx.A6 ((20,.pointer (some ⟨b20,0,none⟩))::(98,M8 (.st 5) a.1.2)::(97,M8 (.int .i64) a.1.1)::Li) t:=fun t ht=>hE2 t fun hm=>(by decide:∀t∈[14,15,20],t∉D6 (O4 2 AO7)++D5 AHx) t ht hm;obtain⟨b,hb,hzb⟩:∃b,A1 σ'.env 153=some (.bool b)/\z=.inl b:=by
      unfold ARu at hK;split at hK
      . rename_i b hb;exact⟨b,hb,(AaO hK).symm⟩
      . cases hK
     subst hzb;have l153:=hH2.slotB hb;show CI k 1 prog 181 (AKe 2 AO7) [] L2 W2 _ _ _ _;refine AJB l153 (fun hbt=>?_) (fun hbf=>?_)
     . subst hbt;subst hb';have hDW2:=hDW.adv hA2;obtain⟨b15,o15,u15,vs15,rfl,c15,hu15,hc15⟩:=Ok.adv (e3.trans hA2) _ h15;obtain⟨cs15,hR15,hcs15⟩:=hu15;obtain rfl:vs15=[.int .i64 y.id,.int .i64 y.report,.int .i64 y.day]:=by
        obtain⟨rfl,_⟩:=(DisputeE_R (x:=y)).1 hR15;rcases hcs15 with⟨_,rfl⟩|⟨h,_⟩
        . simpa[Value.cells] using hc15.symm
        . cases h
       refine Z1 rfl ?_;refine J8 ((lk 14 (by decide)).trans l14) ((hDW2.h14).cells.at 0 rfl) isAgg106 rfl ?_;refine M3 ((lk 15 (by decide)).trans l15) underlying53 rfl sizeOf3 rfl ?_;refine J8 rfl (c15.cells.at 0 rfl) isAgg3 rfl ?_;refine M3 (lk 20 (by decide)) underlying47 rfl sizeOf3 rfl ?_;refine J8 rfl ((e5.adv hA2).cells.at 1 rfl) isAgg3 rfl ?_;refine AUR zeroValue116 rfl underlying116 sizeOf3 rfl rfl rfl rfl rfl ?_;refine M3 (lk 20 (by decide)) underlying47 rfl sizeOf3 rfl ?_;refine J8 rfl ((e5.adv hA2).cells.at 0 rfl) isAgg3 rfl ?_;obtain⟨ka,kb,_,_⟩:InK .i64 a.1.2.id/\InK .i64 a.1.2.who/\InK .i64 a.1.2.account/\InK .i64 a.1.2.day:=hok;refine AKR (K:=K116) (E:=A9 .i64) (ag:=false) 0 hI2 rfl rfl (a:=(y.id,a.1.2.who)) rfl ⟨hky,kb⟩ rfl (z:=a.1.2.id) ⟨[_],⟨rfl,ka⟩,.inr ⟨rfl,rfl⟩⟩ underlying106 ?_;intro w9 hI9 x9;have hI9:Hp w [] M (MP bd (B4 g (y.id,a.1.2.who) a.1.2.id)) w9:=hI9;have hA9:Adv (bd::M) (bd::M) W w9:=hA2.trans x9;obtain⟨k1,k2⟩:=X3 hA9 hMlt e3.kp.size;exact Reg.nil ⟨k1,k2,_,by rw[Aai];exact hfold,hI9,e3.trans hA9⟩
     . subst hbf;subst hb';obtain⟨k1,k2⟩:=X3 hA2 hMlt e3.kp.size;exact AJA ⟨k1,k2,g,by rw[Aai];exact hfold,hI2,e3.trans hA2⟩
   . have hx2:Ext W W2:=hH2.ends;have hA2:Adv (bd::M) (bd::M) W W2:=Adv.of_ext hx2;cases hi:beq i 5 with
     |false=>
      have hK:(bif beq i 5 then some (Sum.inr ()) else none)=some z:=hK
      rw[hi]at hK;cases hK
     |true=>
      have hK:(bif beq i 5 then some (Sum.inr ()) else none)=some z:=hK
      rw[hi]at hK
      have hK:Sum.inr ()=z:=AaO hK
      subst hK
      subst hb'
      obtain rfl:=AaU hi
      obtain⟨k1,k2⟩:=X3 hA2 hMlt e3.kp.size
      exact J7 ⟨k1,k2,g,by rw[Aai];exact hfold,e2.ext hx2,e3.trans hA2⟩
 . rintro W ⟨g,e1,e2,e3⟩;rw[Aa2,ho1]at e1;cases e1
   exact hA W e2 e3
def AHz(x:Desk_99)(al:List Asked)(l:List Report)(f:A4 (Int×Int) Int)(y:Dispute×Verdict):Option (A4 (Int×Int) Int):=(ABF l y.1 y.2).bind fun n=>(V9 al).bind fun bs=>AB8 (inB x l y.1 y.2 n.1 n.2) f bs
noncomputable def ARw:Code:=match AVr with
 |.seq c _=>c
 |_=>.skip
noncomputable def AZk:Code:=match f16.body with
 |some (.seq _ (.seq _ (.seq _ (.seq _ (.seq _ (.seq _ (.seq _ (.seq _ (.seq _ (.seq (.seq _ (.block _ c)) _))))))))))=>c
 |_=>.skip
def AVu(σ:AS):Option (Report×Bool):=match A1 σ.env 17,A1 σ.env 18,A1 σ.res 17,A1 σ.res 18 with
 |some (.ptr 17 0),some (.ptr 18 0),some (.row 45 c),some (.row 4 [.bool b])=>match B3 (.agg c) with
  |[]=>match C1 (A1 σ.res) (.st 1) (.agg c) with
   |some r=>some (r,b)
   |none=>none
  |_=>none
 |_,_,_,_=>none
def AO9(l:List Report)(y:Dispute)(v:Verdict):List (Nat×SV):=[(13,.rp (.dat (.sl (.st 1)) l) 0),(15,.rp (.str 2 y) 0),(16,.rp (.str 12 v) 0)]
theorem AYA(l:List Report)(y:Dispute)(v:Verdict):exec ARv 181 (fun _=>(none:Option Unit)) ARw AJf AVu (fun _ _=>none) (fun _=>none) ⟨AO9 l y v,[],[],[]⟩=ABF l y v:=by kernel_rfl
def ALo(M':List Nat)(Lb:Sx.A8)(y:Dispute×Verdict)(L:Sx.A8)(W:World):Prop:=∃b15 b16,L=(16,.pointer (some ⟨b16,0,none⟩))::(15,.pointer (some ⟨b15,0,none⟩))::(84,M8 (.st 12) y.2)::(83,M8 (.st 2) y.1)::Lb/\RdC M' W b15 0 (AB4 y.1)/\RdC M' W b16 0 (AEO y.2)
theorem AT3{w wl:World}{M:List Nat}{bd b14:Nat}{x:Desk_99}{day:Int}{al:List Asked}{l:List Report}{p8 p4 p13 p1 p2:Value}{f f':A4 (Int×Int) Int}{ys:List (Dispute×Verdict)}{Lb:Sx.A8}{ds:List Deferred}{A B:A5}{X:Nat->A5}{Z:List PanicEntry->A5}(hbd:bd<wl.heap.size)(hI:Hp w [] M (MP bd f) wl)(hD:D16 (bd::M) wl x al l p8 p4 p13 b14 bd)(h1:Ok (P:=prog) (fun _=>undef) (fun _=>none) (bd::M) wl (.rp (.str 10 x) 0) p1)(h2:Ok (P:=prog) (fun _=>undef) (fun _=>none) (bd::M) wl (.rp (.int .i64 day) 0) p2)(l4:Sx.A6 Lb 4=some p4)(l8:Sx.A6 Lb 8=some p8)(l13:Sx.A6 Lb 13=some p13)(l14:Sx.A6 Lb 14=some (.pointer (some ⟨b14,0,none⟩)))(l82:Sx.A6 Lb 82=some (.func (.func 84) #[] #[p1,p2]))(hys:AGM x day x.desk.disputes=some ys)(hok:∀y∈ys,AEG [.st 2,.st 12] y)(hr:AB8 (AHz x al l) f ys=some f')(hA:∀D W,wl.heap.size<=D->Hp w [] M (MP bd f') W->Adv (bd::M) (bd::M) wl W->W.heap[D]?=some (.deferred (some []))->A ({ target:=.collected D,args:=#[] }::ds) Lb W):CW prog 181 AZk ds Lb wl A B X Z:=by
 obtain⟨ho1,ho2⟩:=AFz hr;have hMlt:MLt (bd::M) wl:=hI.mlt;have hwl:w.heap.size<=wl.heap.size:=hI.kp.size;let I:List {x // x∈ys}->World->Prop:=fun pre W=>∃g,List.foldlM (AHz x al l) f (pre.map Subtype.val)=some g/\Hp w [] M (MP bd g) W/\Adv (bd::M) (bd::M) wl W;refine AO5 3 (val:=fun a:{x // x∈ys}=>M8 (.st 2) a.1.1) (val2:=fun a=>M8 (.st 12) a.1.2) (K:=KI (bd::M) wl.heap.size) (xs:=ys.attach) l82 call84 rfl rfl (AFd 4 hMlt hD.g h1 h2 hys Subtype.val _ (Aa2 _)) (fun h k=>h.trans k) (fun W k o o' hk _ _ _=>KI.putObj hk) I (fun _ _=>False) ?_ (fun _ _ _ _ h _ _=>h.elim) ⟨f,rfl,hI,Adv.refl _ _⟩ (fun a L' W=>ALo (bd::M) Lb a.1 L' W) ?_ ?_ ?_ ?_ (fun _ _ _ _ _ h _=>h.elim)
 . rintro pre W W' row ⟨g,e1,e2,e3⟩ hgr hr;exact⟨g,e1,Hp.turn (fun h=>h) e3.kp.size hwl (ASO hbd tn0) e2 hgr hr,Adv.turn (fun h=>h) e3 hgr hr⟩
 . rintro a L' _ W W' row ⟨b15,b16,e1,e2,e3⟩ hgr hr;exact⟨b15,b16,e1,AHy e2 hgr fun r e=>(hr r e).2,AHy e3 hgr fun r e=>(hr r e).2⟩
 . rintro k pre a W ⟨g,e1,e2,e3⟩;refine AFx ?_;refine Z1 rfl ?_;refine P5 e2 zeroValue53 rfl rfl ?_;intro b15 w5 hI5 x5;refine N2 0 (vs:=AB4 a.1.1) hI5 rfl rfl rfl rfl sizeOf53 rfl rfl (one1 rfl (one1 rfl (one1 rfl one0))) ?_;intro w6 hI6 x6;have hI6:Hp w [] M (rowR 53 b15 (AB4 a.1.1)::MP bd g) w6:=hI6;have hA6:Adv (bd::M) (bd::M) W w6:=x5.trans (x6.trans (E3 (σ:=rowR 53 b15 (AB4 a.1.1)::MP bd g) 0));have hC6:RdC (bd::M) w6 b15 0 (AB4 a.1.1):=hI6.freezeRow 0 rfl;have hI6':Hp w [] M (MP bd g) w6:=hI6.erase 0;refine Reg.nil ?_;refine Z1 rfl ?_;refine P5 hI6' zeroValue111 rfl rfl ?_;intro b16 w7 hI7 x7;refine N2 0 (vs:=AEO a.1.2) hI7 rfl rfl rfl rfl sizeOf111 rfl rfl (one1 rfl (one1 rfl (one1 rfl (one1 rfl (one1 rfl (one1 rfl (one1 rfl (one1 rfl one0)))))))) ?_;intro w8 hI8 x8;have hI8:Hp w [] M (rowR 111 b16 (AEO a.1.2)::MP bd g) w8:=hI8;have hA8:Adv (bd::M) (bd::M) w6 w8:=x7.trans (x8.trans (E3 (σ:=rowR 111 b16 (AEO a.1.2)::MP bd g) 0));have hA:=hA6.trans hA8;obtain⟨k1,k2⟩:=X3 hA hMlt e3.kp.size;exact Reg.nil ⟨rfl,k1,k2,⟨g,e1,hI8.erase 0,e3.trans hA⟩,b15,b16,rfl,hC6.adv hA8,hI8.freezeRow 0 rfl⟩
 . rintro k pre a L' W hwlk hrk ⟨g,e1,e2,e3⟩ ⟨b15,b16,rfl,e5,e6⟩ hlt;obtain⟨g',hb',hfold⟩:=ho2 (pre.map Subtype.val) a.1 g (by simpa using hlt) (fun y hy=>by obtain⟨z,_,rfl⟩:=mem_map.1 hy;exact z.2) a.2 e1;unfold AHz at hb';obtain⟨n,hn,hb'⟩:=C5 hb';obtain⟨bs,hbs,hb'⟩:=C5 hb';obtain⟨hbok,rfl⟩:(∀y∈bwN al al.length,AEG [.int .i64,.st 5] y)/\bwN al al.length=bs:=by
    unfold V9 at hbs;split at hbs
    . rename_i h;exact⟨h,AaO hbs⟩
    . cases hbs
   have hDW:=hD.adv e3;have hMW:MLt (bd::M) W:=e2.mlt;have hoka:=hok a.1 a.2;have o15:Ok (P:=prog) (fun _=>undef) (fun _=>none) (bd::M) W (.rp (.str 2 a.1.1) 0) (.pointer (some ⟨b15,0,none⟩)):=⟨b15,0,_,AB4 a.1.1,rfl,e5,AEm (.st 2) hoka.1,rfl⟩;have o16:Ok (P:=prog) (fun _=>undef) (fun _=>none) (bd::M) W (.rp (.str 12 a.1.2) 0) (.pointer (some ⟨b16,0,none⟩)):=⟨b16,0,_,AEO a.1.2,rfl,e6,AEm (.st 12) hoka.2,rfl⟩;have hst:Holds (P:=prog) W [] (bd::M) ⟨AO9 l a.1.1 a.1.2,[],[],[]⟩ ((16,.pointer (some ⟨b16,0,none⟩))::(15,.pointer (some ⟨b15,0,none⟩))::(84,M8 (.st 12) a.1.2)::(83,M8 (.st 2) a.1.1)::Lb) W:=by
    refine Holds.start hMW (fun t s ht=>?_) ⟨trivial,hDW.g⟩;unfold AO9 at ht;rw[fnd_cons]at ht;split at ht
    . rename_i e;subst e;cases ht;exact⟨_,l13,hDW.h13⟩
    rw[fnd_cons]at ht;split at ht
    . rename_i e;subst e;cases ht;exact⟨_,rfl,o15⟩
    rw[fnd_cons]at ht;split at ht
    . rename_i e;subst e;cases ht;exact⟨_,rfl,o16⟩
    cases ht
   refine ADG ?_;refine AFx ?_;refine AHp (l:=k) (I9 ANj ARw AJf _ _ _ _ _ _ _ _ _ _ _ _ _ ((AYA l a.1.1 a.1.2).trans hn) hst (fun σ' L2 W2 hK _ hE2 hH2=>?_) (fun i σ2 L2 w2 h2=>by cases h2) (fun r σ2 L2 w2 h2 h3 _ hH2=>by cases h2) ((PZ.no (Z:=fun _ _ _ _=>False)).block (i:=3) rfl));obtain⟨S,ρ,γ,μ,ι,hS⟩:=hH2;have hx2:Ext W W2:=hS.hp.kp;obtain⟨c,b,r,h17,h18,q17,q18,hown,htd,rfl⟩:∃c b r,A1 σ'.env 17=some (.ptr 17 0)/\A1 σ'.env 18=some (.ptr 18 0)/\A1 σ'.res 17=some (.row 45 c)/\A1 σ'.res 18=some (.row 4 [.bool b])/\B3 (.agg c)=[]/\C1 (A1 σ'.res) (.st 1) (.agg c)=some r/\n=(r,b):=by
    unfold AVu at hK;split at hK
    . rename_i c b g1 g2 g3 g4;split at hK
      . rename_i g5;split at hK
        . rename_i r g6;exact⟨c,b,r,g1,g2,g3,g4,g5,g6,(AaO hK).symm⟩
        . cases hK
      . cases hK
    . cases hK
   obtain⟨v17,l17,b17,hb17,rfl⟩:=hS.env 17 (.ptr 17 0) h17;obtain⟨v18,l18,b18,hb18,rfl⟩:=hS.env 18 (.ptr 18 0) h18;obtain⟨b17',hb17',r17,o17,i17⟩:=hS.rowAt q17;obtain⟨b18',hb18',r18,o18,i18⟩:=hS.rowAt q18;rw[hb17]at hb17';cases hb17';rw[hb18]at hb18';cases hb18';have ok17:Ok (P:=prog) (fun _=>undef) (fun _=>none) (bd::M) W2 (.rp (.str 1 r) 0) (.pointer (some ⟨b17,0,none⟩)):=⟨b17,0,.agg (toArray (γ 17)),γ 17,rfl,G5 (hS.hp.sepM _ (AaP i17) b17 (mem_singleton.2 rfl)) r17,H8 (M:=mm S (bd::M)) (fun b hb=>mem_mm.2 (.inr hb)) (.st 1) (.agg c) (fun i hi=>by rw[hown]at hi;cases hi) htd ⟨γ 17,rfl,o17⟩,rfl⟩;have ok18:Ok (P:=prog) (fun _=>undef) (fun _=>none) (bd::M) W2 (.rp (.bool b) 0) (.pointer (some ⟨b18,0,none⟩)):=by
    obtain⟨u,cu,q,e9,hu,hcu,hq⟩:=o18;have hu:u=.bool b:=hu;have hq:q=[]:=hq;subst hu hq;have hcu:#[Value.bool b]=toArray cu:=hcu;have:cu=[Value.bool b]:=by simpa using hcu.symm
    subst this;have e9:γ 18=[.bool b]:=e9;exact⟨b18,0,.bool b,[.bool b],rfl,e9▸G5 (hS.hp.sepM _ (AaP i18) b18 (mem_singleton.2 rfl)) r18,rfl,rfl⟩
   have lk:∀t,t∈[4,8,13,14,15,16]->Sx.A6 L2 t=Sx.A6 ((16,.pointer (some ⟨b16,0,none⟩))::(15,.pointer (some ⟨b15,0,none⟩))::(84,M8 (.st 12) a.1.2)::(83,M8 (.st 2) a.1.1)::Lb) t:=fun t ht=>hE2 t fun hm=>(by decide:∀t∈[4,8,13,14,15,16],t∉D6 ARw++D5 AJf) t ht hm;clear hE2 hK h17 h18 q17 q18 hown htd hb17 hb18 r17 r18 o17 o18 i17 i18 hS;have hA2:Adv (bd::M) (bd::M) W W2:=Adv.of_ext hx2;have hDW2:=hDW.adv hA2;obtain⟨b4,o4,u4,vs4,hp4,c4,hu4,hc4⟩:=hDW2.h4;obtain⟨sa4,n4,hsl4,_⟩:=(OkD.rds hu4.2).shape;obtain rfl:vs4=[u4]:=by
    subst hsl4;exact(AaX Array.toList hc4).symm
   have l4':=(lk 4 (by decide)).trans (show _=some p4 from l4);rw[hp4]at l4';show CI k 3 prog 181 _ [] L2 W2 _ _ _ _;refine AFx ?_;refine Z1 rfl ?_;refine J8 l4' (c4.cells.at 0 rfl) isAgg29 rfl ?_;refine G6 rfl call47 rfl ?_;refine(C47 (hMW.ext hx2) hu4.2).mono ?_;rintro _ W3 ⟨pb,rfl,hpb,x3⟩;refine⟨_,rfl,?_⟩;refine Reg.nil ?_;refine ADG ?_;have hA3:Adv (bd::M) (bd::M) W2 W3:=Adv.of_ext x3;have hA13:=hA2.trans hA3;refine AT2 (w:=w) (wi:=W3) (f:=g) (f':=g') (Aah (hMW bd (AaT ..)) hA13.kp.size) (e2.ext (hx2.trans x3)) ?_ (hDW2.adv hA3) (Ok.adv hA13 _ o15) (Ok.adv hA13 _ o16) (Ok.adv hA3 _ ok17) (Ok.adv hA3 _ ok18) hpb hoka.1.1 ((lk 8 (by decide)).trans l8) ((lk 13 (by decide)).trans l13) ((lk 14 (by decide)).trans l14) (lk 15 (by decide)) (lk 16 (by decide)) l17 l18 rfl hbok hb' fun W4 hI4 hA4=>?_
   . obtain⟨rk,hrk⟩:=hrk;exact⟨rk,((hx2.trans x3).block k (G0 hrk) (by simp)).trans hrk⟩
   . have hA14:=hA13.trans hA4;obtain⟨k1,k2⟩:=X3 hA14 hMlt e3.kp.size;exact⟨k1,k2,g',by rw[Aai];exact hfold,hI4,e3.trans hA14⟩
 . rintro D W hDw ⟨g,e1,e2,e3⟩ hdef;rw[Aa2,ho1]at e1;cases e1
   exact hA D W hDw e2 e3 hdef
def AFU(ls:List Letter)(y:(Int×Int)×Int):Option (List Letter):=appo 24 ls [Letter.mk y.1.1 y.1.2 y.2]
noncomputable def AVv:Code:=match f16.body with
 |some (.seq _ (.seq _ (.seq _ (.seq _ (.seq _ (.seq _ (.seq _ (.seq _ (.seq _ (.seq _ c))))))))))=>c
 |_=>.skip
noncomputable def AZl:Code:=match AVv with
 |.seq _ (.seq c _)=>c
 |_=>.skip
noncomputable def AVw:Code:=match AVv with
 |.seq _ (.seq _ c)=>c
 |_=>.skip
def Dok(D:Nat)(M:List Nat)(W:World):Prop:=D∉M/\W.heap[D]?=some (.deferred (some []))
theorem Dok.adv{D:Nat}{M M':List Nat}{W W':World}(h:Dok D M W)(k:Adv M M' W W'):Dok D M' W':=by
 have hlt:D<W.heap.size:=G0 h.2;exact⟨fun hm=>(k.new D hm).elim h.1 fun h1=>by omega,(k.kp.block D hlt h.1).trans h.2⟩
theorem AVx{w wt:World}{M:List Nat}{D bd b14:Nat}{f:A4 (Int×Int) Int}{Lb:Sx.A8}{ds:List Deferred}{A B:A5}{X:Nat->A5}{Z:List PanicEntry->A5}{z:List Letter×Int}(hI:Hp w [] M [ownR [] LetterE 70 (.slice none 0 0) []] wt)(hm:RdF K116 (A9 .i64) false M wt (.map (some bd)) f)(h14:RdC M wt b14 0 [.map (some bd)])(hDk:Dok D M wt)(hz:W5 f (fun xs=>(List.foldlM AFU [] xs).bind K8)=some z)(l14:Sx.A6 Lb 14=some (.pointer (some ⟨b14,0,none⟩)))(l23:Sx.A6 Lb 23=some (.slice none 0 0))(hA:∀L' W v ls,K8 ls=some z->Hp w [] M [ownR [] LetterE 70 v ls] W->Sx.A6 L' 23=some v->Adv M (mm [ownR [] LetterE 70 v ls] M) wt W->Dok D (mm [ownR [] LetterE 70 v ls] M) W->A ds L' W):CW prog 181 AZl ds Lb wt A B X Z:=by
 have hm':RdF K116 (A9 .i64) false (mm [ownR [] LetterE 70 (.slice none 0 0) ([]:List Letter)] M) wt (.map (some bd)) f:=hm;refine A3 ?_;refine A7 ?_;refine J8 l14 (h14.cells.at 0 rfl) isAgg106 rfl ?_;refine AQo hI hm' rfl underlying106 rfl ?_;intro r b c es xs w1 hX hL hI1 hA1;refine Reg.nil ?_;obtain⟨Bd,hBd,hall⟩:=ALA hz hL;subst hBd;have hA1':Adv M (mm (N7 r b c es xs none xs::[ownR [] LetterE 70 (.slice none 0 0) ([]:List Letter)]) M) wt w1:=hA1;refine C4 ?_;refine AAc (ι:=A8×Value×List Letter×List ((Int×Int)×Int)×List ((Int×Int)×Int)) (fun q=>q.1) (fun q W=>(Sx.A6 q.1 163=some (.pointer (some ⟨r,0,none⟩))/\Sx.A6 q.1 23=some q.2.1)/\(q.2.2.2.1++q.2.2.2.2).Perm xs/\List.foldlM AFU [] q.2.2.2.1=some q.2.2.1/\Hp w [] M [N7 r b c es xs none q.2.2.2.2,ownR [] LetterE 70 q.2.1 q.2.2.1] W/\RdX K116 (A9 .i64) false (mm [N7 r b c es xs none q.2.2.2.2,ownR [] LetterE 70 q.2.1 q.2.2.1] M) W b es c xs/\Adv M (mm [N7 r b c es xs none q.2.2.2.2,ownR [] LetterE 70 q.2.1 q.2.2.1] M) wt W) (fun q=>q.2.2.2.2.length) ((163,.pointer (some ⟨r,0,none⟩))::(162,.map (some bd))::Lb,.slice none 0 0,[],[],xs) ⟨⟨rfl,l23⟩,Abc _,rfl,hI1,hX.adv hA1,hA1'⟩ (Sub.refl _) ?_;rintro⟨L1,v,ls,d,l⟩ W1 ⟨⟨k1,k2⟩,k3,k4,k5,k6,k7⟩;dsimp only at k1 k2 k3 k4 k5 k6 k7 ⊢;refine A3 ?_;refine A7 ?_;refine AQp 0 k5 k6 rfl k1 rfl (fun hl=>?_) (fun y l' k v' W2 hp hI2 hA2=>?_)
 . refine AEx (vs:=[.bool false]) rfl rfl rfl ?_;refine Reg.nil ?_;refine A3 ?_;refine ABG rfl ?_;refine T3 (J7 ?_);subst hl;obtain⟨s,hs1,hs2⟩:=hall d (by simpa using k3);rw[k4]at hs1;cases hs1
   have hA7:Adv M (mm [ownR [] LetterE 70 v ls] M) wt W1:=k7.trans (E3 (σ:=[N7 r b c es xs none ([]:List ((Int×Int)×Int)),ownR [] LetterE 70 v ls]) 0);exact hA _ W1 v ls hs2 (k5.erase 0) k2 hA7 (hDk.adv hA7)
 . refine AEx (vs:=[.bool true,k,v']) rfl rfl rfl ?_;refine Reg.nil ?_;refine A3 ?_;refine ABr rfl ?_;refine E2 ?_;refine C4 ?_;refine A3 ?_;refine A7 ?_;have hX2:=k6.adv hA2;refine AQq 0 hI2 hX2 rfl k1 rfl fun v2 hok hv2=>?_;obtain⟨hka,hkb⟩:InK .i64 y.1.1/\InK .i64 y.1.2:=hok;obtain⟨rfl,hkc⟩:v2=.int .i64 y.2/\InK .i64 y.2:=by
    obtain⟨cs,⟨h1,h2⟩,⟨h3,_⟩|⟨_,h3⟩⟩:=hv2
    . cases h3
    . rw[h1]at h3;exact⟨(List.singleton_inj.1 h3).symm,h2⟩
   refine AEx (vs:=[K116.val y.1,.int .i64 y.2]) rfl rfl rfl ?_;refine AEx (vs:=[K116.val y.1,.int .i64 y.2]) rfl rfl rfl ?_;refine P5 hI2 zeroValue116 rfl rfl ?_;intro b24 w5 hI5 x5;refine N2 0 (vs:=[.int .i64 y.1.1,.int .i64 y.1.2]) hI5 rfl rfl rfl rfl sizeOf116 rfl rfl (one1 rfl (one1 rfl one0)) ?_;intro w6 hI6 x6;have hI6:Hp w [] M (rowR 116 b24 [.int .i64 y.1.1,.int .i64 y.1.2]::[N7 r b c es xs (some y) l',ownR [] LetterE 70 v ls]) w6:=hI6;refine C6 rfl rfl ?_;refine Reg.nil ?_;refine A7 ?_;have hC24:RdC [] w6 b24 0 ([y.1.1,y.1.2].map (Value.int .i64)):=G5 (fun h=>by cases h) (hI6.row 0 rfl);obtain⟨s0,hs0,_⟩:=hall (d++(y::l')) (((Abc d).append hp.symm).trans k3);rw[Aba,k4]at hs0;simp only[Option.bind_eq_bind,Option.bind_some,List.foldlM_cons]at hs0;obtain⟨ls',hls',hs0⟩:=C5 hs0;obtain⟨hbl,hls2⟩:=ABt hls';refine E5 k2 rfl ?_;refine ASI (i:=0) (z:=y.1.1) hC24 rfl rfl rfl underlying116 rfl sizeOf3 rfl fun hc0=>?_;refine J8 rfl (hc0.cells.at 0 rfl) isAgg3 rfl ?_;refine ASI (i:=1) (z:=y.1.2) hC24 rfl rfl rfl underlying116 rfl sizeOf3 rfl fun hc1=>?_;refine J8 rfl (hc1.cells.at 0 rfl) isAgg3 rfl ?_;refine E5 rfl rfl ?_;refine AEy [(0,1),(1,1),(2,1)] zeroValue70 rfl underlying70 (fun _=>by simp[sizeOf3]) rfl (Cls.cons rfl (Cls.cons rfl (Cls.cons rfl Cls.nil))) rfl rfl ?_;refine AEC (E:=LetterE) (xs:=[Letter.mk y.1.1 y.1.2 y.2]) rsl37 hI6 rfl rfl (Cls.cons rfl Cls.nil) (Chs.cons (LetterE_R.2 ⟨rfl,hka,hkb,hkc⟩) Chs.nil) rfl rfl ?_;intro v8 w8 hI8 x8;have hf9:=hI8.freeze 0 rfl;have hI9:=hI8.erase 0;refine ADn 2 rsl37 hI9 rfl rfl rfl hf9 hbl rfl ?_;intro v10 w10 hI10 x10;refine C6 rfl rfl ?_;have hIa:Hp w [] M [N7 r b c es xs (some y) l',ownR [] LetterE 70 v10 ls'] w10:=by rw[hls2];exact hI10.erase 0
   have hIb:Hp w [] M [N7 r b c es xs none l',ownR [] LetterE 70 v10 ls'] w10:=hIa.upd 0 rfl (Kp.refl _ _) (fun b hb=>.inl hb) rfl fun M' hM'=>by
    obtain⟨seen,q1,q2,_⟩:=hIa.get 0 rfl;exact⟨seen,q1,q2,fun _ h=>by cases h⟩
   have hAb:Adv (mm [N7 r b c es xs none l,ownR [] LetterE 70 v ls] M) (mm [N7 r b c es xs none l',ownR [] LetterE 70 v10 ls'] M) W1 w10:=by
    have h1:=hA2.trans (x5.trans (x6.trans (x8.trans ((E3 (σ:=ownR [] LetterE 70 v8 [Letter.mk y.1.1 y.1.2 y.2]::rowR 116 b24 [.int .i64 y.1.1,.int .i64 y.1.2]::[N7 r b c es xs (some y) l',ownR [] LetterE 70 v ls]) 0).trans (x10.trans (E3 (σ:=rowR 116 b24 [.int .i64 y.1.1,.int .i64 y.1.2]::[N7 r b c es xs (some y) l',ownR [] LetterE 70 v10 (ls++[Letter.mk y.1.1 y.1.2 y.2])]) 0))))));rw[hls2];exact h1
   refine Reg.nil ⟨rfl,(_,v10,ls',d++[y],l'),?_,Sub.refl _,?_⟩
   . refine⟨⟨k1,rfl⟩,?_,?_,hIb,k6.adv hAb,k7.trans hAb⟩
     . rw[Aax];exact((Abc d).append hp.symm).trans k3
     . rw[Aba,k4];simp only[Option.bind_eq_bind,Option.bind_some,List.foldlM_cons,hls',List.foldlM_nil];rfl
   . have:=hp.length_eq;simp at this;dsimp only;omega
end Go.Proofs.YtgioiejbphljoaaGreatDoor
namespace Go.Rx
open Go Go.Sx Go.RowKit
theorem HS.rdsM[Trk][Sg][Sf]{P:Program}[Se P][Anch]{w0 w:World}{M:List Nat}{σ:AS}{L:A8}{S:List Res}{ρ:Nat->Value}{γ:Nat->List Value}{μ:Nat->List Nat}{ι:Nat->Nat}(h:HS (P:=P) w0 [] M σ L w S ρ γ μ ι)(I:List Nat):Rds (P:=P) ρ (A1 σ.res) M w I:=fun i _ p c x hr=>by
 have h1:=h.res i _ hr;have hm:=AaP h1;have h2:=h.hp.all _ hm;have h3:=h.hp.sepM _ hm;have h4:=h.row i _ hr;cases c with
 |sl e t=>
  have h2:Sx.Own (enc (P:=P) t) e 0 (mm S M) w (ρ i) x:=h2
  have h5:=(h2.mon fun b hb=>.inr (mem_mm.2 (.inr hb))).rd fun b hb=>h3 b (by
   show b∈(G1 (P:=P) _ (ρ i) (.sl e t) x).fp;rw[AAU];exact hb)
  exact⟨[ρ i],⟨_,rfl,h5⟩,.inr ⟨rfl,rfl⟩⟩
 |mp m k v=>
  obtain⟨b,hb⟩:=h4
  have h2:(mapRes (P:=P) (bif p then μ i else []) m k v (blk (ρ i)) x).holds (mm S M) w:=h2
  have h3:∀b'∈(mapRes (P:=P) (bif p then μ i else []) m k v (blk (ρ i)) x).fp,b'∉M:=h3
  rw[hb]at h2 h3 ⊢
  unfold mapRes at h2 h3
  cases hK:Se.ky (P:=P) m k with
  |none=>rw[hK]at h2;exact h2.elim
  |some K=>
   rw[hK]at h2 h3
   obtain⟨es,c,xs,g1,g2,g3,g4⟩:=h2
   exact⟨[_],⟨_,K,rfl,hK,b,rfl,h3 b (mem_singleton.2 rfl),es,c,xs,g1,g2,g3.mon fun b hb=>.inl (mem_mm.2 (.inr hb)),g4⟩,.inr ⟨rfl,rfl⟩⟩
end Go.Rx
namespace Go.Proofs.YtgioiejbphljoaaGreatDoor
open Go Go.Sx Go.Rx Go.RowKit
noncomputable def c16:Code:=match f16.body with
 |some c=>c
 |none=>.skip
def KNp(σ:AS):Option ((Desk_99×List Asked×List Report×Int)⊕(List Letter×Int)):=match A1 σ.env 4,A1 σ.env 8,A1 σ.env 13,A1 σ.env 2,A1 σ.res 4,A1 σ.res 8,A1 σ.res 13 with
 |some (.ptr 4 0),some (.ptr 8 0),some (.ptr 13 0),some (.int .i64 k),some (.row 29 [s4]),some (.row 99 c8),some (.row 24 [s13])=>match C1 (A1 σ.res) (.st 10) (.agg c8),C1 (A1 σ.res) (.sl (.st 5)) s4,C1 (A1 σ.res) (.sl (.st 1)) s13 with
  |some x,some a,some l=>some (.inl (x,a,l,k))
  |_,_,_=>none
 |_,_,_,_,_,_,_=>none
def cs16:List Ck:=[.own (.sl 70 (.st 6)),.d (.int .i64)]
def APA:Gx:={ gxb with fs:=[(40,ctr40),(41,ctr41),(44,ctr44)] }
theorem ANk:GxOk prog APA:=B1 ⟨⟨ok40,call40⟩,⟨⟨ok41,call41⟩,⟨⟨ok44,call44⟩,trivial⟩⟩⟩
def AKi:Gx:={ gxb with fs:=[(49,ctr49),(50,ctr50)],fm:=[(48,ctrm48)] }
theorem AH0:GxOk prog AKi:=AEn ⟨⟨ok49,call49⟩,⟨⟨ok50,call50⟩,trivial⟩⟩ trivial ⟨⟨okm48,call48⟩,trivial⟩
theorem AYB(d:Desk)(asked:List Asked)(day:Int):V7 APA 181 (S8 APA cs16 f16.results.toList) (O4 7 c16) ANi KNp (fun r=>some (.inr r)) ⟨[(0,.str 4 d),(1,.dat (.sl (.st 5)) asked),(2,.int .i64 day)],[],[],[]⟩=ACb d asked day:=by kernel_rfl
theorem AVy(l:List Letter):exec AKi 181 (S8 AKi cs16 f16.results.toList) AVw AMU (S8 AKi cs16 f16.results.toList) (fun _ _=>none) some ⟨[(23,.own 23)],[(23,.own false (.sl 70 (.st 6)) l)],[],[]⟩=K8 l:=by kernel_rfl
def I1(d:Desk)(asked:List Asked)(day:Int):Option (List Letter×Int):=(ACb d asked day).bind fun z=>Sum.elim (fun q=>(D4 q.1 q.2.2.2).bind fun ys=>(AB8 (AHz q.1 q.2.1 q.2.2.1) fnone ys).bind fun f=>W5 f fun xs=>(List.foldlM AFU [] xs).bind K8) (fun r=>some r) z
def ctr16:Ctr:=⟨[.d (.st 4),.d (.sl (.st 5)),.d (.int .i64)],cs16,fun a=>I1 a.1 a.2.1 a.2.2.1⟩
theorem ok16:Ctr.ok prog 16 ctr16:=by
 refine⟨by decide,fun M w a vals r hM hg ha hr=>?_⟩;obtain⟨d,asked,day,_⟩:=a;obtain⟨vd,_,rfl,hvd,⟨va,_,rfl,hva,⟨vk,_,rfl,hvk,rfl⟩⟩⟩:=ha;have hvd:OkD (P:=prog) M w (.st 4) d vd:=hvd;have hva:OkD (P:=prog) M w (.sl (.st 5)) asked va:=hva;have hvk:OkD (P:=prog) M w (.int .i64) day vk:=hvk;have hr:I1 d asked day=some r:=hr;unfold I1 at hr;obtain⟨z,hz,hr⟩:=C5 hr;have h0:Holds (P:=prog) w [] M ⟨[(0,.str 4 d),(1,.dat (.sl (.st 5)) asked),(2,.int .i64 day)],[],[],[]⟩ [(0,vd),(1,va),(2,vk)] w:=by
  refine Holds.start hM (fun t s ht=>?_) ⟨trivial,hg⟩;rw[fnd_cons]at ht;split at ht
  . rename_i e;subst e;cases ht;exact⟨vd,rfl,hvd⟩
  rw[fnd_cons]at ht;split at ht
  . rename_i e;subst e;cases ht;exact⟨va,rfl,rfl,hva⟩
  rw[fnd_cons]at ht;split at ht
  . rename_i e;subst e;cases ht;exact⟨vk,rfl,E4 (.int .i64) hvk⟩
  . cases ht
 refine ABQ (l:=[vd,va,vk]) (fn:=f16) func16 rfl rfl rfl ?_;refine ADd (P:=prog) (pr:=S8 APA cs16 f16.results.toList) ANk 7 c16 ANi (by decide) ((AYB d asked day).trans hz) h0 (fun σ' L' w1 hK hE hH=>?_) (fun r' σ' L' w' hp hk hH=>?_);rotate_left
 . have hk:Sum.inr r'=z:=AaO hk;subst hk;have hr:some r'=some r:=hr;cases hr
   exact FinM.of (AGH ANk (by decide) hp hH)
 clear hE h0;obtain⟨S,ρ,γ,μ,ι,hS⟩:=hH;obtain⟨c8,s4,s13,x,al,l,k,g4,g8,g13,g2,r4,r8,r13,t8,t4,t13,rfl⟩:∃c8 s4 s13 x al l k,A1 σ'.env 4=some (.ptr 4 0)/\A1 σ'.env 8=some (.ptr 8 0)/\A1 σ'.env 13=some (.ptr 13 0)/\A1 σ'.env 2=some (.int .i64 k)/\A1 σ'.res 4=some (.row 29 [s4])/\A1 σ'.res 8=some (.row 99 c8)/\A1 σ'.res 13=some (.row 24 [s13])/\C1 (A1 σ'.res) (.st 10) (.agg c8)=some x/\C1 (A1 σ'.res) (.sl (.st 5)) s4=some al/\C1 (A1 σ'.res) (.sl (.st 1)) s13=some l/\z=.inl (x,al,l,k):=by
  unfold KNp at hK;split at hK
  . rename_i k s4 c8 s13 q1 q2 q3 q4 q5 q6 q7;split at hK
    . rename_i x a l q8 q9 q10;exact⟨c8,s4,s13,x,a,l,k,q1,q2,q3,q4,q5,q6,q7,q8,q9,q10,(AaO hK).symm⟩
    . cases hK
  . cases hK
 have hr:((D4 x k).bind fun ys=>(AB8 (AHz x al l) fnone ys).bind fun f=>W5 f fun xs=>(List.foldlM AFU [] xs).bind K8)=some r:=hr;obtain⟨ys,hys,hr⟩:=C5 hr;obtain⟨f,hf,hr⟩:=C5 hr;obtain⟨hok,hdec⟩:(∀y∈ys,AEG [.st 2,.st 12] y)/\AGM x k x.desk.disputes=some ys:=by
  unfold D4 at hys;obtain⟨ys',h1,h2⟩:=C5 hys;split at h2
  . rename_i h3;cases h2;exact⟨h3,h1⟩
  . cases h2
 obtain⟨v4,l4,b4,hb4,rfl⟩:=hS.env 4 (.ptr 4 0) g4;obtain⟨v8,l8,b8,hb8,rfl⟩:=hS.env 8 (.ptr 8 0) g8;obtain⟨v13,l13,b13,hb13,rfl⟩:=hS.env 13 (.ptr 13 0) g13;obtain⟨v2,l2,rfl,hkk⟩:=hS.env 2 (.int .i64 k) g2;obtain⟨b4',e4,row4,o4,i4⟩:=hS.rowAt r4;obtain⟨b8',e8,row8,o8,i8⟩:=hS.rowAt r8;obtain⟨b13',e13,row13,o13,i13⟩:=hS.rowAt r13;rw[hb4]at e4;cases e4;rw[hb8]at e8;cases e8;rw[hb13]at e13;cases e13;have memM:∀b∈M,b∈mm S M:=fun b hb=>mem_mm.2 (.inr hb);have one:∀{s:SV} {vs:List Value} {t:Ty} {y:List (den t)},OkL (P:=prog) ρ (A1 σ'.res) (mm S M) w1 [s] vs->C1 (A1 σ'.res) (.sl t) s=some y->∃u,vs=[u]/\OkD (P:=prog) M w1 (.sl t) y u/\u.cells=toArray vs:=fun {s vs t y} h ht=>by
  obtain⟨u,c,q,rfl,hu,hc,hq⟩:=h;have hq:q=[]:=hq;subst hq;have hd:=H8 (M:=mm S M) memM (.sl t) s (hS.rdsM _) ht hu;obtain⟨sa,n,hsl,_⟩:=(OkD.rds hd).shape;have:c=[u]:=by
   subst hsl;exact(AaX Array.toList hc).symm
  subst this;exact⟨u,rfl,hd,hc⟩
 have d8:Ok (P:=prog) (fun _=>undef) (fun _=>none) M w1 (.rp (.str 10 x) 0) (.pointer (some ⟨b8,0,none⟩)):=⟨b8,0,.agg (toArray (γ 8)),γ 8,rfl,G5 (hS.hp.sepM _ (AaP i8) b8 (mem_singleton.2 rfl)) row8,H8 (M:=mm S M) memM (.st 10) (.agg c8) (hS.rdsM _) t8 ⟨γ 8,rfl,o8⟩,rfl⟩;obtain⟨u4,eu4,du4,cu4⟩:=one o4 t4;obtain⟨u13,eu13,du13,cu13⟩:=one o13 t13;have d4:Ok (P:=prog) (fun _=>undef) (fun _=>none) M w1 (.rp (.dat (.sl (.st 5)) al) 0) (.pointer (some ⟨b4,0,none⟩)):=⟨b4,0,u4,γ 4,rfl,G5 (hS.hp.sepM _ (AaP i4) b4 (mem_singleton.2 rfl)) row4,⟨rfl,du4⟩,cu4⟩;have d13:Ok (P:=prog) (fun _=>undef) (fun _=>none) M w1 (.rp (.dat (.sl (.st 1)) l) 0) (.pointer (some ⟨b13,0,none⟩)):=⟨b13,0,u13,γ 13,rfl,G5 (hS.hp.sepM _ (AaP i13) b13 (mem_singleton.2 rfl)) row13,⟨rfl,du13⟩,cu13⟩;have hI1:Hp w [] M [] w1:=hS.hp.sel [] rfl;have hg1:GlOk (P:=prog) M w1:=hS.anch.2.adv (Adv.drop memM);clear one hK hS g4 g8 g13 g2 r4 r8 r13 t8 t4 t13 row4 row8 row13 o4 o8 o13 i4 i8 i13 hb4 hb8 hb13 eu4 eu13 cu4 cu13;refine A3 ?_;refine A7 ?_;refine AKQ K116 (A9 .i64) false hI1 rfl ?_;intro bd w2 hI2 x2;refine P5 hI2 zeroValue106 rfl rfl ?_;intro b14 w3 hI3 x3;refine N2 0 (vs:=[.map (some bd)]) hI3 rfl rfl rfl rfl sizeOf106 rfl rfl (one1 rfl one0) ?_;intro w4 hI4 x4;have hI4:Hp w [] M (rowR 106 b14 [.map (some bd)]::MP bd fnone) w4:=hI4;refine Reg.nil ?_;have h14:RdC (bd::M) w4 b14 0 [.map (some bd)]:=hI4.freezeRow 0 rfl;have hI5:Hp w [] M (MP bd fnone) w4:=hI4.erase 0;have hA5:Adv M (bd::M) w1 w4:=x2.trans (x3.trans (x4.trans (E3 (σ:=rowR 106 b14 [.map (some bd)]::MP bd fnone) 0)));have hD5:D16 (bd::M) w4 x al l (.pointer (some ⟨b8,0,none⟩)) (.pointer (some ⟨b4,0,none⟩)) (.pointer (some ⟨b13,0,none⟩)) b14 bd:=⟨hg1.adv hA5,Ok.adv hA5 _ d8,Ok.adv hA5 _ d4,Ok.adv hA5 _ d13,h14⟩;have hx8:=hD5.h8;obtain⟨b8',o8,u8,vs8,hp8,c8',hu8,hc8⟩:=hx8;obtain⟨cs8,hR8,hcs8⟩:=hu8;obtain rfl:u8=.agg (toArray cs8):=hcs8.elim (fun h=>h.2) fun h=>by cases h.1
 obtain rfl:cs8=vs8:=AaX Array.toList hc8;cases hp8
 refine A3 ?_;refine A3 ?_;refine A7 ?_;refine Y0 l8 c8'.cells isAgg99 ((enc (P:=prog) (.st 10)).len hR8) sizeOf99 rfl ?_;refine E5 l2 rfl ?_;refine G6 rfl call45 rfl ?_;refine(C45 hI5.mlt ⟨cs8,hR8,.inl ⟨rfl,rfl⟩⟩ hkk).mono ?_;rintro _ w5 ⟨p1,p2,rfl,hp1,hp2,x5⟩;refine⟨_,rfl,?_⟩;refine Reg.nil ?_;refine C4 ?_;have hA6:Adv (bd::M) (bd::M) w4 w5:=Adv.of_ext x5;refine AT3 (w:=w) (wl:=w5) (f:=fnone) (f':=f) (Aah (hI5.mlt bd (AaT ..)) x5.size) (hI5.ext x5) (hD5.adv hA6) hp1 hp2 l4 l8 l13 rfl rfl hdec hok hf fun D W hDw hI7 hA7 hdef=>?_;refine A3 ?_;refine A7 ?_;refine C6 rfl rfl ?_;refine Reg.nil ?_;have hDwM:w.heap.size<=D:=Aad (Aad hI5.kp.size x5.size) hDw;have hDk:Dok D M W:=⟨fun hm=>by have:=hM D hm;omega,hdef⟩;have h14W:RdC M W b14 0 [.map (some bd)]:=(h14.adv (hA6.trans hA7)).adv (Adv.drop fun b hb=>AaQ _ hb);have hm:=hI7.freezeM 0 rfl;have hI8:Hp w [] M [ownR [] LetterE 70 (.slice none 0 0) []] W:=(hI7.erase 0).addNil LetterE 70;have hg8:GlOk (P:=prog) M W:=(hg1.adv (hA5.trans (hA6.trans hA7))).adv (Adv.drop fun b hb=>AaQ _ hb);refine A3 ?_;refine AVx (f:=f) hI8 hm h14W hDk hr rfl rfl fun L9 W9 v9 ls hls hI9 l23 hA9 hDk9=>?_;letI:Anch:=AIe D
 have hst:Holds (P:=prog) w [] M ⟨[(23,.own 23)],[(23,.own false (.sl 70 (.st 6)) ls)],[],[]⟩ L9 W9:=by
  refine⟨[ownR [] LetterE 70 v9 ls],fun _=>v9,fun _=>[],fun _=>[],fun _=>0,hI9,fun i a hi=>?_,fun i j a b hi hj _=>?_,fun i a hi=>?_,fun t s ht=>?_,hDk9,hg8.adv hA9⟩
  . rw[fnd_cons]at hi;split at hi
    . rename_i e;subst e;cases hi;rfl
    . cases hi
  . rw[fnd_cons]at hi hj;split at hi<;>split at hj
    . rename_i e1 e2;rw[<-e1,<-e2]
    . cases hj
    . cases hi
    . cases hi
  . rw[fnd_cons]at hi;split at hi
    . rename_i e;subst e;cases hi;trivial
    . cases hi
  . rw[fnd_cons]at ht;split at ht
    . rename_i e;subst e;cases ht;exact⟨v9,l23,rfl,Own.cells1 (hI9.ownAt 0 rfl),Own.oneC (hI9.ownAt 0 rfl)⟩
    . cases ht
 exact AAh (n:=3) (ADY (I9 AH0 AVw AMU _ _ _ _ _ _ _ _ _ _ _ _ _ ((AVy ls).trans hls) hst (fun σ2 L2 w2 h2 _ _ hH2=>AGz (fun h=>h) AH0 (by decide) rfl hDwM h2 hH2) (fun i σ2 L2 w2 h2=>by cases h2) (fun r' σ2 L2 w2 hp hk _ hH2=>by
  have hk:r'=r:=AaO hk;subst hk;exact AGz (fun h=>h) AH0 (by decide) rfl hDwM hp hH2) PZ.no))
def K4(d:Desk)(day:Int):Option ((List Report)×Int):=(I7 d day).bind fun (r1,r2)=>cond ((!decide (r2=0))) (some (([]:(List Report)),r2)) ((F1 r1 day).bind fun (r3,r4)=>some (r3,r4))
def AZm:An:=.x
def ctr14:Ctr:=⟨[.d (.st 4),.d (.int .i64)],[.own (.sl 45 (.st 1)),.d (.int .i64)],fun a=>K4 a.1 a.2.1⟩
theorem ok14:Ctr.ok prog 14 ctr14:=B0 (G:={ gxb with fs:=[(40,ctr40),(41,ctr41)] }) (an:=AZm) (B1 ⟨⟨ok40,call40⟩,⟨⟨ok41,call41⟩,trivial⟩⟩) func14 rfl rfl rfl rfl (fun a=>by kernel_rfl)
end Go.Proofs.YtgioiejbphljoaaGreatDoor
namespace Go.Proofs.YtgioiejbphljoaaGreatDoor
open Go Go.Sx Go.Rx
namespace S
def ACc(d:Desk)(day:Int):List (Dispute×Verdict):=(d.disputes.filter fun x=>decide (3<=wh d x day)).map fun x=>(x,dec d x)
section
variable{d:Desk}{day:Int}{D:Desk_99}{x:Dispute}{v:Verdict}
theorem decd_mem{y:Dispute×Verdict}:y∈ACc d day↔y.1∈d.disputes/\3<=wh d y.1 day/\y.2=dec d y.1:=by
 unfold ACc;rw[Abr];constructor
 . rintro⟨x,hx,rfl⟩;obtain⟨h1,h2⟩:=List.mem_filter.1 hx;exact⟨h1,AaW h2,rfl⟩
 . rintro⟨h1,h2,h3⟩;exact⟨y.1,List.mem_filter.2 ⟨h1,Aab h2⟩,by rw[<-h3]⟩
theorem V1{x:Int}(h:-1000000000000000<=x/\x<=1000000000000000):InK .i64 x:=InK.i64.2 (by omega)
theorem ASn{x:Int}(h:0<=x/\x<=255):InK .u8 x:=InK.u8.2 (by omega)
theorem AVz(hv:Vd d){a:Answer}(ha:a∈d.answers):(0<=a.id/\a.id<=999999)/\(0<=a.dispute/\a.dispute<=999999)/\(0<=a.day/\a.day<=100000)/\(1<=a.says/\a.says<=3)/\(0<=a.about/\a.about<=100000)/\(0<=a.cents/\a.cents<=1000000000000):=by
 obtain⟨v1,v2,v3,x,hxm,v4,v5,v6⟩:=hv.a.v a ha;obtain⟨x1,_,f,hf,_⟩:=hv.x.v x hxm;have hm:most f.kind<=1000000000000:=by unfold most;split<;>(try split)<;>omega
 refine⟨v1,by rw[<-v4];exact x1,v2,v3,?_⟩;by_cases e:a.says=2
 . have:=v6 e f hf;omega
 . have:=v5 e;omega
theorem ASo(hv:Vd d)(x:Dispute):(0<=(dec d x).by_.id/\(dec d x).by_.id<=999999)/\(0<=(dec d x).by_.dispute/\(dec d x).by_.dispute<=999999)/\(0<=(dec d x).by_.day/\(dec d x).by_.day<=100000)/\(0<=(dec d x).by_.says/\(dec d x).by_.says<=3)/\(0<=(dec d x).by_.about/\(dec d x).by_.about<=100000)/\(0<=(dec d x).by_.cents/\(dec d x).by_.cents<=1000000000000):=by
 by_cases c:(dec d x).is_=5
 . have e:(dec d x).by_=zeroA:=by rw[((AIs hv x).is5 c).1]
   rw[e];unfold zeroA;dsimp only;omega
 . have:=AVz hv (List.mem_filter.1 ((AIs hv x).by_ c).2.1).1;omega
theorem AKK(hD:Dw d D)(hv:Vd d):D4 D day=some (ACc d day):=by
 have key:∀l:List Dispute,(∀x∈l,x∈d.disputes)->AGM D day l=some ((l.filter fun x=>decide (3<=wh d x day)).map fun x=>(x,dec d x)):=by
  intro l;induction l with
  |nil=>intro _;rfl
  |cons x l ih=>
   intro h
   unfold AGM
   rw[AGx hD hv (h x (AaT ..)),bindS,ih (fun y hy=>h y (AaQ _ hy)),bindS]
   congr 1
   rw[Aa5]
   by_cases c:3<=wh d x day
   . rw[Aac (show decide (3<=wh d x day)=true from Aab c),Aaj]
     exact Aac c
   . rw[if_neg (show ¬decide (3<=wh d x day)=true from fun h=>c (AaW h))]
     exact if_neg c
 unfold D4;rw[hD.d,key _ fun _ h=>h,bindS];refine Aac fun y hy=>?_;obtain⟨h1,h2,h3⟩:=decd_mem.1 hy;obtain⟨x1,x2,f,hf,x3,x4⟩:=hv.x.v _ h1;have hfm:=ABX hf;have hfv:=hv.r.v f hfm.1;have ht:=hv.t.1;have hk:=ARq hv y.1;have hdi:=AGO hv h1;have hb:=ASo hv y.1;have hrid:0<=y.1.report/\y.1.report<=999999:=by rw[<-hfm.2.1];exact hfv.2.1
 have hmade:=hfv.2.2.2.2.2.1;have e:AEG [.st 2,.st 12] y↔(InK .i64 y.1.id/\InK .i64 y.1.report/\InK .i64 y.1.day)/\(InK .i64 y.2.day/\InK .u8 y.2.is_/\InK .i64 y.2.by_.id/\InK .i64 y.2.by_.dispute/\InK .i64 y.2.by_.day/\InK .u8 y.2.by_.says/\InK .i64 y.2.by_.about/\InK .i64 y.2.by_.cents):=AbW;rw[e,h3];exact⟨⟨V1 (by omega),V1 (by omega),V1 (by omega)⟩,V1 (by omega),ASn (by omega),V1 (by omega),V1 (by omega),V1 (by omega),ASn (by omega),V1 (by omega),V1 (by omega)⟩
def AFV:Report:=Report.mk 0 0 0 0 0 0 0 0
def ADg(d:Desk)(x:Dispute)(v:Verdict):Report:=
 let f:=(fct d.reports x.report).getD AFV
 if v.is_=3 then Report.mk x.id f.source f.account v.day v.by_.about 8 v.by_.cents f.id else Report.mk x.id f.source f.account v.day 0 9 0 f.id
theorem AT4(hD:Dw d D){l:List Report}(hl:l.length<=1000000):X2 D x v l=some (l++[ADg d x v]):=by
 unfold X2 ADg;rw[hD.f,hD.d];by_cases c:v.is_=3
 . rw[Aab c,condT,bindS,Aac c];exact Ret.eq (Ret.bind (Ret.appo (by simp only[List.length_singleton];omega) (by simp only[List.length_singleton];omega) (Ret.ok rfl)))
 . rw[AaY c,condF,bindS,if_neg c];exact Ret.eq (Ret.bind (Ret.appo (by simp only[List.length_singleton];omega) (by simp only[List.length_singleton];omega) (Ret.ok rfl)))
def AAD(d:Desk)(day:Int):List Report:=(ACc d day).map fun y=>ADg d y.1 y.2
theorem AMX:(ADg d x v).id=x.id:=by unfold ADg;split<;>rfl
theorem AMY:(ADg d x v).made=v.day:=by unfold ADg;split<;>rfl
theorem AH1:(ACc d day).length<=d.disputes.length:=by
 unfold ACc;rw[Aa1];exact AbD ..
theorem AG0(hv:Vd d):((AAD d day).map (·.id)).Nodup:=by
 unfold AAD ACc;rw[Aau,Aau];rw[show(((fun r:Report=>r.id) ∘ fun y:Dispute×Verdict=>ADg d y.1 y.2) ∘ fun x=>(x,dec d x))=fun x:Dispute=>x.id from funext fun x=>AMX];exact(Abq _ AbE).nodup hv.x.nd
def AGQ(d:Desk)(day:Int)(r:List Report×Int):Prop:=(60<d.reports.length+(AAD d day).length/\r=([],9))\/(d.reports.length+(AAD d day).length<=60/\∃m:List Report,m.Perm (AAD d day)/\m.Pairwise (le2 (·.made) (·.id))/\r=(d.reports++m,0))
theorem ARx{a b:List Report}(ha:a.length<=100000)(hb:b.length<=100000):U9 [a,b]=some (a++b):=by
 refine Ret.eq ?_;unfold U9;refine Ret.bind (C9 2 (fun n (t:Int×Int)=>t.1=n/\(n=0->t.2=0)/\(n=1->t.2=a.length)/\(n=2->t.2=a.length+b.length)) ⟨rfl,fun _=>rfl,fun h=>by omega,fun h=>by omega⟩ ?_ ?_)
 . rintro n hn ⟨_,s⟩ ⟨rfl,h0,h1,h2⟩;have:n=0\/n=1:=by omega
   rcases this with rfl|rfl
   . have:s=0:=h0 rfl;subst this;exact Ret.condT rfl (Ret.bind (Ret.val (show ixo [a,b] 0=some a from rfl) (Ret.bind (Ret.chk (by omega) (Ret.condF (AaY (by omega)) (Ret.bind (Ret.chk (by decide) (Ret.next ⟨rfl,fun h=>by omega,fun _=>by dsimp only;omega,fun h=>by omega⟩))))))))
   . have:s=a.length:=h1 rfl;subst this;exact Ret.condT rfl (Ret.bind (Ret.val (show ixo [a,b] 1=some b from rfl) (Ret.bind (Ret.chk (by omega) (Ret.condF (AaY (by omega)) (Ret.bind (Ret.chk (by decide) (Ret.next ⟨rfl,fun h=>by omega,fun h=>by omega,fun _=>rfl⟩))))))))
 rintro⟨_,s⟩ ⟨rfl,h0,h1,h2⟩;have:s=a.length+b.length:=h2 rfl;subst this;have hg:N1 () ((a.length:Int)+b.length)=some []:=by
  unfold N1;exact Aac ⟨by omega,by omega⟩
 refine Ret.condF rfl (Ret.done ?_);rw[hg,bindS];refine Ret.bind (C9 2 (fun n (t:Int×List Report)=>t.1=n/\(n=0->t.2=[])/\(n=1->t.2=a)/\(n=2->t.2=a++b)) ⟨rfl,fun _=>rfl,fun h=>by omega,fun h=>by omega⟩ ?_ ?_)
 . rintro n hn ⟨_,s⟩ ⟨rfl,h0,h1,h2⟩;have:n=0\/n=1:=by omega
   rcases this with rfl|rfl
   . have:s=[]:=h0 rfl;subst this;exact Ret.condT rfl (Ret.bind (Ret.val (show ixo [a,b] 0=some a from rfl) (Ret.bind (Ret.appo (by simp only[List.length_nil];omega) (by simp only[List.length_nil];omega) (Ret.bind (Ret.chk (by decide) (Ret.next ⟨rfl,fun h=>by omega,fun _=>rfl,fun h=>by omega⟩)))))))
   . have:s=a:=h1 rfl;subst this;exact Ret.condT rfl (Ret.bind (Ret.val (show ixo [s,b] 1=some b from rfl) (Ret.bind (Ret.appo (by omega) (by omega) (Ret.bind (Ret.chk (by decide) (Ret.next ⟨rfl,fun h=>by omega,fun h=>by omega,fun _=>rfl⟩)))))))
 . rintro⟨_,s⟩ ⟨rfl,h0,h1,h2⟩;have:s=a++b:=h2 rfl;subst this;exact Ret.condF rfl (Ret.done (Ret.ok rfl))
theorem AMZ(hD:Dw d D)(hv:Vd d):Ret (F1 D day) (AGQ d day):=by
 have hlx:=hv.x.len;have hlr:=hv.r.len;have hml:(AAD d day).length<=20:=by
  unfold AAD;rw[Aa1];exact Aad AH1 hlx
 unfold F1;rw[AKK hD hv,bindS];refine Ret.bind (Ret.over (fun pre (l:List Report)=>l=pre.map fun y=>ADg d y.1 y.2) rfl (fun pre y s hpl hp hy hs=>?_) fun s hs=>?_)
 . subst hs;rw[AT4 hD (by rw[Aa1];have:=AH1 (d:=d) (day:=day);omega)];exact Ret.ok (by rw[Aai];rfl)
 . subst hs;show Ret (ABE D (AAD d day)) (AGQ d day);unfold ABE;rw[hD.d];refine Ret.bind (Ret.chk (by omega) (Ret.cond (fun c=>Ret.ok (.inl ⟨?_,rfl⟩)) fun c=>?_))
   . have c:=AaW c;omega
   have c:=AaZ c;have ho:=AIu (x:=AAD d day) (cmp:=fun a b=>K1 a b [78,79]) (k1:=(·.made)) (k2:=(·.id)) (fun a b=>AGy (D:=fd160.D) (fun _=>rfl) (fun _=>rfl)) (fun a b ha hb _ e=>Z5 (AG0 hv) a b ha hb e) (by omega);refine Ret.bind (Ret.bind (ho.mono fun m hm=>Ret.ok ?_));have hml:=hm.1.length_eq;dsimp only;rw[ARx (a:=d.reports) (b:=m) (by omega) (by omega),bindS];exact Ret.ok (.inr ⟨by omega,m,hm.1,hm.2,rfl⟩)
theorem AH2(hv:Vd d)(hd:0<=day/\day<=100000):Ret (K4 d day) (AGQ d day):=by
 obtain⟨D,h1,hD⟩:=ADe hv hd;unfold K4;rw[h1,bindS];exact Ret.condF (by decide) (Ret.bind ((AMZ hD hv).mono fun r hr=>Ret.ok hr))
theorem AMa(hv:Vd d){r r':List Report×Int}(h:AGQ d day r)(h':AGQ d day r'):r=r':=by
 rcases h with⟨h1,rfl⟩|⟨h1,m,h2,h3,rfl⟩<;>rcases h' with⟨h4,rfl⟩|⟨h4,m',h5,h6,rfl⟩
 . rfl
 . omega
 . omega
 . rw[AB3 (h2.trans h5.symm) h3 h6 fun a b ha hb _ e=>Z5 (AG0 hv) a b (h2.mem_iff.1 ha) (h2.mem_iff.1 hb) e]
end
end S
namespace S
def stF(l:List Report)(day i:Int):Option Report:=(T (P1 l day)).find? fun r=>decide (r.id=i)
theorem ARy{l:List Report}(hn:(l.map (·.id)).Nodup){i:Int}{r:Report}:(l.find? fun r=>decide (r.id=i))=some r↔r∈l/\r.id=i:=by
 constructor
 . intro h;exact⟨Abl h,AaW (AcG (p:=fun r:Report=>decide (r.id=i)) h)⟩
 . rintro⟨h,rfl⟩;cases hg:l.find? fun s=>decide (s.id=r.id) with
   |none=>exact absurd (Aab rfl) (List.find?_eq_none.1 hg r h)
   |some g=>rw[Z5 hn g r (Abl hg) h (AaW (AcG (p:=fun s:Report=>decide (s.id=r.id)) hg))]
theorem AT5{l:List Report}(h:VL l){day i:Int}{r:Report}:stF l day i=some r↔r∈T (P1 l day)/\r.id=i:=ARy (AJd (ACD h day))
theorem ANl{l:List Report}(h:VL l){day:Int}(hd:0<=day/\day<=100000):V0 l day=some (stF l day):=by
 refine Ret.eq ?_;unfold V0;refine E7 (AO2 h hd) fun z hz=>?_;obtain⟨out,e⟩:=z;obtain⟨rfl,hp,_⟩:=hz;have hlen:=hp.length_eq;have hT:=AKh (ACD h day);have hnd:(out.map (·.id)).Nodup:=(hp.map _).nodup_iff.2 (AJd (ACD h day));refine Ret.bind (C9 out.length (fun n (t:Int×A4 Int Report)=>t.1=n/\∀i r,t.2 i=some r↔r∈out.take n/\r.id=i) ⟨rfl,fun i r=>by simp[fnone]⟩ ?_ ?_)
 . rintro n hlt ⟨_,m⟩ ⟨rfl,hm⟩;dsimp only at hm hlt;refine Ret.condT (ltT hlt) (Ret.bind (O2 hlt (Ret.bind (Ret.chk (by dsimp only at *;omega) (Ret.next ⟨by dsimp only;omega,fun i r=>?_⟩)))));dsimp only[B4];rw[G4 hlt];by_cases e:i=out[n].id
   . subst e;rw[Aac rfl];constructor
     . intro h9;cases h9;exact⟨.inr rfl,rfl⟩
     . rintro⟨h9|h9,h8⟩
       . rw[Z5 hnd r _ (Ab1 h9) (Aak hlt) h8]
       . rw[h9]
   . rw[if_neg e,hm];constructor
     . rintro⟨h9,h8⟩;exact⟨.inl h9,h8⟩
     . rintro⟨h9|rfl,h8⟩
       . exact⟨h9,h8⟩
       . exact absurd h8.symm e
 . rintro⟨_,m⟩ ⟨rfl,hm⟩;dsimp only at hm;rw[Aay]at hm;refine Ret.condF (ltF (Aae _)) (Ret.done (Ret.ok ?_));funext i;apply Option.ext;intro r;rw[hm,AT5 h,hp.mem_iff]
def AIw(d:Desk)(l:List Report)(x:Dispute)(a:Asked):Bool:=
 decide (a.account=((fct d.reports x.report).getD AFV).account)&&(decide (a.day<(dec d x).day)&&(decide ((dec d x).day-a.day<=d.terms.lately)&&(match stF l a.day x.report with
  |none=>false
  |some was=>decide (was.about<=a.day)&&(match stF l (dec d x).day x.report with
   |none=>true
   |some now=>!decide (was=now)))))
structure AskV(asked:List Asked):Prop where
 len:asked.length<=40
 v:∀a∈asked,(0<=a.id/\a.id<=999999)/\(0<=a.who/\a.who<=999999)/\(0<=a.account/\a.account<=999999)/\(0<=a.day/\a.day<=100000)
 up:∀(n:Nat) (h:n+1<asked.length),asked[n].id<asked[n+1].id
def AFW(d:Desk)(l:List Report)(x:Dispute)(f:A4 (Int×Int) Int)(a:Asked):A4 (Int×Int) Int:=if AIw d l x a then B4 f (x.id,a.who) a.id else f
def APB(d:Desk)(l:List Report)(asked:List Asked)(f:A4 (Int×Int) Int)(y:Dispute×Verdict):A4 (Int×Int) Int:=asked.reverse.foldl (AFW d l y.1) f
def ARz(d:Desk)(l:List Report)(asked:List Asked)(day:Int):A4 (Int×Int) Int:=(ACc d day).foldl (APB d l asked) fnone
theorem AQY:∀(l:List Asked) (n:Nat),n<=l.length->(bwN l n).map (·.2)=(l.take n).reverse
 |l,0,_=>rfl
 |l,n+1,h=>by
  have hlt:n<l.length:=by omega
  unfold bwN;rw[AaV hlt];show l[n]::(bwN l n).map (·.2)=_;rw[AQY l n (by omega),P9 hlt,List.reverse_append];rfl
theorem AMb:∀(l:List Asked) (n:Nat) (y:Int×Asked),n<=l.length->y∈bwN l n->y.2∈l/\0<=y.1/\y.1<n
 |l,0,y,_,h=>by cases h
 |l,n+1,y,hn,h=>by
  have hlt:n<l.length:=by omega
  unfold bwN at h;rw[AaV hlt]at h;rcases mem_cons.1 h with rfl|h
  . exact⟨Aak hlt,by dsimp only;omega,by dsimp only;omega⟩
  . have:=AMb l n y (by omega) h;exact⟨this.1,this.2.1,by omega⟩
theorem APC{asked:List Asked}(ha:AskV asked):V9 asked=some (bwN asked asked.length):=by
 unfold V9;refine Aac fun y hy=>?_;obtain⟨h1,h2,h3⟩:=AMb asked asked.length y (Aae _) hy;have hl:=ha.len;obtain⟨v1,v2,v3,v4⟩:=ha.v _ h1;have e:AEG [.int .i64,.st 5] y↔InK .i64 y.1/\(InK .i64 y.2.id/\InK .i64 y.2.who/\InK .i64 y.2.account/\InK .i64 y.2.day):=AbW;rw[e];exact⟨V1 (by omega),V1 (by omega),V1 (by omega),V1 (by omega),V1 (by omega)⟩
section
variable{d:Desk}{D:Desk_99}(hD:Dw d D)(hv:Vd d){l:List Report}(hl:VL l)
include hD hv hl
section
variable{x:Dispute}{f:A4 (Int×Int) Int}
theorem AYC(hx:x∈d.disputes):ABF l x (dec d x)=some ((stF l (dec d x).day x.report).getD AFV,(stF l (dec d x).day x.report).isSome):=by
 unfold ABF;rw[ANl hl (AGO hv hx),bindS];rfl
theorem AYD(hx:x∈d.disputes){a:Int×Asked}(ha:0<=a.2.day/\a.2.day<=100000):Go.Proofs.YtgioiejbphljoaaGreatDoor.inB D l x (dec d x) ((stF l (dec d x).day x.report).getD AFV) ((stF l (dec d x).day x.report).isSome) f a=some (AFW d l x f a.2):=by
 have hdi:=AGO hv hx;unfold Go.Proofs.YtgioiejbphljoaaGreatDoor.inB AFW;have key:∃b:Bool⊕Unit,AAm D l x (dec d x) ((stF l (dec d x).day x.report).getD AFV) ((stF l (dec d x).day x.report).isSome) a.2=some b/\(AIw d l x a.2=true↔b=.inl true):=by
  show Ret _ fun b:Bool⊕Unit=>AIw d l x a.2=true↔b=.inl true;unfold AAm AIw;rw[hD.f,hD.d];have no:∀{o:Option (Bool⊕Unit)} {b:Bool},b=false->Ret (cond true (some (Sum.inr ())) o) fun c:Bool⊕Unit=>b=true↔c=.inl true:=fun {o b} h=>Ret.condT rfl (Ret.ok (by subst h;exact⟨(fun h=>by cases h),(fun h=>by cases h)⟩));refine Ret.bind (Ret.cond (fun c=>Ret.ok (no ?_)) fun c=>Ret.cond (fun c2=>Ret.ok (no ?_)) fun c2=>Ret.bind (Ret.chk (by omega) (Ret.ok ?_)))
  . have c:decide (a.2.account=((fct d.reports x.report).getD AFV).account)=false:=by
     rw[Bool.not_eq_true']at c;exact c
    rw[c];rfl
  . have c2:=AaW c2;rw[AaY (show ¬a.2.day<(dec d x).day by omega)];simp
  have c:decide (a.2.account=((fct d.reports x.report).getD AFV).account)=true:=by
   rw[Bool.not_eq_false']at c;exact c
  have c2:=AaZ c2;rw[c,Aab (show a.2.day<(dec d x).day by omega),Bool.true_and,Bool.true_and];refine Ret.cond (fun c3=>Ret.ok ?_) fun c3=>?_
  . have c3:=AaW c3;rw[AaY (show ¬(dec d x).day-a.2.day<=d.terms.lately by omega)];exact⟨(fun h=>by cases h),(fun h=>by cases h)⟩
  have c3:=AaZ c3;rw[Aab (show(dec d x).day-a.2.day<=d.terms.lately by omega),Bool.true_and];rw[ANl hl ha,bindS];have fin:∀{b b':Bool},b=b'->Ret (some (Sum.inl b':Bool⊕Unit)) fun c:Bool⊕Unit=>b=true↔c=.inl true:=fun {b b'} h=>Ret.ok (by subst h;exact⟨fun h=>by rw[h],fun h=>by injection h⟩);refine Ret.bind ?_;cases hw:stF l a.2.day x.report with
  |none=>exact Ret.condF rfl (Ret.ok (fin rfl))
  |some was=>
   refine Ret.condT rfl (Ret.cond (fun c4=>?_) fun c4=>Ret.ok (fin ?_))
   . have c4:decide (was.about<=a.2.day)=true:=c4
     dsimp only
     rw[c4,Bool.true_and]
     cases hn:stF l (dec d x).day x.report with
     |none=>exact Ret.condT rfl (Ret.ok (fin rfl))
     |some now=>exact Ret.condF rfl (Ret.ok (fin rfl))
   . have c4:decide (was.about<=a.2.day)=false:=c4
     dsimp only
     rw[c4];rfl
 obtain⟨b,h1,h2⟩:=key;rw[h1,bindS];congr 1;by_cases c:AIw d l x a.2=true
 . rw[Aac c,h2.1 c]
 . rw[if_neg c];cases b with
   |inr u=>rfl
   |inl b=>
    cases b with
    |false=>rfl
    |true=>exact absurd (h2.2 rfl) c
theorem AV0{asked:List Asked}(ha:AskV asked){y:Dispute×Verdict}{day:Int}(hy:y∈ACc d day):AHz D asked l f y=some (APB d l asked f y):=by
 obtain⟨h1,h2,h3⟩:=decd_mem.1 hy;refine Ret.eq ?_;unfold AHz;rw[h3,AYC hD hv hl h1,bindS,APC ha,bindS];refine Ret.over (fun pre (g:A4 (Int×Int) Int)=>g=(pre.map (·.2)).foldl (AFW d l y.1) f) rfl (fun pre a s hpl hp ham hs=>?_) fun s hs=>?_
 . have:=ha.v _ (AMb asked asked.length a (Aae _) ham).1;rw[AYD hD hv hl h1 this.2.2.2];refine Ret.ok ?_;rw[Aai,AcT,<-hs];rfl
 . rw[hs,AQY asked _ (Aae _),Aay];rfl
end
end
theorem AFX{κ α:Type}[DecidableEq κ]{f:A4 κ α}{l:List (κ×α)}(h:Lists f l)(a:κ)(z:α):∃l',Lists (B4 f a z) l'/\l'.length<=l.length+1:=by
 by_cases c:∃x∈l,x.1=a
 . obtain⟨⟨a',y⟩,hx,rfl⟩:=c;obtain⟨j,hj⟩:=Aar hx;exact⟨_,h.set hj z,by rw[Ab4];omega⟩
 . exact⟨_,h.push z fun x hx e=>c ⟨x,hx,e⟩,by simp⟩
theorem AQZ{d:Desk}{l:List Report}{asked:List Asked}:∀(ys:List (Dispute×Verdict)) (f:A4 (Int×Int) Int) (xs:List ((Int×Int)×Int)),Lists f xs->∃xs',Lists (ys.foldl (APB d l asked) f) xs'/\xs'.length<=xs.length+ys.length*asked.length:=by
 have inner:∀(aq:List Asked) (x:Dispute) (f:A4 (Int×Int) Int) (xs:List ((Int×Int)×Int)),Lists f xs->∃xs',Lists (aq.foldl (AFW d l x) f) xs'/\xs'.length<=xs.length+aq.length:=by
  intro aq;induction aq with
  |nil=>intro x f xs h;exact⟨xs,h,by simp⟩
  |cons a aq ih=>
   intro x f xs h
   have:∃xs',Lists (AFW d l x f a) xs'/\xs'.length<=xs.length+1:=by
    unfold AFW;split
    . exact AFX h _ _
    . exact⟨xs,h,by omega⟩
   obtain⟨xs',h1,h2⟩:=this
   obtain⟨xs2,h3,h4⟩:=ih x _ xs' h1
   exact⟨xs2,h3,by simp only[List.length_cons];omega⟩
 intro ys;induction ys with
 |nil=>intro f xs h;exact⟨xs,h,by simp⟩
 |cons y ys ih=>
  intro f xs h
  obtain⟨xs',h1,h2⟩:=inner asked.reverse y.1 f xs h
  obtain⟨xs2,h3,h4⟩:=ih _ xs' h1
  refine⟨xs2,h3,?_⟩
  rw[List.length_reverse]at h2
  simp only[List.length_cons,Nat.add_mul,Nat.one_mul]
  omega
def mkL(y:(Int×Int)×Int):Letter:=Letter.mk y.1.1 y.1.2 y.2
structure LetS(F:A4 (Int×Int) Int)(out:List Letter):Prop where
 mem:∀z:Letter,z∈out↔F (z.dispute,z.who)=some z.asked
 nd:(out.map fun z=>(z.dispute,z.who)).Nodup
 ord:out.Pairwise (le2 (·.dispute) (·.who))
section
variable{F:A4 (Int×Int) Int}{d:Desk}{day:Int}
theorem ANm{out:List Letter}(h:(out.map fun z=>(z.dispute,z.who)).Nodup):∀a b,a∈out->b∈out->a.dispute=b.dispute->a.who=b.who->a=b:=fun a b ha hb e1 e2=>by
 rw[List.Nodup,Abi]at h;obtain⟨i,hi,rfl⟩:=AbV ha;obtain⟨j,hj,rfl⟩:=AbV hb;rw[AbQ]at h;have e:(out[i].dispute,out[i].who)=(out[j].dispute,out[j].who):=by rw[e1,e2]
 rcases AcQ i j with c|c|c
 . exact absurd e (h i j hi hj c)
 . subst c;rfl
 . exact absurd e.symm (h j i hj hi c)
theorem AMc{a b:List Letter}(ha:LetS F a)(hb:LetS F b):a=b:=by
 have nd:∀{x:List Letter},LetS F x->x.Nodup:=fun h=>(List.pairwise_map.1 h.nd).imp fun h e=>h (by rw[e]);refine AB3 ((AbN (nd ha) (nd hb)).2 fun z=>by rw[ha.mem,hb.mem]) ha.ord hb.ord (ANm ha.nd)
theorem AQb{xs0:List ((Int×Int)×Int)}(h0:Lists F xs0)(hl:xs0.length<=100000):Ret (W5 F fun xs=>(List.foldlM AFU [] xs).bind K8) fun r=>r.2=0/\LetS F r.1:=by
 have each:∀xs,Lists F xs->Ret ((List.foldlM AFU [] xs).bind K8) fun r=>r=(r.1,0)/\LetS F r.1:=fun xs hxs=>by
  have hp:xs.Perm xs0:=(AbN ((List.pairwise_map.1 hxs.1).imp fun h e=>h (by rw[e])) ((List.pairwise_map.1 h0.1).imp fun h e=>h (by rw[e]))).2 fun y=>(hxs.2 y.1 y.2).trans (h0.2 y.1 y.2).symm;have hlen:=hp.length_eq;have fold:∀(l:List ((Int×Int)×Int)) (pre:List Letter),pre.length+l.length<=1000000->List.foldlM AFU pre l=some (pre++l.map mkL):=by
   intro l;induction l with
   |nil=>intro pre _;simp
   |cons y l ih=>
    intro pre h
    rw[AbL]at h
    rw[AbM]
    have:AFU pre y=some (pre++[mkL y]):=ABv (by simp;omega) (by simp;omega)
    rw[this]
    show List.foldlM AFU (pre++[mkL y]) l=_
    rw[ih _ (by simp;omega)]
    simp
  rw[fold xs [] (by simp;omega),Aam,bindS];unfold K8;have hnd:((xs.map mkL).map fun z=>(z.dispute,z.who)).Nodup:=by
   rw[Aau];exact hxs.1
  have ho:=AIu (x:=xs.map mkL) (cmp:=fun a b=>K2 a b [49,50]) (k1:=(·.dispute)) (k2:=(·.who)) (fun a b=>AGy (D:=fd118.D) (fun _=>rfl) (fun _=>rfl)) (ANm hnd) (by rw[Aa1];omega);refine Ret.bind (Ret.bind (ho.mono fun m hm=>Ret.ok (Ret.ok ⟨rfl,fun z=>?_,(hm.1.map _).nodup_iff.2 hnd,hm.2⟩)));rw[hm.1.mem_iff,Abr,<-hxs.2];constructor
  . rintro⟨y,hy,rfl⟩;exact hy
  . intro h;exact⟨_,h,rfl⟩
 obtain⟨r,h1,h2,h3⟩:=each _ h0;refine⟨r,AI7 h0 fun xs hxs=>?_,by rw[h2],h3⟩;obtain⟨r',h4,h5,h6⟩:=each xs hxs;rw[h4,h5,h2,AMc h6 h3]
def LtS(d:Desk)(asked:List Asked)(day:Int)(r:List Letter×Int):Prop:=∃z,AGQ d day z/\((z.2=9/\r=([],9))\/(z.2=0/\r.2=0/\LetS (ARz d z.1 asked day) r.1))
theorem AMd(hv:Vd d){z:List Report×Int}(hz:AGQ d day z)(h0:z.2=0):VL z.1:=by
 rcases hz with⟨_,rfl⟩|⟨h1,m,h2,h3,rfl⟩
 . cases h0
 have mm:∀r∈m,∃x∈d.disputes,r=ADg d x (dec d x)/\3<=(dec d x).is_:=fun r hr=>by
  have hr:=h2.mem_iff.1 hr;unfold AAD at hr;obtain⟨y,hy,rfl⟩:=mem_map.1 hr;obtain⟨y1,y2,y3⟩:=decd_mem.1 hy;refine⟨y.1,y1,by rw[y3],?_⟩;unfold wh at y2;split at y2
  . exact y2
  . split at y2<;>omega
 refine⟨?_,fun r hr=>?_,fun a ha b hb e=>?_⟩
 . dsimp only;rw[Aaf,h2.length_eq];exact h1
 . rcases mem_append.1 hr with hr|hr
   . exact hv.r.v r hr
   . obtain⟨x,hx,rfl,h4⟩:=mm r hr;obtain⟨x1,x2,f,hf,x3,x4⟩:=hv.x.v x hx;have hfm:=ABX hf;obtain⟨u1,u2,u3,u4,u5,u6,u7,u8,_⟩:=hv.r.v f hfm.1;have hdi:=AGO hv hx;have hb:=ASo hv x;have hne:f.id≠x.id:=x2 f hfm.1;unfold ADg;rw[hf];dsimp only[Option.getD_some];split
     . exact⟨(show(1:Int)<=8/\(8:Int)<=9 from by decide),x1,u3,u4,u2,hdi,hb.2.2.2.2.1,hb.2.2.2.2.2,(fun h=>absurd (show(8:Int)<=7 from h) (by decide)),(fun _=>hne),(fun h=>absurd (show(8:Int)=9 from h) (by decide))⟩
     . exact⟨(show(1:Int)<=9/\(9:Int)<=9 from by decide),x1,u3,u4,u2,hdi,(show(0:Int)<=0/\(0:Int)<=100000 from by decide),(show(0:Int)<=0/\(0:Int)<=0 from by decide),(fun h=>absurd (show(9:Int)<=7 from h) (by decide)),(fun _=>hne),(fun _=>rfl)⟩
 . rcases mem_append.1 ha with ha|ha<;>rcases mem_append.1 hb with hb|hb
   . exact hv.r.cons a ha b hb e
   . obtain⟨x,hx,rfl,_⟩:=mm b hb;rw[AMX]at e;exact absurd e ((hv.x.v x hx).2.1 a ha)
   . obtain⟨x,hx,rfl,_⟩:=mm a ha;rw[AMX]at e;exact absurd e.symm ((hv.x.v x hx).2.1 b hb)
   . exact Z5 (AG0 hv) a b (h2.mem_iff.1 ha) (h2.mem_iff.1 hb) e
theorem AQc(hv:Vd d){asked:List Asked}(ha:AskV asked)(hd:0<=day/\day<=100000):Ret (I1 d asked day) (LtS d asked day):=by
 obtain⟨D,h1,hD⟩:=ADe hv hd;have hal:=ha.len;unfold I1;refine Ret.bind ?_;unfold ACb;rw[h1,bindS];refine Ret.condF (by decide) (Ret.bind (C9 asked.length (fun n (t:Int×Int)=>t.2=n/\-1<=t.1/\t.1<=999999/\∀(h:n<asked.length),t.1<asked[n].id) ⟨rfl,by decide,by decide,fun h=>?_⟩ ?_ ?_))
 . have:=(ha.v _ (Aak h)).1;dsimp only;omega
 . rintro n hlt ⟨p,_⟩ ⟨rfl,hp0,hp1,hp⟩;dsimp only at hp hp0 hp1;have hpl:=hp hlt;obtain⟨v1,v2,v3,v4⟩:=ha.v _ (Aak hlt);refine Ret.condT (ltT hlt) (Ret.bind (O2 hlt (Ret.bind (Ret.bind (Ret.chk (by omega) ?_)))));rw[d_in1,AAi (by omega),bindS];refine Ret.condF rfl ?_;rw[d_in2,AAi v2,AAi v3,bindS];refine Ret.condF rfl ?_;rw[d_in1,AAi v4,bindS];refine Ret.ok (Ret.condF rfl (Ret.bind (Ret.chk (by omega) (Ret.next ⟨by dsimp only;omega,by dsimp only;omega,by dsimp only;omega,fun h=>ha.up n h⟩))))
 . rintro⟨p,_⟩ ⟨rfl,_⟩;refine Ret.condF (ltF (Aae _)) (Ret.done (Ret.elimL (Ret.condF (AaY (by omega)) (E7 (AMZ hD hv (day:=day)) fun z hz=>?_))));obtain⟨l,e⟩:=z;rcases id hz with⟨g1,g2⟩|⟨g1,m,g2,g3,g4⟩
   . obtain⟨rfl,rfl⟩:=Prod.mk.inj g2;exact Ret.condT rfl (Ret.ok (Ret.elimR (Ret.ok ⟨_,hz,.inl ⟨rfl,rfl⟩⟩)))
   . obtain⟨rfl,rfl⟩:=Prod.mk.inj g4;have hVL:=AMd hv hz rfl;refine Ret.condF rfl (Ret.ok (Ret.elimL ?_));dsimp only;rw[AKK hD hv,bindS];refine Ret.bind (Ret.over (fun pre (f:A4 (Int×Int) Int)=>f=pre.foldl (APB d (d.reports++m) asked) fnone) rfl (fun pre y s hpl hp hy hs=>?_) fun s hs=>?_)
     . rw[AV0 hD hv hVL ha hy];refine Ret.ok ?_;rw[AcT,<-hs];rfl
     . obtain⟨xs,hx1,hx2⟩:=AQZ (d:=d) (l:=d.reports++m) (asked:=asked) (ACc d day) fnone [] ⟨Abw,fun a y=>by simp[fnone]⟩;have hdl:=AH1 (d:=d) (day:=day);have hlx:=hv.x.len;have:(ACc d day).length*asked.length<=20*40:=Nat.mul_le_mul (by omega) hal;rw[hs];exact(AQb hx1 (by simp only[List.length_nil]at hx2;omega)).mono fun r hr=>⟨_,hz,.inr ⟨rfl,hr.1,hr.2⟩⟩
end
end S
end Go.Proofs.YtgioiejbphljoaaGreatDoor
namespace Go.Proofs.YtgioiejbphljoaaGreatDoor
open Go Go.Sx Go.Rx Go.RowKit
def D0:Desk:=Desk.mk (Terms.mk 30 100 60) ([(Report.mk 1 70 5 12 10 3 500 0),(Report.mk 2 70 5 22 20 5 40 0),(Report.mk 3 70 5 26 25 6 500 0)]) ([(Dispute.mk 51 1 40),(Dispute.mk 52 2 41),(Dispute.mk 53 3 42)]) ([(Answer.mk 1 51 50 2 10 450),(Answer.mk 2 52 72 3 0 0),(Answer.mk 3 53 60 1 0 0),(Answer.mk 4 53 61 3 0 0)])
def A0:List Asked:=[(Asked.mk 5 900 5 15),(Asked.mk 6 900 5 45),(Asked.mk 7 901 5 55),(Asked.mk 8 902 6 45)]
def l33:List Report:=D0.reports++[Report.mk 51 70 5 50 10 8 450 1,Report.mk 52 70 5 72 0 9 0 2]
def AMe:Prop:=∃l x due,K4 D0 72=some (l,0)/\I1 D0 A0 72=some (x,0)/\Z4 D0 45=some (due,0)/\AAk 51 49 1 50=some true/\AAk 52 72 5 72=some true/\AAk 53 90 2 60=some true/\Q4 3 160 2=some true/\Q4 3 161 0=some true/\Q4 3 50 1=some true /\
 J0 l l33=some true/\R9 x [Letter.mk 51 900 5,Letter.mk 52 900 6,Letter.mk 52 901 7]=some true/\R6 due [51,52,53]=some true
open Classical in
def T5:Option Bool:=if AMe then some true else none
def ctr21:Ctr:=⟨[],[.d .bool],fun _=>T5⟩
end Go.Proofs.YtgioiejbphljoaaGreatDoor
namespace Go.Proofs.YtgioiejbphljoaaGreatDoor
open Go Go.Sx Go.Rx
namespace S
theorem D0_VL:VL D0.reports:=by
 refine⟨by decide,fun r hr=>?_,fun a ha b hb e=>?_⟩
 . have h:∀r∈D0.reports,V r:=by unfold V;decide +kernel
   exact h r hr
 . have h:∀a∈D0.reports,∀b∈D0.reports,a.id=b.id->a=b:=by decide +kernel
   exact h a ha b hb e
theorem AD9:Vd D0:=by
 refine⟨?_,D0_VL,⟨by decide,fun x hx=>?_,by decide +kernel⟩,⟨by decide,fun a ha=>?_,by decide +kernel⟩⟩
 . unfold TV;decide +kernel
 . have h:∀x∈D0.disputes,((0<=x.id/\x.id<=999999)/\(∀r∈D0.reports,r.id≠x.id))/\(match fct D0.reports x.report with
    |none=>false
    |some f=>decide (f.made<=x.day/\x.day<=100000-D0.terms.answer-1))=true:=by decide +kernel
   obtain⟨h1,h2⟩:=h x hx;cases hf:fct D0.reports x.report with
   |none=>rw[hf]at h2;cases h2
   |some f=>rw[hf]at h2;exact⟨h1.1,h1.2,f,hf,AaW h2⟩
 . have h:∀a∈D0.answers,(0<=a.id/\a.id<=999999)/\(0<=a.day/\a.day<=100000)/\(1<=a.says/\a.says<=3)/\∃x∈D0.disputes,x.id=a.dispute/\(a.says≠2->a.about=0/\a.cents=0)/\(a.says=2->(match fct D0.reports x.report with
    |none=>true
    |some f=>decide ((0<=a.about/\a.about<=100000)/\0<=a.cents/\a.cents<=most f.kind))=true):=by decide +kernel
   obtain⟨h1,h2,h3,x,h4,h5,h6,h7⟩:=h a ha;refine⟨h1,h2,h3,x,h4,h5,h6,fun e f hf=>?_⟩;have:=h7 e;rw[hf]at this;exact AaW this
theorem APD{i day w n:Int}{x:Dispute}(hx:x∈D0.disputes)(hi:x.id=i)(hd:0<=day/\day<=100000)(h1:wh D0 x day=w)(h2:(dec D0 x).day=n):AAk i day w n=some true:=by
 unfold AAk;rw[show AAY=some D0 from rfl,bindS,<-hi,ATz AD9 hx hd,bindS];dsimp only;rw[Aab (show(0:Int)=0 from rfl),Aab h1,Aab h2];rfl
theorem AJg{i day m:Int}(hd:0<=day/\day<=100000)(h1:(fct D0.reports i).isSome=true)(h2:AIt D0 i day=m):Q4 i day m=some true:=by
 unfold Q4;rw[show AAY=some D0 from rfl,bindS,AVh AD9 hd,Aac h1,bindS];dsimp only;rw[Aab (show(0:Int)=0 from rfl),Aab h2];rfl
theorem ADh{a:List Report}(hl:a.length<=1000000):J0 a a=some true:=by
 refine Ret.eq ?_;unfold J0;refine Ret.condF (by simp) (Ret.bind (C9 a.length (fun n (t:Int)=>t=n) rfl ?_ ?_))
 . rintro n hlt _ rfl;exact Ret.condT (ltT hlt) (Ret.bind (O2 hlt (Ret.bind (O2 hlt (Ret.condF (by simp) (Ret.bind (Ret.chk (by omega) (Ret.next (by omega)))))))))
 . rintro _ rfl;exact Ret.condF (ltF (Aae _)) (Ret.done (Ret.elimL (Ret.ok rfl)))
theorem AMf{a:List Letter}(hl:a.length<=1000000):R9 a a=some true:=by
 refine Ret.eq ?_;unfold R9;refine Ret.condF (by simp) (Ret.bind (C9 a.length (fun n (t:Int)=>t=n) rfl ?_ ?_))
 . rintro n hlt _ rfl;exact Ret.condT (ltT hlt) (Ret.bind (O2 hlt (Ret.bind (O2 hlt (Ret.condF (by simp) (Ret.bind (Ret.chk (by omega) (Ret.next (by omega)))))))))
 . rintro _ rfl;exact Ret.condF (ltF (Aae _)) (Ret.done (Ret.elimL (Ret.ok rfl)))
theorem AKL{a:List Int}(hl:a.length<=1000000):R6 a a=some true:=by
 refine Ret.eq ?_;unfold R6;refine Ret.condF (by simp) (Ret.bind (C9 a.length (fun n (t:Int)=>t=n) rfl ?_ ?_))
 . rintro n hlt _ rfl;exact Ret.condT (ltT hlt) (Ret.bind (O2 hlt (Ret.bind (O2 hlt (Ret.condF (by simp) (Ret.bind (Ret.chk (by omega) (Ret.next (by omega)))))))))
 . rintro _ rfl;exact Ret.condF (ltF (Aae _)) (Ret.done (Ret.elimL (Ret.ok rfl)))
theorem AEt{α:Type}{k1 k2:α->Int}{a b:α}(h:decide (k1 a<k1 b\/k1 a=k1 b/\k2 a<=k2 b)=true):le2 k1 k2 a b:=AaW (p:=k1 a<k1 b\/k1 a=k1 b/\k2 a<=k2 b) h
theorem AV2:AGQ D0 72 (l33,0):=by
 refine .inr ⟨by decide +kernel,[Report.mk 51 70 5 50 10 8 450 1,Report.mk 52 70 5 72 0 9 0 2],?_,?_,rfl⟩
 . rw[show AAD D0 72=[Report.mk 51 70 5 50 10 8 450 1,Report.mk 52 70 5 72 0 9 0 2] from by kernel_rfl]
 . exact .cons (fun b hb=>by rw[mem_singleton.1 hb];exact AEt (by decide)) (AcA _ _)
theorem AYE:AskV A0:=by
 refine⟨by decide,?_,?_⟩
 . decide +kernel
 . intro n h;have h4:n+1<4:=h;have:n=0\/n=1\/n=2:=by omega
   rcases this with rfl|rfl|rfl
   . exact(by decide:(5:Int)<6)
   . exact(by decide:(6:Int)<7)
   . exact(by decide:(7:Int)<8)
def L0:List Letter:=[Letter.mk 51 900 5,Letter.mk 52 900 6,Letter.mk 52 901 7]
theorem AZn:ARz D0 l33 A0 72=B4 (B4 (B4 (B4 fnone (51,900) 6) (51,900) 5) (52,901) 7) (52,900) 6:=by kernel_rfl
theorem AZo:LetS (ARz D0 l33 A0 72) L0:=by
 rw[AZn];refine⟨fun z=>?_,by decide,?_⟩
 . obtain⟨a,b,c⟩:=z;unfold L0 B4 fnone;simp only[mem_cons,List.not_mem_nil,or_false,Letter.mk.injEq,Prod.mk.injEq];split
   . rename_i h;simp[h.1,h.2,eq_comm]
   . rename_i h1;split
     . rename_i h;simp[h.1,h.2,eq_comm]
     . rename_i h2;split
       . rename_i h;simp[h.1,h.2,eq_comm]
       . rename_i h3;simp;omega
 . unfold L0;refine .cons (fun b hb=>?_) (.cons (fun b hb=>?_) (AcA _ _))
   . simp only[mem_cons,List.not_mem_nil,or_false]at hb;rcases hb with rfl|rfl<;>exact AEt (by decide)
   . rw[mem_singleton.1 hb];exact AEt (by decide)
theorem AYF:AO0 D0 45 [51,52,53]:=by
 refine⟨D0.disputes,.refl _,?_,by decide +kernel⟩;show List.Pairwise _ [Dispute.mk 51 1 40,Dispute.mk 52 2 41,Dispute.mk 53 3 42];refine .cons (fun b hb=>?_) (.cons (fun b hb=>?_) (AcA _ _))
 . simp only[mem_cons,List.not_mem_nil,or_false]at hb;rcases hb with rfl|rfl<;>exact AEt (by decide)
 . rw[mem_singleton.1 hb];exact AEt (by decide)
theorem AR0{d:Desk}(hv:Vd d){day:Int}{a b:List Int}(ha:AO0 d day a)(hb:AO0 d day b):a=b:=by
 obtain⟨m,h1,h2,rfl⟩:=ha;obtain⟨m',h3,h4,rfl⟩:=hb;rw[AB3 (h1.trans h3.symm) h2 h4 fun x y hx hy _ e=>Z5 hv.x.nd x y (h1.mem_iff.1 hx) (h1.mem_iff.1 hy) e]
theorem AR1:AMe:=by
 have d1:Dispute.mk 51 1 40∈D0.disputes:=.head _;have d2:Dispute.mk 52 2 41∈D0.disputes:=.tail _ (.head _);have d3:Dispute.mk 53 3 42∈D0.disputes:=.tail _ (.tail _ (.head _));have a1:K4 D0 72=some (l33,0):=by
  obtain⟨r,h1,h2⟩:=AH2 AD9 (day:=72) (by decide);rw[h1,AMa AD9 h2 AV2]
 have a2:I1 D0 A0 72=some (L0,0):=by
  obtain⟨r,h1,z,h2,h3⟩:=AQc AD9 AYE (day:=72) (by decide);have hz:=AMa AD9 h2 AV2;subst hz;rcases h3 with⟨h4,_⟩|⟨_,h4,h5⟩
  . cases h4
  . obtain⟨x,e⟩:=r;have h4:e=0:=h4;subst h4;have hx:x=L0:=AMc h5 AZo;rw[h1,hx]
 have a3:Z4 D0 45=some ([51,52,53],0):=by
  obtain⟨r,h1,h2,h3⟩:=AX8 AD9 (day:=45) (by decide);obtain⟨x,e⟩:=r;have h2:e=0:=h2;subst h2;have hx:x=[51,52,53]:=AR0 AD9 h3 AYF;rw[h1,hx]
 refine⟨l33,L0,[51,52,53],a1,a2,a3,APD d1 rfl (by decide) (by kernel_rfl) (by kernel_rfl),APD d2 rfl (by decide) (by kernel_rfl) (by kernel_rfl),APD d3 rfl (by decide) (by kernel_rfl) (by kernel_rfl),AJg (by decide) (by kernel_rfl) (by kernel_rfl),AJg (by decide) (by kernel_rfl) (by kernel_rfl),AJg (by decide) (by kernel_rfl) (by kernel_rfl),ADh (by decide),AMf (by decide),AKL (by decide)⟩
theorem AT6:T5=some true:=Aac AR1
end S
end Go.Proofs.YtgioiejbphljoaaGreatDoor
namespace Go.Proofs.YtgioiejbphljoaaGreatDoor
open Go Go.Sx Go.Rx Go.RowKit
open Classical in
def X4(l:List Report)(account day known:Int):Option Book:=(Q1 l known).bind fun d=>(I6 d).bind fun fs=>
 if fs.length*64<=140737488355328/\∀r∈fs,InR r then some (Book.mk (fs.filter fun r=>decide (r.account=account)&&decide (r.about<=day))) else none
def AlK(M:List Nat)(b5 b6 b9:Nat)(x:ACa)(L:Sx.A8)(W:World):Prop:=∃b10 u,Sub [(5,.pointer (some ⟨b5,0,none⟩)),(6,.pointer (some ⟨b6,0,none⟩)),(9,.pointer (some ⟨b9,0,none⟩)),(10,.pointer (some ⟨b10,0,none⟩))] L/\Row 45 W b10 (Y8 x.1)/\Row 146 W b9 [u]/\b10∉ob u/\b10≠b9/\b10∉M
theorem AJh{M:List Nat}{w:World}(hM:MLt M w)(hG:GlOk (P:=prog) M w){l:(List Report)}{v_l_0:Value}(f_l_0:RdS ReportE M w v_l_0 l){account:Int}(f_account_0:InK .i64 account){day:Int}(f_day_0:InK .i64 day){known:Int}(f_known_0:InK .i64 known){r0:Book}(h:X4 l account day known=some r0):
  Calls prog 73 (toArray [v_l_0,Value.int .i64 account,Value.int .i64 day,Value.int .i64 known]) w fun e w'=>∃v0_0:Value,e=.returned (Value.agg (toArray [v0_0]))/\RdS ReportE M w' v0_0 r0.facts/\Ext w w':=by
 unfold X4 at h
 obtain⟨d,hd,h⟩:=C5 h
 obtain⟨fs,hfs,h⟩:=C5 h
 split at h
 . rename_i hc
   obtain rfl:=AaO h
   obtain⟨xs,hxs⟩:∃xs:List ACa,xs.map Subtype.val=fs:=⟨fs.attach.map fun r=>⟨r.1,hc.2 r.1 r.2⟩,by rw[Aau];exact Aa2 fs⟩
   have hxl:xs.length=fs.length:=by rw[<-hxs,Aa1]
   obtain⟨p,hp⟩:∃p:Report->Bool,p=fun r=>decide (r.account=account)&&decide (r.about<=day):=⟨_,rfl⟩
   rw[<-hp,<-hxs]
   rw[<-hxs]at hfs
   refine ABQ func73 rfl ntmps73 rfl ?_
   have hI:=Hp.start (Mu:=[]) hM
   refine A3 ?_
   refine A7 ?_
   refine R7 hI rfl rfl rfl ?_
   intro b5 w2 hI2 x2
   have hC5:=hI2.freezeRow 0 rfl
   have hI3:=hI2.erase 0
   refine R7 hI3 rfl rfl rfl ?_
   intro b6 w4 hI4 x4
   have hC6:=hI4.freezeRow 0 rfl
   have hI5:=hI4.erase 0
   refine P5 hI5 zeroValue146 rfl rfl ?_
   intro b8 w6 hI6 x6
   refine Reg.nil ?_
   have a06:Adv M (mm [rowR 146 b8 [.slice none 0 0]] M) w w6:=hI6.adv
   have hC5':RdC (mm [rowR 146 b8 [.slice none 0 0]] M) w6 b5 0 [.int .i64 account]:=hC5.adv (x4.trans ((E3 (σ:=[rowR 3 b6 [.int .i64 day]]) 0).trans x6))
   have hC6':RdC (mm [rowR 146 b8 [.slice none 0 0]] M) w6 b6 0 [.int .i64 day]:=hC6.adv x6
   have hJ:=Hp.start (Mu:=[]) hI6.mlt
   obtain⟨M6,hM6⟩:∃M6,M6=mm [rowR 146 b8 [.slice none 0 0]] M:=⟨_,rfl⟩
   have hJ:Hp w6 [] M6 [] w6:=by rw[hM6];exact hJ
   rw[<-hM6]at a06 hC5' hC6'
   have hb8M:b8∈M6:=by rw[hM6];simp[mm,rowR]
   refine A3 ?_
   refine A7 ?_
   refine P5 hJ zeroValue146 rfl rfl ?_
   intro b9 w7 hJ7 x7
   refine Reg.nil ?_
   have a07:=a06.trans hJ7.adv
   refine A3 ?_
   refine A3 ?_
   refine A7 ?_
   refine E5 rfl rfl ?_
   refine E5 rfl rfl ?_
   refine G6 rfl call68 rfl ?_
   refine(ok68.2 _ w7 (l,known,()) [v_l_0,.int .i64 known] d hJ7.mlt (hG.adv a07) ⟨v_l_0,_,rfl,⟨[v_l_0],⟨v_l_0,rfl,f_l_0.adv a07⟩,.inr ⟨rfl,rfl⟩⟩,_,[],rfl,⟨[_],⟨rfl,f_known_0⟩,.inr ⟨rfl,rfl⟩⟩,rfl⟩ hd).mono ?_
   rintro _ w8 ⟨_,rfl,⟨v2,rfl,h2⟩,e8⟩
   refine⟨_,rfl,?_⟩
   have h2:OkD (P:=prog) _ w8 (.st 14) d v2:=h2
   have hJ8:=hJ7.ext e8
   refine G6 rfl call69 rfl ?_
   refine(ABm hJ8.mlt h2).mono ?_
   rintro _ w9 ⟨vi,rfl,hf,e9⟩
   refine⟨_,rfl,?_⟩
   have hJ9:=hJ8.ext e9
   refine Reg.nil ?_
   have hJ10:Hp w6 [] M6 (D9 ReportE 45 146 b9 (.slice none 0 0) []) w9:=hJ9.addNil ReportE 45
   have hb9:b9<w9.heap.size:=hJ10.mlt b9 (by simp[mm,rowR])
   have hgn:gOf w9 b9=none:=by rw[hJ10.gof];rfl
   obtain⟨lb,hv,hseq⟩:=AHD 2 hJ9.mlt ((hG.adv a07).adv ((Adv.of_ext e8).trans (Adv.of_ext e9))) hf hfs hb9 (fun g hg=>by rw[hgn]at hg;cases hg)
   subst hv
   refine AC7 (L:=[(14,_),(5,.pointer (some ⟨b5,0,none⟩)),(6,.pointer (some ⟨b6,0,none⟩)),(8,.pointer (some ⟨b8,0,none⟩)),(9,.pointer (some ⟨b9,0,none⟩))]) (Sub.cons rfl (Sub.cons rfl (Sub.cons rfl (Sub.cons rfl (Sub.cons rfl (Sub.nil _)))))) ?_
   refine C4 ?_
   refine AJo (val:=fun r:ACa=>.agg (Y8 r.1).toArray) (K:=KB b9) (xs:=xs) rfl call105 rfl hseq (fun h k=>h.trans k) (fun W lp o o' hlp ho hc _=>KB.putObj ho hc (by omega))
    (fun pre W=>∃v',Hp w6 [] M6 (D9 ReportE 45 146 b9 v' ((pre.map Subtype.val).filter p)) W/\w9.heap.size<=W.heap.size/\pre.length<=xs.length) (fun _ _=>False) ?_ (fun _ _ _ _ h _ _=>h.elim) ⟨_,hJ10,Aae _,Aas _⟩ (AlK M6 b5 b6 b9) ?_ ?_ ?_ ?_ (fun _ _ _ _ _ h _=>h.elim)
   . rintro pre W W' row ⟨v',h1,h2,h3⟩ hg hr
     exact⟨v',h1.turnG AIp (fun h=>h) hg (fun r e=>⟨Aad hJ10.kp.size (hr r e).1,(hr r e).2⟩),Aad h2 hg.size,h3⟩
   . rintro x L' _ W W' row ⟨b10,u,h1,h2,h3,h4,h5,h6⟩ hg hr
     have hcl:∀(b:Nat) (o:Obj),W.heap[b]?=some o->o.isCells=true->W'.heap[b]?=W.heap[b]?:=fun b o hb hc=>hg.block b (G0 hb) fun e=>by
      obtain⟨_,o',g1,g2⟩:=hr b e.symm;rw[hb]at g1;cases g1;rw[hc]at g2;cases g2
     exact⟨b10,u,h1,(hcl b10 _ h2 rfl).trans h2,(hcl b9 _ h3 rfl).trans h3,h4,h5,h6⟩
   . rintro l' pre x W ⟨v',h1,h2,h3⟩
     refine Z1 rfl ?_
     refine P5 h1 zeroValue45 rfl rfl ?_
     intro b10 w5 hI5 x5
     refine N2 0 hI5 rfl rfl rfl rfl sizeOf45 rfl rfl (one1 rfl (one1 rfl (one1 rfl (one1 rfl (one1 rfl (one1 rfl (one1 rfl (one1 rfl one0)))))))) ?_
     intro w6' hI6 x6
     have hI6':Hp w6 [] M6 (rowR 45 b10 (Y8 x.1)::D9 ReportE 45 146 b9 v' ((pre.map Subtype.val).filter p)) w6':=hI6
     have hI7:Hp w6 [] M6 (D9 ReportE 45 146 b9 v' ((pre.map Subtype.val).filter p)) w6':=hI6'.erase 0
     have hA:Adv (mm (D9 ReportE 45 146 b9 v' ((pre.map Subtype.val).filter p)) M6) (mm (D9 ReportE 45 146 b9 v' ((pre.map Subtype.val).filter p)) M6) W w6':=x5.trans (x6.trans (E3 (σ:=rowR 45 b10 (Y8 x.1)::D9 ReportE 45 146 b9 v' ((pre.map Subtype.val).filter p)) 0))
     obtain⟨hk1,hk2⟩:=h1.kb hI7 hA
     refine Reg.nil ⟨rfl,⟨hk2.size,fun k o hB=>hk2.same k o (Aad hJ10.kp.size hB)⟩,hk1,⟨v',hI7,Aad h2 hA.kp.size,h3⟩,b10,v',Sub.cons rfl (Sub.cons rfl (Sub.cons rfl (Sub.cons rfl (Sub.nil _)))),hI6'.row 0 rfl,hI6'.row 2 rfl,?_,?_,?_⟩
     . intro hb
       exact hI6'.dis 0 1 _ _ rfl rfl (by omega) b10 (by simp[rowR]) hb
     . intro hb
       exact hI6'.dis 0 2 _ _ rfl rfl (by omega) b10 (by simp[rowR]) (by simp[rowR,hb])
     . exact hI6'.sepM _ (AaT ..) b10 (by simp[rowR])
   . rintro l' pre x L' W ⟨v',h1,h2,h3⟩ ⟨b10,u,hs,hr10,hru,h10u,h109,h10M⟩ hlt
     have huv:u=v':=by
      have e1:W.heap[b9]?=_:=hru;have e2:W.heap[b9]?=_:=h1.row 1 rfl;rw[e1]at e2;have:=AaO e2;injection this with h9;simpa using h9
     subst huv
     refine APX hs ?_
     refine ADG ?_
     have hC10:RdC (mm (D9 ReportE 45 146 b9 u ((pre.map Subtype.val).filter p)) M6) W b10 0 (Y8 x.1):=G5 (fun hb=>by
      simp only[mm,ownR,rowR,mem_append,mem_cons,List.not_mem_nil,or_false]at hb;rcases hb with h9|h9|h9
      . exact h10u h9
      . exact h109 h9
      . exact h10M h9) hr10
     have hC5W:=hC5'.adv h1.adv
     have hC6W:=hC6'.adv h1.adv
     obtain⟨q0,q1,q2,q3,q4,q5,q6,q7⟩:=x.2
     have hpx:p x.1=(decide (x.1.account=account)&&decide (x.1.about<=day)):=by rw[hp]
     have hlen:((pre.map Subtype.val).filter p).length<=pre.length:=by
      have:=AbD p (pre.map Subtype.val);rwa [Aa1]at this
     have keep:p x.1=false->KeepsFrom w9.heap.size W W/\KB b9 W W/\∃v',Hp w6 [] M6 (D9 ReportE 45 146 b9 v' (((pre++[x]).map Subtype.val).filter p)) W/\w9.heap.size<=W.heap.size/\(pre++[x]).length<=xs.length:=fun hf=>by
      refine⟨⟨Aae _,fun _ _ _ h _=>h⟩,KB.refl _ _,u,?_,h2,by simp;omega⟩;have h9:((pre++[x]).map Subtype.val).filter p=(pre.map Subtype.val).filter p:=by simp[hf]
      rw[h9];exact h1
     refine AFx ?_
     refine Z1 rfl ?_
     refine M3 rfl underlying45 rfl sizeOf3 rfl ?_
     refine J8 rfl (hC10.cells.at 2 rfl) isAgg3 rfl ?_
     refine J8 rfl (hC5W.cells.at 0 rfl) isAgg3 rfl ?_
     refine ANz rfl rfl rfl ?_
     refine E5 rfl rfl ?_
     refine AH4 (t:=20) rfl (fun hg=>?_) (fun hg=>?_)
     . refine Reg.take rfl rfl ?_
       refine M3 rfl underlying45 rfl sizeOf3 rfl ?_
       refine Reg.take rfl rfl ?_
       refine J8 rfl (hC10.cells.at 4 rfl) isAgg3 rfl ?_
       refine Reg.take rfl rfl ?_
       refine J8 rfl (hC6W.cells.at 0 rfl) isAgg3 rfl ?_
       refine Reg.take rfl rfl ?_
       refine ANx rfl rfl rfl ?_
       refine ANv rfl rfl rfl ?_
       refine Reg.nil ?_
       refine AJB rfl (fun hg2=>?_) (fun hg2=>?_)
       . refine Z1 rfl ?_
         refine M3 rfl underlying146 rfl sizeOf24 rfl ?_
         refine J8 rfl ((h1.row 1 rfl).rd.cells.at 0 rfl) isAgg24 rfl ?_
         refine Y0 rfl hC10.cells isAgg45 rfl sizeOf45 rfl ?_
         refine AEC (E:=ReportE) (xs:=[x.1]) AJX h1 rfl rfl (Cls.cons rfl Cls.nil) (Chs.cons (ReportE_R.2 ⟨rfl,q0,q1,q2,q3,q4,q5,q6,q7⟩) Chs.nil) rfl rfl ?_
         intro v8 w8' hI8 x8
         have hf9:=hI8.freeze 0 rfl
         have hI9:=hI8.erase 0
         refine ADn 0 AJX hI9 rfl rfl rfl hf9 ⟨?_,?_⟩ rfl ?_
         . have:[x.1].length=1:=rfl
           omega
         . have:[x.1].length=1:=rfl
           omega
         intro v10 w10 hI10 x10
         refine M3 rfl underlying146 rfl sizeOf24 rfl ?_
         refine N2 1 hI10 rfl rfl rfl (Own.cells1 (hI10.ownAt 0 rfl)) sizeOf24 rfl rfl (one1 (Own.oneC (hI10.ownAt 0 rfl)) one0) ?_
         intro w11 hI11 x11
         have h9:((pre++[x]).map Subtype.val).filter p=(pre.map Subtype.val).filter p++[x.1]:=by
          have:p x.1=true:=by rw[hpx,hg,hg2];rfl
          simp[this]
         have hI12:Hp w6 [] M6 (D9 ReportE 45 146 b9 v10 (((pre++[x]).map Subtype.val).filter p)) w11:=by rw[h9];exact hI11
         have hA:Adv (mm (D9 ReportE 45 146 b9 u ((pre.map Subtype.val).filter p)) M6) (mm (D9 ReportE 45 146 b9 v10 (((pre++[x]).map Subtype.val).filter p)) M6) W w11:=by
          rw[h9];exact x8.trans ((E3 (σ:=ownR [] ReportE 45 v8 [x.1]::D9 ReportE 45 146 b9 u ((pre.map Subtype.val).filter p)) 0).trans (x10.trans x11))
         obtain⟨hk1,hk2⟩:=h1.kb hI12 hA
         exact Reg.nil ⟨⟨hk2.size,fun k o hB=>hk2.same k o (Aad hJ10.kp.size hB)⟩,hk1,v10,hI12,Aad h2 hA.kp.size,by simp;omega⟩
       . refine AJA ?_
         exact keep (by rw[hpx,hg2];simp)
     . refine Reg.pass rfl rfl rfl rfl ?_
       refine Reg.pass rfl rfl rfl rfl ?_
       refine Reg.pass rfl rfl rfl rfl ?_
       refine Reg.pass rfl rfl rfl rfl ?_
       refine ANw rfl rfl rfl ?_
       refine Reg.nil ?_
       refine AJB (b:=false) rfl (fun hg2=>by cases hg2) (fun _=>?_)
       refine AJA ?_
       exact keep (by rw[hpx,hg];simp)
   . rintro D W hD ⟨v',h1,h2,h3⟩ hdef
     refine A3 ?_
     refine A7 ?_
     have hk6W:Ext w6 W:=h1.kp
     have hr8:Row 146 w6 b8 [.slice none 0 0]:=hI6.row 0 rfl
     have hr8W:Row 146 W b8 [.slice none 0 0]:=(hk6W.block b8 hr8.rd.lt (by simp)).trans hr8
     have hb8:w.heap.size<=b8:=by
      have:=(hI6.own _ (AaT ..)).2 b8 (by simp[rowR]);rcases this with h9|h9
      . cases h9
      . exact h9
     refine Y0 rfl (h1.row 1 rfl).rd.cells isAgg146 rfl sizeOf146 rfl ?_
     refine AN4 rfl rfl rfl hr8W sizeOf146 rfl rfl (one1 (Own.oneC (h1.ownAt 0 rfl)) one0) (fun w11 hr11 hk11=>?_)
     refine Reg.nil ?_
     refine C0 ?_
     have hr11:Row 146 w11 b8 [v']:=hr11
     have hDW:D<W.heap.size:=G0 hdef
     have hDb8:D≠b8:=fun e=>by
      rw[e]at hdef;have:W.heap[b8]?=_:=hr8W;rw[this]at hdef;cases hdef
     have hdef11:w11.heap[D]?=some (.deferred (some [])):=(hk11.block D hDW (by simpa using hDb8)).trans hdef
     have hne:∀b,b≠D->(w11.putObj D (.deferred none)).heap[b]?=w11.heap[b]?:=fun b hb=>World.putObj_heap_other hb
     have hob:∀b∈ob v',(w11.putObj D (.deferred none)).heap[b]?=W.heap[b]?:=fun b hb=>by
      obtain⟨o,ho,hoc⟩:=(h1.ownAt 0 rfl).isC b hb;have hbD:b≠D:=fun e=>by
       rw[e,hdef]at ho;cases ho;cases hoc
      have hb8':b≠b8:=fun e=>by
       have:=h1.sepM _ (AaT ..) b hb;rw[e]at this;exact this hb8M
      rw[hne b hbD];exact hk11.block b (G0 ho) (by simpa using hb8')
     have hsz:w11.heap.size<=(w11.putObj D (.deferred none)).heap.size:=by simp
     have hx1:Ext w w11:=(hI6.kp.trans hk6W).tail hk11 fun x hx=>by
      have:x=b8:=by simpa using hx
      omega
     have hx2:Ext w (w11.putObj D (.deferred none)):=by
      have hg:=grownBy_putObj' w11 D (.deferred none);have hk:Kp [D] w11 (w11.putObj D (.deferred none)):=AKN hg (fun t=>t.elim) (fun k e=>by cases e;simp);refine hx1.tail hk fun x hx=>?_;have:x=D:=by simpa using hx
      subst this;exact Aad (Aad hI6.kp.size hJ10.kp.size) hD
     refine .inr ⟨D,_,rfl,run_takeDeferred hdef11,.agg #[v'],fun a ha=>?_,v',rfl,?_,hx2⟩
     . have hrow:Row 146 (w11.putObj D (.deferred none)) b8 [v']:=(hne b8 (AcE hDb8)).trans hr11
       have key:∀(L:Sx.A8),Sx.A6 L 8=some (.pointer (some ⟨b8,0,none⟩))->∀a:Act,Knows f73.ntmps [] L a->(results f73 a.tmps).run prog (w11.putObj D (.deferred none))=.ok (.agg #[v']) (w11.putObj D (.deferred none)):=fun L hL a ha=>by
        obtain⟨_,v,hrun,hR⟩:ABs prog f73 (fun e _=>e=.returned (.agg #[v'])) [] L (w11.putObj D (.deferred none)):=H2 results73 (AllRs.cons (RsOk.agg hL hrow.rd.cells isAgg146 rfl sizeOf146) AllRs.nil) rfl rfl;have:=hrun _ ha;injection hR with hR;rw[hR]at this;exact this
       refine key _ ?_ { a with defers:=[] } ⟨ha.size,rfl,ha.val⟩
       rfl
     . have ho:Sx.Own ReportE 45 0 (ob v'++M) (w11.putObj D (.deferred none)) v' ((xs.map Subtype.val).filter p):=(h1.ownAt 0 rfl).flat AIp hob
       have hlast:=(Own.flat (M':=M) AIp (h1.ownAt 0 rfl) hob).rd (fun b hb hbM=>by
        have h9:=(h1.own _ (AaT ..)).2 b hb;rcases h9 with h9|h9
        . cases h9
        . have:=hM b hbM;have:=hI6.kp.size;omega)
       exact hlast
 . cases h
end Go.Proofs.YtgioiejbphljoaaGreatDoor
namespace Go.Proofs.YtgioiejbphljoaaGreatDoor
open Go Go.Sx Go.Rx Go.RowKit
section
variable{M:List Nat}{w:World}
section
variable{v:Value}{k:IntKind}{x:Int}
theorem okS{α:Ty}{l:List (den α)}(h:RdS (enc (P:=prog) α) M w v l):OkD (P:=prog) M w (.sl α) l v:=⟨[v],⟨v,rfl,h⟩,.inr ⟨rfl,rfl⟩⟩
theorem okN(h:InK k x):OkD (P:=prog) M w (.int k) x (.int k x):=⟨[_],⟨rfl,h⟩,.inr ⟨rfl,rfl⟩⟩
theorem AR2{b:Book}(h:RdS ReportE M w v b.facts):OkD (P:=prog) M w (.st 15) b (.agg (toArray [v])):=⟨[v],⟨v,rfl,h⟩,.inl ⟨rfl,rfl⟩⟩
theorem AKj(h:OkD (P:=prog) M w (.int k) x v):v=.int k x/\InK k x:=by
 obtain⟨cs,⟨h0,hk⟩,h3⟩:=h;have h0:cs=[.int k x]:=h0;subst h0;exact h3.elim (fun h=>by cases h.1) fun h=>⟨by have:=h.2;simp at this;exact this.symm,hk⟩
theorem AYG{x:Bool}(h:OkD (P:=prog) M w .bool x v):v=.bool x:=by
 obtain⟨cs,h0,h3⟩:=h;have h0:cs=[.bool x]:=h0;subst h0;exact h3.elim (fun h=>by cases h.1) fun h=>by have:=h.2;simp at this;exact this.symm
theorem ASq{t:Told}(h:OkD (P:=prog) M w (.st 7) t v):∃u,v=.agg (toArray [.int .u8 t.known,.int .i64 t.cents,.int .i64 t.since,u])/\InK .u8 t.known/\InK .i64 t.cents/\InK .i64 t.since/\RdS (A9 .i64) M w u t.by_:=by
 obtain⟨cs,h0,h3⟩:=h;have h3:v=.agg (toArray cs):=h3.elim (fun h=>h.2) fun h=>by cases h.1
 have h0:ToldE.R M w cs t:=h0;simp only[ToldE,mapE_R,prodE_R,intE_R,sliceE_R]at h0;obtain⟨_,_,rfl,⟨rfl,k1⟩,_,_,rfl,⟨rfl,k2⟩,_,_,rfl,⟨rfl,k3⟩,u,rfl,k4⟩:=h0;exact⟨u,h3,k1,k2,k3,k4⟩
theorem AV3{w':World}{Mo:List Nat}{l:List Report}(h:CkOk (P:=prog) M Mo w w' (.own (.sl 45 (.st 1))) l v):Sx.Own ReportE 45 0 M w' v l/\∀b∈ob v,w.heap.size<=b:=by
 obtain⟨_,h1,h2⟩:=h;have h1:Sx.Own ReportE 45 0 (ob v++M) w' v l:=h1;exact⟨h1.mon fun b hb=>.inr (mem_append.2 (.inr hb)),h2⟩
end
end
section
variable{M:List Nat}{w:World}{v:Value}{b:Book}{kind:Int}{r0:Told}
theorem AIx(hM:MLt M w)(hG:GlOk (P:=prog) M w){l:List Report}(f:RdS ReportE M w v l){r0:Int}(h:I5 l=some r0):
  Calls prog 65 (toArray [v]) w fun e w'=>e=.returned (.int .i64 r0)/\InK .i64 r0/\Ext w w':=by
 refine(ok65.2 M w (l,()) [v] r0 hM hG ⟨v,_,rfl,okS (α:=.st 1) f,rfl⟩ h).mono ?_
 rintro _ w' ⟨_,rfl,⟨v,rfl,h1⟩,h2⟩
 obtain⟨rfl,hk⟩:=AKj h1
 exact⟨rfl,hk,h2⟩
theorem AGR(hM:MLt M w)(hG:GlOk (P:=prog) M w){lo hi:Int}(h1:InK .i64 lo)(h2:InK .i64 hi){l:List Int}(f:RdS (A9 .i64) M w v l){r0:Bool}(h:F9 lo hi l=some r0):
  Calls prog 66 (toArray [.int .i64 lo,.int .i64 hi,v]) w fun e w'=>e=.returned (.bool r0)/\Ext w w':=by
 refine(ok66.2 M w (lo,hi,l,()) _ r0 hM hG ⟨_,_,rfl,okN h1,_,_,rfl,okN h2,_,_,rfl,okS (α:=.int .i64) f,rfl⟩ h).mono ?_
 rintro _ w' ⟨_,rfl,⟨v,rfl,h1⟩,h2⟩
 obtain rfl:=AYG h1
 exact⟨rfl,h2⟩
theorem ACj(hM:MLt M w)(hG:GlOk (P:=prog) M w)(f:RdS ReportE M w v b.facts)(hk:InK .u8 kind){r0:List Report}(h:I0 b kind=some r0):
  Calls prog 117 (toArray [.agg (toArray [v]),.int .u8 kind]) w fun e w'=>∃u,e=.returned u/\(Sx.Own ReportE 45 0 M w' u r0/\∀b∈ob u,w.heap.size<=b)/\Ext w w':=by
 refine(ok117.2 M w (b,kind,()) _ r0 hM hG ⟨_,_,rfl,AR2 f,_,_,rfl,okN hk,rfl⟩ h).mono ?_
 rintro _ w' ⟨_,rfl,⟨v,rfl,h1⟩,h2⟩
 exact⟨v,rfl,AV3 h1,h2⟩
theorem AJi(hM:MLt M w)(hG:GlOk (P:=prog) M w){l:List Report}(f:RdS ReportE M w v l){only:Bool}(h:Q2 l only=some r0):
  Calls prog 132 (toArray [v,.bool only]) w fun e w'=>∃u,e=.returned (.agg (toArray [.int .u8 r0.known,.int .i64 r0.cents,.int .i64 r0.since,u]))/\InK .u8 r0.known/\InK .i64 r0.cents/\InK .i64 r0.since/\RdS (A9 .i64) M w' u r0.by_/\Ext w w':=by
 refine(ok132.2 M w (l,only,()) _ r0 hM hG ⟨_,_,rfl,okS (α:=.st 1) f,_,_,rfl,⟨[_],rfl,.inr ⟨rfl,rfl⟩⟩,rfl⟩ h).mono ?_
 rintro _ w' ⟨_,rfl,⟨v,rfl,h1⟩,h2⟩
 obtain⟨u,rfl,k1,k2,k3,k4⟩:=ASq h1
 exact⟨u,rfl,k1,k2,k3,k4,h2⟩
theorem AAE(hM:MLt M w)(hG:GlOk (P:=prog) M w)(f:RdS ReportE M w v b.facts)(hk:InK .u8 kind)(h:G3 b kind=some r0):
  Calls prog 110 (toArray [.agg (toArray [v]),.int .u8 kind]) w fun e w'=>∃u,e=.returned (.agg (toArray [.int .u8 r0.known,.int .i64 r0.cents,.int .i64 r0.since,u]))/\InK .u8 r0.known/\InK .i64 r0.cents/\InK .i64 r0.since/\RdS (A9 .i64) M w' u r0.by_/\Ext w w':=by
 refine(ok110.2 M w (b,kind,()) _ r0 hM hG ⟨_,_,rfl,AR2 f,_,_,rfl,okN hk,rfl⟩ h).mono ?_
 rintro _ w' ⟨_,rfl,⟨v,rfl,h1⟩,h2⟩
 obtain⟨u,rfl,k1,k2,k3,k4⟩:=ASq h1
 exact⟨u,rfl,k1,k2,k3,k4,h2⟩
end
end Go.Proofs.YtgioiejbphljoaaGreatDoor
namespace Go.Rx
open Go Go.Sx Go.RowKit
variable[Trk][Sg][Sf]
structure Jf(n b0:Nat)(val:Nat->Option Value)(Q:(Nat->Bool)->A8->World->Prop)(L0:A8)(D:Nat->Bool)(L:A8)(W:World):Prop where
 base:∀t,¬(b0<=t/\t<b0+n)->Sx.A6 L t=Sx.A6 L0 t
 f:∀k v,val k=some v->D k=true->Sx.A6 L (b0+k)=some v
 q:Q D L W
section
variable{n b0:Nat}{val:Nat->Option Value}{Q:(Nat->Bool)->A8->World->Prop}{L0 L:A8}{D:Nat->Bool}{W W':World}
theorem Jf.start(h:Q (fun _=>false) L0 W):Jf n b0 val Q L0 (fun _=>false) L0 W:=⟨fun _ _=>rfl,(fun _ _ _ h=>by cases h),h⟩
theorem Jf.put{k:Nat}{v:Value}(h:Jf n b0 val Q L0 D L W)(hk:k<n)(hv:∀u,val k=some u->u=v)(hq:Q (fun j=>beq j k||D j) ((b0+k,v)::L) W'):Jf n b0 val Q L0 (fun j=>beq j k||D j) ((b0+k,v)::L) W':=by
 refine⟨fun t ht=>?_,fun j u hj hd=>?_,hq⟩
 . rw[look_cons,if_neg (by omega)];exact h.base t ht
 . rw[look_cons];by_cases e:k=j
   . subst e;rw[Aac rfl,hv u hj]
   . rw[if_neg (by omega)];have hd:(beq j k||D j)=true:=hd;rw[Q8 (AcE e),Bool.false_or]at hd;exact h.f j u hj hd
theorem Jf.sto{k:Nat}(h:Jf n b0 val Q L0 D L W)(hk:val k=none)(hq:Q (fun j=>beq j k||D j) L W'):Jf n b0 val Q L0 (fun j=>beq j k||D j) L W':=by
 refine⟨h.base,fun j u hj hd=>?_,hq⟩;have hd:(beq j k||D j)=true:=hd;rw[Q8 (fun e=>by subst e;rw[hk]at hj;cases hj),Bool.false_or]at hd;exact h.f j u hj hd
end
theorem djT{D:Nat->Bool}{j k:Nat}(h:D j=true):(beq j k||D j)=true:=(AaX (beq j k||·) h).trans (Bool.or_true _)
def atC:List Nat->Code->Code
 |1::p,.seq a _=>atC p a
 |2::p,.seq _ b=>atC p b
 |3::p,.block _ a=>atC p a
 |3::p,.loop a=>atC p a
 |_,c=>c
def AV4:Code->List Oper
 |.region _ l _=>l.toList
 |_=>[]
end Go.Rx
namespace Go.Proofs.YtgioiejbphljoaaGreatDoor
open Go Go.Sx Go.Rx Go.RowKit
section
variable{w0:World}{w:World}{M:List Nat}{L:Sx.A8}{A:A5}{B:A5}{X:Nat->A5}{Z:List PanicEntry->A5}
theorem AR3:prog.cellsOf 189=2:=by kernel_rfl
theorem AV5:prog.keyType 189=true:=by kernel_rfl
def AAP:Ky prog 189 Payer:=APS (show laidOutB prog=true by kernel_rfl) (m:=2) (by omega) (AaW (by kernel_rfl)) (by kernel_rfl) (by rw[underlying189]) (fun x=>.agg (toArray [Value.int .i64 x.day,Value.int .i64 x.source])) (fun x=>InK .i64 x.day/\InK .i64 x.source)
 (fun {x} h=>by
  exact AYl underlying189 rfl rfl rfl rfl (by decide) (by decide) underlying3 AR3 AQX AV5 (AaW (by kernel_rfl)) h.1 h.2)
 (fun {a b} _ _ h=>by
  cases a;cases b;simp at h;simp[h])
noncomputable def r75:Code:=match f75.body with
 |some c=>atC [2,2,1,2,3,3,2,2,1,3,2] c
 |none=>.skip
def o75:List Oper:=AV4 r75
theorem AMu{v:Value}{zs:List Report}{b5 b7:Nat}{f:A4 Payer Int}{r:Report}{n:Int}(hI:Hp w0 [] M [ownR [] ReportE 45 v zs,mapO AAP (A9 .i64) false b7 f] w)(hC:RdC (mm [ownR [] ReportE 45 v zs,mapO AAP (A9 .i64) false b7 f] M) w b5 0 (Y8 r))(l3:Sx.A6 L 3=some (.map (some b7)))(l5:Sx.A6 L 5=some (.pointer (some ⟨b5,0,none⟩)))(ha:InK .i64 r.about/\InK .i64 r.source)(hn:chk .i64 ((f (Payer.mk r.about r.source)).getD 0+r.cents)=some n)(hA:∀L' w',(∀t,¬(19<=t/\t<19+13)->Sx.A6 L' t=Sx.A6 L t)->Hp w0 [] M [ownR [] ReportE 45 v zs,mapO AAP (A9 .i64) false b7 (B4 f (Payer.mk r.about r.source) n)] w'->Adv (mm [ownR [] ReportE 45 v zs,mapO AAP (A9 .i64) false b7 f] M) (mm [ownR [] ReportE 45 v zs,mapO AAP (A9 .i64) false b7 f] M) w w'->A [] L' w'):CW prog 65 r75 [] L w A B X Z:=by
 have hn:=I8 hn;let σ:=[ownR [] ReportE 45 v zs,mapO AAP (A9 .i64) false b7 f];let σ1:=fun st=>[ownR [] ReportE 45 v zs,AEF AAP (A9 .i64) false b7 f (Payer.mk r.about r.source) ((f (Payer.mk r.about r.source)).getD 0) st];let σ2:=[ownR [] ReportE 45 v zs,mapO AAP (A9 .i64) false b7 (B4 f (Payer.mk r.about r.source) n)];let val:Nat->Option Value:=fun
  |0=>some (.map (some b7))
  |1=>some (.pointer (some ⟨b5,4,none⟩))
  |2=>some (.int .i64 r.about)
  |3=>some (.pointer (some ⟨b5,1,none⟩))
  |4=>some (.int .i64 r.source)
  |5=>some (.agg (toArray [.int .i64 r.about,.int .i64 r.source]))
  |6=>some (.int .i64 ((f (Payer.mk r.about r.source)).getD 0))
  |7=>some (.pointer (some ⟨b5,6,none⟩))
  |8=>some (.int .i64 r.cents)
  |9=>some (.int .i64 n)
  |_=>none
 let Q:(Nat->Bool)->Sx.A8->World->Prop:=fun D L' W=>(D 10=false->Hp w0 [] M σ W/\Adv (mm σ M) (mm σ M) w W)/\(D 10=true->D 12=false->∃(u:Value) (st:Nat),Sx.A6 L' 29=some (.tuple (toArray [u,.int .i64 (st:Int)]))/\(D 11=true->Sx.A6 L' 30=some (.int .i64 (st:Int)))/\Hp w0 [] M (σ1 st) W/\Adv (mm σ M) (mm σ M) w W)/\(D 12=true->Hp w0 [] M σ2 W/\Adv (mm σ M) (mm σ M) w W)/\((D 12=true->∀j,j<12->D j=true)/\(D 11=true->D 10=true));refine AGJ (ops:=o75) gx_mix (by decide) (by decide) (Jf 13 19 val Q L) ?_ (AHu (by decide)) ?_ ?_
 . exact Jf.start ⟨fun _=>⟨hI.ext (Kp.drew _ _),Adv.of_ext (Kp.drew _ _)⟩,(fun h=>by cases h),(fun h=>by cases h),(fun h=>by cases h),fun h=>by cases h⟩
 . intro D L' W k o hJ hk ho hdep;have k12:k<12->D 12=false:=fun hlt=>by
    cases hb:D 12 with
    |false=>rfl
    |true=>rw[hJ.q.2.2.2.1 hb k hlt]at hk;cases hk
   have cel:k<12->Cells W b5 0 (Y8 r):=fun hlt=>by
    cases hb:D 10 with
    |false=>exact(hC.adv (hJ.q.1 hb).2).cells
    |true=>
     obtain⟨_,_,_,_,_,h⟩:=hJ.q.2.1 hb (k12 hlt)
     exact(hC.adv h).cells
   match k,hk,ho,hdep,k12,cel with
   |0,hk,ho,hdep,k12,cel=>
    have ho:=AaO (show some _=some o from ho)
    subst ho
    refine E5 ((hJ.base 3 (by decide)).trans l3) rfl ?_
    exact Reg.nil ⟨rfl,hJ.put (by decide) (fun u hu=>by cases hu;rfl) ⟨hJ.q.1,hJ.q.2.1,hJ.q.2.2.1,fun h j hj=>djT (hJ.q.2.2.2.1 h j hj),hJ.q.2.2.2.2⟩⟩
   |1,hk,ho,hdep,k12,cel=>
    have ho:=AaO (show some _=some o from ho)
    subst ho
    refine M3 ((hJ.base 5 (by decide)).trans l5) underlying45 rfl sizeOf3 rfl ?_
    exact Reg.nil ⟨rfl,hJ.put (by decide) (fun u hu=>by cases hu;rfl) ⟨hJ.q.1,hJ.q.2.1,hJ.q.2.2.1,fun h j hj=>djT (hJ.q.2.2.2.1 h j hj),hJ.q.2.2.2.2⟩⟩
   |2,hk,ho,hdep,k12,cel=>
    have ho:=AaO (show some _=some o from ho)
    subst ho
    refine J8 (hJ.f 1 _ rfl (hdep _ (AaP (i:=0) rfl) rfl)) ((cel (by decide)).at 4 rfl) isAgg3 rfl ?_
    exact Reg.nil ⟨rfl,hJ.put (by decide) (fun u hu=>by cases hu;rfl) ⟨hJ.q.1,hJ.q.2.1,hJ.q.2.2.1,fun h j hj=>djT (hJ.q.2.2.2.1 h j hj),hJ.q.2.2.2.2⟩⟩
   |3,hk,ho,hdep,k12,cel=>
    have ho:=AaO (show some _=some o from ho)
    subst ho
    refine M3 ((hJ.base 5 (by decide)).trans l5) underlying45 rfl sizeOf3 rfl ?_
    exact Reg.nil ⟨rfl,hJ.put (by decide) (fun u hu=>by cases hu;rfl) ⟨hJ.q.1,hJ.q.2.1,hJ.q.2.2.1,fun h j hj=>djT (hJ.q.2.2.2.1 h j hj),hJ.q.2.2.2.2⟩⟩
   |4,hk,ho,hdep,k12,cel=>
    have ho:=AaO (show some _=some o from ho)
    subst ho
    refine J8 (hJ.f 3 _ rfl (hdep _ (AaP (i:=0) rfl) rfl)) ((cel (by decide)).at 1 rfl) isAgg3 rfl ?_
    exact Reg.nil ⟨rfl,hJ.put (by decide) (fun u hu=>by cases hu;rfl) ⟨hJ.q.1,hJ.q.2.1,hJ.q.2.2.1,fun h j hj=>djT (hJ.q.2.2.2.1 h j hj),hJ.q.2.2.2.2⟩⟩
   |5,hk,ho,hdep,k12,cel=>
    have ho:=AaO (show some _=some o from ho)
    subst ho
    refine AEy [(0,1),(1,1)] zeroValue189 rfl underlying189 (fun _=>by simp[sizeOf3]) (show Sx.evs L' [.tmp 21,.tmp 23]=some [_,_] by simp only[Sx.evs,Sx.ev,hJ.f 2 _ rfl (hdep _ (mem_of_getElem? (i:=0) rfl) rfl),hJ.f 4 _ rfl (hdep _ (mem_of_getElem? (i:=1) rfl) rfl)];rfl) (Cls.cons rfl (Cls.cons rfl Cls.nil)) rfl rfl ?_
    exact Reg.nil ⟨rfl,hJ.put (by decide) (fun u hu=>by cases hu;rfl) ⟨hJ.q.1,hJ.q.2.1,hJ.q.2.2.1,fun h j hj=>djT (hJ.q.2.2.2.1 h j hj),hJ.q.2.2.2.2⟩⟩
   |6,hk,ho,hdep,k12,cel=>
    have ho:=AaO (show some _=some o from ho)
    subst ho
    have e0:=hJ.f 0 _ rfl (hdep _ (AaP (i:=0) rfl) rfl)
    have e5:=hJ.f 5 _ rfl (hdep _ (AaP (i:=1) rfl) rfl)
    have put:∀u,Vl (A9 .i64) false (mm σ M) W u ((f (Payer.mk r.about r.source)).getD 0)->Reg prog 65 o75.toArray .seq [] [] ((25,u)::L') W (fun ds' L' w'=>ds'=[]/\Jf 13 19 val Q L (fun j=>beq j 6||D j) L' w') B X Z:=fun u hu=>by
     obtain⟨r1,_⟩:=Vl.one1 hu;obtain rfl:=AMz r1;exact Reg.nil ⟨rfl,hJ.put (by decide) (fun u hu=>by cases hu;rfl) ⟨hJ.q.1,hJ.q.2.1,hJ.q.2.2.1,fun h j hj=>djT (hJ.q.2.2.2.1 h j hj),hJ.q.2.2.2.2⟩⟩
    cases hb:D 10 with
    |false=>exact APM 1 (a:=Payer.mk r.about r.source) (z0:=0) (hJ.q.1 hb).1 rfl e0 e5 ha underlying186 zeroValue3 ⟨_,⟨rfl,by decide⟩,.inr ⟨rfl,rfl⟩⟩ rfl put
    |true=>
     obtain⟨_,st,_,_,h1,_⟩:=hJ.q.2.1 hb (k12 (by decide))
     exact AWn (K:=AAP) (E:=A9 .i64) (ag:=false) 1 (a:=Payer.mk r.about r.source) (z0:=0) h1 rfl e0 e5 ha underlying186 zeroValue3 ⟨_,⟨rfl,by decide⟩,.inr ⟨rfl,rfl⟩⟩ rfl put
   |7,hk,ho,hdep,k12,cel=>
    have ho:=AaO (show some _=some o from ho)
    subst ho
    refine M3 ((hJ.base 5 (by decide)).trans l5) underlying45 rfl sizeOf3 rfl ?_
    exact Reg.nil ⟨rfl,hJ.put (by decide) (fun u hu=>by cases hu;rfl) ⟨hJ.q.1,hJ.q.2.1,hJ.q.2.2.1,fun h j hj=>djT (hJ.q.2.2.2.1 h j hj),hJ.q.2.2.2.2⟩⟩
   |8,hk,ho,hdep,k12,cel=>
    have ho:=AaO (show some _=some o from ho)
    subst ho
    refine J8 (hJ.f 7 _ rfl (hdep _ (AaP (i:=0) rfl) rfl)) ((cel (by decide)).at 6 rfl) isAgg3 rfl ?_
    exact Reg.nil ⟨rfl,hJ.put (by decide) (fun u hu=>by cases hu;rfl) ⟨hJ.q.1,hJ.q.2.1,hJ.q.2.2.1,fun h j hj=>djT (hJ.q.2.2.2.1 h j hj),hJ.q.2.2.2.2⟩⟩
   |9,hk,ho,hdep,k12,cel=>
    have ho:=AaO (show some _=some o from ho)
    subst ho
    refine ACl (hJ.f 6 _ rfl (hdep _ (AaP (i:=0) rfl) rfl)) (hJ.f 8 _ rfl (hdep _ (AaP (i:=1) rfl) rfl)) rfl hn ?_
    exact Reg.nil ⟨rfl,hJ.put (by decide) (fun u hu=>by cases hu;rfl) ⟨hJ.q.1,hJ.q.2.1,hJ.q.2.2.1,fun h j hj=>djT (hJ.q.2.2.2.1 h j hj),hJ.q.2.2.2.2⟩⟩
   |10,hk,ho,hdep,k12,cel=>
    have ho:=AaO (show some _=some o from ho)
    subst ho
    have hk10:D 10=false:=hk
    have h12:=k12 (by decide)
    refine AWm 1 (a:=Payer.mk r.about r.source) (z0:=0) (hJ.q.1 hk10).1 rfl (hJ.f 0 _ rfl (hdep _ (AaP (i:=0) rfl) rfl)) (hJ.f 5 _ rfl (hdep _ (AaP (i:=1) rfl) rfl)) ha underlying186 zeroValue3 ⟨_,⟨rfl,by decide⟩,.inr ⟨rfl,rfl⟩⟩ rfl ?_
    intro u st w' hI' x'
    exact Reg.nil ⟨rfl,hJ.put (by decide) (fun u hu=>by cases hu) ⟨(fun h=>by cases h),fun _ _=>⟨u,st,rfl,(fun h=>by rw[hJ.q.2.2.2.2 h]at hk10;cases hk10),hI',(hJ.q.1 hk10).2.trans x'⟩,(fun h=>by rw[show D 12=true from h]at h12;cases h12),(fun h=>by rw[show D 12=true from h]at h12;cases h12),fun _=>rfl⟩⟩
   |11,hk,ho,hdep,k12,cel=>
    have ho:=AaO (show some _=some o from ho)
    subst ho
    have h12:=k12 (by decide)
    have h10:D 10=true:=hdep _ (AaP (i:=0) rfl) rfl
    obtain⟨u,st,h1,h2,h3,h4⟩:=hJ.q.2.1 h10 h12
    refine AEx h1 rfl rfl ?_
    exact Reg.nil ⟨rfl,hJ.put (by decide) (fun u hu=>by cases hu) ⟨hJ.q.1,fun _ _=>⟨u,st,h1,fun _=>rfl,h3,h4⟩,hJ.q.2.2.1,fun h j hj=>djT (hJ.q.2.2.2.1 h j hj),fun _=>h10⟩⟩
   |12,hk,ho,hdep,k12,cel=>
    have ho:=AaO (show some _=some o from ho)
    subst ho
    have hk12:D 12=false:=hk
    have h11:D 11=true:=hdep _ (AaP (i:=1) rfl) rfl
    have h10:=hJ.q.2.2.2.2 h11
    have h9:D 9=true:=hdep _ (AaP (i:=2) rfl) rfl
    have d:∀j,j<12->D j=true
     |0,_=>hdep _ (AaP (i:=0) rfl) rfl
     |1,_=>hdep _ (AaP (i:=5) rfl) rfl
     |2,_=>hdep _ (AaP (i:=6) rfl) rfl
     |3,_=>hdep _ (AaP (i:=7) rfl) rfl
     |4,_=>hdep _ (AaP (i:=8) rfl) rfl
     |5,_=>hdep _ (AaP (i:=9) rfl) rfl
     |6,_=>hdep _ (AaP (i:=10) rfl) rfl
     |7,_=>hdep _ (AaP (i:=11) rfl) rfl
     |8,_=>hdep _ (AaP (i:=12) rfl) rfl
     |9,_=>h9
     |10,_=>h10
     |11,_=>h11
    obtain⟨u,st,h1,h2,h3,h4⟩:=hJ.q.2.1 h10 hk12
    refine AWo (K:=AAP) (E:=A9 .i64) (ag:=false) 1 (a:=Payer.mk r.about r.source) (z:=n) h3 rfl (hJ.f 0 _ rfl (d 0 (by decide))) (h2 h11) ha (hJ.f 9 _ rfl h9) ⟨_,⟨rfl,hn.2⟩,.inr ⟨rfl,rfl⟩⟩ ?_
    intro w' hI' x'
    exact Reg.nil ⟨rfl,hJ.sto rfl ⟨(fun h=>by rw[show D 10=false from h]at h10;cases h10),(fun _ h=>by cases h),fun _=>⟨hI',h4.trans x'⟩,(fun _ j hj=>djT (d j hj)),fun _=>h10⟩⟩
 . intro D L' W hall hJ;obtain⟨h1,h2⟩:=hJ.q.2.2.1 (hall 12 (by decide));exact hA L' W hJ.base h1 h2
noncomputable def r38:Code:=match f38.body with
 |some c=>atC [2,2,2,2,2,1,2,3,3,2,2,1,3,2] c
 |none=>.skip
def o38:List Oper:=AV4 r38
def tC(t:Told)(u:Value):List Value:=[.int .u8 t.known,.int .i64 t.cents,.int .i64 t.since,u]
def AGS(M:List Nat)(w:World)(t:Told)(u:Value):Prop:=InK .u8 t.known/\InK .i64 t.cents/\InK .i64 t.since/\RdS (A9 .i64) M w u t.by_
theorem AQd{b1 b11 b12 b14 off fa ft:Nat}{cs zs:List Value}{vb:Value}{k:Int}{t:Told}(hI:Hp w0 [] M [rowR 90 b12 cs,rowR 90 b1 zs] w)(hl:off+4<=cs.length)(h14:RdC (mm [rowR 90 b12 cs,rowR 90 b1 zs] M) w b14 0 [.int .u8 k,.func (.func fa) #[] #[],.func (.func ft) #[] #[]])(h11:RdC (mm [rowR 90 b12 cs,rowR 90 b1 zs] M) w b11 0 [vb])(l11:Sx.A6 L 11=some (.pointer (some ⟨b11,0,none⟩)))(l12:Sx.A6 L 12=some (.pointer (some ⟨b12,0,none⟩)))(l14:Sx.A6 L 14=some (.pointer (some ⟨b14,0,none⟩)))(ca:∀args w,(callFunc fa args).run prog w=.ok (.enter fa args) w)(ct:∀args w,(callFunc ft args).run prog w=.ok (.enter ft args) w)(hat:∀{M:List Nat} {w:World} {p:Nat},MLt M w->Calls prog fa (toArray [.pointer (some ⟨p,0,none⟩)]) w fun e w'=>e=.returned (.pointer (some ⟨p,off,none⟩))/\Ext w w')(htell:∀{W:World},MLt (mm [rowR 90 b12 cs,rowR 90 b1 zs] M) W->Adv (mm [rowR 90 b12 cs,rowR 90 b1 zs] M) (mm [rowR 90 b12 cs,rowR 90 b1 zs] M) w W->Calls prog ft (toArray [.agg (toArray [vb]),.int .u8 k]) W fun e w'=>∃u,e=.returned (.agg (toArray (tC t u)))/\InK .u8 t.known/\InK .i64 t.cents/\InK .i64 t.since/\RdS (A9 .i64) (mm [rowR 90 b12 cs,rowR 90 b1 zs] M) w' u t.by_/\Ext W w')(hA:∀L' w' u,(∀t,¬(46<=t/\t<46+11)->Sx.A6 L' t=Sx.A6 L t)->Hp w0 [] M [rowR 90 b12 (B6 cs off (tC t u)),rowR 90 b1 zs] w'->Adv (mm [rowR 90 b12 cs,rowR 90 b1 zs] M) (mm [rowR 90 b12 cs,rowR 90 b1 zs] M) w w'->AGS (mm [rowR 90 b12 cs,rowR 90 b1 zs] M) w' t u->A [] L' w'):CW prog 111 r38 [] L w A B X Z:=by
 let σ:=[rowR 90 b12 cs,rowR 90 b1 zs];let val:Nat->Option Value:=fun
  |0=>some (.pointer (some ⟨b14,1,none⟩))
  |1=>some (.func (.func fa) #[] #[])
  |2=>some (.pointer (some ⟨b12,off,none⟩))
  |3=>some (.pointer (some ⟨b14,2,none⟩))
  |4=>some (.func (.func ft) #[] #[])
  |5=>some (.agg (toArray [vb]))
  |6=>some (.pointer (some ⟨b14,0,none⟩))
  |7=>some (.int .u8 k)
  |9=>some (.pointer (some ⟨b12,off,none⟩))
  |_=>none
 let Q:(Nat->Bool)->Sx.A8->World->Prop:=fun D L' W=>(D 10=false->Hp w0 [] M σ W/\Adv (mm σ M) (mm σ M) w W)/\(D 8=true->D 10=false->∃u,Sx.A6 L' 54=some (.agg (toArray (tC t u)))/\AGS (mm σ M) W t u)/\(D 10=true->∃u,Hp w0 [] M [rowR 90 b12 (B6 cs off (tC t u)),rowR 90 b1 zs] W/\Adv (mm σ M) (mm σ M) w W/\AGS (mm σ M) W t u)/\((D 10=true->∀j,j<10->D j=true)/\(D 8=true->D 2=true));refine AGJ (ops:=o38) gx_mix (by decide) (by decide) (Jf 11 46 val Q L) ?_ (AHu (by decide)) ?_ ?_
 . exact Jf.start ⟨fun _=>⟨hI.ext (Kp.drew _ _),Adv.of_ext (Kp.drew _ _)⟩,(fun h=>by cases h),(fun h=>by cases h),(fun h=>by cases h),fun h=>by cases h⟩
 . intro D L' W k' o hJ hk ho hdep;have k10:k'<10->D 10=false:=fun hlt=>by
    cases hb:D 10 with
    |false=>rfl
    |true=>rw[hJ.q.2.2.2.1 hb k' hlt]at hk;cases hk
   match k',hk,ho,hdep,k10 with
   |0,hk,ho,hdep,k10=>
    have ho:=AaO (show some _=some o from ho)
    subst ho
    refine M3 ((hJ.base 14 (by decide)).trans l14) underlying153 rfl sizeOf150 rfl ?_
    exact Reg.nil ⟨rfl,hJ.put (by decide) (fun u hu=>by cases hu;rfl) ⟨hJ.q.1,hJ.q.2.1,hJ.q.2.2.1,fun h j hj=>djT (hJ.q.2.2.2.1 h j hj),hJ.q.2.2.2.2⟩⟩
   |1,hk,ho,hdep,k10=>
    have ho:=AaO (show some _=some o from ho)
    subst ho
    refine J8 (hJ.f 0 _ rfl (hdep _ (AaP (i:=0) rfl) rfl)) ((h14.adv (hJ.q.1 (k10 (by decide))).2).cells.at 1 rfl) isAgg150 rfl ?_
    exact Reg.nil ⟨rfl,hJ.put (by decide) (fun u hu=>by cases hu;rfl) ⟨hJ.q.1,hJ.q.2.1,hJ.q.2.2.1,fun h j hj=>djT (hJ.q.2.2.2.1 h j hj),hJ.q.2.2.2.2⟩⟩
   |2,hk,ho,hdep,k10=>
    have ho:=AaO (show some _=some o from ho)
    subst ho
    have h10:=k10 (by decide)
    obtain⟨h1,h2⟩:=hJ.q.1 h10
    have h8:D 8=false:=by
     cases hb:D 8 with
     |false=>rfl
     |true=>rw[hJ.q.2.2.2.2 hb]at hk;cases hk
    refine ABO (hJ.f 1 _ rfl (hdep _ (AaP (i:=0) rfl) rfl)) (show Sx.evs L' [.tmp 12]=some [_] by simp only[Sx.evs,Sx.ev,(hJ.base 12 (by decide)).trans l12];rfl) rfl (CallsV.go ca rfl (hat h1.mlt) ?_)
    rintro _ w' ⟨rfl,hx⟩
    refine⟨_,rfl,?_⟩
    exact Reg.nil ⟨rfl,hJ.put (by decide) (fun u hu=>by cases hu;rfl) ⟨fun _=>⟨h1.ext hx,h2.trans (Adv.of_ext hx)⟩,(fun h=>by rw[show D 8=true from h]at h8;cases h8),(fun h=>by rw[show D 10=true from h]at h10;cases h10),(fun h=>by rw[show D 10=true from h]at h10;cases h10),fun _=>rfl⟩⟩
   |3,hk,ho,hdep,k10=>
    have ho:=AaO (show some _=some o from ho)
    subst ho
    refine M3 ((hJ.base 14 (by decide)).trans l14) underlying153 rfl sizeOf151 rfl ?_
    exact Reg.nil ⟨rfl,hJ.put (by decide) (fun u hu=>by cases hu;rfl) ⟨hJ.q.1,hJ.q.2.1,hJ.q.2.2.1,fun h j hj=>djT (hJ.q.2.2.2.1 h j hj),hJ.q.2.2.2.2⟩⟩
   |4,hk,ho,hdep,k10=>
    have ho:=AaO (show some _=some o from ho)
    subst ho
    refine J8 (hJ.f 3 _ rfl (hdep _ (AaP (i:=0) rfl) rfl)) ((h14.adv (hJ.q.1 (k10 (by decide))).2).cells.at 2 rfl) isAgg151 rfl ?_
    exact Reg.nil ⟨rfl,hJ.put (by decide) (fun u hu=>by cases hu;rfl) ⟨hJ.q.1,hJ.q.2.1,hJ.q.2.2.1,fun h j hj=>djT (hJ.q.2.2.2.1 h j hj),hJ.q.2.2.2.2⟩⟩
   |5,hk,ho,hdep,k10=>
    have ho:=AaO (show some _=some o from ho)
    subst ho
    refine Y0 ((hJ.base 11 (by decide)).trans l11) (h11.adv (hJ.q.1 (k10 (by decide))).2).cells isAgg146 rfl sizeOf146 rfl ?_
    exact Reg.nil ⟨rfl,hJ.put (by decide) (fun u hu=>by cases hu;rfl) ⟨hJ.q.1,hJ.q.2.1,hJ.q.2.2.1,fun h j hj=>djT (hJ.q.2.2.2.1 h j hj),hJ.q.2.2.2.2⟩⟩
   |6,hk,ho,hdep,k10=>
    have ho:=AaO (show some _=some o from ho)
    subst ho
    refine M3 ((hJ.base 14 (by decide)).trans l14) underlying153 rfl sizeOf5 rfl ?_
    exact Reg.nil ⟨rfl,hJ.put (by decide) (fun u hu=>by cases hu;rfl) ⟨hJ.q.1,hJ.q.2.1,hJ.q.2.2.1,fun h j hj=>djT (hJ.q.2.2.2.1 h j hj),hJ.q.2.2.2.2⟩⟩
   |7,hk,ho,hdep,k10=>
    have ho:=AaO (show some _=some o from ho)
    subst ho
    refine J8 (hJ.f 6 _ rfl (hdep _ (AaP (i:=0) rfl) rfl)) ((h14.adv (hJ.q.1 (k10 (by decide))).2).cells.at 0 rfl) isAgg5 rfl ?_
    exact Reg.nil ⟨rfl,hJ.put (by decide) (fun u hu=>by cases hu;rfl) ⟨hJ.q.1,hJ.q.2.1,hJ.q.2.2.1,fun h j hj=>djT (hJ.q.2.2.2.1 h j hj),hJ.q.2.2.2.2⟩⟩
   |8,hk,ho,hdep,k10=>
    have ho:=AaO (show some _=some o from ho)
    subst ho
    have h10:=k10 (by decide)
    obtain⟨h1,h2⟩:=hJ.q.1 h10
    have hd2:D 2=true:=hdep _ (AaP (i:=3) rfl) rfl
    refine ABO (hJ.f 4 _ rfl (hdep _ (AaP (i:=0) rfl) rfl)) (show Sx.evs L' [.tmp 51,.tmp 53]=some [_,_] by simp only[Sx.evs,Sx.ev,hJ.f 5 _ rfl (hdep _ (mem_of_getElem? (i:=1) rfl) rfl),hJ.f 7 _ rfl (hdep _ (mem_of_getElem? (i:=2) rfl) rfl)]) rfl (CallsV.go ct rfl (htell h1.mlt h2) ?_)
    rintro _ w' ⟨u,rfl,g1,g2,g3,g4,hx⟩
    refine⟨_,rfl,?_⟩
    exact Reg.nil ⟨rfl,hJ.put (by decide) (fun u hu=>by cases hu) ⟨fun _=>⟨h1.ext hx,h2.trans (Adv.of_ext hx)⟩,fun _ _=>⟨u,rfl,g1,g2,g3,g4⟩,(fun h=>by rw[show D 10=true from h]at h10;cases h10),(fun h=>by rw[show D 10=true from h]at h10;cases h10),fun _=>hd2⟩⟩
   |9,hk,ho,hdep,k10=>
    have ho:=AaO (show some _=some o from ho)
    subst ho
    refine ADA (hJ.f 2 _ rfl (hdep _ (AaP (i:=0) rfl) rfl)) rfl ?_
    exact Reg.nil ⟨rfl,hJ.put (by decide) (fun u hu=>by cases hu;rfl) ⟨hJ.q.1,hJ.q.2.1,hJ.q.2.2.1,fun h j hj=>djT (hJ.q.2.2.2.1 h j hj),hJ.q.2.2.2.2⟩⟩
   |10,hk,ho,hdep,k10=>
    have ho:=AaO (show some _=some o from ho)
    subst ho
    have hk10:D 10=false:=hk
    have h9:D 9=true:=hdep _ (AaP (i:=0) rfl) rfl
    have h8:D 8=true:=hdep _ (AaP (i:=1) rfl) rfl
    have d:∀j,j<10->D j=true
     |0,_=>hdep _ (AaP (i:=3) rfl) rfl
     |1,_=>hdep _ (AaP (i:=4) rfl) rfl
     |2,_=>hdep _ (AaP (i:=5) rfl) rfl
     |3,_=>hdep _ (AaP (i:=6) rfl) rfl
     |4,_=>hdep _ (AaP (i:=7) rfl) rfl
     |5,_=>hdep _ (AaP (i:=8) rfl) rfl
     |6,_=>hdep _ (AaP (i:=9) rfl) rfl
     |7,_=>hdep _ (AaP (i:=10) rfl) rfl
     |8,_=>h8
     |9,_=>h9
    obtain⟨h1,h2⟩:=hJ.q.1 hk10
    obtain⟨u,h3,h4⟩:=hJ.q.2.1 h8 hk10
    refine N2 0 (vs:=tC t u) h1 rfl (hJ.f 9 _ rfl h9) h3 rfl sizeOf86 rfl (Abx hl) (one1 rfl (one1 rfl (one1 rfl (one1 (RdS.oneC h4.2.2.2) one0)))) ?_
    intro w' hI' x'
    exact Reg.nil ⟨rfl,hJ.sto rfl ⟨(fun h=>by cases h),(fun _ h=>by cases h),fun _=>⟨u,hI',h2.trans x',h4.1,h4.2.1,h4.2.2.1,h4.2.2.2.adv x'⟩,(fun _ j hj=>djT (d j hj)),hJ.q.2.2.2.2⟩⟩
 . intro D L' W hall hJ;obtain⟨u,h1,h2,h3⟩:=hJ.q.2.2.1 (hall 10 (by decide));exact hA L' W u hJ.base h1 h2 h3
end
end Go.Proofs.YtgioiejbphljoaaGreatDoor
end
