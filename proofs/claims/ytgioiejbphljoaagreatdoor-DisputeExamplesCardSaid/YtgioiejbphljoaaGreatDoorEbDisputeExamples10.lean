/-
  Part DisputeExamples 10 of the texts that the statement's proof stands on: what memory holds, how code is walked, what the functions reckon. In the order in which they build.
-/
import Derived.Test.YtgioiejbphljoaaGreatDoorEbDisputeExamples9
open List (mem_append mem_cons mem_map mem_singleton toArray)
open Go.Proofs.Tryz
set_option linter.unusedVariables false
set_option linter.unusedSectionVars false
set_option maxRecDepth 20000
set_option maxHeartbeats 4000000
noncomputable section
namespace Go.Rx
open Go Go.Sx Go.RowKit
theorem HS.rdsM[Trk][Sg][Sf]{P:Program}[Se P][Anch]{w0 w:World}{M:List Nat}{σ:AS}{L:A7}{S:List Res}{ρ:Nat->Value}{γ:Nat->List Value}{μ:Nat->List Nat}{ι:Nat->Nat}(h:HS (P:=P) w0 [] M σ L w S ρ γ μ ι)(I:List Nat):Rds (P:=P) ρ (A1 σ.res) M w I:=fun i _ p c x V=>by
 have D:=h.res i _ V;have hm:=AX1 D;have H:=h.hp.all _ hm;have U:=h.hp.sepM _ hm;have C:=h.row i _ V;cases c with
 |sl e t=>
  have H:Sx.Own (enc (P:=P) t) e 0 (mm S M) w (ρ i) x:=H
  have W:=(H.mon fun b J=>.inr (mem_mm.2 (.inr J))).rd fun b J=>U b (by
   show b∈(E9 (P:=P) _ (ρ i) (.sl e t) x).fp;rw[ocR_fp];exact J)
  exact⟨[ρ i],⟨_,rfl,W⟩,.inr ⟨rfl,rfl⟩⟩
 |mp m k v=>
  obtain⟨b,J⟩:=C
  have H:(mapRes (P:=P) (bif p then μ i else []) m k v (blk (ρ i)) x).holds (mm S M) w:=H
  have U:∀b'∈(mapRes (P:=P) (bif p then μ i else []) m k v (blk (ρ i)) x).fp,b'∉M:=U
  rw[J]at H U ⊢
  unfold mapRes at H U
  cases hK:Se.ky (P:=P) m k with
  |none=>rw[hK]at H;exact H.elim
  |some K=>
   rw[hK]at H U
   obtain⟨es,c,xs,g1,g2,g3,g4⟩:=H
   exact⟨[_],⟨_,K,rfl,hK,b,rfl,U b (mem_singleton.2 rfl),es,c,xs,g1,g2,g3.mon fun b J=>.inl (mem_mm.2 (.inr J)),g4⟩,.inr ⟨rfl,rfl⟩⟩
end Go.Rx
namespace Go.Proofs.YtgioiejbphljoaaGreatDoor
open Go Go.Sx Go.Rx Go.RowKit
noncomputable def c16:Code:=match f16.body with
 |some c=>c
 |none=>.skip
def KNp(σ:AS):Option ((Desk_99×List Asked×List Report×Int)⊕(List Letter×Int)):=match A1 σ.env 4,A1 σ.env 8,A1 σ.env 13,A1 σ.env 2,A1 σ.res 4,A1 σ.res 8,A1 σ.res 13 with
 |some (.ptr 4 0),some (.ptr 8 0),some (.ptr 13 0),some (.int .i64 k),some (.row 29 [s4]),some (.row 99 c8),some (.row 24 [s13])=>match B9 (A1 σ.res) (.st 10) (.agg c8),B9 (A1 σ.res) (.sl (.st 5)) s4,B9 (A1 σ.res) (.sl (.st 1)) s13 with
  |some x,some a,some l=>some (.inl (x,a,l,k))
  |_,_,_=>none
 |_,_,_,_,_,_,_=>none
def cs16:List Ck:=[.own (.sl 70 (.st 6)),.d (.int .i64)]
def ANb:Gx:={ gxb with fs:=[(40,ctr40),(41,ctr41),(44,ctr44)] }
theorem AML:GxOk prog ANb:=B4 ⟨⟨ok40,call40⟩,⟨ok41,call41⟩,⟨ok44,call44⟩,trivial⟩
def AJU:Gx:={ gxb with fs:=[(49,ctr49),(50,ctr50)],fm:=[(48,ctrm48)] }
theorem AGs:GxOk prog AJU:=ACp ⟨⟨ok49,call49⟩,⟨ok50,call50⟩,trivial⟩ trivial ⟨⟨okm48,call48⟩,trivial⟩
theorem AWH(d:Desk)(asked:List Asked)(day:Int):X2 ANb 181 (V0 ANb cs16 f16.results.toList) (N9 7 c16) AMJ KNp (fun r=>some (.inr r)) ⟨[(0,.str 4 d),(1,.dat (.sl (.st 5)) asked),(2,.int .i64 day)],[],[],[]⟩=X9 d asked day:=by kernel_rfl
theorem AUH(l:List Letter):exec AJU 181 (V0 AJU cs16 f16.results.toList) AUF ALD (V0 AJU cs16 f16.results.toList) (fun _ _=>none) some ⟨[(23,.own 23)],[(23,.own false (.sl 70 (.st 6)) l)],[],[]⟩=M5 l:=by kernel_rfl
def C3(d:Desk)(asked:List Asked)(day:Int):Option (List Letter×Int):=(X9 d asked day).bind fun z=>Sum.elim (fun q=>(C7 q.1 q.2.2.2).bind fun ys=>(ABT (AGr q.1 q.2.1 q.2.2.1) fnone ys).bind fun f=>AAP f fun xs=>(List.foldlM AEb [] xs).bind M5) (fun r=>some r) z
def ctr16:Ctr:=⟨[.d (.st 4),.d (.sl (.st 5)),.d (.int .i64)],cs16,fun a=>C3 a.1 a.2.1 a.2.2.1⟩
theorem ok16:Ctr.ok prog 16 ctr16:=by
 refine⟨by decide,fun M w a vals r hM hg ha I=>?_⟩;obtain⟨d,asked,day,_⟩:=a;obtain⟨vd,_,rfl,O,va,_,rfl,Q,vk,_,rfl,K,rfl⟩:=ha;have O:OkD (P:=prog) M w (.st 4) d vd:=O;have Q:OkD (P:=prog) M w (.sl (.st 5)) asked va:=Q;have K:OkD (P:=prog) M w (.int .i64) day vk:=K;have I:C3 d asked day=some r:=I;unfold C3 at I;obtain⟨z,hz,I⟩:=R0 I;have h0:Holds (P:=prog) w [] M ⟨[(0,.str 4 d),(1,.dat (.sl (.st 5)) asked),(2,.int .i64 day)],[],[],[]⟩ [(0,vd),(1,va),(2,vk)] w:=by
  refine Holds.start hM (fun t s H=>?_) ⟨trivial,hg⟩;rw[fnd_cons]at H;split at H
  . rename_i e;subst e;cases H;exact⟨vd,rfl,O⟩
  rw[fnd_cons]at H;split at H
  . rename_i e;subst e;cases H;exact⟨va,rfl,rfl,Q⟩
  rw[fnd_cons]at H;split at H
  . rename_i e;subst e;cases H;exact⟨vk,rfl,E1 (.int .i64) K⟩
  . cases H
 refine ABZ (l:=[vd,va,vk]) (fn:=f16) func16 rfl rfl rfl ?_;refine ACq (P:=prog) (pr:=V0 ANb cs16 f16.results.toList) AML 7 c16 AMJ (by decide) ((AWH d asked day).trans hz) h0 (fun σ' L' w1 hK hE hH=>?_) (fun r' σ' L' w' hp hk hH=>?_);rotate_left
 . have hk:Sum.inr r'=z:=AXz hk;subst hk;have I:some r'=some r:=I;cases I
   exact FinM.of (AK2 AML (by decide) hp hH)
 clear hE h0;obtain⟨S,ρ,γ,μ,ι,J⟩:=hH;obtain⟨c8,s4,s13,x,al,l,k,g4,g8,g13,g2,r4,r8,r13,t8,t4,t13,rfl⟩:∃c8 s4 s13 x al l k,A1 σ'.env 4=some (.ptr 4 0)/\A1 σ'.env 8=some (.ptr 8 0)/\A1 σ'.env 13=some (.ptr 13 0)/\A1 σ'.env 2=some (.int .i64 k)/\A1 σ'.res 4=some (.row 29 [s4])/\A1 σ'.res 8=some (.row 99 c8)/\A1 σ'.res 13=some (.row 24 [s13])/\B9 (A1 σ'.res) (.st 10) (.agg c8)=some x/\B9 (A1 σ'.res) (.sl (.st 5)) s4=some al/\B9 (A1 σ'.res) (.sl (.st 1)) s13=some l/\z=.inl (x,al,l,k):=by
  unfold KNp at hK;split at hK
  . rename_i k s4 c8 s13 q1 q2 q3 q4 q5 q6 q7;split at hK
    . rename_i x a l q8 q9 q10;exact⟨c8,s4,s13,x,a,l,k,q1,q2,q3,q4,q5,q6,q7,q8,q9,q10,(AXz hK).symm⟩
    . cases hK
  . cases hK
 have I:((C7 x k).bind fun ys=>(ABT (AGr x al l) fnone ys).bind fun f=>AAP f fun xs=>(List.foldlM AEb [] xs).bind M5)=some r:=I;obtain⟨ys,G,I⟩:=R0 I;obtain⟨f,hf,I⟩:=R0 I;obtain⟨hok,R⟩:(∀y∈ys,ADK [.st 2,.st 12] y)/\AFL x k x.desk.disputes=some ys:=by
  unfold C7 at G;obtain⟨ys',h1,B⟩:=R0 G;split at B
  . rename_i h3;cases B;exact⟨h3,h1⟩
  . cases B
 obtain⟨v4,l4,b4,g,rfl⟩:=J.env 4 (.ptr 4 0) g4;obtain⟨v8,l8,b8,L,rfl⟩:=J.env 8 (.ptr 8 0) g8;obtain⟨v13,l13,b13,E,rfl⟩:=J.env 13 (.ptr 13 0) g13;obtain⟨v2,l2,rfl,hkk⟩:=J.env 2 (.int .i64 k) g2;obtain⟨b4',e4,row4,o4,i4⟩:=J.rowAt r4;obtain⟨b8',e8,row8,o8,i8⟩:=J.rowAt r8;obtain⟨b13',e13,row13,o13,i13⟩:=J.rowAt r13;rw[g]at e4;cases e4;rw[L]at e8;cases e8;rw[E]at e13;cases e13;have memM:∀b∈M,b∈mm S M:=fun b m=>mem_mm.2 (.inr m);have one:∀{s:SV} {vs:List Value} {t:Ty} {y:List (den t)},OkL (P:=prog) ρ (A1 σ'.res) (mm S M) w1 [s] vs->B9 (A1 σ'.res) (.sl t) s=some y->∃u,vs=[u]/\OkD (P:=prog) M w1 (.sl t) y u/\u.cells=toArray vs:=fun {s vs t y} h H=>by
  obtain⟨u,c,q,rfl,hu,hc,hq⟩:=h;have hq:q=[]:=hq;subst hq;have hd:=I5 (M:=mm S M) memM (.sl t) s (J.rdsM _) H hu;obtain⟨sa,n,hsl,_⟩:=(OkD.rds hd).shape;have:c=[u]:=by
   subst hsl;exact(AX9 Array.toList hc).symm
  subst this;exact⟨u,rfl,hd,hc⟩
 have d8:Ok (P:=prog) (fun _=>undef) (fun _=>none) M w1 (.rp (.str 10 x) 0) (.pointer (some ⟨b8,0,none⟩)):=⟨b8,0,.agg (toArray (γ 8)),γ 8,rfl,H9 (J.hp.sepM _ (AX1 i8) b8 (mem_singleton.2 rfl)) row8,I5 (M:=mm S M) memM (.st 10) (.agg c8) (J.rdsM _) t8 ⟨γ 8,rfl,o8⟩,rfl⟩;obtain⟨u4,eu4,du4,cu4⟩:=one o4 t4;obtain⟨u13,eu13,du13,cu13⟩:=one o13 t13;have d4:Ok (P:=prog) (fun _=>undef) (fun _=>none) M w1 (.rp (.dat (.sl (.st 5)) al) 0) (.pointer (some ⟨b4,0,none⟩)):=⟨b4,0,u4,γ 4,rfl,H9 (J.hp.sepM _ (AX1 i4) b4 (mem_singleton.2 rfl)) row4,⟨rfl,du4⟩,cu4⟩;have d13:Ok (P:=prog) (fun _=>undef) (fun _=>none) M w1 (.rp (.dat (.sl (.st 1)) l) 0) (.pointer (some ⟨b13,0,none⟩)):=⟨b13,0,u13,γ 13,rfl,H9 (J.hp.sepM _ (AX1 i13) b13 (mem_singleton.2 rfl)) row13,⟨rfl,du13⟩,cu13⟩;have hI1:Hp w [] M [] w1:=J.hp.sel [] rfl;have X:GlOk (P:=prog) M w1:=J.anch.2.adv (Adv.drop memM);clear one hK J g4 g8 g13 g2 r4 r8 r13 t8 t4 t13 row4 row8 row13 o4 o8 o13 i4 i8 i13 g L E eu4 eu13 cu4 cu13;refine A6 ?_;refine A8 ?_;refine AQU K116 (B1 .i64) false hI1 rfl ?_;intro bd w2 hI2 x2;refine ACQ hI2 zeroValue106 rfl rfl ?_;intro b14 w3 hI3 x3;refine ABF 0 (vs:=[.map (some bd)]) hI3 rfl rfl rfl rfl sizeOf106 rfl rfl (D3 rfl ACL) ?_;intro w4 C x4;have C:Hp w [] M (rowR 106 b14 [.map (some bd)]::MP bd fnone) w4:=C;refine Reg.nil ?_;have h14:RdC (bd::M) w4 b14 0 [.map (some bd)]:=C.freezeRow 0 rfl;have V:Hp w [] M (MP bd fnone) w4:=C.erase 0;have U:Adv M (bd::M) w1 w4:=x2.trans (x3.trans (x4.trans (G5 (σ:=rowR 106 b14 [.map (some bd)]::MP bd fnone) 0)));have hD5:D16 (bd::M) w4 x al l (.pointer (some ⟨b8,0,none⟩)) (.pointer (some ⟨b4,0,none⟩)) (.pointer (some ⟨b13,0,none⟩)) b14 bd:=⟨X.adv U,Ok.adv U _ d8,Ok.adv U _ d4,Ok.adv U _ d13,h14⟩;have hx8:=hD5.h8;obtain⟨b8',o8,u8,vs8,hp8,c8',hu8,hc8⟩:=hx8;obtain⟨cs8,o,N⟩:=hu8;obtain rfl:u8=.agg (toArray cs8):=N.elim (fun h=>h.2) fun h=>by cases h.1
 obtain rfl:cs8=vs8:=AX9 Array.toList hc8;cases hp8
 refine A6 ?_;refine A6 ?_;refine A8 ?_;refine AAs l8 c8'.cells isAgg99 ((enc (P:=prog) (.st 10)).len o) sizeOf99 rfl ?_;refine J3 l2 rfl ?_;refine X6 rfl call45 rfl ?_;refine(C45 V.mlt ⟨cs8,o,.inl ⟨rfl,rfl⟩⟩ hkk).mono ?_;rintro _ w5 ⟨p1,p2,rfl,hp1,hp2,x5⟩;refine⟨_,rfl,?_⟩;refine Reg.nil ?_;refine H4 ?_;have A:Adv (bd::M) (bd::M) w4 w5:=Adv.of_ext x5;refine ASI (w:=w) (wl:=w5) (f:=fnone) (f':=f) (AYH (V.mlt bd (AX4 ..)) x5.size) (V.ext x5) (hD5.adv A) hp1 hp2 l4 l8 l13 rfl rfl R hok hf fun D W hDw p hA7 Z=>?_;refine A6 ?_;refine A8 ?_;refine G7 rfl rfl ?_;refine Reg.nil ?_;have F:w.heap.size<=D:=AYG (AYG V.kp.size x5.size) hDw;have hDk:Dok D M W:=⟨fun hm=>by have:=hM D hm;omega,Z⟩;have h14W:RdC M W b14 0 [.map (some bd)]:=(h14.adv (A.trans hA7)).adv (Adv.drop fun b m=>AX0 _ m);have hm:=p.freezeM 0 rfl;have hI8:Hp w [] M [ownR [] LetterE 70 (.slice none 0 0) []] W:=(p.erase 0).addNil LetterE 70;have hg8:GlOk (P:=prog) M W:=(X.adv (U.trans (A.trans hA7))).adv (Adv.drop fun b m=>AX0 _ m);refine A6 ?_;refine AUG (f:=f) hI8 hm h14W hDk I rfl rfl fun L9 W9 v9 ls hls T l23 hA9 v=>?_;letI:Anch:=AHV D
 have hst:Holds (P:=prog) w [] M ⟨[(23,.own 23)],[(23,.own false (.sl 70 (.st 6)) ls)],[],[]⟩ L9 W9:=by
  refine⟨[ownR [] LetterE 70 v9 ls],fun _=>v9,fun _=>[],fun _=>[],fun _=>0,T,fun i a hi=>?_,fun i j a b hi hj _=>?_,fun i a hi=>?_,fun t s H=>?_,v,hg8.adv hA9⟩
  . rw[fnd_cons]at hi;split at hi
    . rename_i e;subst e;cases hi;rfl
    . cases hi
  . rw[fnd_cons]at hi hj;split at hi<;>split at hj
    . rename_i e1 e2;rw[<-e1,<-e2]
    . cases hj
    . cases hi
    . cases hi
  . rw[fnd_cons]at hi;split at hi
    . rename_i e;subst e;cases hi;trivial
    . cases hi
  . rw[fnd_cons]at H;split at H
    . rename_i e;subst e;cases H;exact⟨v9,l23,rfl,Own.cells1 (T.ownAt 0 rfl),Own.oneC (T.ownAt 0 rfl)⟩
    . cases H
 exact Y1 (n:=3) (ACk (I0 AGs AUF ALD _ _ _ _ _ _ _ _ _ _ _ _ _ ((AUH ls).trans hls) hst (fun σ2 L2 w2 B _ _ Y=>AFu (fun h=>h) AGs (by decide) rfl F B Y) (fun i σ2 L2 w2 B=>by cases B) (fun r' σ2 L2 w2 hp hk _ Y=>by
  have hk:r'=r:=AXz hk;subst hk;exact AFu (fun h=>h) AGs (by decide) rfl F hp Y) PZ.no))
def H8(d:Desk)(day:Int):Option ((List Report)×Int):=(F4 d day).bind fun (r1,r2)=>cond ((!decide (r2=0))) (some (([]:List Report),r2)) ((F3 r1 day).bind fun (r3,r4)=>some (r3,r4))
def AXZ:An:=.x
def ctr14:Ctr:=⟨[.d (.st 4),.d (.int .i64)],[.own (.sl 45 (.st 1)),.d (.int .i64)],fun a=>H8 a.1 a.2.1⟩
theorem ok14:Ctr.ok prog 14 ctr14:=B3 (G:={ gxb with fs:=[(40,ctr40),(41,ctr41)] }) (an:=AXZ) (B4 ⟨⟨ok40,call40⟩,⟨ok41,call41⟩,trivial⟩) func14 rfl rfl rfl rfl (fun a=>by kernel_rfl)
def D0:Desk:=Desk.mk (Terms.mk 30 100 60) ([(Report.mk 1 70 5 12 10 3 500 0),(Report.mk 2 70 5 22 20 5 40 0),(Report.mk 3 70 5 26 25 6 500 0)]) ([(Dispute.mk 51 1 40),(Dispute.mk 52 2 41),(Dispute.mk 53 3 42)]) ([(Answer.mk 1 51 50 2 10 450),(Answer.mk 2 52 72 3 0 0),(Answer.mk 3 53 60 1 0 0),(Answer.mk 4 53 61 3 0 0)])
def A0:List Asked:=[(Asked.mk 5 900 5 15),(Asked.mk 6 900 5 45),(Asked.mk 7 901 5 55),(Asked.mk 8 902 6 45)]
def l33:List Report:=D0.reports++[Report.mk 51 70 5 50 10 8 450 1,Report.mk 52 70 5 72 0 9 0 2]
def ALG:Prop:=∃l x due,H8 D0 72=some (l,0)/\C3 D0 A0 72=some (x,0)/\J8 D0 45=some (due,0)/\X5 51 49 1 50=some true/\X5 52 72 5 72=some true/\X5 53 90 2 60=some true/\M4 3 160 2=some true/\M4 3 161 0=some true/\M4 3 50 1=some true /\
 Q7 l l33=some true/\Q8 x [Letter.mk 51 900 5,Letter.mk 52 900 6,Letter.mk 52 901 7]=some true/\X3 due [51,52,53]=some true
open Classical in
def R7:Option Bool:=if ALG then some true else none
def ctr21:Ctr:=⟨[],[.d .bool],fun _=>R7⟩
variable{M:List Nat}{w:World}{w0:World}{L:A7}{σ:AS}
theorem AMM:GxOk prog gxb:=B4 trivial
theorem C33(D:MLt M w)(C:GlOk (P:=prog) M w):Calls prog 33 #[] w fun e w'=>∃vr vx va,e=.returned (.agg (toArray [.int .i64 30,.int .i64 100,.int .i64 60,vr,vx,va]))/\Sx.Own (enc (P:=prog) (.st 1)) 45 0 (ob vr++M) w' vr D0.reports/\(∀b∈ob vr,w.heap.size<=b)/\Ext w w':=by
 have O:Holds (P:=prog) w [] M ⟨[],[],[],[]⟩ (P6 0 []) w:=Holds.start D (fun t s W=>by cases W) ⟨trivial,C⟩;refine ABZ (l:=[]) (fn:=f33) func33 rfl rfl rfl ?_;refine A6 ?_;refine AAp AMM (by exact rfl) O fun L1 w1 F V=>?_;refine A6 ?_;refine AAp AMM (by exact rfl) V fun L2 w2 E U=>?_;have K:=AEW (env':=[(0,.ptr 0 0)]) (res':=[(14,.own false (.sl 60 (.st 3)) D0.answers),(9,.own false (.sl 53 (.st 2)) D0.disputes),(5,.own false (.sl 45 (.st 1)) D0.reports),(0,.row 28 [.int .i64 30,.int .i64 100,.int .i64 60,.own 5,.own 9,.own 14])]) U ⟨rfl,trivial⟩ fun _=>rfl;clear V U;obtain⟨S,ρ,γ,μ,ι,H⟩:=K;obtain⟨v0,l0,bb0,I,rfl⟩:=H.env 0 (.ptr 0 0) rfl;obtain⟨b0,e0,r0,o0,i0⟩:=H.rowAt (i:=0) (e:=28) (l:=[.int .i64 30,.int .i64 100,.int .i64 60,.own 5,.own 9,.own 14]) rfl;rw[I]at e0;cases e0;obtain⟨qa,g4,k0,oa⟩:=AAI o0;obtain⟨qb,ea,k1,ob⟩:=AAI oa;obtain⟨qc,eb,k2,oc⟩:=AAI ob;obtain⟨qd,ec,od⟩:=ACK oc;obtain⟨qe,ed,oe⟩:=ACK od;obtain⟨qf,ee,of⟩:=ACK oe;have of:qf=[]:=of;rw[of]at ee;rw[ee]at ed;rw[ed]at ec;rw[ec]at eb;rw[eb]at ea;rw[ea]at g4;rw[g4]at r0;have i5:=H.res 5 (.own false (.sl 45 (.st 1)) D0.reports) rfl;refine K6 ?_;have J:=AG9 (P:=prog) (c:=.sl 45 (.st 1)) (x:=D0.reports) (v:=ρ 5) H.hp (ι 5) i5;exact FinM.of (N8 (rs:=[.cell 0 28]) (vs:=[_]) rfl (.cons (.agg l0 r0.rd.cells isAgg28 rfl sizeOf28) .nil) rfl ⟨ρ 5,ρ 9,ρ 14,rfl,J.1,J.2,H.hp.kp⟩)
def ALH:Gx:={ gxb with fs:=[(14,ctr14),(16,ctr16),(18,ctr18),(19,ctr19),(24,ctr24),(31,ctr31),(32,ctr32),(33,ctr33),(37,ctr37),(54,ctr54)] }
theorem J2:GxOk prog ALH:=B4 ⟨⟨ok14,call14⟩,⟨ok16,call16⟩,⟨ok18,call18⟩,⟨ok19,call19⟩,⟨ok24,call24⟩,⟨ok31,call31⟩,⟨ok32,call32⟩,⟨ok33,call33⟩,⟨ok37,call37⟩,⟨ok54,call54⟩,trivial⟩
def ANc:Code->Nat->List Oper
 |.region _ o _,0=>o.toList
 |.seq a _,0=>ANc a 0
 |.seq _ b,n+1=>ANc b n
 |_,_=>[]
noncomputable def c21:Code:=match Tryz.f21.body with
 |some c=>c
 |none=>.skip
def o21:List Oper:=ANc c21 4
theorem I4[Trk][Sg][Sf]{P:Program}[Se P][Sl (P:=P)][Anch]{Mu M:List Nat}{G:Gx}{N:Nat}{ds:List Deferred}{A B:A3}{X:Nat->A3}{Z:List PanicEntry->A3}{all l:List Oper}{σ σ':AS}{Y:Type}{o:Option Y}{x:Y}{K:Y->Option AS}(J:GxOk P G)(n:Nat)(I:Holds (P:=P) w0 Mu M σ L w)(H:o=some x)(h:C6 G N all some (l.take n) σ=Option.bind o K)(hk:K x=some σ')(hA:∀L' w',EnvS (C1 (l.take n)) L L'->Holds (P:=P) w0 Mu M σ' L' w'->Reg P N (toArray all) .seq (l.drop n) ds L' w' A B X Z):Reg P N (toArray all) .seq l ds L w A B X Z:=by
 have:=Holds.ops (P:=P) (A:=A) (B:=B) (X:=X) (Z:=Z) (ds:=ds) (l:=l.take n) (rest:=l.drop n) J (by rw[h,H];exact hk) I hA;rwa [List.take_append_drop]at this
def r33:List Report:=[Report.mk 51 70 5 50 10 8 450 1,Report.mk 52 70 5 72 0 9 0 2]
def s33(σ:AS)(l:List Report):AS:=apps (some 50) ([.del 49 (.dat (.sl (.st 1)) r33)]++[.hnd 46 (.own false (.sl 45 (.st 1)) l),.put (.own 46)]) { σ with env:=(43,.bool true)::σ.env }
theorem AWI(_:Holds (P:=prog) w0 [] M σ L w)(e:C6 ALH Tryz.f21.ntmps o21 some (List.take 1 (List.drop 27 o21)) σ=AEA ALH 50 (A1 σ.res) (fun l=>some (apps (some 50) l { σ with env:=(43,.bool true)::σ.env })) .append [.own 46,.own 49] [24,24])(e2:AEA ALH 50 (A1 σ.res) (fun l=>some (apps (some 50) l { σ with env:=(43,.bool true)::σ.env })) .append [.own 46,.own 49] [24,24]=AMi 50 (A1 σ.res) (fun l=>some (apps (some 50) l { σ with env:=(43,.bool true)::σ.env })) 45 (.st 1) 64 [.del 49 (.dat (.sl (.st 1)) r33)] [49] r33 (.own 46))(e3:A1 σ.res 46=some (AR.own false (.sl 45 (.st 1)) D0.reports)):
  C6 ALH Tryz.f21.ntmps o21 some (List.take 1 (List.drop 27 o21)) σ=(appo 64 D0.reports r33).bind fun l=>some (s33 σ l):=by
 rw[e,e2]
 unfold AMi
 dsimp only
 rw[e3]
 kernel_rfl
theorem ALX[Trk][Sg][Sf]{P:Program}[Se P][Anch]{w0 w:World}{Mu M:List Nat}{L:A7}{σ:AS}{env':List (Nat×SV)}{res':List (Nat×AR)}(h:Holds (P:=P) w0 Mu M σ L w)(hE:AllE σ.env env')(hr:σ.res=res'):Holds (P:=P) w0 Mu M ⟨env',res',[],[]⟩ L w:=AEW h hE fun j=>by rw[hr]
theorem ok21:Ctr.ok prog 21 ctr21:=by
 refine⟨by decide,fun M w a vals r hM hg Y I=>?_⟩;have Y:vals=[]:=Y;subst Y;have I:R7=some r:=I;unfold R7 at I;by_cases hA:ALG;rotate_left
 . rw[if_neg hA]at I;cases I
 rw[AYB hA]at I;cases I
 obtain⟨l,x,due,a1,a2,a3,b1,b2,b3,b4,b5,b6,e1,e2,e3⟩:=hA;have h0:Holds (P:=prog) w [] M ⟨[],[],[],[]⟩ (P6 0 []) w:=Holds.start hM (fun t s T=>by cases T) ⟨trivial,hg⟩;refine ABZ (l:=[]) (fn:=Tryz.f21) func21 rfl rfl rfl ?_;refine A6 ?_;refine AAp J2 (by exact rfl) h0 fun L1 w1 hE1 h1=>?_;refine A6 ?_;refine AA6 J2 h1 a1 (by exact rfl) (by exact rfl) fun L2 w2 hE2 h2=>?_;refine A6 ?_;refine AA6 J2 h2 a2 (by exact rfl) (by exact rfl) fun L3 w3 hE3 h3=>?_;refine A6 ?_;refine AA6 J2 h3 a3 (by exact rfl) (by exact rfl) fun L4 w4 hE4 h4=>?_;refine A6 ?_;refine A8 ?_;show Reg prog _ (toArray o21) .seq o21 _ _ _ _ _ _ _;refine I4 J2 2 h4 b1 (by exact rfl) (by exact rfl) fun L5 w5 hE5 h5=>?_;refine I4 J2 3 h5 b2 (by exact rfl) (by exact rfl) fun L6 w6 hE6 z=>?_;refine I4 J2 3 z b3 (by exact rfl) (by exact rfl) fun L7 w7 hE7 y=>?_;refine I4 J2 3 y b4 (by exact rfl) (by exact rfl) fun L8 w8 hE8 u=>?_;refine I4 J2 3 u b5 (by exact rfl) (by exact rfl) fun L9 w9 hE9 q=>?_;refine I4 J2 3 q b6 (by exact rfl) (by exact rfl) fun L10 w10 p Q=>?_;refine I4 J2 5 Q (o:=some ()) (x:=()) (K:=fun _=>_) rfl (by exact rfl) (by exact rfl) fun L11 w11 n O=>?_;have H:=O.slotB (t:=43) (b:=true) rfl;obtain⟨S,ρ,γ,μ,ι,A⟩:=O;refine Reg.take (j:=20) (t:=43) rfl H ?_;refine X6 (xs:=[]) (vs:=[]) rfl call33 rfl ?_;refine(C33 (M:=mm S M) A.hp.mlt A.anch.2).mono fun e w12 h=>?_;obtain⟨vr,vx,va,rfl,U,V,W⟩:=h;refine⟨_,rfl,?_⟩;refine Reg.take (j:=20) (t:=43) rfl H ?_;refine ASV (cs:=[.int .i64 30,.int .i64 100,.int .i64 60,vr,vx,va]) rfl underlying28 rfl isAgg24 rfl rfl ?_;obtain⟨q1,q2⟩:=AH7 (d:=none) A W (i:=46) (c:=.sl 45 (.st 1)) (x:=D0.reports) (v:=vr) ⟨trivial,U,V⟩;have F:Holds (P:=prog) w [] M _ _ w12:=⟨_,_,_,_,_,q1.put (d:=46) (s:=.own 46) (v:=vr) (q2 _)⟩;have E:=F.toL (L2:=(46,vr)::(45,.agg (toArray [.int .i64 30,.int .i64 100,.int .i64 60,vr,vx,va]))::L11) (fun t s T=>by
  have n45:¬45=t:=fun e=>by
   subst e;cases (show none=some s from T)
  by_cases e46:46=t
  . rw[look_cons,AYB e46,look_cons,AYB e46]
  . rw[look_cons,if_neg e46,look_cons,if_neg n45,look_cons,if_neg e46])
 have C:appo 64 D0.reports r33=some l33:=ACF (by decide) (by decide);refine I4 J2 3 E (o:=some ()) (x:=()) (K:=fun _=>_) rfl (by exact rfl) (by exact rfl) fun L13 w13 m J=>?_;refine I4 J2 1 J C (AWI J (by exact rfl) (by exact rfl) (by exact rfl)) rfl fun L14 w14 k D=>?_;have R:=ALX (env':=[(43,.bool true),(44,.own 9),(50,.own 46),(3,.own 15),(4,.int .i64 0),(5,.own 20),(6,.int .i64 0)]) (res':=[(46,.own false (.sl 45 (.st 1)) l33),(20,.own false (.sl 3 (.int .i64)) due),(15,.own false (.sl 70 (.st 6)) x),(9,.own false (.sl 45 (.st 1)) l)]) D ⟨by kernel_rfl,by kernel_rfl,by kernel_rfl,by kernel_rfl,by kernel_rfl,by kernel_rfl,by kernel_rfl,trivial⟩ (by kernel_rfl);clear h1 h2 h3 h4 h5 z y u q Q F E J D q1 q2;refine I4 J2 1 R e1 (by exact rfl) (by exact rfl) fun L17 w17 g Z=>?_;refine I4 J2 12 Z e2 (by exact rfl) (by exact rfl) fun L18 w18 f X=>?_;refine I4 J2 9 X e3 (by exact rfl) (by exact rfl) fun L19 w19 L G=>?_;refine I4 J2 2 G (o:=some ()) (x:=()) (K:=fun _=>_) rfl (by exact rfl) (by exact rfl) fun L20 w20 N B=>?_;refine Reg.nil ?_;refine K6 ?_;exact FinM.of (AK2 J2 (cs:=[.d .bool]) rfl (by exact rfl) B)
end Go.Proofs.YtgioiejbphljoaaGreatDoor
namespace Go.Proofs.YtgioiejbphljoaaGreatDoor
open Go Go.Sx Go.Rx
namespace S
def ACs(d:Desk)(day:Int):List (Dispute×Verdict):=(d.disputes.filter fun x=>decide (3<=wh d x day)).map fun x=>(x,dec d x)
variable{d:Desk}{day:Int}{x:Int}{D:Desk_99}{v:Verdict}
theorem decd_mem{y:Dispute×Verdict}:y∈ACs d day↔y.1∈d.disputes/\3<=wh d y.1 day/\y.2=dec d y.1:=by
 unfold ACs;rw[AZL];constructor
 . rintro⟨x,hx,rfl⟩;obtain⟨I,H⟩:=List.mem_filter.1 hx;exact⟨I,AX6 H,rfl⟩
 . rintro⟨I,H,J⟩;exact⟨y.1,List.mem_filter.2 ⟨I,AYA H⟩,by rw[<-J]⟩
theorem T6(h:-1000000000000000<=x/\x<=1000000000000000):InK .i64 x:=InK.i64.2 (by omega)
theorem AQ1(h:0<=x/\x<=255):InK .u8 x:=InK.u8.2 (by omega)
theorem AUJ(hv:Vd d){a:Answer}(J:a∈d.answers):(0<=a.id/\a.id<=999999)/\(0<=a.dispute/\a.dispute<=999999)/\(0<=a.day/\a.day<=100000)/\(1<=a.says/\a.says<=3)/\(0<=a.about/\a.about<=100000)/\(0<=a.cents/\a.cents<=1000000000000):=by
 obtain⟨v1,v2,v3,x,H,v4,v5,v6⟩:=hv.a.v a J;obtain⟨x1,_,f,I,_⟩:=hv.x.v x H;have hm:most f.kind<=1000000000000:=by unfold most;split<;>(try split)<;>omega
 refine⟨v1,by rw[<-v4];exact x1,v2,v3,?_⟩;by_cases e:a.says=2
 . have:=v6 e f I;omega
 . have:=v5 e;omega
theorem AQ2(hv:Vd d)(x:Dispute):(0<=(dec d x).by_.id/\(dec d x).by_.id<=999999)/\(0<=(dec d x).by_.dispute/\(dec d x).by_.dispute<=999999)/\(0<=(dec d x).by_.day/\(dec d x).by_.day<=100000)/\(0<=(dec d x).by_.says/\(dec d x).by_.says<=3)/\(0<=(dec d x).by_.about/\(dec d x).by_.about<=100000)/\(0<=(dec d x).by_.cents/\(dec d x).by_.cents<=1000000000000):=by
 by_cases c:(dec d x).is_=5
 . have e:(dec d x).by_=zeroA:=by rw[((AHj hv x).is5 c).1]
   rw[e];unfold zeroA;dsimp only;omega
 . have:=AUJ hv (List.mem_filter.1 ((AHj hv x).by_ c).2.1).1;omega
theorem AI5(hD:Dw d D)(hv:Vd d):C7 D day=some (ACs d day):=by
 have key:∀l:List Dispute,(∀x∈l,x∈d.disputes)->AFL D day l=some ((l.filter fun x=>decide (3<=wh d x day)).map fun x=>(x,dec d x)):=by
  intro l;induction l with
  |nil=>intro _;rfl
  |cons x l ih=>
   intro h
   unfold AFL
   rw[AFr hD hv (h x (AX4 ..)),bindS,ih (fun y hy=>h y (AX0 _ hy)),bindS]
   congr 1
   rw[AYv]
   by_cases c:3<=wh d x day
   . rw[AYB (show decide (3<=wh d x day)=true from AYA c),AYM]
     exact AYB c
   . rw[if_neg (show ¬decide (3<=wh d x day)=true from fun h=>c (AX6 h))]
     exact if_neg c
 unfold C7;rw[hD.d,key _ fun _ h=>h,bindS];refine AYB fun y hy=>?_;obtain⟨U,K,C⟩:=decd_mem.1 hy;obtain⟨x1,x2,f,V,x3,x4⟩:=hv.x.v _ U;have I:=ABO V;have H:=hv.r.v f I.1;have E:=hv.t.1;have hk:=AQC hv y.1;have W:=AFN hv U;have F:=AQ2 hv y.1;have J:0<=y.1.report/\y.1.report<=999999:=by rw[<-I.2.1];exact H.2.1
 have hmade:=H.2.2.2.2.2.1;have e:ADK [.st 2,.st 12] y↔(InK .i64 y.1.id/\InK .i64 y.1.report/\InK .i64 y.1.day)/\(InK .i64 y.2.day/\InK .u8 y.2.is_/\InK .i64 y.2.by_.id/\InK .i64 y.2.by_.dispute/\InK .i64 y.2.by_.day/\InK .u8 y.2.by_.says/\InK .i64 y.2.by_.about/\InK .i64 y.2.by_.cents):=AZy;rw[e,C];exact⟨⟨T6 (by omega),T6 (by omega),T6 (by omega)⟩,T6 (by omega),AQ1 (by omega),T6 (by omega),T6 (by omega),T6 (by omega),AQ1 (by omega),T6 (by omega),T6 (by omega)⟩
def AEc:Report:=Report.mk 0 0 0 0 0 0 0 0
def AEd(d:Desk)(x:Dispute)(v:Verdict):Report:=
 let f:=(fct d.reports x.report).getD AEc
 if v.is_=3 then Report.mk x.id f.source f.account v.day v.by_.about 8 v.by_.cents f.id else Report.mk x.id f.source f.account v.day 0 9 0 f.id
theorem ASJ(hD:Dw d D){x:Dispute}{l:List Report}(hl:l.length<=1000000):V3 D x v l=some (l++[AEd d x v]):=by
 unfold V3 AEd;rw[hD.f,hD.d];by_cases c:v.is_=3
 . rw[AYA c,condT,bindS,AYB c];exact Ret.eq (Ret.bind (Ret.appo (by simp only[List.length_singleton];omega) (by simp only[List.length_singleton];omega) (Ret.ok rfl)))
 . rw[AX8 c,condF,bindS,if_neg c];exact Ret.eq (Ret.bind (Ret.appo (by simp only[List.length_singleton];omega) (by simp only[List.length_singleton];omega) (Ret.ok rfl)))
def ABw(d:Desk)(day:Int):List Report:=(ACs d day).map fun y=>AEd d y.1 y.2
theorem ALI{x:Dispute}:(AEd d x v).id=x.id:=by unfold AEd;split<;>rfl
theorem AGt:(ACs d day).length<=d.disputes.length:=by
 unfold ACs;rw[AYZ];exact AY9 ..
theorem AIR(hv:Vd d):((ABw d day).map (·.id)).Nodup:=by
 unfold ABw ACs;rw[AYe,AYe];rw[show(((fun r:Report=>r.id) ∘ fun y:Dispute×Verdict=>AEd d y.1 y.2) ∘ fun x=>(x,dec d x))=fun x:Dispute=>x.id from funext fun x=>ALI];exact(AZU _ AYm).nodup hv.x.nd
def AFP(d:Desk)(day:Int)(r:List Report×Int):Prop:=(60<d.reports.length+(ABw d day).length/\r=([],9))\/(d.reports.length+(ABw d day).length<=60/\∃m:List Report,m.Perm (ABw d day)/\m.Pairwise (le2 (·.made) (·.id))/\r=(d.reports++m,0))
theorem AQK{a b:List Report}(C:a.length<=100000)(W:b.length<=100000):T4 [a,b]=some (a++b):=by
 refine Ret.eq ?_;unfold T4;refine Ret.bind (C2 2 (fun n (t:Int×Int)=>t.1=n/\(n=0->t.2=0)/\(n=1->t.2=a.length)/\(n=2->t.2=a.length+b.length)) ⟨rfl,fun _=>rfl,fun h=>by omega,fun h=>by omega⟩ ?_ ?_)
 . rintro n U ⟨_,s⟩ ⟨rfl,J,I,H⟩;have:n=0\/n=1:=by omega
   rcases this with rfl|rfl
   . have:s=0:=J rfl;subst this;exact Ret.condT rfl (Ret.bind (Ret.val (show ixo [a,b] 0=some a from rfl) (Ret.bind (Ret.chk (by omega) (Ret.condF (AX8 (by omega)) (Ret.bind (Ret.chk (by decide) (Ret.next ⟨rfl,fun h=>by omega,fun _=>by dsimp only;omega,fun h=>by omega⟩))))))))
   . have:s=a.length:=I rfl;subst this;exact Ret.condT rfl (Ret.bind (Ret.val (show ixo [a,b] 1=some b from rfl) (Ret.bind (Ret.chk (by omega) (Ret.condF (AX8 (by omega)) (Ret.bind (Ret.chk (by decide) (Ret.next ⟨rfl,fun h=>by omega,fun h=>by omega,fun _=>rfl⟩))))))))
 rintro⟨_,s⟩ ⟨rfl,J,I,H⟩;have:s=a.length+b.length:=H rfl;subst this;have V:N3 () ((a.length:Int)+b.length)=some []:=by
  unfold N3;exact AYB ⟨by omega,by omega⟩
 refine Ret.condF rfl (Ret.done ?_);rw[V,bindS];refine Ret.bind (C2 2 (fun n (t:Int×List Report)=>t.1=n/\(n=0->t.2=[])/\(n=1->t.2=a)/\(n=2->t.2=a++b)) ⟨rfl,fun _=>rfl,fun h=>by omega,fun h=>by omega⟩ ?_ ?_)
 . rintro n U ⟨_,s⟩ ⟨rfl,J,I,H⟩;have:n=0\/n=1:=by omega
   rcases this with rfl|rfl
   . have:s=[]:=J rfl;subst this;exact Ret.condT rfl (Ret.bind (Ret.val (show ixo [a,b] 0=some a from rfl) (Ret.bind (Ret.appo (by simp only[List.length_nil];omega) (by simp only[List.length_nil];omega) (Ret.bind (Ret.chk (by decide) (Ret.next ⟨rfl,fun h=>by omega,fun _=>rfl,fun h=>by omega⟩)))))))
   . have:s=a:=I rfl;subst this;exact Ret.condT rfl (Ret.bind (Ret.val (show ixo [s,b] 1=some b from rfl) (Ret.bind (Ret.appo (by omega) (by omega) (Ret.bind (Ret.chk (by decide) (Ret.next ⟨rfl,fun h=>by omega,fun h=>by omega,fun _=>rfl⟩)))))))
 . rintro⟨_,s⟩ ⟨rfl,J,I,H⟩;have:s=a++b:=H rfl;subst this;exact Ret.condF rfl (Ret.done (Ret.ok rfl))
theorem ALJ(hD:Dw d D)(hv:Vd d):Ret (F3 D day) (AFP d day):=by
 have J:=hv.x.len;have W:=hv.r.len;have I:(ABw d day).length<=20:=by
  unfold ABw;rw[AYZ];exact AYG AGt J
 unfold F3;rw[AI5 hD hv,bindS];refine Ret.bind (Ret.over (fun pre (l:List Report)=>l=pre.map fun y=>AEd d y.1 y.2) rfl (fun pre y s U F hy H=>?_) fun s H=>?_)
 . subst H;rw[ASJ hD (by rw[AYZ];have:=AGt (d:=d) (day:=day);omega)];exact Ret.ok (by rw[AYI];rfl)
 . subst H;show Ret (AAZ D (ABw d day)) (AFP d day);unfold AAZ;rw[hD.d];refine Ret.bind (Ret.chk (by omega) (Ret.cond (fun c=>Ret.ok (.inl ⟨?_,rfl⟩)) fun c=>?_))
   . have c:=AX6 c;omega
   have c:=AYD c;have V:=AJS (x:=ABw d day) (cmp:=fun a b=>K1 a b [78,79]) (k1:=(·.made)) (k2:=(·.id)) (fun a b=>AFs (D:=fd160.D) (fun _=>rfl) (fun _=>rfl)) (fun a b E C _ e=>AA7 (AIR hv) a b E C e) (by omega);refine Ret.bind (Ret.bind (V.mono fun m hm=>Ret.ok ?_));have I:=hm.1.length_eq;dsimp only;rw[AQK (a:=d.reports) (b:=m) (by omega) (by omega),bindS];exact Ret.ok (.inr ⟨by omega,m,hm.1,hm.2,rfl⟩)
theorem ALK(hv:Vd d)(hd:0<=day/\day<=100000):Ret (H8 d day) (AFP d day):=by
 obtain⟨D,I,hD⟩:=ABP hv hd;unfold H8;rw[I,bindS];exact Ret.condF (by decide) (Ret.bind ((ALJ hD hv).mono fun r H=>Ret.ok H))
theorem ALL(hv:Vd d){r r':List Report×Int}(h:AFP d day r)(E:AFP d day r'):r=r':=by
 rcases h with⟨D,rfl⟩|⟨D,m,H,C,rfl⟩<;>rcases E with⟨W,rfl⟩|⟨W,m',V,U,rfl⟩
 . rfl
 . omega
 . omega
 . rw[AEa (H.trans V.symm) C U fun a b J I _ e=>AA7 (AIR hv) a b (H.mem_iff.1 J) (H.mem_iff.1 I) e]
end S
namespace S
def stF(l:List Report)(day i:Int):Option Report:=(T (knS l day)).find? fun r=>decide (r.id=i)
theorem AQL{l:List Report}(I:(l.map (·.id)).Nodup){i:Int}{r:Report}:(l.find? fun r=>decide (r.id=i))=some r↔r∈l/\r.id=i:=by
 constructor
 . intro h;exact⟨AZF h,AX6 (AZh (p:=fun r:Report=>decide (r.id=i)) h)⟩
 . rintro⟨h,rfl⟩;cases H:l.find? fun s=>decide (s.id=r.id) with
   |none=>exact absurd (AYA rfl) (List.find?_eq_none.1 H r h)
   |some g=>rw[AA7 I g r (AZF H) h (AX6 (AZh (p:=fun s:Report=>decide (s.id=r.id)) H))]
theorem ASK{l:List Report}(h:VL l){day i:Int}{r:Report}:stF l day i=some r↔r∈T (knS l day)/\r.id=i:=AQL (ANR (AFt h day))
theorem AMO{l:List Report}(h:VL l){day:Int}(hd:0<=day/\day<=100000):T5 l day=some (stF l day):=by
 refine Ret.eq ?_;unfold T5;refine ABh (ANT h hd) fun z W=>?_;obtain⟨out,e⟩:=z;obtain⟨rfl,U,_⟩:=W;have V:=U.length_eq;have C:=ANS (AFt h day);have hnd:(out.map (·.id)).Nodup:=(U.map _).nodup_iff.2 (ANR (AFt h day));refine Ret.bind (C2 out.length (fun n (t:Int×A4 Int Report)=>t.1=n/\∀i r,t.2 i=some r↔r∈out.take n/\r.id=i) ⟨rfl,fun i r=>by simp[fnone]⟩ ?_ ?_)
 . rintro n H ⟨_,m⟩ ⟨rfl,hm⟩;dsimp only at hm H;refine Ret.condT (Y9 H) (Ret.bind (O4 H (Ret.bind (Ret.chk (by dsimp only at *;omega) (Ret.next ⟨by dsimp only;omega,fun i r=>?_⟩)))));dsimp only[B5];rw[C4 H];by_cases e:i=out[n].id
   . subst e;rw[AYB rfl];constructor
     . intro I;cases I;exact⟨.inr rfl,rfl⟩
     . rintro⟨I|I,J⟩
       . rw[AA7 hnd r _ (AZC I) (AYJ H) J]
       . rw[I]
   . rw[if_neg e,hm];constructor
     . rintro⟨I,J⟩;exact⟨.inl I,J⟩
     . rintro⟨I|rfl,J⟩
       . exact⟨I,J⟩
       . exact absurd J.symm e
 . rintro⟨_,m⟩ ⟨rfl,hm⟩;dsimp only at hm;rw[AYL]at hm;refine Ret.condF (Z0 (AYE _)) (Ret.done (Ret.ok ?_));funext i;apply Option.ext;intro r;rw[hm,ASK h,U.mem_iff]
def AHn(d:Desk)(l:List Report)(x:Dispute)(a:Asked):Bool:=
 decide (a.account=((fct d.reports x.report).getD AEc).account)&&(decide (a.day<(dec d x).day)&&(decide ((dec d x).day-a.day<=d.terms.lately)&&(match stF l a.day x.report with
  |none=>false
  |some was=>decide (was.about<=a.day)&&(match stF l (dec d x).day x.report with
   |none=>true
   |some now=>!decide (was=now)))))
structure AskV(asked:List Asked):Prop where
 len:asked.length<=40
 v:∀a∈asked,(0<=a.id/\a.id<=999999)/\(0<=a.who/\a.who<=999999)/\(0<=a.account/\a.account<=999999)/\(0<=a.day/\a.day<=100000)
 up:∀(n:Nat) (h:n+1<asked.length),asked[n].id<asked[n+1].id
def AEe(d:Desk)(l:List Report)(x:Dispute)(f:A4 (Int×Int) Int)(a:Asked):A4 (Int×Int) Int:=if AHn d l x a then B5 f (x.id,a.who) a.id else f
def ANd(d:Desk)(l:List Report)(asked:List Asked)(f:A4 (Int×Int) Int)(y:Dispute×Verdict):A4 (Int×Int) Int:=asked.reverse.foldl (AEe d l y.1) f
def AQM(d:Desk)(l:List Report)(asked:List Asked)(day:Int):A4 (Int×Int) Int:=(ACs d day).foldl (ANd d l asked) fnone
theorem AOs:∀(l:List Asked) (n:Nat),n<=l.length->(bwN l n).map (·.2)=(l.take n).reverse
 |l,0,_=>rfl
 |l,n+1,h=>by
  have H:n<l.length:=by omega
  unfold bwN;rw[AX7 H];show l[n]::(bwN l n).map (·.2)=_;rw[AOs l n (by omega),AAo H,List.reverse_append];rfl
theorem ALM:∀(l:List Asked) (n:Nat) (y:Int×Asked),n<=l.length->y∈bwN l n->y.2∈l/\0<=y.1/\y.1<n
 |l,0,y,_,h=>by cases h
 |l,n+1,y,I,h=>by
  have H:n<l.length:=by omega
  unfold bwN at h;rw[AX7 H]at h;rcases mem_cons.1 h with rfl|h
  . exact⟨AYJ H,by dsimp only;omega,by dsimp only;omega⟩
  . have:=ALM l n y (by omega) h;exact⟨this.1,this.2.1,by omega⟩
theorem ANe{asked:List Asked}(H:AskV asked):U2 asked=some (bwN asked asked.length):=by
 unfold U2;refine AYB fun y hy=>?_;obtain⟨I,U,J⟩:=ALM asked asked.length y (AYE _) hy;have hl:=H.len;obtain⟨v1,v2,v3,v4⟩:=H.v _ I;have e:ADK [.int .i64,.st 5] y↔InK .i64 y.1/\(InK .i64 y.2.id/\InK .i64 y.2.who/\InK .i64 y.2.account/\InK .i64 y.2.day):=AZy;rw[e];exact⟨T6 (by omega),T6 (by omega),T6 (by omega),T6 (by omega),T6 (by omega)⟩
section
variable{d:Desk}{D:Desk_99}(hD:Dw d D)(hv:Vd d){l:List Report}(hl:VL l)
include hD hv hl
variable{x:Dispute}{f:A4 (Int×Int) Int}
theorem AWJ(hx:x∈d.disputes):AAa l x (dec d x)=some ((stF l (dec d x).day x.report).getD AEc,(stF l (dec d x).day x.report).isSome):=by
 unfold AAa;rw[AMO hl (AFN hv hx),bindS];rfl
theorem AWK(hx:x∈d.disputes){a:Int×Asked}(J:0<=a.2.day/\a.2.day<=100000):Go.Proofs.YtgioiejbphljoaaGreatDoor.inB D l x (dec d x) ((stF l (dec d x).day x.report).getD AEc) ((stF l (dec d x).day x.report).isSome) f a=some (AEe d l x f a.2):=by
 have I:=AFN hv hx;unfold Go.Proofs.YtgioiejbphljoaaGreatDoor.inB AEe;have key:∃b:Bool⊕Unit,AAJ D l x (dec d x) ((stF l (dec d x).day x.report).getD AEc) ((stF l (dec d x).day x.report).isSome) a.2=some b/\(AHn d l x a.2=true↔b=.inl true):=by
  show Ret _ fun b:Bool⊕Unit=>AHn d l x a.2=true↔b=.inl true;unfold AAJ AHn;rw[hD.f,hD.d];have no:∀{o:Option (Bool⊕Unit)} {b:Bool},b=false->Ret (cond true (some (Sum.inr ())) o) fun c:Bool⊕Unit=>b=true↔c=.inl true:=fun {o b} h=>Ret.condT rfl (Ret.ok (by subst h;exact⟨(fun h=>by cases h),(fun h=>by cases h)⟩));refine Ret.bind (Ret.cond (fun c=>Ret.ok (no ?_)) fun c=>Ret.cond (fun c2=>Ret.ok (no ?_)) fun c2=>Ret.bind (Ret.chk (by omega) (Ret.ok ?_)))
  . have c:decide (a.2.account=((fct d.reports x.report).getD AEc).account)=false:=by
     rw[Bool.not_eq_true']at c;exact c
    rw[c];rfl
  . have c2:=AX6 c2;rw[AX8 (show ¬a.2.day<(dec d x).day by omega)];simp
  have c:decide (a.2.account=((fct d.reports x.report).getD AEc).account)=true:=by
   rw[Bool.not_eq_false']at c;exact c
  have c2:=AYD c2;rw[c,AYA (show a.2.day<(dec d x).day by omega),Bool.true_and,Bool.true_and];refine Ret.cond (fun c3=>Ret.ok ?_) fun c3=>?_
  . have c3:=AX6 c3;rw[AX8 (show ¬(dec d x).day-a.2.day<=d.terms.lately by omega)];exact⟨(fun h=>by cases h),(fun h=>by cases h)⟩
  have c3:=AYD c3;rw[AYA (show(dec d x).day-a.2.day<=d.terms.lately by omega),Bool.true_and];rw[AMO hl J,bindS];have fin:∀{b b':Bool},b=b'->Ret (some (Sum.inl b':Bool⊕Unit)) fun c:Bool⊕Unit=>b=true↔c=.inl true:=fun {b b'} h=>Ret.ok (by subst h;exact⟨fun h=>by rw[h],fun h=>by injection h⟩);refine Ret.bind ?_;cases V:stF l a.2.day x.report with
  |none=>exact Ret.condF rfl (Ret.ok (fin rfl))
  |some was=>
   refine Ret.condT rfl (Ret.cond (fun c4=>?_) fun c4=>Ret.ok (fin ?_))
   . have c4:decide (was.about<=a.2.day)=true:=c4
     dsimp only
     rw[c4,Bool.true_and]
     cases W:stF l (dec d x).day x.report with
     |none=>exact Ret.condT rfl (Ret.ok (fin rfl))
     |some now=>exact Ret.condF rfl (Ret.ok (fin rfl))
   . have c4:decide (was.about<=a.2.day)=false:=c4
     dsimp only
     rw[c4];rfl
 obtain⟨b,U,H⟩:=key;rw[U,bindS];congr 1;by_cases c:AHn d l x a.2=true
 . rw[AYB c,H.1 c]
 . rw[if_neg c];cases b with
   |inr u=>rfl
   |inl b=>
    cases b with
    |false=>rfl
    |true=>exact absurd (H.2 rfl) c
theorem AUK{asked:List Asked}(J:AskV asked){y:Dispute×Verdict}{day:Int}(hy:y∈ACs d day):AGr D asked l f y=some (ANd d l asked f y):=by
 obtain⟨U,E,W⟩:=decd_mem.1 hy;refine Ret.eq ?_;unfold AGr;rw[W,AWJ hD hv hl U,bindS,ANe J,bindS];refine Ret.over (fun pre (g:A4 (Int×Int) Int)=>g=(pre.map (·.2)).foldl (AEe d l y.1) f) rfl (fun pre a s V C I H=>?_) fun s H=>?_
 . have:=J.v _ (ALM asked asked.length a (AYE _) I).1;rw[AWK hD hv hl U this.2.2.2];refine Ret.ok ?_;rw[AYI,AZw,<-H];rfl
 . rw[H,AOs asked _ (AYE _),AYL];rfl
end
theorem ANf{κ α:Type}[DecidableEq κ]{f:A4 κ α}{l:List (κ×α)}(h:Lists f l)(a:κ)(z:α):∃l',Lists (B5 f a z) l'/\l'.length<=l.length+1:=by
 by_cases c:∃x∈l,x.1=a
 . obtain⟨⟨a',y⟩,hx,rfl⟩:=c;obtain⟨j,H⟩:=AYW hx;exact⟨_,h.set H z,by rw[AZg];omega⟩
 . exact⟨_,h.push z fun x hx e=>c ⟨x,hx,e⟩,by simp⟩
theorem AOt{d:Desk}{l:List Report}{asked:List Asked}:∀(ys:List (Dispute×Verdict)) (f:A4 (Int×Int) Int) (xs:List ((Int×Int)×Int)),Lists f xs->∃xs',Lists (ys.foldl (ANd d l asked) f) xs'/\xs'.length<=xs.length+ys.length*asked.length:=by
 have inner:∀(aq:List Asked) (x:Dispute) (f:A4 (Int×Int) Int) (xs:List ((Int×Int)×Int)),Lists f xs->∃xs',Lists (aq.foldl (AEe d l x) f) xs'/\xs'.length<=xs.length+aq.length:=by
  intro aq;induction aq with
  |nil=>intro x f xs h;exact⟨xs,h,by simp⟩
  |cons a aq ih=>
   intro x f xs h
   have:∃xs',Lists (AEe d l x f a) xs'/\xs'.length<=xs.length+1:=by
    unfold AEe;split
    . exact ANf h _ _
    . exact⟨xs,h,by omega⟩
   obtain⟨xs',I,J⟩:=this
   obtain⟨xs2,H,U⟩:=ih x _ xs' I
   exact⟨xs2,H,by simp only[List.length_cons];omega⟩
 intro ys;induction ys with
 |nil=>intro f xs h;exact⟨xs,h,by simp⟩
 |cons y ys ih=>
  intro f xs h
  obtain⟨xs',I,J⟩:=inner asked.reverse y.1 f xs h
  obtain⟨xs2,H,U⟩:=ih _ xs' I
  refine⟨xs2,H,?_⟩
  rw[List.length_reverse]at J
  simp only[List.length_cons,Nat.add_mul,Nat.one_mul]
  omega
def mkL(y:(Int×Int)×Int):Letter:=Letter.mk y.1.1 y.1.2 y.2
structure LetS(F:A4 (Int×Int) Int)(out:List Letter):Prop where
 mem:∀z:Letter,z∈out↔F (z.dispute,z.who)=some z.asked
 nd:(out.map fun z=>(z.dispute,z.who)).Nodup
 ord:out.Pairwise (le2 (·.dispute) (·.who))
variable{F:A4 (Int×Int) Int}{d:Desk}{day:Int}
theorem AMP{out:List Letter}(h:(out.map fun z=>(z.dispute,z.who)).Nodup):∀a b,a∈out->b∈out->a.dispute=b.dispute->a.who=b.who->a=b:=fun a b J I e1 e2=>by
 rw[List.Nodup,AZB]at h;obtain⟨i,hi,rfl⟩:=AZK J;obtain⟨j,H,rfl⟩:=AZK I;rw[AYt]at h;have e:(out[i].dispute,out[i].who)=(out[j].dispute,out[j].who):=by rw[e1,e2]
 rcases AZt i j with c|c|c
 . exact absurd e (h i j hi H c)
 . subst c;rfl
 . exact absurd e.symm (h j i H hi c)
theorem ALN{a b:List Letter}(H:LetS F a)(I:LetS F b):a=b:=by
 have nd:∀{x:List Letter},LetS F x->x.Nodup:=fun h=>(List.pairwise_map.1 h.nd).imp fun h e=>h (by rw[e]);refine AEa ((AYo (nd H) (nd I)).2 fun z=>by rw[H.mem,I.mem]) H.ord I.ord (AMP H.nd)
theorem AOv{xs0:List ((Int×Int)×Int)}(I:Lists F xs0)(hl:xs0.length<=100000):Ret (AAP F fun xs=>(List.foldlM AEb [] xs).bind M5) fun r=>r.2=0/\LetS F r.1:=by
 have each:∀xs,Lists F xs->Ret ((List.foldlM AEb [] xs).bind M5) fun r=>r=(r.1,0)/\LetS F r.1:=fun xs H=>by
  have W:xs.Perm xs0:=(AYo ((List.pairwise_map.1 H.1).imp fun h e=>h (by rw[e])) ((List.pairwise_map.1 I.1).imp fun h e=>h (by rw[e]))).2 fun y=>(H.2 y.1 y.2).trans (I.2 y.1 y.2).symm;have J:=W.length_eq;have fold:∀(l:List ((Int×Int)×Int)) (pre:List Letter),pre.length+l.length<=1000000->List.foldlM AEb pre l=some (pre++l.map mkL):=by
   intro l;induction l with
   |nil=>intro pre _;simp
   |cons y l ih=>
    intro pre h
    rw[AY6]at h
    rw[AY7]
    have:AEb pre y=some (pre++[mkL y]):=ACF (by simp;omega) (by simp;omega)
    rw[this]
    show List.foldlM AEb (pre++[mkL y]) l=_
    rw[ih _ (by simp;omega)]
    simp
  rw[fold xs [] (by simp;omega),AYR,bindS];unfold M5;have hnd:((xs.map mkL).map fun z=>(z.dispute,z.who)).Nodup:=by
   rw[AYe];exact H.1
  have C:=AJS (x:=xs.map mkL) (cmp:=fun a b=>K2 a b [49,50]) (k1:=(·.dispute)) (k2:=(·.who)) (fun a b=>AFs (D:=fd118.D) (fun _=>rfl) (fun _=>rfl)) (AMP hnd) (by rw[AYZ];omega);refine Ret.bind (Ret.bind (C.mono fun m hm=>Ret.ok (Ret.ok ⟨rfl,fun z=>?_,(hm.1.map _).nodup_iff.2 hnd,hm.2⟩)));rw[hm.1.mem_iff,AZL,<-H.2];constructor
  . rintro⟨y,hy,rfl⟩;exact hy
  . intro h;exact⟨_,h,rfl⟩
 obtain⟨r,Q,V,U⟩:=each _ I;refine⟨r,AHv I fun xs H=>?_,by rw[V],U⟩;obtain⟨r',O,K,E⟩:=each xs H;rw[O,K,V,ALN E U]
def LtS(d:Desk)(asked:List Asked)(day:Int)(r:List Letter×Int):Prop:=∃z,AFP d day z/\((z.2=9/\r=([],9))\/(z.2=0/\r.2=0/\LetS (AQM d z.1 asked day) r.1))
theorem AUL(hv:Vd d){z:List Report×Int}(E:AFP d day z)(K:z.2=0):VL z.1:=by
 rcases E with⟨_,rfl⟩|⟨F,m,C,Q,rfl⟩
 . cases K
 have mm:∀r∈m,∃x∈d.disputes,r=AEd d x (dec d x)/\3<=(dec d x).is_:=fun r H=>by
  have H:=C.mem_iff.1 H;unfold ABw at H;obtain⟨y,hy,rfl⟩:=mem_map.1 H;obtain⟨y1,y2,y3⟩:=decd_mem.1 hy;refine⟨y.1,y1,by rw[y3],?_⟩;unfold wh at y2;split at y2
  . exact y2
  . split at y2<;>omega
 refine⟨?_,fun r H=>?_,fun a J b I e=>?_⟩
 . dsimp only;rw[AYN,C.length_eq];exact F
 . rcases mem_append.1 H with H|H
   . exact hv.r.v r H
   . obtain⟨x,hx,rfl,O⟩:=mm r H;obtain⟨x1,x2,f,D,x3,x4⟩:=hv.x.v x hx;have V:=ABO D;obtain⟨u1,u2,u3,u4,u5,u6,u7,u8,_⟩:=hv.r.v f V.1;have W:=AFN hv hx;have I:=AQ2 hv x;have U:f.id≠x.id:=x2 f V.1;unfold AEd;rw[D];dsimp only[Option.getD_some];split
     . exact⟨(show(1:Int)<=8/\(8:Int)<=9 from by decide),x1,u3,u4,u2,W,I.2.2.2.2.1,I.2.2.2.2.2,(fun h=>absurd (show(8:Int)<=7 from h) (by decide)),(fun _=>U),(fun h=>absurd (show(8:Int)=9 from h) (by decide))⟩
     . exact⟨(show(1:Int)<=9/\(9:Int)<=9 from by decide),x1,u3,u4,u2,W,(show(0:Int)<=0/\(0:Int)<=100000 from by decide),(show(0:Int)<=0/\(0:Int)<=0 from by decide),(fun h=>absurd (show(9:Int)<=7 from h) (by decide)),(fun _=>U),(fun _=>rfl)⟩
 . rcases mem_append.1 J with J|J<;>rcases mem_append.1 I with I|I
   . exact hv.r.cons a J b I e
   . obtain⟨x,hx,rfl,_⟩:=mm b I;rw[ALI]at e;exact absurd e ((hv.x.v x hx).2.1 a J)
   . obtain⟨x,hx,rfl,_⟩:=mm a J;rw[ALI]at e;exact absurd e.symm ((hv.x.v x hx).2.1 b I)
   . exact AA7 (AIR hv) a b (C.mem_iff.1 J) (C.mem_iff.1 I) e
theorem AI6(hv:Vd d){asked:List Asked}(I:AskV asked)(hd:0<=day/\day<=100000):Ret (C3 d asked day) (LtS d asked day):=by
 obtain⟨D,B,hD⟩:=ABP hv hd;have O:=I.len;unfold C3;refine Ret.bind ?_;unfold X9;rw[B,bindS];refine Ret.condF (by decide) (Ret.bind (C2 asked.length (fun n (t:Int×Int)=>t.2=n/\-1<=t.1/\t.1<=999999/\∀(h:n<asked.length),t.1<asked[n].id) ⟨rfl,by decide,by decide,fun h=>?_⟩ ?_ ?_))
 . have:=(I.v _ (AYJ h)).1;dsimp only;omega
 . rintro n H ⟨p,_⟩ ⟨rfl,F,E,K⟩;dsimp only at K F E;have C:=K H;obtain⟨v1,v2,v3,v4⟩:=I.v _ (AYJ H);refine Ret.condT (Y9 H) (Ret.bind (O4 H (Ret.bind (Ret.bind (Ret.chk (by omega) ?_)))));rw[d_in1,F9 (by omega),bindS];refine Ret.condF rfl ?_;rw[d_in2,F9 v2,F9 v3,bindS];refine Ret.condF rfl ?_;rw[d_in1,F9 v4,bindS];refine Ret.ok (Ret.condF rfl (Ret.bind (Ret.chk (by omega) (Ret.next ⟨by dsimp only;omega,by dsimp only;omega,by dsimp only;omega,fun h=>I.up n h⟩))))
 . rintro⟨p,_⟩ ⟨rfl,_⟩;refine Ret.condF (Z0 (AYE _)) (Ret.done (C8 (Ret.condF (AX8 (by omega)) (ABh (ALJ hD hv (day:=day)) fun z J=>?_))));obtain⟨l,e⟩:=z;rcases id J with⟨g1,g2⟩|⟨g1,m,g2,g3,g4⟩
   . obtain⟨rfl,rfl⟩:=Prod.mk.inj g2;exact Ret.condT rfl (Ret.ok (E5 (Ret.ok ⟨_,J,.inl ⟨rfl,rfl⟩⟩)))
   . obtain⟨rfl,rfl⟩:=Prod.mk.inj g4;have Q:=AUL hv J rfl;refine Ret.condF rfl (Ret.ok (C8 ?_));dsimp only;rw[AI5 hD hv,bindS];refine Ret.bind (Ret.over (fun pre (f:A4 (Int×Int) Int)=>f=pre.foldl (ANd d (d.reports++m) asked) fnone) rfl (fun pre y s C K hy W=>?_) fun s W=>?_)
     . rw[AUK hD hv Q I hy];refine Ret.ok ?_;rw[AZw,<-W];rfl
     . obtain⟨xs,V,U⟩:=AOt (d:=d) (l:=d.reports++m) (asked:=asked) (ACs d day) fnone [] ⟨AZD,fun a y=>by simp[fnone]⟩;have A:=AGt (d:=d) (day:=day);have Y:=hv.x.len;have:(ACs d day).length*asked.length<=20*40:=Nat.mul_le_mul (by omega) O;rw[W];exact(AOv V (by simp only[List.length_nil]at U;omega)).mono fun r T=>⟨_,J,.inr ⟨rfl,T.1,T.2⟩⟩
end S
namespace S
theorem D0_VL:VL D0.reports:=by
 refine⟨by decide,fun r H=>?_,fun a J b I e=>?_⟩
 . have h:∀r∈D0.reports,V r:=by unfold V;decide +kernel
   exact h r H
 . have h:∀a∈D0.reports,∀b∈D0.reports,a.id=b.id->a=b:=by decide +kernel
   exact h a J b I e
theorem D0_vd:Vd D0:=by
 refine⟨?_,D0_VL,⟨by decide,fun x hx=>?_,by decide +kernel⟩,by decide,fun a U=>?_,by decide +kernel⟩
 . unfold TV;decide +kernel
 . have h:∀x∈D0.disputes,((0<=x.id/\x.id<=999999)/\(∀r∈D0.reports,r.id≠x.id))/\(match fct D0.reports x.report with
    |none=>false
    |some f=>decide (f.made<=x.day/\x.day<=100000-D0.terms.answer-1))=true:=by decide +kernel
   obtain⟨J,H⟩:=h x hx;cases I:fct D0.reports x.report with
   |none=>rw[I]at H;cases H
   |some f=>rw[I]at H;exact⟨J.1,J.2,f,I,AX6 H⟩
 . have h:∀a∈D0.answers,(0<=a.id/\a.id<=999999)/\(0<=a.day/\a.day<=100000)/\(1<=a.says/\a.says<=3)/\∃x∈D0.disputes,x.id=a.dispute/\(a.says≠2->a.about=0/\a.cents=0)/\(a.says=2->(match fct D0.reports x.report with
    |none=>true
    |some f=>decide ((0<=a.about/\a.about<=100000)/\0<=a.cents/\a.cents<=most f.kind))=true):=by decide +kernel
   obtain⟨J,H,E,x,D,C,W,V⟩:=h a U;refine⟨J,H,E,x,D,C,W,fun e f I=>?_⟩;have:=V e;rw[I]at this;exact AX6 this
theorem AJV{i day w n:Int}{x:Dispute}(hx:x∈D0.disputes)(hi:x.id=i)(hd:0<=day/\day<=100000)(I:wh D0 x day=w)(H:(dec D0 x).day=n):X5 i day w n=some true:=by
 unfold X5;rw[show Z9=some D0 from rfl,bindS,<-hi,ASB D0_vd hx hd,bindS];dsimp only;rw[AYA (show(0:Int)=0 from rfl),AYA I,AYA H];rfl
theorem ADw{i day m:Int}(hd:0<=day/\day<=100000)(I:(fct D0.reports i).isSome=true)(H:AHk D0 i day=m):M4 i day m=some true:=by
 unfold M4;rw[show Z9=some D0 from rfl,bindS,AOn D0_vd hd,AYB I,bindS];dsimp only;rw[AYA (show(0:Int)=0 from rfl),AYA H];rfl
theorem ALO{a:List Report}(hl:a.length<=1000000):Q7 a a=some true:=by
 refine Ret.eq ?_;unfold Q7;refine Ret.condF (by simp) (Ret.bind (C2 a.length (fun n (t:Int)=>t=n) rfl ?_ ?_))
 . rintro n H _ rfl;exact Ret.condT (Y9 H) (Ret.bind (O4 H (Ret.bind (O4 H (Ret.condF (by simp) (Ret.bind (Ret.chk (by omega) (Ret.next (by omega)))))))))
 . rintro _ rfl;exact Ret.condF (Z0 (AYE _)) (Ret.done (C8 (Ret.ok rfl)))
theorem ALP{a:List Letter}(hl:a.length<=1000000):Q8 a a=some true:=by
 refine Ret.eq ?_;unfold Q8;refine Ret.condF (by simp) (Ret.bind (C2 a.length (fun n (t:Int)=>t=n) rfl ?_ ?_))
 . rintro n H _ rfl;exact Ret.condT (Y9 H) (Ret.bind (O4 H (Ret.bind (O4 H (Ret.condF (by simp) (Ret.bind (Ret.chk (by omega) (Ret.next (by omega)))))))))
 . rintro _ rfl;exact Ret.condF (Z0 (AYE _)) (Ret.done (C8 (Ret.ok rfl)))
theorem AOw{a:List Int}(hl:a.length<=1000000):X3 a a=some true:=by
 refine Ret.eq ?_;unfold X3;refine Ret.condF (by simp) (Ret.bind (C2 a.length (fun n (t:Int)=>t=n) rfl ?_ ?_))
 . rintro n H _ rfl;exact Ret.condT (Y9 H) (Ret.bind (O4 H (Ret.bind (O4 H (Ret.condF (by simp) (Ret.bind (Ret.chk (by omega) (Ret.next (by omega)))))))))
 . rintro _ rfl;exact Ret.condF (Z0 (AYE _)) (Ret.done (C8 (Ret.ok rfl)))
theorem ADx{α:Type}{k1 k2:α->Int}{a b:α}(h:decide (k1 a<k1 b\/k1 a=k1 b/\k2 a<=k2 b)=true):le2 k1 k2 a b:=AX6 (p:=k1 a<k1 b\/k1 a=k1 b/\k2 a<=k2 b) h
theorem AUM:AFP D0 72 (l33,0):=by
 refine .inr ⟨by decide +kernel,[Report.mk 51 70 5 50 10 8 450 1,Report.mk 52 70 5 72 0 9 0 2],?_,?_,rfl⟩
 . rw[show ABw D0 72=[Report.mk 51 70 5 50 10 8 450 1,Report.mk 52 70 5 72 0 9 0 2] from by kernel_rfl]
 . exact .cons (fun b H=>by rw[mem_singleton.1 H];exact ADx (by decide)) (AZN _ _)
theorem AWL:AskV A0:=by
 refine⟨by decide,?_,?_⟩
 . decide +kernel
 . intro n h;have H:n+1<4:=h;have:n=0\/n=1\/n=2:=by omega
   rcases this with rfl|rfl|rfl
   . exact(by decide:(5:Int)<6)
   . exact(by decide:(6:Int)<7)
   . exact(by decide:(7:Int)<8)
def L0:List Letter:=[Letter.mk 51 900 5,Letter.mk 52 900 6,Letter.mk 52 901 7]
theorem AXa:AQM D0 l33 A0 72=B5 (B5 (B5 (B5 fnone (51,900) 6) (51,900) 5) (52,901) 7) (52,900) 6:=by kernel_rfl
theorem AXb:LetS (AQM D0 l33 A0 72) L0:=by
 rw[AXa];refine⟨fun z=>?_,by decide,?_⟩
 . obtain⟨a,b,c⟩:=z;unfold L0 B5 fnone;simp only[mem_cons,List.not_mem_nil,or_false,Letter.mk.injEq,Prod.mk.injEq];split
   . rename_i h;simp[h.1,h.2,eq_comm]
   . rename_i U;split
     . rename_i h;simp[h.1,h.2,eq_comm]
     . rename_i J;split
       . rename_i h;simp[h.1,h.2,eq_comm]
       . rename_i I;simp;omega
 . unfold L0;refine .cons (fun b H=>?_) (.cons (fun b H=>?_) (AZN _ _))
   . simp only[mem_cons,List.not_mem_nil,or_false]at H;rcases H with rfl|rfl<;>exact ADx (by decide)
   . rw[mem_singleton.1 H];exact ADx (by decide)
theorem AWM:ANO D0 45 [51,52,53]:=by
 refine⟨D0.disputes,.refl _,?_,by decide +kernel⟩;show List.Pairwise _ [Dispute.mk 51 1 40,Dispute.mk 52 2 41,Dispute.mk 53 3 42];refine .cons (fun b H=>?_) (.cons (fun b H=>?_) (AZN _ _))
 . simp only[mem_cons,List.not_mem_nil,or_false]at H;rcases H with rfl|rfl<;>exact ADx (by decide)
 . rw[mem_singleton.1 H];exact ADx (by decide)
theorem AQN{d:Desk}(hv:Vd d){day:Int}{a b:List Int}(J:ANO d day a)(I:ANO d day b):a=b:=by
 obtain⟨m,H,W,rfl⟩:=J;obtain⟨m',V,U,rfl⟩:=I;rw[AEa (H.trans V.symm) W U fun x y hx hy _ e=>AA7 hv.x.nd x y (H.mem_iff.1 hx) (H.mem_iff.1 hy) e]
theorem AQO:ALG:=by
 have d1:Dispute.mk 51 1 40∈D0.disputes:=.head _;have d2:Dispute.mk 52 2 41∈D0.disputes:=.tail _ (.head _);have d3:Dispute.mk 53 3 42∈D0.disputes:=.tail _ (.tail _ (.head _));have a1:H8 D0 72=some (l33,0):=by
  obtain⟨r,J,H⟩:=ALK D0_vd (day:=72) (by decide);rw[J,ALL D0_vd H AUM]
 have a2:C3 D0 A0 72=some (L0,0):=by
  obtain⟨r,J,z,H,U⟩:=AI6 D0_vd AWL (day:=72) (by decide);have V:=ALL D0_vd H AUM;subst V;rcases U with⟨I,_⟩|⟨_,I,W⟩
  . cases I
  . obtain⟨x,e⟩:=r;have I:e=0:=I;subst I;have hx:x=L0:=ALN W AXb;rw[J,hx]
 have a3:J8 D0 45=some ([51,52,53],0):=by
  obtain⟨r,J,H,U⟩:=AWE D0_vd (day:=45) (by decide);obtain⟨x,e⟩:=r;have H:e=0:=H;subst H;have hx:x=[51,52,53]:=AQN D0_vd U AWM;rw[J,hx]
 refine⟨l33,L0,[51,52,53],a1,a2,a3,AJV d1 rfl (by decide) (by kernel_rfl) (by kernel_rfl),AJV d2 rfl (by decide) (by kernel_rfl) (by kernel_rfl),AJV d3 rfl (by decide) (by kernel_rfl) (by kernel_rfl),ADw (by decide) (by kernel_rfl) (by kernel_rfl),ADw (by decide) (by kernel_rfl) (by kernel_rfl),ADw (by decide) (by kernel_rfl) (by kernel_rfl),ALO (by decide),ALP (by decide),AOw (by decide)⟩
theorem ASL:R7=some true:=AYB AQO
end S
end Go.Proofs.YtgioiejbphljoaaGreatDoor
namespace Go.Rx
open Go Go.Sx Go.RowKit
section
variable[Sg][Sf](G:Gx)
def AIS(R:Nat->Option AR):(c:Ck)->SV->Option c.den
 |.d t,s=>match t,s with
  |.int k,.int k' n=>if k=k' then some n else none
  |.bool,.bool b=>some b
  |_,_=>none
 |.own c,s=>match s with
  |.own i=>match R i with
   |some (.own false c' x)=>castO c' c x
   |_=>none
  |_=>none
 |_,_=>none
def AIT(R:Nat->Option AR):(cs:List Ck)->List SV->Option (E2 cs)
 |[],l=>match l with
  |[]=>some ()
  |_=>none
 |[c],l=>match l with
  |[s]=>AIS R c s
  |_=>none
 |c::d::l,q=>match q with
  |s::q=>match AIS R c s,AIT R (d::l) q with
   |some x,some y=>some (x,y)
   |_,_=>none
  |[]=>none
def ADT:List SV->List Nat
 |.own i::l=>i::ADT l
 |_::l=>ADT l
 |[]=>[]
def ndK:List Nat->Bool
 |[]=>true
 |i::l=>bif has l i then false else ndK l
def ANg(cs:List Ck)(rs:List ResultVar)(σ:AS):Option (E2 cs):=match rs with
 |[r]=>match Z7 G σ r with
  |some (.agg l)=>match ndK (ADT l) with
   |true=>AIT (A1 σ.res) cs l
   |false=>none
  |_=>none
 |_=>none
def AQ3(f:Func)(an:An)(ps:List Pt)(cs:List Ck)(a:E0 ps):Option (E2 cs):=match f.body with
 |some c=>exec G f.ntmps (ANg G cs f.results.toList) c an (ANg G cs f.results.toList) (fun _ _=>none) some ⟨AA4 0 ps a,[],[],[]⟩
 |none=>none
end
variable[Trk][Sg][Sf]{P:Program}[Se P]
theorem AMQ:∀{l:List Nat},ndK l=true->l.Nodup
 |[],_=>AZD
 |i::l,h=>by
  have h:(bif has l i then false else ndK l)=true:=h
  cases H:has l i with
  |true=>rw[H]at h;cases h
  |false=>
   rw[H]at h
   exact List.nodup_cons.2 ⟨fun hi=>(by rw[has_iff.2 hi]at H;cases H),AMQ h⟩
section
variable[Anch]{w0 w:World}{M:List Nat}{σ:AS}{L:A7}{S:List Res}{ρ:Nat->Value}{γ:Nat->List Value}{μ:Nat->List Nat}{ι:Nat->Nat}{G:Gx}
theorem AMR(h:HS (P:=P) w0 [] M σ L w S ρ γ μ ι){O:List Nat}(C:∀b∈O,b∈mm S M){c:Ck}{s:SV}{x:c.den}{u:Value}(J:Ok (P:=P) ρ (A1 σ.res) (mm S M) w s u)(hx:AIS (A1 σ.res) c s=some x):
  u.cells=#[u]/\AJ4 (P:=P) O M w0 w c x u/\∀b∈obC c u,∃i a,s=.own i/\A1 σ.res i=some a/\b∈(G9 (P:=P) (ρ i) (γ i) (μ i) a).fp:=by
 have D:∀b∈O++M,b∈mm S M:=fun b I=>(mem_append.1 I).elim (C b) fun I=>mem_mm.2 (.inr I)
 cases c with
 |d t=>
  cases t with
  |int k=>
   cases s with
   |int k' n=>
    have H:(if k=k' then(some n:Option Int) else none)=(some x:Option Int):=hx
    by_cases e:k=k'
    . rw[AYB e]at H
      subst e
      have U:n=x:=AXz H
      subst U
      obtain⟨rfl,hk⟩:=J
      exact⟨rfl,⟨_,⟨rfl,hk⟩,.inr ⟨rfl,rfl⟩⟩,fun b I=>by cases I⟩
    . rw[if_neg e]at H;cases H
   |_=>exact(A2 hx).elim
  |bool=>
   cases s with
   |bool b=>
    have hx:some b=some x:=hx
    cases hx
    have J:u=_:=J
    subst J
    exact⟨rfl,⟨_,rfl,.inr ⟨rfl,rfl⟩⟩,fun b I=>by cases I⟩
   |_=>exact(A2 hx).elim
  |_=>exact(A2 hx).elim
 |own c=>
  cases s with
  |own i=>
   have hx:(match A1 σ.res i with
    |some (.own false c' y)=>castO c' c y
    |_=>none)=some x:=hx
   cases hi:A1 σ.res i with
   |none=>rw[hi]at hx;exact(A2 hx).elim
   |some a=>
    rw[hi]at hx
    cases a with
    |row _ _=>exact(A2 hx).elim
    |own p c' y=>
     cases p with
     |true=>exact(A2 hx).elim
     |false=>
      obtain⟨e,hy⟩:=AAF (show castO c' c y=some x from hx)
      subst e
      have hy:y=x:=hy
      subst hy
      obtain⟨e,E,_⟩:=J
      subst e
      have V:=h.res i _ hi
      have W:=AG9 (P:=P) h.hp (ι i) V
      refine⟨E,⟨h.row i _ hi,(E9 (P:=P) [] (ρ i) c' y).adv (Adv.drop D) (fun _ _=>rfl) (h.hp.all _ (AX1 V)),W.2⟩,fun b I=>⟨i,_,rfl,hi,ADg (P:=P) I⟩⟩
  |_=>exact(A2 hx).elim
 |undef=>exact(A2 hx).elim
 |it t=>exact(A2 hx).elim
 |np t=>exact(A2 hx).elim
theorem ASM{s:SV}{l:List SV}{i:Nat}(h:i∈ADT l):i∈ADT (s::l):=by
 cases s<;>first|exact h|exact AX0 _ h
theorem ASN{s:SV}{l:List SV}(h:(ADT (s::l)).Nodup):(ADT l).Nodup:=by
 cases s<;>first|exact h|exact(List.nodup_cons.1 h).2
theorem ASO(h:HS (P:=P) w0 [] M σ L w S ρ γ μ ι){O:List Nat}(A:∀b∈O,b∈mm S M):∀(cs:List Ck) (l:List SV) {x:E2 cs} {vs:List Value},OkL (P:=P) ρ (A1 σ.res) (mm S M) w l vs->(ADT l).Nodup->AIT (A1 σ.res) cs l=some x ->
  KsD (P:=P) O M w0 w cs x vs/\∀b∈X7 cs vs,∃i∈ADT l,∃a,A1 σ.res i=some a/\b∈(G9 (P:=P) (ρ i) (γ i) (μ i) a).fp:=by
 have cell:∀{u:Value} {c:List Value},u.cells=#[u]->u.cells=toArray c->c=[u]:=fun W J=>by
  rw[W]at J;have:=AX9 Array.toList J;simpa using this.symm
 intro cs
 induction cs with
 |nil=>
  intro l x vs C _ hx
  cases l with
  |nil=>exact⟨C,fun b H=>by cases H⟩
  |cons _ _=>exact(A2 hx).elim
 |cons c cs ih=>
  intro l x vs C Y hx
  cases cs with
  |nil=>
   cases l with
   |nil=>exact(A2 hx).elim
   |cons s q=>
    cases q with
    |cons _ _=>exact(A2 hx).elim
    |nil=>
     obtain⟨u,cl,r,rfl,W,J,V⟩:=C
     obtain⟨k1,k2,k3⟩:=AMR h A W (show AIS (A1 σ.res) c s=some x from hx)
     obtain rfl:=cell k1 J
     have V:r=[]:=V
     subst V
     refine⟨⟨u,rfl,k1,k2⟩,fun b H=>?_⟩
     rw[show [u]++([]:List Value)=u::[] from rfl,ADq]at H
     rcases mem_append.1 H with H|H
     . obtain⟨i,a,rfl,I,U⟩:=k3 b H
       exact⟨i,AX4 ..,a,I,U⟩
     . cases H
  |cons d cs=>
   cases l with
   |nil=>exact(A2 hx).elim
   |cons s q=>
    have hx:(match AIS (A1 σ.res) c s,AIT (A1 σ.res) (d::cs) q with
     |some x,some y=>some (x,y)
     |_,_=>none)=some x:=hx
    cases hy:AIS (A1 σ.res) c s with
    |none=>rw[hy]at hx;exact(A2 hx).elim
    |some y=>
     cases E:AIT (A1 σ.res) (d::cs) q with
     |none=>rw[hy,E]at hx;exact(A2 hx).elim
     |some z=>
      rw[hy,E]at hx
      have hx:(y,z)=x:=AXz hx
      subst hx
      obtain⟨u,cl,r,rfl,W,J,V⟩:=C
      obtain⟨k1,k2,k3⟩:=AMR h A W hy
      obtain rfl:=cell k1 J
      obtain⟨g1,g2⟩:=ih q V (ASN Y) E
      refine⟨⟨u,r,rfl,k1,k2,fun b H Q=>?_,g1⟩,fun b H=>?_⟩
      . obtain⟨i,a,rfl,I,U⟩:=k3 b H
        obtain⟨j,K,a',D,T⟩:=g2 b Q
        have F:i≠j:=fun e=>by
         subst e;exact(List.nodup_cons.1 Y).1 K
        exact h.hp.dis (ι i) (ι j) _ _ (h.res i a I) (h.res j a' D) (fun e=>F (h.inj i j a a' I D e)) b U T
      . rw[show [u]++r=u::r from rfl,ADq]at H
        rcases mem_append.1 H with H|H
        . obtain⟨i,a,rfl,I,U⟩:=k3 b H
          exact⟨i,AX4 ..,a,I,U⟩
        . obtain⟨j,K,a',D,T⟩:=g2 b H
          exact⟨j,ASM K,a',D,T⟩
end
theorem ASP[Sl (P:=P)]{G:Gx}(K:GxOk P G){k:Nat}{f:Func}{c:Code}{an:An}{ps:List Pt}{cs:List Ck}{F:E0 ps->Option (E2 cs)}(Y:P.funcs[k]?=some f)(J:f.body=some c)(hl:Nat.ble ps.length f.ntmps=true)(X:∀a,F a=AQ3 G f an ps cs a):CtrA.ok P k ⟨ps,cs,F⟩:=by
 refine fun M w a vals r B T E I=>?_;have I:F a=some r:=I;rw[X]at I;unfold AQ3 at I;rw[J]at I;have U:∀(ps:List Pt) {a:E0 ps} {vals:List Value},ArgsOk M w ps a vals->vals.length=ps.length:=by
  intro ps;induction ps with
  |nil=>intro a vals h;have h:vals=[]:=h;rw[h];rfl
  |cons p ps ih=>intro a vals h;obtain⟨v,r,rfl,_,D⟩:=h;simp[ih D]
 have L:Holds w [] M ⟨AA4 0 ps a,[],[],[]⟩ (P6 0 vals) w:=by
  refine⟨[],fun _=>undef,fun _=>[],fun _=>[],fun _=>0,Hp.start B,(fun i a h=>by cases h),(fun i j a b h=>by cases h),(fun i a h=>by cases h),fun t s h=>?_,trivial,T⟩;exact AFl ps 0 E t s h
 have fin:∀σ' L' w',ANg G cs f.results.toList σ'=some r->Holds w [] M σ' L' w'->ABC P f (fun e w'=>∃vs,e=.returned (.agg (toArray vs))/\Ext w w'/\KsD (P:=P) (X7 cs vs) M w w' cs r vs) [] L' w':=fun σ' L' w' H V=>by
  obtain⟨S,ρ,γ,μ,ι,W⟩:=V;unfold ANg at H;split at H
  . rename_i r0 C;split at H
    . rename_i l hl;cases hnd:ndK (ADT l) with
      |false=>rw[hnd]at H;exact(A2 H).elim
      |true=>
       rw[hnd]at H
       obtain⟨v,N,vs,rfl,D⟩:=AIH W K hl
       have key:=fun O A=>ASO W (O:=O) A cs l D (AMQ hnd) (show AIT (A1 σ'.res) cs l=some r from H)
       refine N8 (rs:=[r0]) (vs:=[_]) (by rw[<-C]) (.cons N .nil) rfl ⟨vs,rfl,W.hp.kp,(key _ fun b J=>?_).1⟩
       obtain⟨i,_,a,R,Z⟩:=(key [] fun b J=>by cases J).2 b J
       exact mem_mm.2 (.inl ⟨_,AX1 (W.res i a R),Z⟩)
    . cases H
  . cases H
 refine G6 Y J rfl (by rw[U ps E];exact hl) ?_;refine Y1 (n:=3) ?_;exact I0 K c an _ _ _ _ _ _ _ _ _ _ _ _ _ I L (fun σ' L' w' H _ _ V=>fin σ' L' w' H V) (fun i σ' L' w' H=>by cases H) (fun r' σ' L' w' Q hk _ V=>by
  have hk:r'=r:=AXz hk;subst hk;exact fin σ' L' w' Q V) PZ.no
end Go.Rx
namespace Go.Proofs.YtgioiejbphljoaaGreatDoor
open Go Go.Sx Go.Rx Go.RowKit
def G4  : Option (Int×Int×Int×(List Report)×(List Dispute)×(List Answer)):=some (30,100,60,[(Report.mk 1 70 5 12 10 3 500 0),(Report.mk 2 70 5 22 20 5 40 0),(Report.mk 3 70 5 26 25 6 500 0)],[(Dispute.mk 51 1 40),(Dispute.mk 52 2 41),(Dispute.mk 53 3 42)],[(Answer.mk 1 51 50 2 10 450),(Answer.mk 2 52 72 3 0 0),(Answer.mk 3 53 60 1 0 0),(Answer.mk 4 53 61 3 0 0)])
def AWN:An:=.x
def ctrm33:CtrM:={ ps:=[],i:=0,c:=.sl 0 (.int .i64),rs:=[],F:=fun _ _=>none,ag:=some ⟨[],[.d (.int .i64),.d (.int .i64),.d (.int .i64),.own (.sl 45 (.st 1)),.own (.sl 53 (.st 2)),.own (.sl 60 (.st 3))],fun a=>G4⟩ }
theorem okm33:CtrM.ok prog 33 ctrm33:=ASP (G:={ gxb with fs:=[],fm:=[] }) (an:=AWN) (ACp trivial trivial trivial) func33 rfl rfl (fun a=>by kernel_rfl)
end Go.Proofs.YtgioiejbphljoaaGreatDoor
namespace Go.Proofs.YtgioiejbphljoaaGreatDoor
open Go Go.Sx Go.Rx
namespace S
open Classical in
theorem AOy{D:Desk_99}:C5 D=some (if TV D.desk.terms then 0 else 50):=by
 unfold C5;rw[d_in1,d_in2];by_cases a1:0<=D.desk.terms.answer/\D.desk.terms.answer<=1000
 . by_cases a2:0<=D.desk.terms.mark/\D.desk.terms.mark<=100000
   . by_cases a3:0<=D.desk.terms.lately/\D.desk.terms.lately<=100000
     . rw[AYB ⟨a1,a2,a3⟩,F9 a1,F9 a2,F9 a3];rfl
     . rw[if_neg (fun h=>a3 h.2.2),F9 a1,F9 a2,show inB 0 100000 D.desk.terms.lately=false from AX8 a3];rfl
   . rw[if_neg (fun h=>a2 h.2.1),F9 a1,show inB 0 100000 D.desk.terms.mark=false from AX8 a2];rfl
 . rw[if_neg (fun h=>a1 h.1),show inB 0 1000 D.desk.terms.answer=false from AX8 a1];rfl
theorem AUN{D:Desk_99}(hk:∀r∈D.desk.reports,0<=r.kind/\r.kind<=255):D5 D=some (U3 D.desk.reports):=by
 unfold D5;rw[AMI hk];rfl
theorem AI7{d:Desk}(hl:d.reports.length<=1000000):Ret (H7 d) fun _=>True:=by
 unfold H7;refine Ret.bind (C2 d.reports.length (fun n (t:Int×A4 Int Report)=>t.1=n) rfl ?_ ?_)
 . rintro n H ⟨_,m⟩ rfl;refine Ret.condT (Y9 H) (Ret.bind (O4 H (Ret.bind (Ret.cond (fun h=>?_) fun h=>?_))))
   . exact Ret.ok (Ret.bind (Ret.chk (by omega) (Ret.next (by dsimp only;omega))))
   . exact Ret.ok (Ret.bind (Ret.chk (by omega) (Ret.next (by dsimp only;omega))))
 . rintro⟨_,m⟩ rfl;exact Ret.condF (Z0 (AYE _)) (Ret.done (Ret.ok trivial))
theorem AMS{α:Type}{l:List α}{id:α->Option Int}{right:α->Option Bool}{k:α->Int}{G:α->Prop}(hl:l.length<=1000000)(E:∀x∈l,Ret (right x) fun b=>b=true->G x)(W:∀x,id x=some (k x)):Ret (AJR l id right) fun b=>b=true->(∀x∈l,G x)/\(l.map k).Nodup:=by
 unfold AJR;refine Ret.bind (C2 l.length (fun n (t:Int×A4 Int Bool)=>t.1=n/\(∀x∈l.take n,G x)/\(∀(m:Nat) (hm:m<n) (C:m<l.length),∀x∈l.take m,k x≠k l[m])/\∀x∈l.take n,t.2 (k x)=some true) ⟨rfl,(fun x hx=>by simp at hx),(fun m hm=>by omega),(fun x hx=>by simp at hx)⟩ ?_ ?_)
 . rintro n H ⟨_,m⟩ ⟨rfl,J,U,hm⟩;dsimp only at hm;refine Ret.condT (Y9 H) (Ret.bind (O4 H (Ret.bind (ABh (E _ (AYJ H)) fun b D=>?_))));cases b with
   |false=>exact Ret.condT rfl (Ret.ok (Ret.condT rfl (Ret.done (E5 (Ret.ok fun h=>by cases h)))))
   |true=>
    refine Ret.condF rfl (V7 (W _) (Ret.ok ?_))
    by_cases c:(m (k l[n])).getD false=true
    . rw[c]
      exact Ret.condT rfl (Ret.done (E5 (Ret.ok fun h=>by cases h)))
    . refine Ret.condF (by simpa using c) (V7 (W _) (Ret.bind (Ret.chk (by omega) (Ret.next ⟨by dsimp only;omega,(fun x hx=>?_),(fun j F V=>?_),(fun x hx=>?_)⟩))))
      . rw[C4 H]at hx
        rcases hx with hx|rfl
        . exact J x hx
        . exact D rfl
      . by_cases e:j<n
        . exact U j e V
        . have:j=n:=by omega
          subst this
          intro x hx e
          rw[<-e,hm x hx]at c
          exact c rfl
      . dsimp only[B5]
        rw[C4 H]at hx
        split
        . rfl
        . rcases hx with hx|rfl
          . exact hm x hx
          . rename_i e;exact absurd rfl e
 . rintro⟨_,m⟩ ⟨rfl,J,U,_⟩;rw[AYL]at J;exact Ret.condF (Z0 (AYE _)) (Ret.done (C8 (Ret.ok fun _=>⟨J,AV3 fun n I=>U n I I⟩)))
theorem AUO{D:Desk_99}(E:TV D.desk.terms)(I:VL D.desk.reports)(J:D.desk.disputes.length<=1000000)(F:Fc D.desk D.facts):Ret (D6 D) fun e=>(e=0\/e=51)/\(e=0->DV D.desk):=by
 obtain⟨t1,t2,t3⟩:=E;have hl:=I.len;unfold D6;refine Ret.bind (C2 D.desk.reports.length (fun n (t:Int×A4 Int Bool)=>t.1=n/\∀x∈D.desk.reports.take n,t.2 x.id=some true) ⟨rfl,fun x hx=>by simp at hx⟩ ?_ ?_)
 . rintro n H ⟨_,m⟩ ⟨rfl,hm⟩;dsimp only at hm;refine Ret.condT (Y9 H) (Ret.bind (O4 H (Ret.bind (Ret.chk (by omega) (Ret.next ⟨by dsimp only;omega,fun x hx=>?_⟩)))));dsimp only[B5];rw[C4 H]at hx;split
   . rfl
   . rcases hx with hx|rfl
     . exact hm x hx
     . rename_i e;exact absurd rfl e
 rintro⟨_,m⟩ ⟨rfl,hm⟩;dsimp only at hm;rw[AYL]at hm;refine Ret.condF (Z0 (AYE _)) (Ret.done (Ret.bind (Ret.cond (fun c=>Ret.ok (Ret.condT rfl (Ret.ok ⟨.inr rfl,fun h=>by cases h⟩))) fun c=>?_)));have c:=AYD c;have C:Ret (N1 D.desk.disputes (fun a16=>I6 a16) (fun a17=>D8 a17 D m)) fun b=>b=true->(∀x∈D.desk.disputes,XV D.desk x)/\(D.desk.disputes.map (·.id)).Nodup:=AMS (k:=fun x:Dispute=>x.id) (G:=XV D.desk) J (fun x W=>?_) (fun _=>rfl)
 . refine ABh C fun b V=>Ret.ok ?_;cases b with
   |false=>exact Ret.condT rfl (Ret.ok ⟨.inr rfl,fun h=>by cases h⟩)
   |true=>exact Ret.condF rfl (Ret.ok ⟨.inl rfl,fun _=>⟨by omega,(V rfl).1,(V rfl).2⟩⟩)
 . unfold D8;rw[F];cases U:fct D.desk.reports x.report with
   |none=>exact Ret.bind (Ret.condF rfl (Ret.ok (Ret.ok fun h=>by cases h)))
   |some f=>
    refine Ret.bind (Ret.condT rfl ?_)
    dsimp only[Option.getD_some]
    rw[d_in1,bindS]
    refine Ret.cond (fun v1=>?_) fun _=>Ret.ok (Ret.ok fun h=>by cases h)
    have v1:=K9 v1
    refine Ret.cond (fun v2=>?_) fun _=>Ret.ok (Ret.ok fun h=>by cases h)
    refine Ret.bind (Ret.chk (by omega) (Ret.bind (Ret.chk (by omega) ?_)))
    rw[d_in1,bindS]
    refine Ret.ok (Ret.ok fun v3=>?_)
    have v3:=K9 v3
    exact⟨v1,(fun r I e=>by rw[<-e,hm r I]at v2;cases v2),f,U,v3.1,by omega⟩
end S
namespace S
theorem AUP{D:Desk_99}(I:VL D.desk.reports)(hd:DV D.desk)(T:∀a∈D.desk.answers,0<=a.says/\a.says<=255)(J:D.desk.answers.length<=1000000)(K:Fc D.desk D.facts):Ret (F1 D) fun e=>(e=0\/e=52)/\(e=0->WV D.desk):=by
 have E:=hd.len;unfold F1;refine Ret.bind (Ret.cond (fun c=>Ret.ok (Ret.condT rfl (Ret.ok ⟨.inr rfl,fun h=>by cases h⟩))) fun c=>?_);have c:=AYD c;have C:Ret (P3 D.desk.answers (fun a4=>N6 a4) (fun a5=>F6 a5 D)) fun b=>b=true->(∀a∈D.desk.answers,AV D.desk a)/\(D.desk.answers.map (·.id)).Nodup:=AMS (k:=fun a:Answer=>a.id) (G:=AV D.desk) J (fun a O=>?_) (fun _=>rfl)
 . refine ABh C fun b W=>Ret.ok ?_;cases b with
   |false=>exact Ret.condT rfl (Ret.ok ⟨.inr rfl,fun h=>by cases h⟩)
   |true=>exact Ret.condF rfl (Ret.ok ⟨.inl rfl,fun _=>⟨by omega,(W rfl).1,(W rfl).2⟩⟩)
 . unfold F6;refine Ret.bind ?_;refine(AHf (s:=D.desk.disputes) (f:=fun a1=>J0 a1 a) (fun _ _=>rfl) (by omega) (fun _=>?_) fun k hk h Y=>?_:Ret (AGl _ _) _)
   . exact Ret.bind (Ret.condT (by decide) (Ret.ok (Ret.condT rfl (Ret.ok fun h=>by cases h))))
   have h:=AX6 h;refine Ret.bind (Ret.condF (AX8 (by omega)) ?_);rw[d_in1,bindS];refine Ret.cond (fun _=>Ret.ok (Ret.condT rfl (Ret.ok fun h=>by cases h))) fun v1=>?_;have v1:=K9 (by simpa using v1);rw[d_in2,bindS];refine Ret.ok (Ret.cond (fun _=>Ret.ok fun h=>by cases h) fun v2=>?_);have v2:inB 0 100000 a.day=true/\inB 0 100000 a.about=true:=by simpa using v2
   have v2a:=K9 v2.1;have v2b:=K9 v2.2;refine Ret.bind (O4 hk ?_);have hx:D.desk.disputes[k]∈D.desk.disputes:=AYJ hk;generalize D.desk.disputes[k]=x at hx h;by_cases e:a.says=2
   . obtain⟨_,_,f,H,_⟩:=hd.v x hx;refine Ret.bind (Ret.condF (AX8 (by omega)) (Ret.ok ?_));rw[AX8 (show ¬a.says=3 by omega)];refine Ret.condF rfl (Ret.condT (AYA e) ?_);rw[K,H];have U:=ABO H;have F:=(I.v f U.1).1;rw[AMI (l:=[_]) (fun r I=>by rw[mem_singleton.1 I];dsimp only[Option.getD_some];omega),bindS];refine Ret.ok fun Q=>?_;have hv:=(code3_0.1 (AX6 Q)).v _ (List.mem_singleton_self _);obtain⟨_,_,_,_,_,_,w1,w2,_⟩:=hv;exact⟨v1,v2a,by omega,x,hx,h,fun n=>absurd e n,fun _ g V=>by
      rw[H]at V;cases V
      exact⟨w1,w2⟩⟩
   . by_cases e1:a.says=1\/a.says=3
     . refine Ret.bind (Ret.val (a:=true) ?_ (Ret.condT rfl (Ret.bind (Ret.cond (fun w1=>Ret.ok (Ret.ok fun w2=>?_)) fun _=>Ret.ok (Ret.ok fun h=>by cases h)))))
       . rcases e1 with e1|e1
         . rw[AYA e1];rfl
         . rw[AX8 (show ¬a.says=1 by omega),AYA e1];rfl
       . exact⟨v1,v2a,by omega,x,hx,h,fun _=>⟨AX6 w1,AX6 w2⟩,fun n=>absurd n e⟩
     . refine Ret.bind (Ret.val (a:=false) ?_ (Ret.condF rfl (Ret.condF (AX8 e) (Ret.ok fun h=>by cases h))));rw[AX8 (show ¬a.says=1 by omega),AX8 (show ¬a.says=3 by omega)];rfl
theorem AUQ{D:Desk_99}(V:TV D.desk.terms)(W:VL D.desk.reports)(hx:DV D.desk)(E:Fc D.desk D.facts):D6 D=some 0:=by
 obtain⟨t1,t2,t3⟩:=V;have hl:=W.len;have C:=hx.len;refine Ret.eq ?_;unfold D6;refine Ret.bind (C2 D.desk.reports.length (fun n (t:Int×A4 Int Bool)=>t.1=n/\∀i,(∀x∈D.desk.reports.take n,x.id≠i)->t.2 i=none) ⟨rfl,fun i _=>rfl⟩ ?_ ?_)
 . rintro n H ⟨_,m⟩ ⟨rfl,hm⟩;dsimp only at hm;refine Ret.condT (Y9 H) (Ret.bind (O4 H (Ret.bind (Ret.chk (by omega) (Ret.next ⟨by dsimp only;omega,fun i hi=>?_⟩)))));dsimp only[B5];rw[if_neg (fun e=>hi _ ((C4 H).2 (.inr rfl)) e.symm)];exact hm i fun x hx=>hi x ((C4 H).2 (.inl hx))
 rintro⟨_,m⟩ ⟨rfl,hm⟩;dsimp only at hm;rw[AYL]at hm;refine Ret.condF (Z0 (AYE _)) (Ret.done (Ret.bind (Ret.condF (AX8 (by omega)) ?_)));have U:N1 D.desk.disputes (fun a16=>I6 a16) (fun a17=>D8 a17 D m)=some true:=AIO (k:=(·.id)) (by omega) (fun x I=>?_) (fun _=>rfl) hx.nd
 . rw[U];exact Ret.ok (Ret.ok rfl)
 . obtain⟨v1,v2,f,J,v3,v4⟩:=hx.v x I;refine Ret.eq ?_;unfold D8;rw[E,J];have v2:=hm x.id v2;refine Ret.bind (Ret.condT rfl ?_);dsimp only[Option.getD_some];rw[d_in1,F9 v1,bindS,v2];refine Ret.condT rfl (Ret.condT rfl (Ret.bind (Ret.chk (by omega) (Ret.bind (Ret.chk (by omega) ?_)))));rw[d_in1,F9 (show _/\_ from⟨v3,by omega⟩)];exact Ret.ok (Ret.ok rfl)
structure NG(d:Desk):Prop where
 i:InD d
 r:d.reports.length<=1000000
 x:d.disputes.length<=1000000
 a:d.answers.length<=1000000
theorem code5_0{d:Desk}:M7 d=0↔Vd d:=by
 unfold M7;constructor
 . intro h;split at h
   . rename_i U;split at h
     . rename_i H;split at h
       . rename_i J;split at h
         . rename_i I;exact⟨U,code3_0.1 H,J,I⟩
         . cases h
       . cases h
     . rename_i H;exact absurd h H
   . cases h
 . intro h;rw[AYB h.t,AYB (code3_0.2 h.r),AYB h.x,AYB h.a]
theorem ALQ{d:Desk}(h:NG d):∃D,G3 d=some (D,M7 d)/\(M7 d=0->Dw d D):=by
 by_cases hv:Vd d
 . obtain⟨D,V,U⟩:=AMD hv;exact⟨D,by rw[V,code5_0.2 hv],fun _=>U⟩
 have C:M7 d≠0:=fun e=>hv (code5_0.1 e);have key:∀f,H7 d=some f->AAq ⟨d,f,fnone⟩ 0 4=some (M7 d)->∃D,G3 d=some (D,M7 d)/\(M7 d=0->Dw d D):=fun f V U=>by
  refine⟨⟨d,f,fnone⟩,?_,fun e=>absurd e C⟩;unfold G3;rw[V,bindS,U,bindS,if_neg C]
 by_cases I:TV d.terms;rotate_left
 . obtain⟨f,E,_⟩:=AI7 h.r;refine key f E ?_;have e:M7 d=50:=by unfold M7;rw[if_neg I]
   rw[e];show (C5 _).bind _=_;rw[AOy,if_neg I,bindS,if_neg (by decide)]
 have s1:∀f,C5 ⟨d,f,fnone⟩=some 0:=fun f=>by rw[AOy,AYB I]
 have s2:∀f,D5 ⟨d,f,fnone⟩=some (U3 d.reports):=fun f=>AUN h.i.k;by_cases W:U3 d.reports=0;rotate_left
 . obtain⟨f,E,_⟩:=AI7 h.r;refine key f E ?_;have e:M7 d=U3 d.reports:=by unfold M7;rw[AYB I,if_neg W]
   rw[e];show (C5 _).bind _=_;rw[s1,bindS,AYB rfl];show (D5 _).bind _=_;rw[s2,bindS,if_neg W]
 have H:=code3_0.1 W;obtain⟨f,E,J⟩:=AQv H;refine key f E ?_;show (C5 _).bind _=_;rw[s1,bindS,AYB rfl];show (D5 _).bind _=_;rw[s2,W,bindS,AYB rfl];show (D6 _).bind _=_;by_cases hd:DV d;rotate_left
 . have e:M7 d=51:=by unfold M7;rw[AYB I,AYB W,if_neg hd]
   obtain⟨e3,V,U,K⟩:=AUO (D:=⟨d,f,fnone⟩) I H h.x J;rcases U with rfl|rfl
   . exact absurd (K rfl) hd
   . rw[V,bindS,if_neg (by decide),e]
 rw[AUQ (D:=⟨d,f,fnone⟩) I H hd J,bindS,AYB rfl];show (F1 _).bind _=_;have F:¬WV d:=fun F=>hv ⟨I,H,hd,F⟩;have e:M7 d=52:=by unfold M7;rw[AYB I,AYB W,AYB hd,if_neg F]
 obtain⟨e4,V,U,K⟩:=AUP (D:=⟨d,f,fnone⟩) H hd h.i.s h.a J;rcases U with rfl|rfl
 . exact absurd (K rfl) F
 . rw[V,bindS,if_neg (by decide),e]
def AA8(d:Desk)(day:Int):Int:=if M7 d=0 then(if inB 0 100000 day then 0 else 2) else M7 d
theorem AI8{d:Desk}(h:NG d){day:Int}:∃D,F4 d day=some (D,AA8 d day)/\(M7 d=0->Dw d D):=by
 obtain⟨D,I,H⟩:=ALQ h;refine⟨D,?_,H⟩;unfold F4 AA8;rw[I,bindS];dsimp only;by_cases e:M7 d=0
 . rw[AYB e,e];rw[d_in1];cases J:inB 0 100000 day with
   |true=>rfl
   |false=>rfl
 . rw[if_neg e,AX8 e];rfl
end S
namespace S
theorem codeE_0{d:Desk}{day:Int}:AA8 d day=0↔Vd d/\0<=day/\day<=100000:=by
 unfold AA8;constructor
 . intro h;split at h
   . rename_i H;split at h
     . rename_i I;exact⟨code5_0.1 H,K9 I⟩
     . cases h
   . rename_i H;exact absurd h H
 . rintro⟨H,I⟩;rw[AYB (code5_0.2 H),AYB (F9 I)]
def AUR(d:Desk)(asked:List Asked)(day:Int)(r:List Letter×Int):Prop:=(AA8 d day≠0/\r=([],AA8 d day))\/(AA8 d day=0/\((¬AskV asked/\r=([],53))\/(AskV asked/\LtS d asked day r)))
theorem AOz{d:Desk}(h:NG d){asked:List Asked}(K:asked.length<=1000000){day:Int}:Ret (C3 d asked day) (AUR d asked day):=by
 obtain⟨D,C,hD⟩:=AI8 h (day:=day);by_cases e:AA8 d day=0;rotate_left
 . unfold C3;refine Ret.bind ?_;unfold X9;rw[C,bindS];exact Ret.condT (by rw[AX8 e];rfl) (Ret.ok (E5 (Ret.ok (.inl ⟨e,rfl⟩))))
 obtain⟨hv,hd⟩:=codeE_0.1 e;by_cases H:AskV asked
 . exact(AI6 hv H hd).mono fun r E=>.inr ⟨e,.inr ⟨H,E⟩⟩
 have bad:AUR d asked day ([],53):=.inr ⟨e,.inl ⟨H,rfl⟩⟩;unfold C3;refine Ret.bind ?_;unfold X9;rw[C,bindS];refine Ret.condF (by rw[e];rfl) (Ret.bind (C2 asked.length (fun n (t:Int×Int)=>t.2=n/\-1<=t.1/\t.1<=999999/\(∀a∈asked.take n,(0<=a.id/\a.id<=999999)/\(0<=a.who/\a.who<=999999)/\(0<=a.account/\a.account<=999999)/\(0<=a.day/\a.day<=100000))/\(∀(m:Nat) (h:m+1<asked.length),m+1<n->asked[m].id<asked[m+1].id)/\∀(m:Nat) (h:m<asked.length),n=m+1->t.1=asked[m].id) ⟨rfl,by decide,by decide,fun a H=>by simp at H,fun m h hm=>by omega,fun m h hm=>by omega⟩ ?_ ?_))
 . rintro n J ⟨p,_⟩ ⟨rfl,V,U,I,W,hl⟩;dsimp only at V U hl;refine Ret.condT (Y9 J) (Ret.bind (O4 J (Ret.bind (Ret.mono (Q:=fun b:Bool=>b=false->((p+1<=asked[n].id/\asked[n].id<=999999)/\(0<=asked[n].who/\asked[n].who<=999999)/\(0<=asked[n].account/\asked[n].account<=999999)/\(0<=asked[n].day/\asked[n].day<=100000))) ?_ fun b F=>?_))))
   . refine Ret.bind (Ret.chk (by omega) ?_);rw[d_in1,bindS];refine Ret.cond (fun _=>Ret.ok fun h=>by cases h) fun v1=>?_;have v1:=K9 (by simpa using v1);rw[d_in2,bindS];refine Ret.cond (fun _=>Ret.ok fun h=>by cases h) fun v2=>?_;have v2:inB 0 999999 asked[n].who=true/\inB 0 999999 asked[n].account=true:=by simpa using v2
     rw[d_in1,bindS];refine Ret.ok fun v3=>⟨v1,K9 v2.1,K9 v2.2,K9 (by simpa using v3)⟩
   . cases b with
     |true=>exact Ret.condT rfl (Ret.done (E5 (Ret.ok (E5 (Ret.ok bad)))))
     |false=>
      obtain⟨v1,v2,v3,v4⟩:=F rfl
      refine Ret.condF rfl (Ret.bind (Ret.chk (by omega) (Ret.next ⟨by dsimp only;omega,by dsimp only;omega,by dsimp only;omega,fun a H=>?_,fun m h hm=>?_,fun m h hm=>?_⟩)))
      . rw[C4 J]at H
        rcases H with H|rfl
        . exact I a H
        . exact⟨⟨by omega,by omega⟩,v2,v3,v4⟩
      . by_cases em:m+1=n
        . subst em
          have:=hl m (by omega) rfl
          omega
        . exact W m h (by omega)
      . have:m=n:=by omega
        subst this;rfl
 . rintro⟨p,_⟩ ⟨rfl,V,U,I,W,hl⟩;rw[AYL]at I;refine Ret.condF (Z0 (AYE _)) (Ret.done (C8 (Ret.cond (fun _=>Ret.ok (E5 (Ret.ok bad))) fun c=>?_)));have c:=AYD c;exact absurd ⟨by omega,I,fun m h=>W m h h⟩ H
end S
end Go.Proofs.YtgioiejbphljoaaGreatDoor
namespace Go.Proofs.YtgioiejbphljoaaGreatDoor
open Go Go.Sx Go.Rx Go.RowKit
def R5  : Option Bool:=Option.bind (α:=Bool) ((R7).bind fun r5=>cond ((!r5)) (some true) ((X5 (52:Int) (71:Int) (1:Int) (72:Int)).bind fun r6=>cond ((!r6)) (some true) ((M4 (3:Int) (60:Int) (2:Int)).bind fun r7=>cond ((!r7)) (some true) ((M4 (1:Int) (50:Int) (0:Int)).bind fun r8=>some (!r8))))) ((fun x9=>cond (x9) (some false) ((G4).bind fun (r10,r11,r12,r13,r14,r15)=>(G4).bind fun (r16,r17,r18,r19,r20,r21)=>(G4).bind fun (r22,r23,r24,r25,r26,r27)=>(ixo r20 1).bind fun y28=>(ABE r20 1 (Dispute.mk 1 y28.report y28.day)).bind fun l29=>(ixo r27 1).bind fun y30=>(ABE r27 1 (Answer.mk y30.id y30.dispute y30.day y30.says y30.about 5)).bind fun l31=>(G4).bind fun (r32,r33,r34,r35,r36,r37)=>(C0 (S:=(Int×(List Report))) (R:=((List Report))) (fun (x51,x52)=>cond (decide (x51<58)) ((chk .i64 (x51+2)).bind fun n53=>(ABR x52 (min n53 60)).bind fun l54=>(chk .i64 (100+x51)).bind fun n55=>(appo 64 l54 ([(Report.mk n55 0 0 0 0 1 0 0)])).bind fun l56=>(chk .i64 (x51+1)).bind fun n57=>some (Sum.inl (n57,l56))) (some (Sum.inr x52))) ((0:Int),r35)).bind ((fun x58=>(G4).bind fun (r59,r60,r61,r62,r63,r64)=>(J1 (Desk.mk (Terms.mk r59 r60 r61) r62 r63 r64) (54:Int) (50:Int)).bind fun (r65,r66,r67)=>(G4).bind fun (r68,r69,r70,r71,r72,r73)=>(J8 (Desk.mk (Terms.mk r68 r69 r70) r71 r72 r73) ((-1):Int)).bind fun (r74,r75)=>(G4).bind fun (r76,r77,r78,r79,r80,r81)=>(O0 (Desk.mk (Terms.mk r76 r77 r78) r79 r80 r81) (51:Int) (50:Int)).bind fun (r82,r83)=>(G4).bind fun (r84,r85,r86,r87,r88,r89)=>(C3 (Desk.mk (Terms.mk r84 r85 r86) r87 r88 r89) ([(Asked.mk 5 0 0 0),(Asked.mk 5 0 0 0)]) (50:Int)).bind fun (r90,r91)=>(H8 (Desk.mk (Terms.mk r32 r33 r34) x58 ([(Dispute.mk 51 1 40)]) ([]:List Answer)) (71:Int)).bind fun (r92,r93)=>Option.bind (α:=Bool) (cond (decide (r67=6)) (cond (decide (r75=2)) (cond (decide (r83=6)) (cond (decide (r91=53)) (cond (decide (r93=9)) ((E3 (Desk.mk (Terms.mk 1001 r11 r12) r13 r14 r15)).bind fun r97=>cond (decide (r97=50)) ((E3 (Desk.mk (Terms.mk r16 r17 r18) r19 l29 r21)).bind fun r98=>cond (decide (r98=51)) ((E3 (Desk.mk (Terms.mk r22 r23 r24) r25 r26 l31)).bind fun r99=>some (decide (r99=52))) (some false)) (some false)) (some false)) (some false)) (some false)) (some false)) (some false)) ((fun x100=>some x100)))))))
def an8:An:=.nd .x (.nd (.nd (.jn [.norm ⟨[(.slot 32,.d .bool)],[]⟩] .x) .x) (.nd .x (.nd .x (.nd .x (.nd .x (.nd .x (.nd (.nd .x (.lp ⟨[(.slot 47,.d (.int .i64)),(.cell 4 3,.own (.sl 45 (.st 1)))],[4,500046,400046,3,2,1,500035,400035,300035,500034,400034,300034,500033,400033,300033]⟩ [.exit 0 ⟨[(.cell 4 3,.own (.sl 45 (.st 1)))],[4,500046,400046,3,2,1,500035,400035,300035,500034,400034,300034,500033,400033,300033]⟩] .x)) (.nd .x (.nd .x (.nd .x (.nd .x (.nd .x (.nd .x (.nd (.jn [.norm ⟨[(.slot 0,.d .bool)],[]⟩] .x) .x))))))))))))))
def AXc:Ctr:=⟨[],[.d .bool],fun a=>R5 ⟩
theorem ok8:Ctr.ok prog 8 AXc:=B3 (G:={ gxb with fs:=[(14,ctr14),(16,ctr16),(21,ctr21),(23,ctr23),(24,ctr24),(28,ctr28),(31,ctr31),(32,ctr32),(34,ctr34)],fm:=[(33,ctrm33)] ,ct:=[55] }) (an:=an8) (APP (G:={ gxb with fs:=[(14,ctr14),(16,ctr16),(21,ctr21),(23,ctr23),(24,ctr24),(28,ctr28),(31,ctr31),(32,ctr32),(34,ctr34)],fm:=[(33,ctrm33)]  }) (ACp ⟨⟨ok14,call14⟩,⟨ok16,call16⟩,⟨ok21,call21⟩,⟨ok23,call23⟩,⟨ok24,call24⟩,⟨ok28,call28⟩,⟨ok31,call31⟩,⟨ok32,call32⟩,⟨ok34,call34⟩,trivial⟩ trivial ⟨⟨okm33,call33⟩,trivial⟩) [55]) func8 rfl rfl rfl rfl (fun a=>by kernel_rfl)
end Go.Proofs.YtgioiejbphljoaaGreatDoor
namespace Go.Proofs.YtgioiejbphljoaaGreatDoor
open Go Go.Sx Go.Rx
namespace S
theorem D0_ng:NG D0:=⟨⟨by decide +kernel,by decide +kernel⟩,by decide,by decide,by decide⟩
theorem AIU{d:Desk}(h:NG d):E3 d=some (M7 d):=by
 obtain⟨D,H,_⟩:=ALQ h;unfold E3;rw[H,bindS]
def AUS(k:Nat):Report:=Report.mk (100+(k:Int)) 0 0 0 0 1 0 0
def AAK(n:Nat):List Report:=[Report.mk 1 70 5 12 10 3 500 0,Report.mk 2 70 5 22 20 5 40 0]++(List.range n).map AUS
theorem ACt(n:Nat):(AAK n).length=n+2:=by
 unfold AAK;rw[AYN,AYZ,List.length_range];show 2+n=n+2;omega
theorem AO0(n:Nat):AAK (n+1)=AAK n++[AUS n]:=by
 unfold AAK;rw[List.range_succ,AYI,AYU];rfl
def fullD:Desk:=Desk.mk (Terms.mk 30 100 60) (AAK 58) [Dispute.mk 51 1 40] []
theorem ASQ:Vd fullD:=by
 refine⟨?_,⟨by decide +kernel,fun r I=>?_,fun a H b J e=>?_⟩,⟨by decide,fun x hx=>?_,by decide +kernel⟩,by decide,(fun a H=>by cases H),by decide⟩
 . unfold TV;decide +kernel
 . have h:∀r∈AAK 58,V r:=by unfold V;decide +kernel
   exact h r I
 . have h:∀a∈AAK 58,∀b∈AAK 58,a.id=b.id->a=b:=by decide +kernel
   exact h a H b J e
 . have hx:x=Dispute.mk 51 1 40:=mem_singleton.1 hx;subst hx;have U:∀r∈AAK 58,r.id≠51:=by decide +kernel
   exact⟨by decide,U,Report.mk 1 70 5 12 10 3 500 0,by kernel_rfl,by decide,by decide⟩
theorem AFx(F:R7=some true):R5=some true:=by
 have E:G4=some (30,100,60,[(Report.mk 1 70 5 12 10 3 500 0),(Report.mk 2 70 5 22 20 5 40 0),(Report.mk 3 70 5 26 25 6 500 0)],[(Dispute.mk 51 1 40),(Dispute.mk 52 2 41),(Dispute.mk 53 3 42)],[(Answer.mk 1 51 50 2 10 450),(Answer.mk 2 52 72 3 0 0),(Answer.mk 3 53 60 1 0 0),(Answer.mk 4 53 61 3 0 0)]):=rfl;have d2:Dispute.mk 52 2 41∈D0.disputes:=.tail _ (.head _);refine Ret.eq ?_;unfold R5;rw[F,bindS];refine Ret.bind (Ret.condF rfl ?_);rw[AJV d2 rfl (day:=71) (w:=1) (n:=72) (by decide) (by kernel_rfl) (by kernel_rfl),bindS];refine Ret.condF rfl ?_;rw[ADw (i:=3) (day:=60) (m:=2) (by decide) (by kernel_rfl) (by kernel_rfl),bindS];refine Ret.condF rfl ?_;rw[ADw (i:=1) (day:=50) (m:=0) (by decide) (by kernel_rfl) (by kernel_rfl),bindS];refine Ret.ok (Ret.condF rfl ?_);rw[E];refine Ret.bind (Ret.ok (Ret.bind (Ret.ok (Ret.bind (Ret.ok ?_)))));dsimp only;refine Ret.bind (Ret.val (a:=Dispute.mk 52 2 41) (by kernel_rfl) (Ret.bind (Ret.val (a:=[(Dispute.mk 51 1 40),(Dispute.mk 1 2 41),(Dispute.mk 53 3 42)]) (by kernel_rfl) ?_)));refine Ret.bind (Ret.val (a:=Answer.mk 2 52 72 3 0 0) (by kernel_rfl) (Ret.bind (Ret.val (a:=[(Answer.mk 1 51 50 2 10 450),(Answer.mk 2 52 72 3 0 5),(Answer.mk 3 53 60 1 0 0),(Answer.mk 4 53 61 3 0 0)]) (by kernel_rfl) ?_)));refine Ret.bind (Ret.ok ?_);dsimp only;refine Ret.bind (C2 58 (fun n (t:Int×List Report)=>t.1=n/\(t.2=AAK n\/n=0/\t.2=[(Report.mk 1 70 5 12 10 3 500 0),(Report.mk 2 70 5 22 20 5 40 0),(Report.mk 3 70 5 26 25 6 500 0)])) ⟨rfl,.inr ⟨rfl,rfl⟩⟩ ?_ ?_)
 . rintro n O ⟨_,l⟩ ⟨rfl,hl⟩;dsimp only at hl;have U:ABR l (min ((n:Int)+2) 60)=some (AAK n):=by
    rw[show min ((n:Int)+2) 60=((n+2:Nat):Int) by omega];rcases hl with rfl|⟨rfl,rfl⟩
    . unfold ABR;rw[AYB ⟨by omega,by rw[ACt];omega⟩,Int.toNat_natCast,<-ACt n,AYL]
    . rfl
   refine Ret.condT (AYA (by omega)) (Ret.bind (Ret.chk (by omega) (Ret.bind (Ret.val U (Ret.bind (Ret.chk (by omega) (Ret.bind (Ret.appo ?_ ?_ (Ret.bind (Ret.chk (by omega) (Ret.next ⟨by dsimp only;omega,.inl (AO0 n).symm⟩)))))))))))
   . rw[ACt];simp only[List.length_singleton];omega
   . rw[ACt];simp only[List.length_singleton];omega
 rintro⟨_,l⟩ ⟨rfl,hl⟩;dsimp only at hl;have hl:l=AAK 58:=by
  rcases hl with h|⟨h,_⟩
  . exact h
  . cases h
 subst hl;refine Ret.condF (by decide) (Ret.done ?_);have K:J1 D0 54 50=some (0,0,6):=by
  obtain⟨D,I,hD⟩:=ABP D0_vd (day:=50) (by decide);refine Ret.eq ?_;unfold J1;rw[I,bindS];refine Ret.condF (by decide) (Ret.bind ?_);rw[hD.d];refine(AHf (s:=D0.disputes) (f:=fun a3=>Q9 a3 54) (fun _ _=>rfl) (by decide) (fun h=>?_) fun k hk h Y=>?_:Ret (AGl _ _) _)
  . exact Ret.condT (by decide) (Ret.ok rfl)
  . have Q:∀x∈D0.disputes,x.id≠54:=by decide +kernel
    exact absurd (AX6 h) (Q _ (AYJ hk))
 have J:J8 D0 (-1)=some ([],2):=by
  obtain⟨D,I,_⟩:=AI8 D0_ng (day:=-1);have e:AA8 D0 (-1)=2:=by unfold AA8;rw[AYB (code5_0.2 D0_vd)];rfl
  unfold J8;rw[I,bindS,e];rfl
 have V:O0 D0 51 50=some (0,6):=by
  rw[AOn D0_vd (by decide),if_neg (by decide +kernel)]
 have W:C3 D0 [(Asked.mk 5 0 0 0),(Asked.mk 5 0 0 0)] 50=some ([],53):=by
  obtain⟨r,I,H⟩:=AOz D0_ng (asked:=[(Asked.mk 5 0 0 0),(Asked.mk 5 0 0 0)]) (by decide) (day:=50);have e:AA8 D0 50=0:=codeE_0.2 ⟨D0_vd,by decide⟩;rcases H with⟨H,_⟩|⟨_,⟨_,H⟩|⟨H,_⟩⟩
  . exact absurd e H
  . rw[I,H]
  . have:=H.up 0 (by decide);exact absurd this (by decide)
 have C:H8 fullD 71=some ([],9):=by
  obtain⟨r,I,H⟩:=ALK ASQ (day:=71) (by decide);have hm:(ABw fullD 71).length=1:=by kernel_rfl
  have T:fullD.reports.length=60:=ACt 58;rcases H with⟨_,H⟩|⟨H,_⟩
  . rw[I,H]
  . omega
 have c1:E3 (Desk.mk (Terms.mk 1001 100 60) D0.reports D0.disputes D0.answers)=some 50:=by
  rw[AIU (d:=Desk.mk (Terms.mk 1001 100 60) D0.reports D0.disputes D0.answers) ⟨⟨D0_ng.i.k,D0_ng.i.s⟩,D0_ng.r,D0_ng.x,D0_ng.a⟩];unfold M7;rw[if_neg (fun h=>absurd h.1.2 (by decide))]
 have c2:E3 (Desk.mk (Terms.mk 30 100 60) D0.reports [(Dispute.mk 51 1 40),(Dispute.mk 1 2 41),(Dispute.mk 53 3 42)] D0.answers)=some 51:=by
  rw[AIU (d:=Desk.mk (Terms.mk 30 100 60) D0.reports [(Dispute.mk 51 1 40),(Dispute.mk 1 2 41),(Dispute.mk 53 3 42)] D0.answers) ⟨⟨D0_ng.i.k,D0_ng.i.s⟩,D0_ng.r,by decide,D0_ng.a⟩];unfold M7;rw[AYB (show TV (Terms.mk 30 100 60) from D0_vd.t),AYB (code3_0.2 (show VL D0.reports from D0_VL)),if_neg];intro h;exact(h.v (Dispute.mk 1 2 41) (.tail _ (.head _))).2.1 (Report.mk 1 70 5 12 10 3 500 0) (.head _) rfl
 have c3:E3 (Desk.mk (Terms.mk 30 100 60) D0.reports D0.disputes [(Answer.mk 1 51 50 2 10 450),(Answer.mk 2 52 72 3 0 5),(Answer.mk 3 53 60 1 0 0),(Answer.mk 4 53 61 3 0 0)])=some 52:=by
  rw[AIU (d:=Desk.mk (Terms.mk 30 100 60) D0.reports D0.disputes [(Answer.mk 1 51 50 2 10 450),(Answer.mk 2 52 72 3 0 5),(Answer.mk 3 53 60 1 0 0),(Answer.mk 4 53 61 3 0 0)]) ⟨⟨D0_ng.i.k,by decide +kernel⟩,D0_ng.r,D0_ng.x,by decide⟩];unfold M7;rw[AYB (show TV (Terms.mk 30 100 60) from D0_vd.t),AYB (code3_0.2 (show VL D0.reports from D0_VL)),AYB ⟨D0_vd.x.len,D0_vd.x.v,D0_vd.x.nd⟩,if_neg];intro h;obtain⟨_,_,_,x,_,_,I,_⟩:=h.v (Answer.mk 2 52 72 3 0 5) (.tail _ (.head _));exact absurd (I (by decide)).2 (by decide)
 refine Ret.bind (Ret.ok ?_);show Ret ((J1 D0 54 50).bind _) _;rw[K,bindS];refine Ret.bind (Ret.ok ?_);show Ret ((J8 D0 (-1)).bind _) _;rw[J,bindS];refine Ret.bind (Ret.ok ?_);show Ret ((O0 D0 51 50).bind _) _;rw[V,bindS];refine Ret.bind (Ret.ok ?_);show Ret ((C3 D0 [(Asked.mk 5 0 0 0),(Asked.mk 5 0 0 0)] 50).bind _) _;rw[W,bindS];show Ret ((H8 fullD 71).bind _) _;rw[C,bindS];refine Ret.bind (Ret.condT rfl (Ret.condT rfl (Ret.condT rfl (Ret.condT rfl (Ret.condT rfl ?_)))));show Ret ((E3 (Desk.mk (Terms.mk 1001 100 60) D0.reports D0.disputes D0.answers)).bind _) _;rw[c1,bindS];refine Ret.condT rfl ?_;show Ret ((E3 (Desk.mk (Terms.mk 30 100 60) D0.reports [(Dispute.mk 51 1 40),(Dispute.mk 1 2 41),(Dispute.mk 53 3 42)] D0.answers)).bind _) _;rw[c2,bindS];refine Ret.condT rfl ?_;show Ret ((E3 (Desk.mk (Terms.mk 30 100 60) D0.reports D0.disputes [(Answer.mk 1 51 50 2 10 450),(Answer.mk 2 52 72 3 0 5),(Answer.mk 3 53 60 1 0 0),(Answer.mk 4 53 61 3 0 0)])).bind _) _;rw[c3,bindS];exact Ret.ok (Ret.ok rfl)
end S
end Go.Proofs.YtgioiejbphljoaaGreatDoor
end
