/-
  Part DisputeLate 10 of the texts that the statement's proof stands on: what memory holds, how code is walked, what the functions reckon. In the order in which they build.
-/
import Derived.Test.YtgioiejbphljoaaGreatDoorDiDisputeLate9
set_option linter.unusedVariables false
set_option linter.unusedSectionVars false
set_option maxRecDepth 20000
set_option maxHeartbeats 4000000
namespace Go.Proofs.YtgioiejbphljoaaGreatDoor
open Go Go.Sx Go.Rx Go.RowKit
noncomputable def AG1 (x:Desk_99) (al:List Asked) (l:List Report) (f:A4 (Int×Int) Int) (y:Dispute×Verdict):Option (A4 (Int×Int) Int):=Option.bind (AAm l y.1 y.2) fun n=>Option.bind (T5 al) fun bs=>ABX (inB x l y.1 y.2 n.1 n.2) f bs
noncomputable def APw:Code:=match ATx with
 |.seq c _=>c
 |_=>.skip
noncomputable def AXT:Code:=match Tryz.f16.body with
 |some (.seq _ (.seq _ (.seq _ (.seq _ (.seq _ (.seq _ (.seq _ (.seq _ (.seq _ (.seq (.seq _ (.block _ c)) _))))))))))=>c
 |_=>.skip
noncomputable def AT0 (σ:AS):Option (Report×Bool):=match A1 σ.env 17,A1 σ.env 18,A1 σ.res 17,A1 σ.res 18 with
 |some (.ptr 17 0),some (.ptr 18 0),some (.row 45 c),some (.row 4 [.bool b])=>match A8 (.agg c) with
  |[]=>match C1 (A1 σ.res) (.st 1) (.agg c) with
   |some r=>some (r,b)
   |none=>none
  |_=>none
 |_,_,_,_=>none
def ANL (l:List Report) (y:Dispute) (v:Verdict):List (Nat×SV):=[(13,.rp (.dat (.sl (.st 1)) l) 0),(15,.rp (.str 2 y) 0),(16,.rp (.str 12 v) 0)]
theorem AV2 (l:List Report) (y:Dispute) (v:Verdict):exec APv 181 (fun _=>(none:Option Unit)) APw AIa AT0 (fun _ _=>none) (fun _=>none) ⟨ANL l y v,[],[],[]⟩=AAm l y v:=by kernel_rfl
def ALo (M':List Nat) (Lb:Sx.A7) (y:Dispute×Verdict) (L:Sx.A7) (W:World):Prop:=∃ b15 b16,L=(16,.pointer (some ⟨b16,0,none⟩)) :: (15,.pointer (some ⟨b15,0,none⟩)) :: (84,J8 (.st 12) y.2) :: (83,J8 (.st 2) y.1) :: Lb/\RdC M' W b15 0 (ABV y.1)/\RdC M' W b16 0 (ADa y.2)
theorem ARw {w wl:World} {M:List Nat} {bd b14:Nat} {x:Desk_99} {day:Int} {al:List Asked} {l:List Report} {p8 p4 p13 p1 p2:Value} {f f':A4 (Int×Int) Int} {ys:List (Dispute×Verdict)} {Lb:Sx.A7} {ds:List Deferred} {A B:A3} {X:Nat->A3} {Z:List PanicEntry->A3}
  (hbd:bd < wl.heap.size) (hI:Hp w [] M (MP bd f) wl) (hD:D16 (bd :: M) wl x al l p8 p4 p13 b14 bd) (h1:Ok (P:=Tryz.prog) (fun _=>undef) (fun _=>none) (bd :: M) wl (.rp (.str 10 x) 0) p1) (h2:Ok (P:=Tryz.prog) (fun _=>undef) (fun _=>none) (bd :: M) wl (.rp (.int .i64 day) 0) p2)
  (l4:Sx.A5 Lb 4=some p4) (l8:Sx.A5 Lb 8=some p8) (l13:Sx.A5 Lb 13=some p13) (l14:Sx.A5 Lb 14=some (.pointer (some ⟨b14,0,none⟩))) (l82:Sx.A5 Lb 82=some (.func (.func 84) #[] #[p1,p2]))
  (hys:AFT x day x.desk.disputes=some ys) (hok:∀ y∈ys,ADT [.st 2,.st 12] y) (hr:ABX (AG1 x al l) f ys=some f')
  (hA:∀ D W,wl.heap.size<=D->Hp w [] M (MP bd f') W->Adv (bd :: M) (bd :: M) wl W->W.heap[D]?=some (.deferred (some []))->A ({ target:=.collected D,args:=#[] } :: ds) Lb W):CW Tryz.prog 181 AXT ds Lb wl A B X Z:=by
 obtain⟨ho1,ho2⟩:=AFB hr
 have hMlt:MLt (bd :: M) wl:=hI.mlt
 have hwl:w.heap.size<=wl.heap.size:=hI.kp.size
 let I:List {x // x∈ys}->World->Prop:=fun pre W=>∃ g,List.foldlM (AG1 x al l) f (pre.map Subtype.val)=some g/\Hp w [] M (MP bd g) W/\Adv (bd :: M) (bd :: M) wl W
 refine ANH 3 (val:=fun a:{x // x∈ys}=>J8 (.st 2) a.1.1) (val2:=fun a=>J8 (.st 12) a.1.2) (K:=KI (bd :: M) wl.heap.size) (xs:=ys.attach) l82 Tryz.call84 rfl rfl (AEs 4 hMlt hD.g h1 h2 hys Subtype.val _ (List.attach_map_subtype_val _)) (fun h k=>h.trans k) (fun W k o o' hk _ _ _=>KI.putObj hk) I (fun _ _=>False) ?_ (fun _ _ _ _ h _ _=>h.elim) ⟨f,rfl,hI,Adv.refl _ _⟩ (fun a L' W=>ALo (bd :: M) Lb a.1 L' W) ?_ ?_ ?_ ?_ (fun _ _ _ _ _ h _=>h.elim)
 . rintro pre W W' row ⟨g,e1,e2,e3⟩ hgr hr
   exact⟨g,e1,Hp.turn (fun h=>h) e3.kp.size hwl (AQC hbd tn0) e2 hgr hr,Adv.turn (fun h=>h) e3 hgr hr⟩
 . rintro a L' _ W W' row ⟨b15,b16,e1,e2,e3⟩ hgr hr
   exact⟨b15,b16,e1,AG0 e2 hgr fun r e=>(hr r e).2,AG0 e3 hgr fun r e=>(hr r e).2⟩
 . rintro k pre a W ⟨g,e1,e2,e3⟩
   refine AHG ?_
   refine AA8 rfl ?_
   refine ACZ e2 Tryz.zeroValue53 rfl rfl ?_
   intro b15 w5 hI5 x5
   refine ABN 0 (vs:=ABV a.1.1) hI5 rfl rfl rfl rfl Tryz.sizeOf53 rfl rfl (C7 rfl (C7 rfl (C7 rfl ACU))) ?_
   intro w6 hI6 x6
   have hI6:Hp w [] M (rowR 53 b15 (ABV a.1.1) :: MP bd g) w6:=hI6
   have hA6:Adv (bd :: M) (bd :: M) W w6:=x5.trans (x6.trans (F8 (σ:=rowR 53 b15 (ABV a.1.1) :: MP bd g) 0))
   have hC6:RdC (bd :: M) w6 b15 0 (ABV a.1.1):=hI6.freezeRow 0 rfl
   have hI6':Hp w [] M (MP bd g) w6:=hI6.erase 0
   refine Reg.nil ?_
   refine AA8 rfl ?_
   refine ACZ hI6' Tryz.zeroValue111 rfl rfl ?_
   intro b16 w7 hI7 x7
   refine ABN 0 (vs:=ADa a.1.2) hI7 rfl rfl rfl rfl Tryz.sizeOf111 rfl rfl (C7 rfl (C7 rfl (C7 rfl (C7 rfl (C7 rfl (C7 rfl (C7 rfl (C7 rfl ACU)))))))) ?_
   intro w8 hI8 x8
   have hI8:Hp w [] M (rowR 111 b16 (ADa a.1.2) :: MP bd g) w8:=hI8
   have hA8:Adv (bd :: M) (bd :: M) w6 w8:=x7.trans (x8.trans (F8 (σ:=rowR 111 b16 (ADa a.1.2) :: MP bd g) 0))
   have hA:=hA6.trans hA8
   obtain⟨k1,k2⟩:=U4 hA hMlt e3.kp.size
   exact Reg.nil ⟨rfl,k1,k2,⟨g,e1,hI8.erase 0,e3.trans hA⟩,b15,b16,rfl,hC6.adv hA8,hI8.freezeRow 0 rfl⟩
 . rintro k pre a L' W hwlk hrk ⟨g,e1,e2,e3⟩ ⟨b15,b16,rfl,e5,e6⟩ hlt
   obtain⟨g',hb',hfold⟩:=ho2 (pre.map Subtype.val) a.1 g (by simpa using hlt) (fun y hy=>by obtain⟨z,_,rfl⟩:=List.mem_map.1 hy;exact z.2) a.2 e1
   unfold AG1 at hb'
   obtain⟨n,hn,hb'⟩:=Q1 hb'
   obtain⟨bs,hbs,hb'⟩:=Q1 hb'
   obtain⟨hbok,rfl⟩:(∀ y∈bwN al al.length,ADT [.int .i64,.st 5] y)/\bwN al al.length=bs:=by
    unfold T5 at hbs
    split at hbs
    . rename_i h;exact⟨h,Option.some.inj hbs⟩
    . cases hbs
   have hDW:=hD.adv e3
   have hMW:MLt (bd :: M) W:=e2.mlt
   have hoka:=hok a.1 a.2
   have o15:Ok (P:=Tryz.prog) (fun _=>undef) (fun _=>none) (bd :: M) W (.rp (.str 2 a.1.1) 0) (.pointer (some ⟨b15,0,none⟩)):=⟨b15,0,_,ABV a.1.1,rfl,e5,AD0 (.st 2) hoka.1,rfl⟩
   have o16:Ok (P:=Tryz.prog) (fun _=>undef) (fun _=>none) (bd :: M) W (.rp (.str 12 a.1.2) 0) (.pointer (some ⟨b16,0,none⟩)):=⟨b16,0,_,ADa a.1.2,rfl,e6,AD0 (.st 12) hoka.2,rfl⟩
   have hst:Holds (P:=Tryz.prog) W [] (bd :: M) ⟨ANL l a.1.1 a.1.2,[],[],[]⟩ ((16,.pointer (some ⟨b16,0,none⟩)) :: (15,.pointer (some ⟨b15,0,none⟩)) :: (84,J8 (.st 12) a.1.2) :: (83,J8 (.st 2) a.1.1) :: Lb) W:=by
    refine Holds.start hMW (fun t s ht=>?_) ⟨trivial,hDW.g⟩
    unfold ANL at ht
    rw[fnd_cons] at ht
    split at ht
    . rename_i e;subst e;cases ht;exact⟨_,l13,hDW.h13⟩
    rw[fnd_cons] at ht
    split at ht
    . rename_i e;subst e;cases ht;exact⟨_,rfl,o15⟩
    rw[fnd_cons] at ht
    split at ht
    . rename_i e;subst e;cases ht;exact⟨_,rfl,o16⟩
    cases ht
   refine AEE ?_
   refine AHG ?_
   refine AGr (l:=k) (G9 AL7 APw AIa _ _ _ _ _ _ _ _ _ _ _ _ _ ((AV2 l a.1.1 a.1.2).trans hn) hst (fun σ' L2 W2 hK _ hE2 hH2=>?_) (fun i σ2 L2 w2 h2=>by cases h2) (fun r σ2 L2 w2 h2 h3 _ hH2=>by cases h2) ((PZ.no (Z:=fun _ _ _ _=>False)).block (i:=3) rfl))
   obtain⟨S,ρ,γ,μ,ι,hS⟩:=hH2
   have hx2:Ext W W2:=hS.hp.kp
   obtain⟨c,b,r,h17,h18,q17,q18,hown,htd,rfl⟩:∃ c b r,A1 σ'.env 17=some (.ptr 17 0)/\A1 σ'.env 18=some (.ptr 18 0)/\A1 σ'.res 17=some (.row 45 c)/\A1 σ'.res 18=some (.row 4 [.bool b])/\A8 (.agg c)=[]/\C1 (A1 σ'.res) (.st 1) (.agg c)=some r/\n=(r,b):=by
    unfold AT0 at hK
    split at hK
    . rename_i c b g1 g2 g3 g4
      split at hK
      . rename_i g5
        split at hK
        . rename_i r g6
          exact⟨c,b,r,g1,g2,g3,g4,g5,g6,(Option.some.inj hK).symm⟩
        . cases hK
      . cases hK
    . cases hK
   obtain⟨v17,l17,b17,hb17,rfl⟩:=hS.env 17 (.ptr 17 0) h17
   obtain⟨v18,l18,b18,hb18,rfl⟩:=hS.env 18 (.ptr 18 0) h18
   obtain⟨b17',hb17',r17,o17,i17⟩:=hS.rowAt q17
   obtain⟨b18',hb18',r18,o18,i18⟩:=hS.rowAt q18
   rw[hb17] at hb17';cases hb17'
   rw[hb18] at hb18';cases hb18'
   have ok17:Ok (P:=Tryz.prog) (fun _=>undef) (fun _=>none) (bd :: M) W2 (.rp (.str 1 r) 0) (.pointer (some ⟨b17,0,none⟩)):=⟨b17,0,.agg (List.toArray (γ 17)),γ 17,rfl,G8 (hS.hp.sepM _ (List.mem_of_getElem? i17) b17 (List.mem_singleton.2 rfl)) r17,H3 (M:=mm S (bd :: M)) (fun b hb=>mem_mm.2 (.inr hb)) (.st 1) (.agg c) (fun i hi=>by rw[hown] at hi;cases hi) htd ⟨γ 17,rfl,o17⟩,rfl⟩
   have ok18:Ok (P:=Tryz.prog) (fun _=>undef) (fun _=>none) (bd :: M) W2 (.rp (.bool b) 0) (.pointer (some ⟨b18,0,none⟩)):=by
    obtain⟨u,cu,q,e9,hu,hcu,hq⟩:=o18
    have hu:u=.bool b:=hu
    have hq:q=[]:=hq
    subst hu hq
    have hcu:#[Value.bool b]=List.toArray cu:=hcu
    have:cu=[Value.bool b]:=by simpa using hcu.symm
    subst this
    have e9:γ 18=[.bool b]:=e9
    exact⟨b18,0,.bool b,[.bool b],rfl,e9▸G8 (hS.hp.sepM _ (List.mem_of_getElem? i18) b18 (List.mem_singleton.2 rfl)) r18,rfl,rfl⟩
   have lk:∀ t,t∈[4,8,13,14,15,16]->Sx.A5 L2 t=Sx.A5 ((16,.pointer (some ⟨b16,0,none⟩)) :: (15,.pointer (some ⟨b15,0,none⟩)) :: (84,J8 (.st 12) a.1.2) :: (83,J8 (.st 2) a.1.1) :: Lb) t:=fun t ht=>hE2 t fun hm=>(by decide:∀ t∈[4,8,13,14,15,16],t∉C8 APw++C6 AIa) t ht hm
   clear hE2 hK h17 h18 q17 q18 hown htd hb17 hb18 r17 r18 o17 o18 i17 i18 hS
   have hA2:Adv (bd :: M) (bd :: M) W W2:=Adv.of_ext hx2
   have hDW2:=hDW.adv hA2
   obtain⟨b4,o4,u4,vs4,hp4,c4,hu4,hc4⟩:=hDW2.h4
   obtain⟨sa4,n4,hsl4,_⟩:=(OkD.rds hu4.2).shape
   obtain rfl:vs4=[u4]:=by
    subst hsl4
    exact (congrArg Array.toList hc4).symm
   have l4':=(lk 4 (by decide)).trans (show _=some p4 from l4)
   rw[hp4] at l4'
   show CI k 3 Tryz.prog 181 _ [] L2 W2 _ _ _ _
   refine AHG ?_
   refine AA8 rfl ?_
   refine V0 l4' (c4.cells.at 0 rfl) Tryz.isAgg29 rfl ?_
   refine W7 rfl Tryz.call47 rfl ?_
   refine (C47 (hMW.ext hx2) hu4.2).mono ?_
   rintro _ W3 ⟨pb,rfl,hpb,x3⟩
   refine⟨_,rfl,?_⟩
   refine Reg.nil ?_
   refine AEE ?_
   have hA3:Adv (bd :: M) (bd :: M) W2 W3:=Adv.of_ext x3
   have hA13:=hA2.trans hA3
   refine ARv (w:=w) (wi:=W3) (f:=g) (f':=g') (Nat.lt_of_lt_of_le (hMW bd (List.mem_cons_self ..)) hA13.kp.size) (e2.ext (hx2.trans x3)) ?_ (hDW2.adv hA3) (Ok.adv hA13 _ o15) (Ok.adv hA13 _ o16) (Ok.adv hA3 _ ok17) (Ok.adv hA3 _ ok18) hpb hoka.1.1 ((lk 8 (by decide)).trans l8) ((lk 13 (by decide)).trans l13) ((lk 14 (by decide)).trans l14) (lk 15 (by decide)) (lk 16 (by decide)) l17 l18 rfl hbok hb' fun W4 hI4 hA4=>?_
   . obtain⟨rk,hrk⟩:=hrk
     exact⟨rk,((hx2.trans x3).block k (J1 hrk) (by simp)).trans hrk⟩
   . have hA14:=hA13.trans hA4
     obtain⟨k1,k2⟩:=U4 hA14 hMlt e3.kp.size
     exact⟨k1,k2,g',by rw[List.map_append];exact hfold,hI4,e3.trans hA14⟩
 . rintro D W hDw ⟨g,e1,e2,e3⟩ hdef
   rw[List.attach_map_subtype_val,ho1] at e1
   cases e1
   exact hA D W hDw e2 e3 hdef
end Go.Proofs.YtgioiejbphljoaaGreatDoor
set_option maxRecDepth 20000
set_option maxHeartbeats 4000000
namespace Go.Proofs.YtgioiejbphljoaaGreatDoor
open Go Go.Sx Go.Rx Go.RowKit
noncomputable def AEi (ls:List Letter) (y:(Int×Int)×Int):Option (List Letter):=appo 24 ls [Letter.mk y.1.1 y.1.2 y.2]
noncomputable def AT1:Code:=match Tryz.f16.body with
 |some (.seq _ (.seq _ (.seq _ (.seq _ (.seq _ (.seq _ (.seq _ (.seq _ (.seq _ (.seq _ c))))))))))=>c
 |_=>.skip
noncomputable def AXU:Code:=match AT1 with
 |.seq _ (.seq c _)=>c
 |_=>.skip
noncomputable def AT2:Code:=match AT1 with
 |.seq _ (.seq _ c)=>c
 |_=>.skip
def Dok (D:Nat) (M:List Nat) (W:World):Prop:=D∉M/\W.heap[D]?=some (.deferred (some []))
theorem Dok.adv {D:Nat} {M M':List Nat} {W W':World} (h:Dok D M W) (k:Adv M M' W W'):Dok D M' W':=by
 have hlt:D < W.heap.size:=J1 h.2
 exact⟨fun hm=>(k.new D hm).elim h.1 fun h1=>by omega,(k.kp.block D hlt h.1).trans h.2⟩
theorem AT3 {w wt:World} {M:List Nat} {D bd b14:Nat} {f:A4 (Int×Int) Int} {Lb:Sx.A7} {ds:List Deferred} {A B:A3} {X:Nat->A3} {Z:List PanicEntry->A3} {z:List Letter×Int}
  (hI:Hp w [] M [ownR [] LetterE 70 (.slice none 0 0) []] wt) (hm:RdF K116 (B3 .i64) false M wt (.map (some bd)) f) (h14:RdC M wt b14 0 [.map (some bd)]) (hDk:Dok D M wt) (hz:AAV f (fun xs=>Option.bind (List.foldlM AEi [] xs) J6)=some z) (l14:Sx.A5 Lb 14=some (.pointer (some ⟨b14,0,none⟩))) (l23:Sx.A5 Lb 23=some (.slice none 0 0))
  (hA:∀ L' W v ls,J6 ls=some z->Hp w [] M [ownR [] LetterE 70 v ls] W->Sx.A5 L' 23=some v->Adv M (mm [ownR [] LetterE 70 v ls] M) wt W->Dok D (mm [ownR [] LetterE 70 v ls] M) W->A ds L' W):CW Tryz.prog 181 AXU ds Lb wt A B X Z:=by
 have hm':RdF K116 (B3 .i64) false (mm [ownR [] LetterE 70 (.slice none 0 0) ([]:List Letter)] M) wt (.map (some bd)) f:=hm
 refine A6 ?_
 refine A9 ?_
 refine V0 l14 (h14.cells.at 0 rfl) Tryz.isAgg106 rfl ?_
 refine ASN hI hm' rfl Tryz.underlying106 rfl ?_
 intro r b c es xs w1 hX hL hI1 hA1
 refine Reg.nil ?_
 obtain⟨Bd,hBd,hall⟩:=AJp hz hL
 subst hBd
 have hA1':Adv M (mm (T3 r b c es xs none xs :: [ownR [] LetterE 70 (.slice none 0 0) ([]:List Letter)]) M) wt w1:=hA1
 refine G5 ?_
 refine ABK (ι:=A7×Value×List Letter×List ((Int×Int)×Int)×List ((Int×Int)×Int)) (fun q=>q.1) (fun q W=>(Sx.A5 q.1 163=some (.pointer (some ⟨r,0,none⟩))/\Sx.A5 q.1 23=some q.2.1)/\(q.2.2.2.1++q.2.2.2.2).Perm xs/\List.foldlM AEi [] q.2.2.2.1=some q.2.2.1/\Hp w [] M [T3 r b c es xs none q.2.2.2.2,ownR [] LetterE 70 q.2.1 q.2.2.1] W/\RdX K116 (B3 .i64) false (mm [T3 r b c es xs none q.2.2.2.2,ownR [] LetterE 70 q.2.1 q.2.2.1] M) W b es c xs/\Adv M (mm [T3 r b c es xs none q.2.2.2.2,ownR [] LetterE 70 q.2.1 q.2.2.1] M) wt W) (fun q=>q.2.2.2.2.length) ((163,.pointer (some ⟨r,0,none⟩)) :: (162,.map (some bd)) :: Lb,.slice none 0 0,[],[],xs) ⟨⟨rfl,l23⟩,List.Perm.refl _,rfl,hI1,hX.adv hA1,hA1'⟩ (Sub.refl _) ?_
 rintro⟨L1,v,ls,d,l⟩ W1 ⟨⟨k1,k2⟩,k3,k4,k5,k6,k7⟩
 dsimp only at k1 k2 k3 k4 k5 k6 k7 ⊢
 refine A6 ?_
 refine A9 ?_
 refine ASO 0 k5 k6 rfl k1 rfl (fun hl=>?_) (fun y l' k v' W2 hp hI2 hA2=>?_)
 . refine AGJ (vs:=[.bool false]) rfl rfl rfl ?_
   refine Reg.nil ?_
   refine A6 ?_
   refine ABJ rfl ?_
   refine ABI (S8 ?_)
   subst hl
   obtain⟨s,hs1,hs2⟩:=hall d (by simpa using k3)
   rw[k4] at hs1
   cases hs1
   have hA7:Adv M (mm [ownR [] LetterE 70 v ls] M) wt W1:=k7.trans (F8 (σ:=[T3 r b c es xs none ([]:List ((Int×Int)×Int)),ownR [] LetterE 70 v ls]) 0)
   exact hA _ W1 v ls hs2 (k5.erase 0) k2 hA7 (hDk.adv hA7)
 . refine AGJ (vs:=[.bool true,k,v']) rfl rfl rfl ?_
   refine Reg.nil ?_
   refine A6 ?_
   refine ACV rfl ?_
   refine O6 ?_
   refine G5 ?_
   refine A6 ?_
   refine A9 ?_
   have hX2:=k6.adv hA2
   refine ASP 0 hI2 hX2 rfl k1 rfl fun v2 hok hv2=>?_
   obtain⟨hka,hkb⟩:InK .i64 y.1.1/\InK .i64 y.1.2:=hok
   obtain⟨rfl,hkc⟩:v2=.int .i64 y.2/\InK .i64 y.2:=by
    obtain⟨cs,⟨h1,h2⟩,⟨h3,_⟩|⟨_,h3⟩⟩:=hv2
    . cases h3
    . rw[h1] at h3;exact⟨(List.singleton_inj.1 h3).symm,h2⟩
   refine AGJ (vs:=[K116.val y.1,.int .i64 y.2]) rfl rfl rfl ?_
   refine AGJ (vs:=[K116.val y.1,.int .i64 y.2]) rfl rfl rfl ?_
   refine ACZ hI2 Tryz.zeroValue116 rfl rfl ?_
   intro b24 w5 hI5 x5
   refine ABN 0 (vs:=[.int .i64 y.1.1,.int .i64 y.1.2]) hI5 rfl rfl rfl rfl Tryz.sizeOf116 rfl rfl (C7 rfl (C7 rfl ACU)) ?_
   intro w6 hI6 x6
   have hI6:Hp w [] M (rowR 116 b24 [.int .i64 y.1.1,.int .i64 y.1.2] :: [T3 r b c es xs (some y) l',ownR [] LetterE 70 v ls]) w6:=hI6
   refine G0 rfl rfl ?_
   refine Reg.nil ?_
   refine A9 ?_
   have hC24:RdC [] w6 b24 0 ([y.1.1,y.1.2].map (Value.int .i64)):=G8 (fun h=>by cases h) (hI6.row 0 rfl)
   obtain⟨s0,hs0,_⟩:=hall (d++(y :: l')) (((List.Perm.refl d).append hp.symm).trans k3)
   rw[List.foldlM_append,k4] at hs0
   simp only[Option.bind_eq_bind,Option.bind_some,List.foldlM_cons] at hs0
   obtain⟨ls',hls',hs0⟩:=Q1 hs0
   obtain⟨hbl,hls2⟩:=ACY hls'
   refine H9 k2 rfl ?_
   refine AP9 (i:=0) (z:=y.1.1) hC24 rfl rfl rfl Tryz.underlying116 rfl Tryz.sizeOf3 rfl fun hc0=>?_
   refine V0 rfl (hc0.cells.at 0 rfl) Tryz.isAgg3 rfl ?_
   refine AP9 (i:=1) (z:=y.1.2) hC24 rfl rfl rfl Tryz.underlying116 rfl Tryz.sizeOf3 rfl fun hc1=>?_
   refine V0 rfl (hc1.cells.at 0 rfl) Tryz.isAgg3 rfl ?_
   refine H9 rfl rfl ?_
   refine ASJ [(0,1),(1,1),(2,1)] Tryz.zeroValue70 rfl Tryz.underlying70 (fun _=>by simp[Tryz.sizeOf3]) rfl (Cls.cons rfl (Cls.cons rfl (Cls.cons rfl Cls.nil))) rfl rfl ?_
   refine AJe (E:=LetterE) (xs:=[Letter.mk y.1.1 y.1.2 y.2]) rsl37 hI6 rfl rfl (Cls.cons rfl Cls.nil) (Chs.cons (LetterE_R.2 ⟨rfl,hka,hkb,hkc⟩) Chs.nil) rfl rfl ?_
   intro v8 w8 hI8 x8
   have hf9:=hI8.freeze 0 rfl
   have hI9:=hI8.erase 0
   refine AFc 2 rsl37 hI9 rfl rfl rfl hf9 hbl rfl ?_
   intro v10 w10 hI10 x10
   refine G0 rfl rfl ?_
   have hIa:Hp w [] M [T3 r b c es xs (some y) l',ownR [] LetterE 70 v10 ls'] w10:=by rw[hls2];exact hI10.erase 0
   have hIb:Hp w [] M [T3 r b c es xs none l',ownR [] LetterE 70 v10 ls'] w10:=hIa.upd 0 rfl (Kp.refl _ _) (fun b hb=>.inl hb) rfl fun M' hM'=>by
    obtain⟨seen,q1,q2,_⟩:=hIa.get 0 rfl
    exact⟨seen,q1,q2,fun _ h=>by cases h⟩
   have hAb:Adv (mm [T3 r b c es xs none l,ownR [] LetterE 70 v ls] M) (mm [T3 r b c es xs none l',ownR [] LetterE 70 v10 ls'] M) W1 w10:=by
    have h1:=hA2.trans (x5.trans (x6.trans (x8.trans ((F8 (σ:=ownR [] LetterE 70 v8 [Letter.mk y.1.1 y.1.2 y.2] :: rowR 116 b24 [.int .i64 y.1.1,.int .i64 y.1.2] :: [T3 r b c es xs (some y) l',ownR [] LetterE 70 v ls]) 0).trans (x10.trans (F8 (σ:=rowR 116 b24 [.int .i64 y.1.1,.int .i64 y.1.2] :: [T3 r b c es xs (some y) l',ownR [] LetterE 70 v10 (ls++[Letter.mk y.1.1 y.1.2 y.2])]) 0))))))
    rw[hls2]
    exact h1
   refine Reg.nil ⟨rfl,(_,v10,ls',d++[y],l'),?_,Sub.refl _,?_⟩
   . refine⟨⟨k1,rfl⟩,?_,?_,hIb,k6.adv hAb,k7.trans hAb⟩
     . rw[List.append_assoc];exact ((List.Perm.refl d).append hp.symm).trans k3
     . rw[List.foldlM_append,k4]
       simp only[Option.bind_eq_bind,Option.bind_some,List.foldlM_cons,hls',List.foldlM_nil]
       rfl
   . have:=hp.length_eq
     simp at this
     dsimp only
     omega
end Go.Proofs.YtgioiejbphljoaaGreatDoor
set_option maxRecDepth 20000
set_option maxHeartbeats 4000000
namespace Go.Rx
open Go Go.Sx Go.RowKit
theorem HS.rdsM [Trk] [Sg] [Sf] {P:Program} [Se P] [Anch] {w0 w:World} {M:List Nat} {σ:AS} {L:A7} {S:List Res} {ρ:Nat->Value} {γ:Nat->List Value} {μ:Nat->List Nat} {ι:Nat->Nat} (h:HS (P:=P) w0 [] M σ L w S ρ γ μ ι) (I:List Nat):Rds (P:=P) ρ (A1 σ.res) M w I:=fun i _ p c x hr=>by
 have h1:=h.res i _ hr
 have hm:=List.mem_of_getElem? h1
 have h2:=h.hp.all _ hm
 have h3:=h.hp.sepM _ hm
 have h4:=h.row i _ hr
 cases c with
 |sl e t=>
  have h2:Sx.Own (enc (P:=P) t) e 0 (mm S M) w (ρ i) x:=h2
  have h5:=(h2.mon fun b hb=>.inr (mem_mm.2 (.inr hb))).rd fun b hb=>h3 b (by
   show b∈(E4 (P:=P) _ (ρ i) (.sl e t) x).fp
   rw[ocR_fp];exact hb)
  exact⟨[ρ i],⟨_,rfl,h5⟩,.inr ⟨rfl,rfl⟩⟩
 |mp m k v=>
  obtain⟨b,hb⟩:=h4
  have h2:(mapRes (P:=P) (bif p then μ i else []) m k v (blk (ρ i)) x).holds (mm S M) w:=h2
  have h3:∀ b'∈(mapRes (P:=P) (bif p then μ i else []) m k v (blk (ρ i)) x).fp,b'∉M:=h3
  rw[hb] at h2 h3 ⊢
  unfold mapRes at h2 h3
  cases hK:Se.ky (P:=P) m k with
  |none=>rw[hK] at h2;exact h2.elim
  |some K=>
   rw[hK] at h2 h3
   obtain⟨es,c,xs,g1,g2,g3,g4⟩:=h2
   exact⟨[_],⟨_,K,rfl,hK,b,rfl,h3 b (List.mem_singleton.2 rfl),es,c,xs,g1,g2,g3.mon fun b hb=>.inl (mem_mm.2 (.inr hb)),g4⟩,.inr ⟨rfl,rfl⟩⟩
end Go.Rx
namespace Go.Proofs.YtgioiejbphljoaaGreatDoor
open Go Go.Sx Go.Rx Go.RowKit
noncomputable def c16:Code:=match Tryz.f16.body with
 |some c=>c
 |none=>.skip
noncomputable def KNp (σ:AS):Option ((Desk_99×List Asked×List Report×Int)⊕(List Letter×Int)):=match A1 σ.env 4,A1 σ.env 8,A1 σ.env 13,A1 σ.env 2,A1 σ.res 4,A1 σ.res 8,A1 σ.res 13 with
 |some (.ptr 4 0),some (.ptr 8 0),some (.ptr 13 0),some (.int .i64 k),some (.row 29 [s4]),some (.row 99 c8),some (.row 24 [s13])=>match C1 (A1 σ.res) (.st 10) (.agg c8),C1 (A1 σ.res) (.sl (.st 5)) s4,C1 (A1 σ.res) (.sl (.st 1)) s13 with
  |some x,some a,some l=>some (.inl (x,a,l,k))
  |_,_,_=>none
 |_,_,_,_,_,_,_=>none
def cs16:List Ck:=[.own (.sl 70 (.st 6)),.d (.int .i64)]
noncomputable def ANM:Gx:={ gxb with fs:=[(40,ctr40),(41,ctr41),(44,ctr44)] }
theorem AL8:GxOk Tryz.prog ANM:=B1 ⟨⟨ok40,Tryz.call40⟩,⟨⟨ok41,Tryz.call41⟩,⟨⟨ok44,Tryz.call44⟩,trivial⟩⟩⟩
noncomputable def AJV:Gx:={ gxb with fs:=[(49,ctr49),(50,ctr50)],fm:=[(48,ctrm48)] }
theorem AG2:GxOk Tryz.prog AJV:=ACy ⟨⟨ok49,Tryz.call49⟩,⟨⟨ok50,Tryz.call50⟩,trivial⟩⟩ trivial ⟨⟨okm48,Tryz.call48⟩,trivial⟩
theorem AV3 (d:Desk) (asked:List Asked) (day:Int):V7 ANM 181 (U0 ANM cs16 Tryz.f16.results.toList) (N0 7 c16) AL6 KNp (fun r=>some (.inr r)) ⟨[(0,.str 4 d),(1,.dat (.sl (.st 5)) asked),(2,.int .i64 day)],[],[],[]⟩=AB3 d asked day:=by kernel_rfl
theorem AT4 (l:List Letter):exec AJV 181 (U0 AJV cs16 Tryz.f16.results.toList) AT2 AK8 (U0 AJV cs16 Tryz.f16.results.toList) (fun _ _=>none) some ⟨[(23,.own 23)],[(23,.own false (.sl 70 (.st 6)) l)],[],[]⟩=J6 l:=by kernel_rfl
noncomputable def E6 (d:Desk) (asked:List Asked) (day:Int):Option (List Letter×Int):=Option.bind (AB3 d asked day) fun z=>Sum.elim (fun q=>Option.bind (C4 q.1 q.2.2.2) fun ys=>Option.bind (ABX (AG1 q.1 q.2.1 q.2.2.1) fnone ys) fun f=>AAV f fun xs=>Option.bind (List.foldlM AEi [] xs) J6) (fun r=>some r) z
noncomputable def ctr16:Ctr:=⟨[.d (.st 4),.d (.sl (.st 5)),.d (.int .i64)],cs16,fun a=>E6 a.1 a.2.1 a.2.2.1⟩
theorem ok16:Ctr.ok Tryz.prog 16 ctr16:=by
 refine⟨by decide,fun M w a vals r hM hg ha hr=>?_⟩
 obtain⟨d,asked,day,_⟩:=a
 obtain⟨vd,_,rfl,hvd,⟨va,_,rfl,hva,⟨vk,_,rfl,hvk,rfl⟩⟩⟩:=ha
 have hvd:OkD (P:=Tryz.prog) M w (.st 4) d vd:=hvd
 have hva:OkD (P:=Tryz.prog) M w (.sl (.st 5)) asked va:=hva
 have hvk:OkD (P:=Tryz.prog) M w (.int .i64) day vk:=hvk
 have hr:E6 d asked day=some r:=hr
 unfold E6 at hr
 obtain⟨z,hz,hr⟩:=Q1 hr
 have h0:Holds (P:=Tryz.prog) w [] M ⟨[(0,.str 4 d),(1,.dat (.sl (.st 5)) asked),(2,.int .i64 day)],[],[],[]⟩ [(0,vd),(1,va),(2,vk)] w:=by
  refine Holds.start hM (fun t s ht=>?_) ⟨trivial,hg⟩
  rw[fnd_cons] at ht
  split at ht
  . rename_i e;subst e;cases ht;exact⟨vd,rfl,hvd⟩
  rw[fnd_cons] at ht
  split at ht
  . rename_i e;subst e;cases ht;exact⟨va,rfl,rfl,hva⟩
  rw[fnd_cons] at ht
  split at ht
  . rename_i e;subst e;cases ht;exact⟨vk,rfl,D6 (.int .i64) hvk⟩
  . cases ht
 refine ABe (l:=[vd,va,vk]) (fn:=Tryz.f16) Tryz.func16 rfl rfl rfl ?_
 refine ACz (P:=Tryz.prog) (pr:=U0 ANM cs16 Tryz.f16.results.toList) AL8 7 c16 AL6 (by decide) ((AV3 d asked day).trans hz) h0 (fun σ' L' w1 hK hE hH=>?_) (fun r' σ' L' w' hp hk hH=>?_)
 rotate_left
 . have hk:Sum.inr r'=z:=Option.some.inj hk
   subst hk
   have hr:some r'=some r:=hr
   cases hr
   exact FinM.of (AKz AL8 (by decide) hp hH)
 clear hE h0
 obtain⟨S,ρ,γ,μ,ι,hS⟩:=hH
 obtain⟨c8,s4,s13,x,al,l,k,g4,g8,g13,g2,r4,r8,r13,t8,t4,t13,rfl⟩:∃ c8 s4 s13 x al l k,A1 σ'.env 4=some (.ptr 4 0)/\A1 σ'.env 8=some (.ptr 8 0)/\A1 σ'.env 13=some (.ptr 13 0)/\A1 σ'.env 2=some (.int .i64 k)/\A1 σ'.res 4=some (.row 29 [s4])/\A1 σ'.res 8=some (.row 99 c8)/\A1 σ'.res 13=some (.row 24 [s13])/\C1 (A1 σ'.res) (.st 10) (.agg c8)=some x/\C1 (A1 σ'.res) (.sl (.st 5)) s4=some al/\C1 (A1 σ'.res) (.sl (.st 1)) s13=some l/\z=.inl (x,al,l,k):=by
  unfold KNp at hK
  split at hK
  . rename_i k s4 c8 s13 q1 q2 q3 q4 q5 q6 q7
    split at hK
    . rename_i x a l q8 q9 q10
      exact⟨c8,s4,s13,x,a,l,k,q1,q2,q3,q4,q5,q6,q7,q8,q9,q10,(Option.some.inj hK).symm⟩
    . cases hK
  . cases hK
 have hr:(Option.bind (C4 x k) fun ys=>Option.bind (ABX (AG1 x al l) fnone ys) fun f=>AAV f fun xs=>Option.bind (List.foldlM AEi [] xs) J6)=some r:=hr
 obtain⟨ys,hys,hr⟩:=Q1 hr
 obtain⟨f,hf,hr⟩:=Q1 hr
 obtain⟨hok,hdec⟩:(∀ y∈ys,ADT [.st 2,.st 12] y)/\AFT x k x.desk.disputes=some ys:=by
  unfold C4 at hys
  obtain⟨ys',h1,h2⟩:=Q1 hys
  split at h2
  . rename_i h3;cases h2;exact⟨h3,h1⟩
  . cases h2
 obtain⟨v4,l4,b4,hb4,rfl⟩:=hS.env 4 (.ptr 4 0) g4
 obtain⟨v8,l8,b8,hb8,rfl⟩:=hS.env 8 (.ptr 8 0) g8
 obtain⟨v13,l13,b13,hb13,rfl⟩:=hS.env 13 (.ptr 13 0) g13
 obtain⟨v2,l2,rfl,hkk⟩:=hS.env 2 (.int .i64 k) g2
 obtain⟨b4',e4,row4,o4,i4⟩:=hS.rowAt r4
 obtain⟨b8',e8,row8,o8,i8⟩:=hS.rowAt r8
 obtain⟨b13',e13,row13,o13,i13⟩:=hS.rowAt r13
 rw[hb4] at e4;cases e4
 rw[hb8] at e8;cases e8
 rw[hb13] at e13;cases e13
 have memM:∀ b∈M,b∈mm S M:=fun b hb=>mem_mm.2 (.inr hb)
 have one:∀ {s:SV} {vs:List Value} {t:Ty} {y:List (den t)},OkL (P:=Tryz.prog) ρ (A1 σ'.res) (mm S M) w1 [s] vs->C1 (A1 σ'.res) (.sl t) s=some y->∃ u,vs=[u]/\OkD (P:=Tryz.prog) M w1 (.sl t) y u/\u.cells=List.toArray vs:=fun {s vs t y} h ht=>by
  obtain⟨u,c,q,rfl,hu,hc,hq⟩:=h
  have hq:q=[]:=hq
  subst hq
  have hd:=H3 (M:=mm S M) memM (.sl t) s (hS.rdsM _) ht hu
  obtain⟨sa,n,hsl,_⟩:=(OkD.rds hd).shape
  have:c=[u]:=by
   subst hsl
   exact (congrArg Array.toList hc).symm
  subst this
  exact⟨u,rfl,hd,hc⟩
 have d8:Ok (P:=Tryz.prog) (fun _=>undef) (fun _=>none) M w1 (.rp (.str 10 x) 0) (.pointer (some ⟨b8,0,none⟩)):=⟨b8,0,.agg (List.toArray (γ 8)),γ 8,rfl,G8 (hS.hp.sepM _ (List.mem_of_getElem? i8) b8 (List.mem_singleton.2 rfl)) row8,H3 (M:=mm S M) memM (.st 10) (.agg c8) (hS.rdsM _) t8 ⟨γ 8,rfl,o8⟩,rfl⟩
 obtain⟨u4,eu4,du4,cu4⟩:=one o4 t4
 obtain⟨u13,eu13,du13,cu13⟩:=one o13 t13
 have d4:Ok (P:=Tryz.prog) (fun _=>undef) (fun _=>none) M w1 (.rp (.dat (.sl (.st 5)) al) 0) (.pointer (some ⟨b4,0,none⟩)):=⟨b4,0,u4,γ 4,rfl,G8 (hS.hp.sepM _ (List.mem_of_getElem? i4) b4 (List.mem_singleton.2 rfl)) row4,⟨rfl,du4⟩,cu4⟩
 have d13:Ok (P:=Tryz.prog) (fun _=>undef) (fun _=>none) M w1 (.rp (.dat (.sl (.st 1)) l) 0) (.pointer (some ⟨b13,0,none⟩)):=⟨b13,0,u13,γ 13,rfl,G8 (hS.hp.sepM _ (List.mem_of_getElem? i13) b13 (List.mem_singleton.2 rfl)) row13,⟨rfl,du13⟩,cu13⟩
 have hI1:Hp w [] M [] w1:=hS.hp.sel [] rfl
 have hg1:GlOk (P:=Tryz.prog) M w1:=hS.anch.2.adv (Adv.drop memM)
 clear one hK hS g4 g8 g13 g2 r4 r8 r13 t8 t4 t13 row4 row8 row13 o4 o8 o13 i4 i8 i13 hb4 hb8 hb13 eu4 eu13 cu4 cu13
 refine A6 ?_
 refine A9 ?_
 refine AP8 K116 (B3 .i64) false hI1 rfl ?_
 intro bd w2 hI2 x2
 refine ACZ hI2 Tryz.zeroValue106 rfl rfl ?_
 intro b14 w3 hI3 x3
 refine ABN 0 (vs:=[.map (some bd)]) hI3 rfl rfl rfl rfl Tryz.sizeOf106 rfl rfl (C7 rfl ACU) ?_
 intro w4 hI4 x4
 have hI4:Hp w [] M (rowR 106 b14 [.map (some bd)] :: MP bd fnone) w4:=hI4
 refine Reg.nil ?_
 have h14:RdC (bd :: M) w4 b14 0 [.map (some bd)]:=hI4.freezeRow 0 rfl
 have hI5:Hp w [] M (MP bd fnone) w4:=hI4.erase 0
 have hA5:Adv M (bd :: M) w1 w4:=x2.trans (x3.trans (x4.trans (F8 (σ:=rowR 106 b14 [.map (some bd)] :: MP bd fnone) 0)))
 have hD5:D16 (bd :: M) w4 x al l (.pointer (some ⟨b8,0,none⟩)) (.pointer (some ⟨b4,0,none⟩)) (.pointer (some ⟨b13,0,none⟩)) b14 bd:=⟨hg1.adv hA5,Ok.adv hA5 _ d8,Ok.adv hA5 _ d4,Ok.adv hA5 _ d13,h14⟩
 have hx8:=hD5.h8
 obtain⟨b8',o8,u8,vs8,hp8,c8',hu8,hc8⟩:=hx8
 obtain⟨cs8,hR8,hcs8⟩:=hu8
 obtain rfl:u8=.agg (List.toArray cs8):=hcs8.elim (fun h=>h.2) fun h=>by cases h.1
 obtain rfl:cs8=vs8:=congrArg Array.toList hc8
 cases hp8
 refine A6 ?_
 refine A6 ?_
 refine A9 ?_
 refine AA3 l8 c8'.cells Tryz.isAgg99 ((enc (P:=Tryz.prog) (.st 10)).len hR8) Tryz.sizeOf99 rfl ?_
 refine H9 l2 rfl ?_
 refine W7 rfl Tryz.call45 rfl ?_
 refine (C45 hI5.mlt ⟨cs8,hR8,.inl ⟨rfl,rfl⟩⟩ hkk).mono ?_
 rintro _ w5 ⟨p1,p2,rfl,hp1,hp2,x5⟩
 refine⟨_,rfl,?_⟩
 refine Reg.nil ?_
 refine G5 ?_
 have hA6:Adv (bd :: M) (bd :: M) w4 w5:=Adv.of_ext x5
 refine ARw (w:=w) (wl:=w5) (f:=fnone) (f':=f) (Nat.lt_of_lt_of_le (hI5.mlt bd (List.mem_cons_self ..)) x5.size) (hI5.ext x5) (hD5.adv hA6) hp1 hp2 l4 l8 l13 rfl rfl hdec hok hf fun D W hDw hI7 hA7 hdef=>?_
 refine A6 ?_
 refine A9 ?_
 refine G0 rfl rfl ?_
 refine Reg.nil ?_
 have hDwM:w.heap.size<=D:=Nat.le_trans (Nat.le_trans hI5.kp.size x5.size) hDw
 have hDk:Dok D M W:=⟨fun hm=>by have:=hM D hm;omega,hdef⟩
 have h14W:RdC M W b14 0 [.map (some bd)]:=(h14.adv (hA6.trans hA7)).adv (Adv.drop fun b hb=>List.mem_cons_of_mem _ hb)
 have hm:=hI7.freezeM 0 rfl
 have hI8:Hp w [] M [ownR [] LetterE 70 (.slice none 0 0) []] W:=(hI7.erase 0).addNil LetterE 70
 have hg8:GlOk (P:=Tryz.prog) M W:=(hg1.adv (hA5.trans (hA6.trans hA7))).adv (Adv.drop fun b hb=>List.mem_cons_of_mem _ hb)
 refine A6 ?_
 refine AT3 (f:=f) hI8 hm h14W hDk hr rfl rfl fun L9 W9 v9 ls hls hI9 l23 hA9 hDk9=>?_
 letI:Anch:=AHj D
 have hst:Holds (P:=Tryz.prog) w [] M ⟨[(23,.own 23)],[(23,.own false (.sl 70 (.st 6)) ls)],[],[]⟩ L9 W9:=by
  refine⟨[ownR [] LetterE 70 v9 ls],fun _=>v9,fun _=>[],fun _=>[],fun _=>0,hI9,fun i a hi=>?_,fun i j a b hi hj _=>?_,fun i a hi=>?_,fun t s ht=>?_,hDk9,hg8.adv hA9⟩
  . rw[fnd_cons] at hi
    split at hi
    . rename_i e;subst e;cases hi;rfl
    . cases hi
  . rw[fnd_cons] at hi hj
    split at hi <;> split at hj
    . rename_i e1 e2;rw[<-e1,<-e2]
    . cases hj
    . cases hi
    . cases hi
  . rw[fnd_cons] at hi
    split at hi
    . rename_i e;subst e;cases hi;trivial
    . cases hi
  . rw[fnd_cons] at ht
    split at ht
    . rename_i e;subst e;cases ht;exact⟨v9,l23,rfl,Own.cells1 (hI9.ownAt 0 rfl),Own.oneC (hI9.ownAt 0 rfl)⟩
    . cases ht
 exact X8 (n:=3) (ACt (G9 AG2 AT2 AK8 _ _ _ _ _ _ _ _ _ _ _ _ _ ((AT4 ls).trans hls) hst (fun σ2 L2 w2 h2 _ _ hH2=>AF5 (fun h=>h) AG2 (by decide) rfl hDwM h2 hH2) (fun i σ2 L2 w2 h2=>by cases h2) (fun r' σ2 L2 w2 hp hk _ hH2=>by
  have hk:r'=r:=Option.some.inj hk
  subst hk
  exact AF5 (fun h=>h) AG2 (by decide) rfl hDwM hp hH2) PZ.no))
end Go.Proofs.YtgioiejbphljoaaGreatDoor
set_option maxRecDepth 20000
set_option maxHeartbeats 4000000
namespace Go.Proofs.YtgioiejbphljoaaGreatDoor
open Go Go.Sx Go.Rx Go.RowKit
noncomputable def I9 (d:Desk) (day:Int):Option ((List Report)×Int):=Option.bind (H7 d day) fun (r1,r2)=>cond ((!decide (r2=0))) (some (([]:(List Report)),r2)) (Option.bind (E8 r1 day) fun (r3,r4)=>some (r3,r4))
def AXV:An:=.x
noncomputable def ctr14:Ctr:=⟨[.d (.st 4),.d (.int .i64)],[.own (.sl 45 (.st 1)),.d (.int .i64)],fun a=>I9 a.1 a.2.1⟩
theorem ok14:Ctr.ok Tryz.prog 14 ctr14:=B0 (G:={ gxb with fs:=[(40,ctr40),(41,ctr41)] }) (an:=AXV) (B1 ⟨⟨ok40,Tryz.call40⟩,⟨⟨ok41,Tryz.call41⟩,trivial⟩⟩) Tryz.func14 rfl rfl rfl rfl (fun a=>by kernel_rfl)
end Go.Proofs.YtgioiejbphljoaaGreatDoor
set_option maxRecDepth 20000
set_option maxHeartbeats 1000000
set_option linter.unusedVariables false
namespace Go.Proofs.YtgioiejbphljoaaGreatDoor
open Go Go.Sx Go.Rx
namespace S
def decd (d:Desk) (day:Int):List (Dispute×Verdict):=(d.disputes.filter fun x=>decide (3<=wh d x day)).map fun x=>(x,dec d x)
theorem decd_mem {d:Desk} {day:Int} {y:Dispute×Verdict}:y∈decd d day↔y.1∈d.disputes/\3<=wh d y.1 day/\y.2=dec d y.1:=by
 unfold decd
 rw[List.mem_map]
 constructor
 . rintro⟨x,hx,rfl⟩
   obtain⟨h1,h2⟩:=List.mem_filter.1 hx
   exact⟨h1,of_decide_eq_true h2,rfl⟩
 . rintro⟨h1,h2,h3⟩
   exact⟨y.1,List.mem_filter.2 ⟨h1,decide_eq_true h2⟩,by rw[<-h3]⟩
theorem S7 {x:Int} (h:-1000000000000000<=x/\x<=1000000000000000):InK .i64 x:=InK.i64.2 (by omega)
theorem AQf {x:Int} (h:0<=x/\x<=255):InK .u8 x:=InK.u8.2 (by omega)
theorem AT5 {d:Desk} (hv:Vd d) {a:Answer} (ha:a∈d.answers):(0<=a.id/\a.id<=999999)/\(0<=a.dispute/\a.dispute<=999999)/\(0<=a.day/\a.day<=100000)/\(1<=a.says/\a.says<=3)/\(0<=a.about/\a.about<=100000)/\(0<=a.cents/\a.cents<=1000000000000):=by
 obtain⟨v1,v2,v3,x,hxm,v4,v5,v6⟩:=hv.a.v a ha
 obtain⟨x1,_,f,hf,_⟩:=hv.x.v x hxm
 have hm:most f.kind<=1000000000000:=by unfold most;split <;> (try split) <;> omega
 refine⟨v1,by rw[<-v4];exact x1,v2,v3,?_⟩
 by_cases e:a.says=2
 . have:=v6 e f hf
   omega
 . have:=v5 e
   omega
theorem AQg {d:Desk} (hv:Vd d) (x:Dispute):(0<=(dec d x).by_.id/\(dec d x).by_.id<=999999)/\(0<=(dec d x).by_.dispute/\(dec d x).by_.dispute<=999999)/\(0<=(dec d x).by_.day/\(dec d x).by_.day<=100000)/\(0<=(dec d x).by_.says/\(dec d x).by_.says<=3)/\(0<=(dec d x).by_.about/\(dec d x).by_.about<=100000)/\(0<=(dec d x).by_.cents/\(dec d x).by_.cents<=1000000000000):=by
 by_cases c:(dec d x).is_=5
 . have e:(dec d x).by_=zeroA:=by rw[((AC1 hv x).is5 c).1]
   rw[e]
   unfold zeroA
   dsimp only
   omega
 . have:=AT5 hv (List.mem_filter.1 ((AC1 hv x).by_ c).2.1).1
   omega
theorem AI9 {d:Desk} {D:Desk_99} (hD:Dw d D) (hv:Vd d) {day:Int}:C4 D day=some (decd d day):=by
 have key:∀ l:List Dispute,(∀ x∈l,x∈d.disputes)->AFT D day l=some ((l.filter fun x=>decide (3<=wh d x day)).map fun x=>(x,dec d x)):=by
  intro l
  induction l with
  |nil=>intro _;rfl
  |cons x l ih=>
   intro h
   unfold AFT
   rw[AF2 hD hv (h x (List.mem_cons_self ..)),bindS,ih (fun y hy=>h y (List.mem_cons_of_mem _ hy)),bindS]
   congr 1
   rw[List.filter_cons]
   by_cases c:3<=wh d x day
   . rw[if_pos (show decide (3<=wh d x day)=true from decide_eq_true c),List.map_cons]
     exact if_pos c
   . rw[if_neg (show ¬ decide (3<=wh d x day)=true from fun h=>c (of_decide_eq_true h))]
     exact if_neg c
 unfold C4
 rw[hD.d,key _ fun _ h=>h,bindS]
 refine if_pos fun y hy=>?_
 obtain⟨h1,h2,h3⟩:=decd_mem.1 hy
 obtain⟨x1,x2,f,hf,x3,x4⟩:=hv.x.v _ h1
 have hfm:=AAN hf
 have hfv:=hv.r.v f hfm.1
 have ht:=hv.t.1
 have hk:=APr hv y.1
 have hdi:=AFV hv h1
 have hb:=AQg hv y.1
 have hrid:0<=y.1.report/\y.1.report<=999999:=by rw[<-hfm.2.1];exact hfv.2.1
 have hmade:=hfv.2.2.2.2.2.1
 have e:ADT [.st 2,.st 12] y↔(InK .i64 y.1.id/\InK .i64 y.1.report/\InK .i64 y.1.day)/\(InK .i64 y.2.day/\InK .u8 y.2.is_/\InK .i64 y.2.by_.id/\InK .i64 y.2.by_.dispute/\InK .i64 y.2.by_.day/\InK .u8 y.2.by_.says/\InK .i64 y.2.by_.about/\InK .i64 y.2.by_.cents):=Iff.rfl
 rw[e,h3]
 exact⟨⟨S7 (by omega),S7 (by omega),S7 (by omega)⟩,S7 (by omega),AQf (by omega),S7 (by omega),S7 (by omega),S7 (by omega),AQf (by omega),S7 (by omega),S7 (by omega)⟩
def AEj:Report:=Report.mk 0 0 0 0 0 0 0 0
def ADb (d:Desk) (x:Dispute) (v:Verdict):Report:=
 let f:=(Y9 d.reports x.report).getD AEj
 if v.is_=3 then Report.mk x.id f.source f.account v.day v.by_.about 8 v.by_.cents f.id else Report.mk x.id f.source f.account v.day 0 9 0 f.id
theorem ARx {d:Desk} {D:Desk_99} (hD:Dw d D) {x:Dispute} {v:Verdict} {l:List Report} (hl:l.length<=1000000):U3 D x v l=some (l++[ADb d x v]):=by
 unfold U3 ADb
 rw[hD.f,hD.d]
 by_cases c:v.is_=3
 . rw[decide_eq_true c,condT,bindS,if_pos c]
   exact Ret.eq (Ret.bind (Ret.appo (by simp only[List.length_singleton];omega) (by simp only[List.length_singleton];omega) (Ret.ok rfl)))
 . rw[decide_eq_false c,condF,bindS,if_neg c]
   exact Ret.eq (Ret.bind (Ret.appo (by simp only[List.length_singleton];omega) (by simp only[List.length_singleton];omega) (Ret.ok rfl)))
def more (d:Desk) (day:Int):List Report:=(decd d day).map fun y=>ADb d y.1 y.2
theorem ALB {d:Desk} {x:Dispute} {v:Verdict}:(ADb d x v).id=x.id:=by unfold ADb;split <;> rfl
theorem AEk {d:Desk} {day:Int}:(decd d day).length<=d.disputes.length:=by
 unfold decd;rw[List.length_map];exact List.length_filter_le ..
theorem AIb {d:Desk} (hv:Vd d) {day:Int}:((more d day).map (·.id)).Nodup:=by
 unfold more decd
 rw[List.map_map,List.map_map]
 rw[show (((fun r:Report=>r.id) ∘ fun y:Dispute×Verdict=>ADb d y.1 y.2) ∘ fun x=>(x,dec d x))=fun x:Dispute=>x.id from funext fun x=>ALB]
 exact (List.Sublist.map _ List.filter_sublist).nodup hv.x.nd
def AB4 (d:Desk) (day:Int) (r:List Report×Int):Prop:=(60 < d.reports.length+(more d day).length/\r=([],9))\/(d.reports.length+(more d day).length<=60/\∃ m:List Report,m.Perm (more d day)/\m.Pairwise (le2 (·.made) (·.id))/\r=(d.reports++m,0))
theorem APx {a b:List Report} (ha:a.length<=100000) (hb:b.length<=100000):R9 [a,b]=some (a++b):=by
 refine Ret.eq ?_
 unfold R9
 refine Ret.bind (D3 2 (fun n (t:Int×Int)=>t.1=n/\(n=0->t.2=0)/\(n=1->t.2=a.length)/\(n=2->t.2=a.length+b.length)) ⟨rfl,fun _=>rfl,fun h=>by omega,fun h=>by omega⟩ ?_ ?_)
 . rintro n hn ⟨_,s⟩ ⟨rfl,h0,h1,h2⟩
   have:n=0\/n=1:=by omega
   rcases this with rfl|rfl
   . have:s=0:=h0 rfl
     subst this
     exact Ret.condT rfl (Ret.bind (Ret.val (show ixo [a,b] 0=some a from rfl) (Ret.bind (Ret.chk (by omega) (Ret.condF (decide_eq_false (by omega)) (Ret.bind (Ret.chk (by decide) (Ret.next ⟨rfl,fun h=>by omega,fun _=>by dsimp only;omega,fun h=>by omega⟩))))))))
   . have:s=a.length:=h1 rfl
     subst this
     exact Ret.condT rfl (Ret.bind (Ret.val (show ixo [a,b] 1=some b from rfl) (Ret.bind (Ret.chk (by omega) (Ret.condF (decide_eq_false (by omega)) (Ret.bind (Ret.chk (by decide) (Ret.next ⟨rfl,fun h=>by omega,fun h=>by omega,fun _=>rfl⟩))))))))
 rintro⟨_,s⟩ ⟨rfl,h0,h1,h2⟩
 have:s=a.length+b.length:=h2 rfl
 subst this
 have hg:K4 () ((a.length:Int)+b.length)=some []:=by
  unfold K4
  exact if_pos ⟨by omega,by omega⟩
 refine Ret.condF rfl (Ret.done ?_)
 rw[hg,bindS]
 refine Ret.bind (D3 2 (fun n (t:Int×List Report)=>t.1=n/\(n=0->t.2=[])/\(n=1->t.2=a)/\(n=2->t.2=a++b)) ⟨rfl,fun _=>rfl,fun h=>by omega,fun h=>by omega⟩ ?_ ?_)
 . rintro n hn ⟨_,s⟩ ⟨rfl,h0,h1,h2⟩
   have:n=0\/n=1:=by omega
   rcases this with rfl|rfl
   . have:s=[]:=h0 rfl
     subst this
     exact Ret.condT rfl (Ret.bind (Ret.val (show ixo [a,b] 0=some a from rfl) (Ret.bind (Ret.appo (by simp only[List.length_nil];omega) (by simp only[List.length_nil];omega) (Ret.bind (Ret.chk (by decide) (Ret.next ⟨rfl,fun h=>by omega,fun _=>rfl,fun h=>by omega⟩)))))))
   . have:s=a:=h1 rfl
     subst this
     exact Ret.condT rfl (Ret.bind (Ret.val (show ixo [s,b] 1=some b from rfl) (Ret.bind (Ret.appo (by omega) (by omega) (Ret.bind (Ret.chk (by decide) (Ret.next ⟨rfl,fun h=>by omega,fun h=>by omega,fun _=>rfl⟩)))))))
 . rintro⟨_,s⟩ ⟨rfl,h0,h1,h2⟩
   have:s=a++b:=h2 rfl
   subst this
   exact Ret.condF rfl (Ret.done (Ret.ok rfl))
theorem ALC {d:Desk} {D:Desk_99} (hD:Dw d D) (hv:Vd d) {day:Int}:Ret (E8 D day) (AB4 d day):=by
 have hlx:=hv.x.len
 have hlr:=hv.r.len
 have hml:(more d day).length<=20:=by
  unfold more;rw[List.length_map];exact Nat.le_trans AEk hlx
 unfold E8
 rw[AI9 hD hv,bindS]
 refine Ret.bind (Ret.over (fun pre (l:List Report)=>l=pre.map fun y=>ADb d y.1 y.2) rfl (fun pre y s hpl hp hy hs=>?_) fun s hs=>?_)
 . subst hs
   rw[ARx hD (by rw[List.length_map];have:=AEk (d:=d) (day:=day);omega)]
   exact Ret.ok (by rw[List.map_append];rfl)
 . subst hs
   show Ret (AAl D (more d day)) (AB4 d day)
   unfold AAl
   rw[hD.d]
   refine Ret.bind (Ret.chk (by omega) (Ret.cond (fun c=>Ret.ok (.inl ⟨?_,rfl⟩)) fun c=>?_))
   . have c:=of_decide_eq_true c;omega
   have c:=of_decide_eq_false c
   have ho:=AJT (x:=more d day) (cmp:=fun a b=>I6 a b [78,79]) (k1:=(·.made)) (k2:=(·.id)) (fun a b=>AF3 (D:=fd160.D) (fun _=>rfl) (fun _=>rfl)) (fun a b ha hb _ e=>X5 (AIb hv) a b ha hb e) (by omega)
   refine Ret.bind (Ret.bind (ho.mono fun m hm=>Ret.ok ?_))
   have hml:=hm.1.length_eq
   dsimp only
   rw[APx (a:=d.reports) (b:=m) (by omega) (by omega),bindS]
   exact Ret.ok (.inr ⟨by omega,m,hm.1,hm.2,rfl⟩)
theorem AG3 {d:Desk} (hv:Vd d) {day:Int} (hd:0<=day/\day<=100000):Ret (I9 d day) (AB4 d day):=by
 obtain⟨D,h1,hD⟩:=AC0 hv hd
 unfold I9
 rw[h1,bindS]
 exact Ret.condF (by decide) (Ret.bind ((ALC hD hv).mono fun r hr=>Ret.ok hr))
theorem AEl {d:Desk} (hv:Vd d) {day:Int} {r r':List Report×Int} (h:AB4 d day r) (h':AB4 d day r'):r=r':=by
 rcases h with⟨h1,rfl⟩|⟨h1,m,h2,h3,rfl⟩ <;> rcases h' with⟨h4,rfl⟩|⟨h4,m',h5,h6,rfl⟩
 . rfl
 . omega
 . omega
 . rw[AEh (h2.trans h5.symm) h3 h6 fun a b ha hb _ e=>X5 (AIb hv) a b (h2.mem_iff.1 ha) (h2.mem_iff.1 hb) e]
end S
end Go.Proofs.YtgioiejbphljoaaGreatDoor
set_option maxRecDepth 20000
set_option maxHeartbeats 1000000
set_option linter.unusedVariables false
namespace Go.Proofs.YtgioiejbphljoaaGreatDoor
open Go Go.Sx Go.Rx
namespace S
def stF (l:List Report) (day i:Int):Option Report:=(T (knS l day)).find? fun r=>decide (r.id=i)
theorem APy {l:List Report} (hn:(l.map (·.id)).Nodup) {i:Int} {r:Report}:(l.find? fun r=>decide (r.id=i))=some r↔r∈l/\r.id=i:=by
 constructor
 . intro h
   exact⟨List.mem_of_find?_eq_some h,of_decide_eq_true (List.find?_some (p:=fun r:Report=>decide (r.id=i)) h)⟩
 . rintro⟨h,rfl⟩
   cases hg:l.find? fun s=>decide (s.id=r.id) with
   |none=>exact absurd (decide_eq_true rfl) (List.find?_eq_none.1 hg r h)
   |some g=>rw[X5 hn g r (List.mem_of_find?_eq_some hg) h (of_decide_eq_true (List.find?_some (p:=fun s:Report=>decide (s.id=r.id)) hg))]
theorem ARy {l:List Report} (h:VL l) {day i:Int} {r:Report}:stF l day i=some r↔r∈T (knS l day)/\r.id=i:=APy (ANC (AF4 h day))
theorem AL9 {l:List Report} (h:VL l) {day:Int} (hd:0<=day/\day<=100000):S6 l day=some (stF l day):=by
 refine Ret.eq ?_
 unfold S6
 refine J4 (ANE h hd) fun z hz=>?_
 obtain⟨out,e⟩:=z
 obtain⟨rfl,hp,_⟩:=hz
 have hlen:=hp.length_eq
 have hT:=AND (AF4 h day)
 have hnd:(out.map (·.id)).Nodup:=(hp.map _).nodup_iff.2 (ANC (AF4 h day))
 refine Ret.bind (D3 out.length (fun n (t:Int×A4 Int Report)=>t.1=n/\∀ i r,t.2 i=some r↔r∈out.take n/\r.id=i) ⟨rfl,fun i r=>by simp[fnone]⟩ ?_ ?_)
 . rintro n hlt ⟨_,m⟩ ⟨rfl,hm⟩
   dsimp only at hm hlt
   refine Ret.condT (ltT hlt) (Ret.bind (N6 hlt (Ret.bind (Ret.chk (by dsimp only at *;omega) (Ret.next ⟨by dsimp only;omega,fun i r=>?_⟩)))))
   dsimp only[B7]
   rw[F4 hlt]
   by_cases e:i=out[n].id
   . subst e
     rw[if_pos rfl]
     constructor
     . intro h9;cases h9;exact⟨.inr rfl,rfl⟩
     . rintro⟨h9|h9,h8⟩
       . rw[X5 hnd r _ (List.mem_of_mem_take h9) (List.getElem_mem hlt) h8]
       . rw[h9]
   . rw[if_neg e,hm]
     constructor
     . rintro⟨h9,h8⟩;exact⟨.inl h9,h8⟩
     . rintro⟨h9|rfl,h8⟩
       . exact⟨h9,h8⟩
       . exact absurd h8.symm e
 . rintro⟨_,m⟩ ⟨rfl,hm⟩
   dsimp only at hm
   rw[List.take_length] at hm
   refine Ret.condF (ltF (Nat.le_refl _)) (Ret.done (Ret.ok ?_))
   funext i
   apply Option.ext
   intro r
   rw[hm,ARy h,hp.mem_iff]
def wrong (d:Desk) (l:List Report) (x:Dispute) (a:Asked):Bool:=
 decide (a.account=((Y9 d.reports x.report).getD AEj).account)&&(decide (a.day < (dec d x).day)&&(decide ((dec d x).day - a.day<=d.terms.lately)&&(match stF l a.day x.report with
  |none=>false
  |some was=>decide (was.about<=a.day)&&(match stF l (dec d x).day x.report with
   |none=>true
   |some now=>!decide (was=now)))))
structure AskV (asked:List Asked):Prop where
 len:asked.length<=40
 v:∀ a∈asked,(0<=a.id/\a.id<=999999)/\(0<=a.who/\a.who<=999999)/\(0<=a.account/\a.account<=999999)/\(0<=a.day/\a.day<=100000)
 up:∀ (n:Nat) (h:n+1 < asked.length),asked[n].id < asked[n+1].id
def ABc (d:Desk) (l:List Report) (x:Dispute) (f:A4 (Int×Int) Int) (a:Asked):A4 (Int×Int) Int:=if wrong d l x a then B7 f (x.id,a.who) a.id else f
def AEm (d:Desk) (l:List Report) (asked:List Asked) (f:A4 (Int×Int) Int) (y:Dispute×Verdict):A4 (Int×Int) Int:=asked.reverse.foldl (ABc d l y.1) f
def AIc (d:Desk) (l:List Report) (asked:List Asked) (day:Int):A4 (Int×Int) Int:=(decd d day).foldl (AEm d l asked) fnone
theorem AOZ:∀ (l:List Asked) (n:Nat),n<=l.length->(bwN l n).map (·.2)=(l.take n).reverse
 |l,0,_=>rfl
 |l,n+1,h=>by
  have hlt:n < l.length:=by omega
  unfold bwN
  rw[List.getElem?_eq_getElem hlt]
  show l[n] :: (bwN l n).map (·.2)=_
  rw[AOZ l n (by omega),AAA hlt,List.reverse_append]
  rfl
theorem ALD:∀ (l:List Asked) (n:Nat) (y:Int×Asked),n<=l.length->y∈bwN l n->y.2∈l/\0<=y.1/\y.1 < n
 |l,0,y,_,h=>by cases h
 |l,n+1,y,hn,h=>by
  have hlt:n < l.length:=by omega
  unfold bwN at h
  rw[List.getElem?_eq_getElem hlt] at h
  rcases List.mem_cons.1 h with rfl|h
  . exact⟨List.getElem_mem hlt,by dsimp only;omega,by dsimp only;omega⟩
  . have:=ALD l n y (by omega) h
    exact⟨this.1,this.2.1,by omega⟩
theorem ANN {asked:List Asked} (ha:AskV asked):T5 asked=some (bwN asked asked.length):=by
 unfold T5
 refine if_pos fun y hy=>?_
 obtain⟨h1,h2,h3⟩:=ALD asked asked.length y (Nat.le_refl _) hy
 have hl:=ha.len
 obtain⟨v1,v2,v3,v4⟩:=ha.v _ h1
 have e:ADT [.int .i64,.st 5] y↔InK .i64 y.1/\(InK .i64 y.2.id/\InK .i64 y.2.who/\InK .i64 y.2.account/\InK .i64 y.2.day):=Iff.rfl
 rw[e]
 exact⟨S7 (by omega),S7 (by omega),S7 (by omega),S7 (by omega),S7 (by omega)⟩
section
variable {d:Desk} {D:Desk_99} (hD:Dw d D) (hv:Vd d) {l:List Report} (hl:VL l)
include hD hv hl
theorem AV4 {x:Dispute} (hx:x∈d.disputes):AAm l x (dec d x)=some ((stF l (dec d x).day x.report).getD AEj,(stF l (dec d x).day x.report).isSome):=by
 unfold AAm
 rw[AL9 hl (AFV hv hx),bindS]
 rfl
theorem AV5 {x:Dispute} (hx:x∈d.disputes) {f:A4 (Int×Int) Int} {a:Int×Asked} (ha:0<=a.2.day/\a.2.day<=100000):Go.Proofs.YtgioiejbphljoaaGreatDoor.inB D l x (dec d x) ((stF l (dec d x).day x.report).getD AEj) ((stF l (dec d x).day x.report).isSome) f a=some (ABc d l x f a.2):=by
 have hdi:=AFV hv hx
 unfold Go.Proofs.YtgioiejbphljoaaGreatDoor.inB ABc
 have key:∃ b:Bool⊕Unit,AAQ D l x (dec d x) ((stF l (dec d x).day x.report).getD AEj) ((stF l (dec d x).day x.report).isSome) a.2=some b/\(wrong d l x a.2=true↔b=.inl true):=by
  show Ret _ fun b:Bool⊕Unit=>wrong d l x a.2=true↔b=.inl true
  unfold AAQ wrong
  rw[hD.f,hD.d]
  have no:∀ {o:Option (Bool⊕Unit)} {b:Bool},b=false->Ret (cond true (some (Sum.inr ())) o) fun c:Bool⊕Unit=>b=true↔c=.inl true:=fun {o b} h=>Ret.condT rfl (Ret.ok (by subst h;exact⟨(fun h=>by cases h),(fun h=>by cases h)⟩))
  refine Ret.bind (Ret.cond (fun c=>Ret.ok (no ?_)) fun c=>Ret.cond (fun c2=>Ret.ok (no ?_)) fun c2=>Ret.bind (Ret.chk (by omega) (Ret.ok ?_)))
  . have c:decide (a.2.account=((Y9 d.reports x.report).getD AEj).account)=false:=by
     rw[Bool.not_eq_true'] at c;exact c
    rw[c];rfl
  . have c2:=of_decide_eq_true c2
    rw[decide_eq_false (show ¬ a.2.day < (dec d x).day by omega)]
    simp
  have c:decide (a.2.account=((Y9 d.reports x.report).getD AEj).account)=true:=by
   rw[Bool.not_eq_false'] at c;exact c
  have c2:=of_decide_eq_false c2
  rw[c,decide_eq_true (show a.2.day < (dec d x).day by omega),Bool.true_and,Bool.true_and]
  refine Ret.cond (fun c3=>Ret.ok ?_) fun c3=>?_
  . have c3:=of_decide_eq_true c3
    rw[decide_eq_false (show ¬ (dec d x).day - a.2.day<=d.terms.lately by omega)]
    exact⟨(fun h=>by cases h),(fun h=>by cases h)⟩
  have c3:=of_decide_eq_false c3
  rw[decide_eq_true (show (dec d x).day - a.2.day<=d.terms.lately by omega),Bool.true_and]
  rw[AL9 hl ha,bindS]
  have fin:∀ {b b':Bool},b=b'->Ret (some (Sum.inl b':Bool⊕Unit)) fun c:Bool⊕Unit=>b=true↔c=.inl true:=fun {b b'} h=>Ret.ok (by subst h;exact⟨fun h=>by rw[h],fun h=>by injection h⟩)
  refine Ret.bind ?_
  cases hw:stF l a.2.day x.report with
  |none=>exact Ret.condF rfl (Ret.ok (fin rfl))
  |some was=>
   refine Ret.condT rfl (Ret.cond (fun c4=>?_) fun c4=>Ret.ok (fin ?_))
   . have c4:decide (was.about<=a.2.day)=true:=c4
     dsimp only
     rw[c4,Bool.true_and]
     cases hn:stF l (dec d x).day x.report with
     |none=>exact Ret.condT rfl (Ret.ok (fin rfl))
     |some now=>exact Ret.condF rfl (Ret.ok (fin rfl))
   . have c4:decide (was.about<=a.2.day)=false:=c4
     dsimp only
     rw[c4];rfl
 obtain⟨b,h1,h2⟩:=key
 rw[h1,bindS]
 congr 1
 by_cases c:wrong d l x a.2=true
 . rw[if_pos c,h2.1 c]
 . rw[if_neg c]
   cases b with
   |inr u=>rfl
   |inl b=>
    cases b with
    |false=>rfl
    |true=>exact absurd (h2.2 rfl) c
theorem AT6 {asked:List Asked} (ha:AskV asked) {f:A4 (Int×Int) Int} {y:Dispute×Verdict} {day:Int} (hy:y∈decd d day):AG1 D asked l f y=some (AEm d l asked f y):=by
 obtain⟨h1,h2,h3⟩:=decd_mem.1 hy
 refine Ret.eq ?_
 unfold AG1
 rw[h3,AV4 hD hv hl h1,bindS,ANN ha,bindS]
 refine Ret.over (fun pre (g:A4 (Int×Int) Int)=>g=(pre.map (·.2)).foldl (ABc d l y.1) f) rfl (fun pre a s hpl hp ham hs=>?_) fun s hs=>?_
 . have:=ha.v _ (ALD asked asked.length a (Nat.le_refl _) ham).1
   rw[AV5 hD hv hl h1 this.2.2.2]
   refine Ret.ok ?_
   rw[List.map_append,List.foldl_append,<-hs];rfl
 . rw[hs,AOZ asked _ (Nat.le_refl _),List.take_length];rfl
end
theorem ANO {κ α:Type} [DecidableEq κ] {f:A4 κ α} {l:List (κ×α)} (h:Lists f l) (a:κ) (z:α):∃ l',Lists (B7 f a z) l'/\l'.length<=l.length+1:=by
 by_cases c:∃ x∈l,x.1=a
 . obtain⟨⟨a',y⟩,hx,rfl⟩:=c
   obtain⟨j,hj⟩:=List.getElem?_of_mem hx
   exact⟨_,h.set hj z,by rw[List.length_set];omega⟩
 . exact⟨_,h.push z fun x hx e=>c ⟨x,hx,e⟩,by simp⟩
theorem AJA {d:Desk} {l:List Report} {asked:List Asked}:∀ (ys:List (Dispute×Verdict)) (f:A4 (Int×Int) Int) (xs:List ((Int×Int)×Int)),Lists f xs->∃ xs',Lists (ys.foldl (AEm d l asked) f) xs'/\xs'.length<=xs.length+ys.length * asked.length:=by
 have inner:∀ (aq:List Asked) (x:Dispute) (f:A4 (Int×Int) Int) (xs:List ((Int×Int)×Int)),Lists f xs->∃ xs',Lists (aq.foldl (ABc d l x) f) xs'/\xs'.length<=xs.length+aq.length:=by
  intro aq
  induction aq with
  |nil=>intro x f xs h;exact⟨xs,h,by simp⟩
  |cons a aq ih=>
   intro x f xs h
   have:∃ xs',Lists (ABc d l x f a) xs'/\xs'.length<=xs.length+1:=by
    unfold ABc
    split
    . exact ANO h _ _
    . exact⟨xs,h,by omega⟩
   obtain⟨xs',h1,h2⟩:=this
   obtain⟨xs2,h3,h4⟩:=ih x _ xs' h1
   exact⟨xs2,h3,by simp only[List.length_cons];omega⟩
 intro ys
 induction ys with
 |nil=>intro f xs h;exact⟨xs,h,by simp⟩
 |cons y ys ih=>
  intro f xs h
  obtain⟨xs',h1,h2⟩:=inner asked.reverse y.1 f xs h
  obtain⟨xs2,h3,h4⟩:=ih _ xs' h1
  refine⟨xs2,h3,?_⟩
  rw[List.length_reverse] at h2
  simp only[List.length_cons,Nat.add_mul,Nat.one_mul]
  omega
def mkL (y:(Int×Int)×Int):Letter:=Letter.mk y.1.1 y.1.2 y.2
structure LetS (F:A4 (Int×Int) Int) (out:List Letter):Prop where
 mem:∀ z:Letter,z∈out↔F (z.dispute,z.who)=some z.asked
 nd:(out.map fun z=>(z.dispute,z.who)).Nodup
 ord:out.Pairwise (le2 (·.dispute) (·.who))
theorem AMA {out:List Letter} (h:(out.map fun z=>(z.dispute,z.who)).Nodup):∀ a b,a∈out->b∈out->a.dispute=b.dispute->a.who=b.who->a=b:=fun a b ha hb e1 e2=>by
 rw[List.Nodup,List.pairwise_map] at h
 obtain⟨i,hi,rfl⟩:=List.getElem_of_mem ha
 obtain⟨j,hj,rfl⟩:=List.getElem_of_mem hb
 rw[List.pairwise_iff_getElem] at h
 have e:(out[i].dispute,out[i].who)=(out[j].dispute,out[j].who):=by rw[e1,e2]
 rcases Nat.lt_trichotomy i j with c|c|c
 . exact absurd e (h i j hi hj c)
 . subst c;rfl
 . exact absurd e.symm (h j i hj hi c)
theorem AG4 {F:A4 (Int×Int) Int} {a b:List Letter} (ha:LetS F a) (hb:LetS F b):a=b:=by
 have nd:∀ {x:List Letter},LetS F x->x.Nodup:=fun h=>(List.pairwise_map.1 h.nd).imp fun h e=>h (by rw[e])
 refine AEh ((List.perm_ext_iff_of_nodup (nd ha) (nd hb)).2 fun z=>by rw[ha.mem,hb.mem]) ha.ord hb.ord (AMA ha.nd)
theorem AOb {F:A4 (Int×Int) Int} {xs0:List ((Int×Int)×Int)} (h0:Lists F xs0) (hl:xs0.length<=100000):Ret (AAV F fun xs=>Option.bind (List.foldlM AEi [] xs) J6) fun r=>r.2=0/\LetS F r.1:=by
 have each:∀ xs,Lists F xs->Ret (Option.bind (List.foldlM AEi [] xs) J6) fun r=>r=(r.1,0)/\LetS F r.1:=fun xs hxs=>by
  have hp:xs.Perm xs0:=(List.perm_ext_iff_of_nodup ((List.pairwise_map.1 hxs.1).imp fun h e=>h (by rw[e])) ((List.pairwise_map.1 h0.1).imp fun h e=>h (by rw[e]))).2 fun y=>(hxs.2 y.1 y.2).trans (h0.2 y.1 y.2).symm
  have hlen:=hp.length_eq
  have fold:∀ (l:List ((Int×Int)×Int)) (pre:List Letter),pre.length+l.length<=1000000->List.foldlM AEi pre l=some (pre++l.map mkL):=by
   intro l
   induction l with
   |nil=>intro pre _;simp
   |cons y l ih=>
    intro pre h
    rw[List.length_cons] at h
    rw[List.foldlM_cons]
    have:AEi pre y=some (pre++[mkL y]):=X7 (by simp;omega) (by simp;omega)
    rw[this]
    show List.foldlM AEi (pre++[mkL y]) l=_
    rw[ih _ (by simp;omega)]
    simp
  rw[fold xs [] (by simp;omega),List.nil_append,bindS]
  unfold J6
  have hnd:((xs.map mkL).map fun z=>(z.dispute,z.who)).Nodup:=by
   rw[List.map_map];exact hxs.1
  have ho:=AJT (x:=xs.map mkL) (cmp:=fun a b=>I7 a b [49,50]) (k1:=(·.dispute)) (k2:=(·.who)) (fun a b=>AF3 (D:=fd118.D) (fun _=>rfl) (fun _=>rfl)) (AMA hnd) (by rw[List.length_map];omega)
  refine Ret.bind (Ret.bind (ho.mono fun m hm=>Ret.ok (Ret.ok ⟨rfl,fun z=>?_,(hm.1.map _).nodup_iff.2 hnd,hm.2⟩)))
  rw[hm.1.mem_iff,List.mem_map,<-hxs.2]
  constructor
  . rintro⟨y,hy,rfl⟩;exact hy
  . intro h;exact⟨_,h,rfl⟩
 obtain⟨r,h1,h2,h3⟩:=each _ h0
 refine⟨r,AH3 h0 fun xs hxs=>?_,by rw[h2],h3⟩
 obtain⟨r',h4,h5,h6⟩:=each xs hxs
 rw[h4,h5,h2,AG4 h6 h3]
theorem ARz {asked:List Asked} (hl:asked.length<=1000000):Ret (N4 asked) fun b=>b=true->AskV asked:=by
 unfold N4
 refine Ret.cond (fun _=>Ret.ok fun h=>by cases h) fun c1=>?_
 have c1:=of_decide_eq_false c1
 refine Ret.bind (D3 asked.length (fun n (t:Int)=>t=n/\(∀ a∈asked.take n,(0<=a.id/\a.id<=999999)/\(0<=a.who/\a.who<=999999)/\(0<=a.account/\a.account<=999999)/\(0<=a.day/\a.day<=100000))/\∀ (m:Nat) (h:m+1 < asked.length),m+1 < n->asked[m].id < asked[m+1].id) ⟨rfl,fun a h=>by simp at h,fun m _ h=>by omega⟩ ?_ ?_)
 . rintro n hlt _ ⟨rfl,hv,hu⟩
   have bad:∀ {o:Option (Int⊕(Unit⊕Bool))} {N:Int->Prop},Ret (cond true (some (Sum.inr (Sum.inr false))) o) (Nxt N (fun a=>Ret (Sum.elim (fun _=>some true) (fun r27=>some r27) a) fun b=>b=true->AskV asked)):=fun {o N}=>Ret.condT rfl (Ret.done (E1 (Ret.ok fun h=>by cases h)))
   refine Ret.condT (ltT hlt) (Ret.bind (N6 hlt (Ret.bind ?_)))
   rw[within5,bindS]
   refine Ret.no bad fun c2=>?_
   rw[within5,bindS]
   refine Ret.no bad fun c3=>?_
   rw[within5,bindS]
   refine Ret.no bad fun c4=>?_
   rw[within5,bindS]
   refine Ret.no bad fun c5=>?_
   have hv':∀ a∈asked.take (n+1),(0<=a.id/\a.id<=999999)/\(0<=a.who/\a.who<=999999)/\(0<=a.account/\a.account<=999999)/\(0<=a.day/\a.day<=100000):=fun a ha=>by
    rw[F4 hlt] at ha
    rcases ha with ha|rfl
    . exact hv a ha
    . exact⟨F0 c2,F0 c3,F0 c4,F0 c5⟩
   have go:(∀ (m:Nat) (h:m+1 < asked.length),m+1 < n+1->asked[m].id < asked[m+1].id)->Ret (cond false (some (Sum.inr (Sum.inr false))) (Option.bind (chk .i64 ((n:Int)+1)) fun n20=>some (Sum.inl n20))) (Nxt (fun (t:Int)=>t=((n+1:Nat):Int)/\(∀ a∈asked.take (n+1),(0<=a.id/\a.id<=999999)/\(0<=a.who/\a.who<=999999)/\(0<=a.account/\a.account<=999999)/\(0<=a.day/\a.day<=100000))/\∀ (m:Nat) (h:m+1 < asked.length),m+1 < n+1->asked[m].id < asked[m+1].id) (fun a=>Ret (Sum.elim (fun (_:Unit)=>some true) (fun r27=>some r27) a) fun b=>b=true->AskV asked)):=fun h=>Ret.condF rfl (Ret.bind (Ret.chk (by omega) (Ret.next ⟨by omega,hv',h⟩)))
   refine Ret.cond (fun c6=>?_) fun c6=>Ret.ok (go fun m h hm=>?_)
   . have c6:=of_decide_eq_true c6
     obtain⟨k,rfl⟩:∃ k,n=k+1:=⟨n - 1,by omega⟩
     have hk:k < asked.length:=by omega
     refine Ret.bind (Ret.chk (by omega) (Ret.bind ?_))
     rw[show ((k+1:Nat):Int) - 1=(k:Int) by omega]
     refine N6 hk (Ret.ok ?_)
     by_cases c7:asked[k+1].id<=asked[k].id
     . rw[decide_eq_true c7];exact bad
     . rw[decide_eq_false c7]
       refine go fun m h hm=>?_
       by_cases e:m=k
       . subst e;omega
       . exact hu m h (by omega)
   . have c6:=of_decide_eq_false c6
     omega
 . rintro _ ⟨rfl,hv,hu⟩
   rw[List.take_length] at hv
   exact Ret.condF (ltF (Nat.le_refl _)) (Ret.done (C5 (Ret.ok fun _=>⟨by omega,hv,fun n h=>hu n h h⟩)))
def LtS (d:Desk) (asked:List Asked) (day:Int) (r:List Letter×Int):Prop:=∃ z,AB4 d day z/\((z.2=9/\r=([],9))\/(z.2=0/\r.2=0/\LetS (AIc d z.1 asked day) r.1))
theorem AOc {d:Desk} (hv:Vd d) {day:Int} {z:List Report×Int} (hz:AB4 d day z) (h0:z.2=0):VL z.1:=by
 rcases hz with⟨_,rfl⟩|⟨h1,m,h2,h3,rfl⟩
 . cases h0
 have mm:∀ r∈m,∃ x∈d.disputes,r=ADb d x (dec d x)/\3<=(dec d x).is_:=fun r hr=>by
  have hr:=h2.mem_iff.1 hr
  unfold more at hr
  obtain⟨y,hy,rfl⟩:=List.mem_map.1 hr
  obtain⟨y1,y2,y3⟩:=decd_mem.1 hy
  refine⟨y.1,y1,by rw[y3],?_⟩
  unfold wh at y2
  split at y2
  . exact y2
  . split at y2 <;> omega
 refine⟨?_,fun r hr=>?_,fun a ha b hb e=>?_⟩
 . dsimp only
   rw[List.length_append,h2.length_eq];exact h1
 . rcases List.mem_append.1 hr with hr|hr
   . exact hv.r.v r hr
   . obtain⟨x,hx,rfl,h4⟩:=mm r hr
     obtain⟨x1,x2,f,hf,x3,x4⟩:=hv.x.v x hx
     have hfm:=AAN hf
     obtain⟨u1,u2,u3,u4,u5,u6,u7,u8,_⟩:=hv.r.v f hfm.1
     have hdi:=AFV hv hx
     have hb:=AQg hv x
     have hne:f.id≠x.id:=x2 f hfm.1
     unfold ADb
     rw[hf]
     dsimp only[Option.getD_some]
     split
     . exact⟨(show (1:Int)<=8/\(8:Int)<=9 from by decide),x1,u3,u4,u2,hdi,hb.2.2.2.2.1,hb.2.2.2.2.2,(fun h=>absurd (show (8:Int)<=7 from h) (by decide)),(fun _=>hne),(fun h=>absurd (show (8:Int)=9 from h) (by decide))⟩
     . exact⟨(show (1:Int)<=9/\(9:Int)<=9 from by decide),x1,u3,u4,u2,hdi,(show (0:Int)<=0/\(0:Int)<=100000 from by decide),(show (0:Int)<=0/\(0:Int)<=0 from by decide),(fun h=>absurd (show (9:Int)<=7 from h) (by decide)),(fun _=>hne),(fun _=>rfl)⟩
 . rcases List.mem_append.1 ha with ha|ha <;> rcases List.mem_append.1 hb with hb|hb
   . exact hv.r.cons a ha b hb e
   . obtain⟨x,hx,rfl,_⟩:=mm b hb
     rw[ALB] at e
     exact absurd e ((hv.x.v x hx).2.1 a ha)
   . obtain⟨x,hx,rfl,_⟩:=mm a ha
     rw[ALB] at e
     exact absurd e.symm ((hv.x.v x hx).2.1 b hb)
   . exact X5 (AIb hv) a b (h2.mem_iff.1 ha) (h2.mem_iff.1 hb) e
theorem AFY {d:Desk} (hv:Vd d) {asked:List Asked} (ha:AskV asked) {day:Int} (hd:0<=day/\day<=100000):Ret (E6 d asked day) (LtS d asked day):=by
 obtain⟨D,h1,hD⟩:=AC0 hv hd
 have hal:=ha.len
 unfold E6
 refine Ret.bind ?_
 unfold AB3
 rw[h1,bindS]
 refine Ret.condF (by decide) (Ret.bind (D3 asked.length (fun n (t:Int×Int)=>t.2=n/\-1<=t.1/\t.1<=999999/\∀ (h:n < asked.length),t.1 < asked[n].id) ⟨rfl,by decide,by decide,fun h=>?_⟩ ?_ ?_))
 . have:=(ha.v _ (List.getElem_mem h)).1
   dsimp only;omega
 . rintro n hlt ⟨p,_⟩ ⟨rfl,hp0,hp1,hp⟩
   dsimp only at hp hp0 hp1
   have hpl:=hp hlt
   obtain⟨v1,v2,v3,v4⟩:=ha.v _ (List.getElem_mem hlt)
   refine Ret.condT (ltT hlt) (Ret.bind (N6 hlt (Ret.bind (Ret.bind (Ret.chk (by omega) ?_)))))
   rw[d_in1,AAM (by omega),bindS]
   refine Ret.condF rfl ?_
   rw[d_in2,AAM v2,AAM v3,bindS]
   refine Ret.condF rfl ?_
   rw[d_in1,AAM v4,bindS]
   refine Ret.ok (Ret.condF rfl (Ret.bind (Ret.chk (by omega) (Ret.next ⟨by dsimp only;omega,by dsimp only;omega,by dsimp only;omega,fun h=>ha.up n h⟩))))
 . rintro⟨p,_⟩ ⟨rfl,_⟩
   refine Ret.condF (ltF (Nat.le_refl _)) (Ret.done (C5 (Ret.condF (decide_eq_false (by omega)) (J4 (ALC hD hv (day:=day)) fun z hz=>?_))))
   obtain⟨l,e⟩:=z
   rcases id hz with⟨g1,g2⟩|⟨g1,m,g2,g3,g4⟩
   . obtain⟨rfl,rfl⟩:=Prod.mk.inj g2
     exact Ret.condT rfl (Ret.ok (E1 (Ret.ok ⟨_,hz,.inl ⟨rfl,rfl⟩⟩)))
   . obtain⟨rfl,rfl⟩:=Prod.mk.inj g4
     have hVL:=AOc hv hz rfl
     refine Ret.condF rfl (Ret.ok (C5 ?_))
     dsimp only
     rw[AI9 hD hv,bindS]
     refine Ret.bind (Ret.over (fun pre (f:A4 (Int×Int) Int)=>f=pre.foldl (AEm d (d.reports++m) asked) fnone) rfl (fun pre y s hpl hp hy hs=>?_) fun s hs=>?_)
     . rw[AT6 hD hv hVL ha hy]
       refine Ret.ok ?_
       rw[List.foldl_append,<-hs];rfl
     . obtain⟨xs,hx1,hx2⟩:=AJA (d:=d) (l:=d.reports++m) (asked:=asked) (decd d day) fnone [] ⟨List.nodup_nil,fun a y=>by simp[fnone]⟩
       have hdl:=AEk (d:=d) (day:=day)
       have hlx:=hv.x.len
       have:(decd d day).length * asked.length<=20 * 40:=Nat.mul_le_mul (by omega) hal
       rw[hs]
       exact (AOb hx1 (by simp only[List.length_nil] at hx2;omega)).mono fun r hr=>⟨_,hz,.inr ⟨rfl,hr.1,hr.2⟩⟩
end S
end Go.Proofs.YtgioiejbphljoaaGreatDoor
set_option maxRecDepth 20000
namespace Go.Proofs.YtgioiejbphljoaaGreatDoor
open Go Go.Sx Go.Rx Go.RowKit
noncomputable def D0:Desk:=Desk.mk (Terms.mk 30 100 60) ([(Report.mk 1 70 5 12 10 3 500 0),(Report.mk 2 70 5 22 20 5 40 0),(Report.mk 3 70 5 26 25 6 500 0)]) ([(Dispute.mk 51 1 40),(Dispute.mk 52 2 41),(Dispute.mk 53 3 42)]) ([(Answer.mk 1 51 50 2 10 450),(Answer.mk 2 52 72 3 0 0),(Answer.mk 3 53 60 1 0 0),(Answer.mk 4 53 61 3 0 0)])
noncomputable def A0:List Asked:=[(Asked.mk 5 900 5 15),(Asked.mk 6 900 5 45),(Asked.mk 7 901 5 55),(Asked.mk 8 902 6 45)]
noncomputable def l33:List Report:=D0.reports++[Report.mk 51 70 5 50 10 8 450 1,Report.mk 52 70 5 72 0 9 0 2]
def ALE:Prop:=∃ l x due,I9 D0 72=some (l,0)/\E6 D0 A0 72=some (x,0)/\X4 D0 45=some (due,0)/\AAP 51 49 1 50=some true/\AAP 52 72 5 72=some true/\AAP 53 90 2 60=some true/\O9 3 160 2=some true/\O9 3 161 0=some true/\O9 3 50 1=some true /\
 M3 l l33=some true/\M4 x [Letter.mk 51 900 5,Letter.mk 52 900 6,Letter.mk 52 901 7]=some true/\V9 due [51,52,53]=some true
open Classical in
noncomputable def Q9:Option Bool:=if ALE then some true else none
noncomputable def ctr21:Ctr:=⟨[],[.d .bool],fun _=>Q9⟩
end Go.Proofs.YtgioiejbphljoaaGreatDoor
set_option maxRecDepth 20000
set_option maxHeartbeats 1000000
set_option linter.unusedVariables false
namespace Go.Proofs.YtgioiejbphljoaaGreatDoor
open Go Go.Sx Go.Rx
namespace S
theorem D0_VL:VL D0.reports:=by
 refine⟨by decide,fun r hr=>?_,fun a ha b hb e=>?_⟩
 . have h:∀ r∈D0.reports,V r:=by unfold V;decide +kernel
   exact h r hr
 . have h:∀ a∈D0.reports,∀ b∈D0.reports,a.id=b.id->a=b:=by decide +kernel
   exact h a ha b hb e
theorem ADO:Vd D0:=by
 refine⟨?_,D0_VL,⟨by decide,fun x hx=>?_,by decide +kernel⟩,⟨by decide,fun a ha=>?_,by decide +kernel⟩⟩
 . unfold TV;decide +kernel
 . have h:∀ x∈D0.disputes,((0<=x.id/\x.id<=999999)/\(∀ r∈D0.reports,r.id≠x.id))/\(match Y9 D0.reports x.report with
    |none=>false
    |some f=>decide (f.made<=x.day/\x.day<=100000 - D0.terms.answer - 1))=true:=by decide +kernel
   obtain⟨h1,h2⟩:=h x hx
   cases hf:Y9 D0.reports x.report with
   |none=>rw[hf] at h2;cases h2
   |some f=>rw[hf] at h2;exact⟨h1.1,h1.2,f,hf,of_decide_eq_true h2⟩
 . have h:∀ a∈D0.answers,(0<=a.id/\a.id<=999999)/\(0<=a.day/\a.day<=100000)/\(1<=a.says/\a.says<=3)/\∃ x∈D0.disputes,x.id=a.dispute/\(a.says≠2->a.about=0/\a.cents=0)/\(a.says=2->(match Y9 D0.reports x.report with
    |none=>true
    |some f=>decide ((0<=a.about/\a.about<=100000)/\0<=a.cents/\a.cents<=most f.kind))=true):=by decide +kernel
   obtain⟨h1,h2,h3,x,h4,h5,h6,h7⟩:=h a ha
   refine⟨h1,h2,h3,x,h4,h5,h6,fun e f hf=>?_⟩
   have:=h7 e
   rw[hf] at this
   exact of_decide_eq_true this
theorem ANP {i day w n:Int} {x:Dispute} (hx:x∈D0.disputes) (hi:x.id=i) (hd:0<=day/\day<=100000) (h1:wh D0 x day=w) (h2:(dec D0 x).day=n):AAP i day w n=some true:=by
 unfold AAP
 rw[show Z9=some D0 from rfl,bindS,<-hi,AIY ADO hx hd,bindS]
 dsimp only
 rw[decide_eq_true (show (0:Int)=0 from rfl),decide_eq_true h1,decide_eq_true h2]
 rfl
theorem AId {i day m:Int} (hd:0<=day/\day<=100000) (h1:(Y9 D0.reports i).isSome=true) (h2:ADN D0 i day=m):O9 i day m=some true:=by
 unfold O9
 rw[show Z9=some D0 from rfl,bindS,AK1 ADO hd,if_pos h1,bindS]
 dsimp only
 rw[decide_eq_true (show (0:Int)=0 from rfl),decide_eq_true h2]
 rfl
theorem AFZ {a:List Report} (hl:a.length<=1000000):M3 a a=some true:=by
 refine Ret.eq ?_
 unfold M3
 refine Ret.condF (by simp) (Ret.bind (D3 a.length (fun n (t:Int)=>t=n) rfl ?_ ?_))
 . rintro n hlt _ rfl
   exact Ret.condT (ltT hlt) (Ret.bind (N6 hlt (Ret.bind (N6 hlt (Ret.condF (by simp) (Ret.bind (Ret.chk (by omega) (Ret.next (by omega)))))))))
 . rintro _ rfl
   exact Ret.condF (ltF (Nat.le_refl _)) (Ret.done (C5 (Ret.ok rfl)))
theorem AFa {a:List Letter} (hl:a.length<=1000000):M4 a a=some true:=by
 refine Ret.eq ?_
 unfold M4
 refine Ret.condF (by simp) (Ret.bind (D3 a.length (fun n (t:Int)=>t=n) rfl ?_ ?_))
 . rintro n hlt _ rfl
   exact Ret.condT (ltT hlt) (Ret.bind (N6 hlt (Ret.bind (N6 hlt (Ret.condF (by simp) (Ret.bind (Ret.chk (by omega) (Ret.next (by omega)))))))))
 . rintro _ rfl
   exact Ret.condF (ltF (Nat.le_refl _)) (Ret.done (C5 (Ret.ok rfl)))
theorem AOd {a:List Int} (hl:a.length<=1000000):V9 a a=some true:=by
 refine Ret.eq ?_
 unfold V9
 refine Ret.condF (by simp) (Ret.bind (D3 a.length (fun n (t:Int)=>t=n) rfl ?_ ?_))
 . rintro n hlt _ rfl
   exact Ret.condT (ltT hlt) (Ret.bind (N6 hlt (Ret.bind (N6 hlt (Ret.condF (by simp) (Ret.bind (Ret.chk (by omega) (Ret.next (by omega)))))))))
 . rintro _ rfl
   exact Ret.condF (ltF (Nat.le_refl _)) (Ret.done (C5 (Ret.ok rfl)))
theorem AD4 {α:Type} {k1 k2:α->Int} {a b:α} (h:decide (k1 a < k1 b\/k1 a=k1 b/\k2 a<=k2 b)=true):le2 k1 k2 a b:=of_decide_eq_true (p:=k1 a < k1 b\/k1 a=k1 b/\k2 a<=k2 b) h
theorem AT8:AB4 D0 72 (l33,0):=by
 refine .inr ⟨by decide +kernel,[Report.mk 51 70 5 50 10 8 450 1,Report.mk 52 70 5 72 0 9 0 2],?_,?_,rfl⟩
 . rw[show more D0 72=[Report.mk 51 70 5 50 10 8 450 1,Report.mk 52 70 5 72 0 9 0 2] from by kernel_rfl]
 . exact .cons (fun b hb=>by rw[List.mem_singleton.1 hb];exact AD4 (by decide)) (List.pairwise_singleton _ _)
theorem AV6:AskV A0:=by
 refine⟨by decide,?_,?_⟩
 . decide +kernel
 . intro n h
   have h4:n+1 < 4:=h
   have:n=0\/n=1\/n=2:=by omega
   rcases this with rfl|rfl|rfl
   . exact (by decide:(5:Int) < 6)
   . exact (by decide:(6:Int) < 7)
   . exact (by decide:(7:Int) < 8)
def L0:List Letter:=[Letter.mk 51 900 5,Letter.mk 52 900 6,Letter.mk 52 901 7]
theorem AXW:AIc D0 l33 A0 72=B7 (B7 (B7 (B7 fnone (51,900) 6) (51,900) 5) (52,901) 7) (52,900) 6:=by kernel_rfl
theorem AXX:LetS (AIc D0 l33 A0 72) L0:=by
 rw[AXW]
 refine⟨fun z=>?_,by decide,?_⟩
 . obtain⟨a,b,c⟩:=z
   unfold L0 B7 fnone
   simp only[List.mem_cons,List.not_mem_nil,or_false,Letter.mk.injEq,Prod.mk.injEq]
   split
   . rename_i h
     simp[h.1,h.2,eq_comm]
   . rename_i h1
     split
     . rename_i h
       simp[h.1,h.2,eq_comm]
     . rename_i h2
       split
       . rename_i h
         simp[h.1,h.2,eq_comm]
       . rename_i h3
         simp;omega
 . unfold L0
   refine .cons (fun b hb=>?_) (.cons (fun b hb=>?_) (List.pairwise_singleton _ _))
   . simp only[List.mem_cons,List.not_mem_nil,or_false] at hb
     rcases hb with rfl|rfl <;> exact AD4 (by decide)
   . rw[List.mem_singleton.1 hb];exact AD4 (by decide)
theorem AV7:AM9 D0 45 [51,52,53]:=by
 refine⟨D0.disputes,.refl _,?_,by decide +kernel⟩
 show List.Pairwise _ [Dispute.mk 51 1 40,Dispute.mk 52 2 41,Dispute.mk 53 3 42]
 refine .cons (fun b hb=>?_) (.cons (fun b hb=>?_) (List.pairwise_singleton _ _))
 . simp only[List.mem_cons,List.not_mem_nil,or_false] at hb
   rcases hb with rfl|rfl <;> exact AD4 (by decide)
 . rw[List.mem_singleton.1 hb];exact AD4 (by decide)
theorem APz {d:Desk} (hv:Vd d) {day:Int} {a b:List Int} (ha:AM9 d day a) (hb:AM9 d day b):a=b:=by
 obtain⟨m,h1,h2,rfl⟩:=ha
 obtain⟨m',h3,h4,rfl⟩:=hb
 rw[AEh (h1.trans h3.symm) h2 h4 fun x y hx hy _ e=>X5 hv.x.nd x y (h1.mem_iff.1 hx) (h1.mem_iff.1 hy) e]
theorem AP0:ALE:=by
 have d1:Dispute.mk 51 1 40∈D0.disputes:=.head _
 have d2:Dispute.mk 52 2 41∈D0.disputes:=.tail _ (.head _)
 have d3:Dispute.mk 53 3 42∈D0.disputes:=.tail _ (.tail _ (.head _))
 have a1:I9 D0 72=some (l33,0):=by
  obtain⟨r,h1,h2⟩:=AG3 ADO (day:=72) (by decide)
  rw[h1,AEl ADO h2 AT8]
 have a2:E6 D0 A0 72=some (L0,0):=by
  obtain⟨r,h1,z,h2,h3⟩:=AFY ADO AV6 (day:=72) (by decide)
  have hz:=AEl ADO h2 AT8
  subst hz
  rcases h3 with⟨h4,_⟩|⟨_,h4,h5⟩
  . cases h4
  . obtain⟨x,e⟩:=r
    have h4:e=0:=h4
    subst h4
    have hx:x=L0:=AG4 h5 AXX
    rw[h1,hx]
 have a3:X4 D0 45=some ([51,52,53],0):=by
  obtain⟨r,h1,h2,h3⟩:=AV0 ADO (day:=45) (by decide)
  obtain⟨x,e⟩:=r
  have h2:e=0:=h2
  subst h2
  have hx:x=[51,52,53]:=APz ADO h3 AV7
  rw[h1,hx]
 refine⟨l33,L0,[51,52,53],a1,a2,a3,ANP d1 rfl (by decide) (by kernel_rfl) (by kernel_rfl),ANP d2 rfl (by decide) (by kernel_rfl) (by kernel_rfl),ANP d3 rfl (by decide) (by kernel_rfl) (by kernel_rfl),AId (by decide) (by kernel_rfl) (by kernel_rfl),AId (by decide) (by kernel_rfl) (by kernel_rfl),AId (by decide) (by kernel_rfl) (by kernel_rfl),AFZ (by decide),AFa (by decide),AOd (by decide)⟩
theorem AR0:Q9=some true:=if_pos AP0
end S
end Go.Proofs.YtgioiejbphljoaaGreatDoor
set_option maxRecDepth 20000
set_option maxHeartbeats 1000000
namespace Go.Proofs.YtgioiejbphljoaaGreatDoor
open Go Go.Sx Go.Rx Go.RowKit
theorem AMC:GxOk Tryz.prog gxb:=B1 trivial
theorem C33 {M:List Nat} {w:World} (hM:MLt M w) (hg:GlOk (P:=Tryz.prog) M w):Calls Tryz.prog 33 #[] w fun e w'=>∃ vr vx va,e=.returned (.agg (List.toArray [.int .i64 30,.int .i64 100,.int .i64 60,vr,vx,va]))/\Sx.Own (enc (P:=Tryz.prog) (.st 1)) 45 0 (ob vr++M) w' vr D0.reports/\(∀ b∈ob vr,w.heap.size<=b)/\Ext w w':=by
 have h0:Holds (P:=Tryz.prog) w [] M ⟨[],[],[],[]⟩ (P0 0 []) w:=Holds.start hM (fun t s ht=>by cases ht) ⟨trivial,hg⟩
 refine ABe (l:=[]) (fn:=Tryz.f33) Tryz.func33 rfl rfl rfl ?_
 refine A6 ?_
 refine AA1 AMC (by exact rfl) h0 fun L1 w1 hE1 h1=>?_
 refine A6 ?_
 refine AA1 AMC (by exact rfl) h1 fun L2 w2 hE2 h2=>?_
 have h3:=AEe (env':=[(0,.ptr 0 0)]) (res':=[(14,.own false (.sl 60 (.st 3)) D0.answers),(9,.own false (.sl 53 (.st 2)) D0.disputes),(5,.own false (.sl 45 (.st 1)) D0.reports),(0,.row 28 [.int .i64 30,.int .i64 100,.int .i64 60,.own 5,.own 9,.own 14])]) h2 ⟨rfl,trivial⟩ fun _=>rfl
 clear h1 h2
 obtain⟨S,ρ,γ,μ,ι,hS⟩:=h3
 obtain⟨v0,l0,bb0,hb0,rfl⟩:=hS.env 0 (.ptr 0 0) rfl
 obtain⟨b0,e0,r0,o0,i0⟩:=hS.rowAt (i:=0) (e:=28) (l:=[.int .i64 30,.int .i64 100,.int .i64 60,.own 5,.own 9,.own 14]) rfl
 rw[hb0] at e0;cases e0
 obtain⟨qa,g4,k0,oa⟩:=AAO o0
 obtain⟨qb,ea,k1,ob⟩:=AAO oa
 obtain⟨qc,eb,k2,oc⟩:=AAO ob
 obtain⟨qd,ec,od⟩:=ACT oc
 obtain⟨qe,ed,oe⟩:=ACT od
 obtain⟨qf,ee,of⟩:=ACT oe
 have of:qf=[]:=of
 rw[of] at ee
 rw[ee] at ed
 rw[ed] at ec
 rw[ec] at eb
 rw[eb] at ea
 rw[ea] at g4
 rw[g4] at r0
 have i5:=hS.res 5 (.own false (.sl 45 (.st 1)) D0.reports) rfl
 refine J0 ?_
 have ho:=AHO (P:=Tryz.prog) (c:=.sl 45 (.st 1)) (x:=D0.reports) (v:=ρ 5) hS.hp (ι 5) i5
 exact FinM.of (M9 (rs:=[.cell 0 28]) (vs:=[_]) rfl (.cons (.agg l0 r0.rd.cells Tryz.isAgg28 rfl Tryz.sizeOf28) .nil) rfl ⟨ρ 5,ρ 9,ρ 14,rfl,ho.1,ho.2,hS.hp.kp⟩)
noncomputable def ALF:Gx:={ gxb with fs:=[(14,ctr14),(16,ctr16),(18,ctr18),(19,ctr19),(24,ctr24),(31,ctr31),(32,ctr32),(33,ctr33),(37,ctr37),(54,ctr54)] }
theorem H8:GxOk Tryz.prog ALF:=B1 ⟨⟨ok14,Tryz.call14⟩,⟨⟨ok16,Tryz.call16⟩,⟨⟨ok18,Tryz.call18⟩,⟨⟨ok19,Tryz.call19⟩,⟨⟨ok24,Tryz.call24⟩,⟨⟨ok31,Tryz.call31⟩,⟨⟨ok32,Tryz.call32⟩,⟨⟨ok33,Tryz.call33⟩,⟨⟨ok37,Tryz.call37⟩,⟨⟨ok54,Tryz.call54⟩,trivial⟩⟩⟩⟩⟩⟩⟩⟩⟩⟩
def ANQ:Code->Nat->List Oper
 |.region _ o _,0=>o.toList
 |.seq a _,0=>ANQ a 0
 |.seq _ b,n+1=>ANQ b n
 |_,_=>[]
noncomputable def c21:Code:=match Tryz.f21.body with
 |some c=>c
 |none=>.skip
noncomputable def o21:List Oper:=ANQ c21 4
theorem H2 [Trk] [Sg] [Sf] {P:Program} [Se P] [Sl (P:=P)] [Anch] {w0 w:World} {Mu M:List Nat} {L:A7} {G:Gx} {N:Nat} {ds:List Deferred} {A B:A3} {X:Nat->A3} {Z:List PanicEntry->A3} {all l:List Oper} {σ σ':AS} {Y:Type} {o:Option Y} {x:Y} {K:Y->Option AS} (hG:GxOk P G) (n:Nat) (hH:Holds (P:=P) w0 Mu M σ L w) (hb:o=some x) (h:C3 G N all some (l.take n) σ=Option.bind o K) (hk:K x=some σ') (hA:∀ L' w',EnvS (C2 (l.take n)) L L'->Holds (P:=P) w0 Mu M σ' L' w'->Reg P N (List.toArray all) .seq (l.drop n) ds L' w' A B X Z):Reg P N (List.toArray all) .seq l ds L w A B X Z:=by
 have:=Holds.ops (P:=P) (A:=A) (B:=B) (X:=X) (Z:=Z) (ds:=ds) (l:=l.take n) (rest:=l.drop n) hG (by rw[h,hb];exact hk) hH hA
 rwa [List.take_append_drop] at this
noncomputable def r33:List Report:=[Report.mk 51 70 5 50 10 8 450 1,Report.mk 52 70 5 72 0 9 0 2]
noncomputable def s33 (σ:AS) (l:List Report):AS:=apps (some 50) ([.del 49 (.dat (.sl (.st 1)) r33)]++[.hnd 46 (.own false (.sl 45 (.st 1)) l),.put (.own 46)]) { σ with env:=(43,.bool true) :: σ.env }
theorem AV8 {M:List Nat} {w0 w:World} {L:A7} {σ:AS} (_:Holds (P:=Tryz.prog) w0 [] M σ L w) (e:C3 ALF Tryz.f21.ntmps o21 some (List.take 1 (List.drop 27 o21)) σ=AEI ALF 50 (A1 σ.res) (fun l=>some (apps (some 50) l { σ with env:=(43,.bool true) :: σ.env })) .append [.own 46,.own 49] [24,24])
  (e2:AEI ALF 50 (A1 σ.res) (fun l=>some (apps (some 50) l { σ with env:=(43,.bool true) :: σ.env })) .append [.own 46,.own 49] [24,24]=AMV 50 (A1 σ.res) (fun l=>some (apps (some 50) l { σ with env:=(43,.bool true) :: σ.env })) 45 (.st 1) 64 [.del 49 (.dat (.sl (.st 1)) r33)] [49] r33 (.own 46)) (e3:A1 σ.res 46=some (AR.own false (.sl 45 (.st 1)) D0.reports)) :
  C3 ALF Tryz.f21.ntmps o21 some (List.take 1 (List.drop 27 o21)) σ=Option.bind (appo 64 D0.reports r33) fun l=>some (s33 σ l):=by
 rw[e,e2]
 unfold AMV
 dsimp only
 rw[e3]
 kernel_rfl
theorem ALM [Trk] [Sg] [Sf] {P:Program} [Se P] [Anch] {w0 w:World} {Mu M:List Nat} {L:A7} {σ:AS} {env':List (Nat×SV)} {res':List (Nat×AR)} (h:Holds (P:=P) w0 Mu M σ L w) (hE:AllE σ.env env') (hr:σ.res=res'):Holds (P:=P) w0 Mu M ⟨env',res',[],[]⟩ L w:=AEe h hE fun j=>by rw[hr]
theorem ok21:Ctr.ok Tryz.prog 21 ctr21:=by
 refine⟨by decide,fun M w a vals r hM hg ha hr=>?_⟩
 have ha:vals=[]:=ha
 subst ha
 have hr:Q9=some r:=hr
 unfold Q9 at hr
 by_cases hA:ALE
 rotate_left
 . rw[if_neg hA] at hr;cases hr
 rw[if_pos hA] at hr
 cases hr
 obtain⟨l,x,due,a1,a2,a3,b1,b2,b3,b4,b5,b6,e1,e2,e3⟩:=hA
 have h0:Holds (P:=Tryz.prog) w [] M ⟨[],[],[],[]⟩ (P0 0 []) w:=Holds.start hM (fun t s ht=>by cases ht) ⟨trivial,hg⟩
 refine ABe (l:=[]) (fn:=Tryz.f21) Tryz.func21 rfl rfl rfl ?_
 refine A6 ?_
 refine AA1 H8 (by exact rfl) h0 fun L1 w1 hE1 h1=>?_
 refine A6 ?_
 refine ABH H8 h1 a1 (by exact rfl) (by exact rfl) fun L2 w2 hE2 h2=>?_
 refine A6 ?_
 refine ABH H8 h2 a2 (by exact rfl) (by exact rfl) fun L3 w3 hE3 h3=>?_
 refine A6 ?_
 refine ABH H8 h3 a3 (by exact rfl) (by exact rfl) fun L4 w4 hE4 h4=>?_
 refine A6 ?_
 refine A9 ?_
 show Reg Tryz.prog _ (List.toArray o21) .seq o21 _ _ _ _ _ _ _
 refine H2 H8 2 h4 b1 (by exact rfl) (by exact rfl) fun L5 w5 hE5 h5=>?_
 refine H2 H8 3 h5 b2 (by exact rfl) (by exact rfl) fun L6 w6 hE6 h6=>?_
 refine H2 H8 3 h6 b3 (by exact rfl) (by exact rfl) fun L7 w7 hE7 h7=>?_
 refine H2 H8 3 h7 b4 (by exact rfl) (by exact rfl) fun L8 w8 hE8 h8=>?_
 refine H2 H8 3 h8 b5 (by exact rfl) (by exact rfl) fun L9 w9 hE9 h9=>?_
 refine H2 H8 3 h9 b6 (by exact rfl) (by exact rfl) fun L10 w10 hE10 h10=>?_
 refine H2 H8 5 h10 (o:=some ()) (x:=()) (K:=fun _=>_) rfl (by exact rfl) (by exact rfl) fun L11 w11 hE11 h11=>?_
 have hg43:=h11.slotB (t:=43) (b:=true) rfl
 obtain⟨S,ρ,γ,μ,ι,hS⟩:=h11
 refine Reg.take (j:=20) (t:=43) rfl hg43 ?_
 refine W7 (xs:=[]) (vs:=[]) rfl Tryz.call33 rfl ?_
 refine (C33 (M:=mm S M) hS.hp.mlt hS.anch.2).mono fun e w12 h=>?_
 obtain⟨vr,vx,va,rfl,hown,hnew,hext⟩:=h
 refine⟨_,rfl,?_⟩
 refine Reg.take (j:=20) (t:=43) rfl hg43 ?_
 refine ASD (cs:=[.int .i64 30,.int .i64 100,.int .i64 60,vr,vx,va]) rfl Tryz.underlying28 rfl Tryz.isAgg24 rfl rfl ?_
 obtain⟨q1,q2⟩:=AIF (d:=none) hS hext (i:=46) (c:=.sl 45 (.st 1)) (x:=D0.reports) (v:=vr) ⟨trivial,hown,hnew⟩
 have h12:Holds (P:=Tryz.prog) w [] M _ _ w12:=⟨_,_,_,_,_,q1.put (d:=46) (s:=.own 46) (v:=vr) (q2 _)⟩
 have h13:=h12.toL (L2:=(46,vr) :: (45,.agg (List.toArray [.int .i64 30,.int .i64 100,.int .i64 60,vr,vx,va])) :: L11) (fun t s ht=>by
  have n45:¬ 45=t:=fun e=>by
   subst e
   cases (show none=some s from ht)
  by_cases e46:46=t
  . rw[look_cons,if_pos e46,look_cons,if_pos e46]
  . rw[look_cons,if_neg e46,look_cons,if_neg n45,look_cons,if_neg e46])
 have happ:appo 64 D0.reports r33=some l33:=X7 (by decide) (by decide)
 refine H2 H8 3 h13 (o:=some ()) (x:=()) (K:=fun _=>_) rfl (by exact rfl) (by exact rfl) fun L13 w13 hE13 h14=>?_
 refine H2 H8 1 h14 happ (AV8 h14 (by exact rfl) (by exact rfl) (by exact rfl)) rfl fun L14 w14 hE14 h15=>?_
 have h16:=ALM (env':=[(43,.bool true),(44,.own 9),(50,.own 46),(3,.own 15),(4,.int .i64 0),(5,.own 20),(6,.int .i64 0)]) (res':=[(46,.own false (.sl 45 (.st 1)) l33),(20,.own false (.sl 3 (.int .i64)) due),(15,.own false (.sl 70 (.st 6)) x),(9,.own false (.sl 45 (.st 1)) l)]) h15 ⟨by kernel_rfl,by kernel_rfl,by kernel_rfl,by kernel_rfl,by kernel_rfl,by kernel_rfl,by kernel_rfl,trivial⟩ (by kernel_rfl)
 clear h1 h2 h3 h4 h5 h6 h7 h8 h9 h10 h12 h13 h14 h15 q1 q2
 refine H2 H8 1 h16 e1 (by exact rfl) (by exact rfl) fun L17 w17 hE17 h17=>?_
 refine H2 H8 12 h17 e2 (by exact rfl) (by exact rfl) fun L18 w18 hE18 h18=>?_
 refine H2 H8 9 h18 e3 (by exact rfl) (by exact rfl) fun L19 w19 hE19 h19=>?_
 refine H2 H8 2 h19 (o:=some ()) (x:=()) (K:=fun _=>_) rfl (by exact rfl) (by exact rfl) fun L20 w20 hE20 h20=>?_
 refine Reg.nil ?_
 refine J0 ?_
 exact FinM.of (AKz H8 (cs:=[.d .bool]) rfl (by exact rfl) h20)
end Go.Proofs.YtgioiejbphljoaaGreatDoor
namespace Go.Rx
open Go Go.Sx Go.RowKit
section
variable [Sg] [Sf]
variable (G:Gx)
def AIe (R:Nat->Option AR):(c:Ck)->SV->Option c.den
 |.d t,s=>match t,s with
  |.int k,.int k' n=>if k=k' then some n else none
  |.bool,.bool b=>some b
  |_,_=>none
 |.own c,s=>match s with
  |.own i=>match R i with
   |some (.own false c' x)=>castO c' c x
   |_=>none
  |_=>none
 |_,_=>none
def AIf (R:Nat->Option AR):(cs:List Ck)->List SV->Option (D7 cs)
 |[],l=>match l with
  |[]=>some ()
  |_=>none
 |[c],l=>match l with
  |[s]=>AIe R c s
  |_=>none
 |c :: d :: l,q=>match q with
  |s :: q=>match AIe R c s,AIf R (d :: l) q with
   |some x,some y=>some (x,y)
   |_,_=>none
  |[]=>none
def ADc:List SV->List Nat
 |.own i :: l=>i :: ADc l
 |_ :: l=>ADc l
 |[]=>[]
def ndK:List Nat->Bool
 |[]=>true
 |i :: l=>bif has l i then false else ndK l
def ANR (cs:List Ck) (rs:List ResultVar) (σ:AS):Option (D7 cs):=match rs with
 |[r]=>match Z6 G σ r with
  |some (.agg l)=>match ndK (ADc l) with
   |true=>AIf (A1 σ.res) cs l
   |false=>none
  |_=>none
 |_=>none
noncomputable def AQh (f:Func) (an:An) (ps:List Pt) (cs:List Ck) (a:D5 ps):Option (D7 cs):=match f.body with
 |some c=>exec G f.ntmps (ANR G cs f.results.toList) c an (ANR G cs f.results.toList) (fun _ _=>none) some ⟨ABF 0 ps a,[],[],[]⟩
 |none=>none
end
variable [Trk] [Sg] [Sf] {P:Program} [Se P]
theorem AME:∀ {l:List Nat},ndK l=true->l.Nodup
 |[],_=>List.nodup_nil
 |i :: l,h=>by
  have h:(bif has l i then false else ndK l)=true:=h
  cases hb:has l i with
  |true=>rw[hb] at h;cases h
  |false=>
   rw[hb] at h
   exact List.nodup_cons.2 ⟨fun hi=>(by rw[has_iff.2 hi] at hb;cases hb),AME h⟩
section
variable [Anch]
variable {w0 w:World} {M:List Nat} {σ:AS} {L:A7} {S:List Res} {ρ:Nat->Value} {γ:Nat->List Value} {μ:Nat->List Nat} {ι:Nat->Nat} {G:Gx}
theorem AMF (h:HS (P:=P) w0 [] M σ L w S ρ γ μ ι) {O:List Nat} (hO:∀ b∈O,b∈mm S M) {c:Ck} {s:SV} {x:c.den} {u:Value} (hu:Ok (P:=P) ρ (A1 σ.res) (mm S M) w s u) (hx:AIe (A1 σ.res) c s=some x) :
  u.cells=#[u]/\AJ5 (P:=P) O M w0 w c x u/\∀ b∈obC c u,∃ i a,s=.own i/\A1 σ.res i=some a/\b∈(G1 (P:=P) (ρ i) (γ i) (μ i) a).fp:=by
 have hM:∀ b∈O++M,b∈mm S M:=fun b hb=>(List.mem_append.1 hb).elim (hO b) fun hb=>mem_mm.2 (.inr hb)
 cases c with
 |d t=>
  cases t with
  |int k=>
   cases s with
   |int k' n=>
    have hx2:(if k=k' then (some n:Option Int) else none)=(some x:Option Int):=hx
    by_cases e:k=k'
    . rw[if_pos e] at hx2
      subst e
      have hx3:n=x:=Option.some.inj hx2
      subst hx3
      obtain⟨rfl,hk⟩:=hu
      exact⟨rfl,⟨_,⟨rfl,hk⟩,.inr ⟨rfl,rfl⟩⟩,fun b hb=>by cases hb⟩
    . rw[if_neg e] at hx2;cases hx2
   |_=>exact (A2 hx).elim
  |bool=>
   cases s with
   |bool b=>
    have hx:some b=some x:=hx
    cases hx
    have hu:u=_:=hu
    subst hu
    exact⟨rfl,⟨_,rfl,.inr ⟨rfl,rfl⟩⟩,fun b hb=>by cases hb⟩
   |_=>exact (A2 hx).elim
  |_=>exact (A2 hx).elim
 |own c=>
  cases s with
  |own i=>
   have hx:(match A1 σ.res i with
    |some (.own false c' y)=>castO c' c y
    |_=>none)=some x:=hx
   cases hi:A1 σ.res i with
   |none=>rw[hi] at hx;exact (A2 hx).elim
   |some a=>
    rw[hi] at hx
    cases a with
    |row _ _=>exact (A2 hx).elim
    |own p c' y=>
     cases p with
     |true=>exact (A2 hx).elim
     |false=>
      obtain⟨e,hy⟩:=AAI (show castO c' c y=some x from hx)
      subst e
      have hy:y=x:=hy
      subst hy
      obtain⟨e,h1,_⟩:=hu
      subst e
      have hr:=h.res i _ hi
      have ho:=AHO (P:=P) h.hp (ι i) hr
      refine⟨h1,⟨h.row i _ hi,(E4 (P:=P) [] (ρ i) c' y).adv (Adv.drop hM) (fun _ _=>rfl) (h.hp.all _ (List.mem_of_getElem? hr)),ho.2⟩,fun b hb=>⟨i,_,rfl,hi,ADp (P:=P) hb⟩⟩
  |_=>exact (A2 hx).elim
 |undef=>exact (A2 hx).elim
 |it t=>exact (A2 hx).elim
 |np t=>exact (A2 hx).elim
theorem AR1 {s:SV} {l:List SV} {i:Nat} (h:i∈ADc l):i∈ADc (s :: l):=by
 cases s <;> first|exact h|exact List.mem_cons_of_mem _ h
theorem AR2 {s:SV} {l:List SV} (h:(ADc (s :: l)).Nodup):(ADc l).Nodup:=by
 cases s <;> first|exact h|exact (List.nodup_cons.1 h).2
theorem AR3 (h:HS (P:=P) w0 [] M σ L w S ρ γ μ ι) {O:List Nat} (hO:∀ b∈O,b∈mm S M):∀ (cs:List Ck) (l:List SV) {x:D7 cs} {vs:List Value},OkL (P:=P) ρ (A1 σ.res) (mm S M) w l vs->(ADc l).Nodup->AIf (A1 σ.res) cs l=some x ->
  KsD (P:=P) O M w0 w cs x vs/\∀ b∈X0 cs vs,∃ i∈ADc l,∃ a,A1 σ.res i=some a/\b∈(G1 (P:=P) (ρ i) (γ i) (μ i) a).fp:=by
 have cell:∀ {u:Value} {c:List Value},u.cells=#[u]->u.cells=List.toArray c->c=[u]:=fun h1 h2=>by
  rw[h1] at h2
  have:=congrArg Array.toList h2
  simpa using this.symm
 intro cs
 induction cs with
 |nil=>
  intro l x vs hu _ hx
  cases l with
  |nil=>exact⟨hu,fun b hb=>by cases hb⟩
  |cons _ _=>exact (A2 hx).elim
 |cons c cs ih=>
  intro l x vs hu hn hx
  cases cs with
  |nil=>
   cases l with
   |nil=>exact (A2 hx).elim
   |cons s q=>
    cases q with
    |cons _ _=>exact (A2 hx).elim
    |nil=>
     obtain⟨u,cl,r,rfl,h1,h2,h3⟩:=hu
     obtain⟨k1,k2,k3⟩:=AMF h hO h1 (show AIe (A1 σ.res) c s=some x from hx)
     obtain rfl:=cell k1 h2
     have h3:r=[]:=h3
     subst h3
     refine⟨⟨u,rfl,k1,k2⟩,fun b hb=>?_⟩
     rw[show [u]++([]:List Value)=u :: [] from rfl,ADy] at hb
     rcases List.mem_append.1 hb with hb|hb
     . obtain⟨i,a,rfl,h4,h5⟩:=k3 b hb
       exact⟨i,List.mem_cons_self ..,a,h4,h5⟩
     . cases hb
  |cons d cs=>
   cases l with
   |nil=>exact (A2 hx).elim
   |cons s q=>
    have hx:(match AIe (A1 σ.res) c s,AIf (A1 σ.res) (d :: cs) q with
     |some x,some y=>some (x,y)
     |_,_=>none)=some x:=hx
    cases hy:AIe (A1 σ.res) c s with
    |none=>rw[hy] at hx;exact (A2 hx).elim
    |some y=>
     cases hz:AIf (A1 σ.res) (d :: cs) q with
     |none=>rw[hy,hz] at hx;exact (A2 hx).elim
     |some z=>
      rw[hy,hz] at hx
      have hx:(y,z)=x:=Option.some.inj hx
      subst hx
      obtain⟨u,cl,r,rfl,h1,h2,h3⟩:=hu
      obtain⟨k1,k2,k3⟩:=AMF h hO h1 hy
      obtain rfl:=cell k1 h2
      obtain⟨g1,g2⟩:=ih q h3 (AR2 hn) hz
      refine⟨⟨u,r,rfl,k1,k2,fun b hb hb2=>?_,g1⟩,fun b hb=>?_⟩
      . obtain⟨i,a,rfl,h4,h5⟩:=k3 b hb
        obtain⟨j,hj,a',h6,h7⟩:=g2 b hb2
        have hne:i≠j:=fun e=>by
         subst e
         exact (List.nodup_cons.1 hn).1 hj
        exact h.hp.dis (ι i) (ι j) _ _ (h.res i a h4) (h.res j a' h6) (fun e=>hne (h.inj i j a a' h4 h6 e)) b h5 h7
      . rw[show [u]++r=u :: r from rfl,ADy] at hb
        rcases List.mem_append.1 hb with hb|hb
        . obtain⟨i,a,rfl,h4,h5⟩:=k3 b hb
          exact⟨i,List.mem_cons_self ..,a,h4,h5⟩
        . obtain⟨j,hj,a',h6,h7⟩:=g2 b hb
          exact⟨j,AR1 hj,a',h6,h7⟩
end
theorem AR4 [Sl (P:=P)] {G:Gx} (hG:GxOk P G) {k:Nat} {f:Func} {c:Code} {an:An} {ps:List Pt} {cs:List Ck} {F:D5 ps->Option (D7 cs)} (hf:P.funcs[k]?=some f) (hb:f.body=some c) (hl:Nat.ble ps.length f.ntmps=true) (hF:∀ a,F a=AQh G f an ps cs a):CtrA.ok P k ⟨ps,cs,F⟩:=by
 refine fun M w a vals r hM hg ha hr=>?_
 have hr:F a=some r:=hr
 rw[hF] at hr
 unfold AQh at hr
 rw[hb] at hr
 have hlen:∀ (ps:List Pt) {a:D5 ps} {vals:List Value},ArgsOk M w ps a vals->vals.length=ps.length:=by
  intro ps
  induction ps with
  |nil=>intro a vals h;have h:vals=[]:=h;rw[h];rfl
  |cons p ps ih=>intro a vals h;obtain⟨v,r,rfl,_,h3⟩:=h;simp[ih h3]
 have h0:Holds w [] M ⟨ABF 0 ps a,[],[],[]⟩ (P0 0 vals) w:=by
  refine⟨[],fun _=>undef,fun _=>[],fun _=>[],fun _=>0,⟨Hp.start hM,(fun i a h=>by cases h),(fun i j a b h=>by cases h),(fun i a h=>by cases h),fun t s h=>?_,⟨trivial,hg⟩⟩⟩
  exact AFx ps 0 ha t s h
 have fin:∀ σ' L' w',ANR G cs f.results.toList σ'=some r->Holds w [] M σ' L' w'->ABL P f (fun e w'=>∃ vs,e=.returned (.agg (List.toArray vs))/\Ext w w'/\KsD (P:=P) (X0 cs vs) M w w' cs r vs) [] L' w':=fun σ' L' w' h1 hH=>by
  obtain⟨S,ρ,γ,μ,ι,hS⟩:=hH
  unfold ANR at h1
  split at h1
  . rename_i r0 hrs
    split at h1
    . rename_i l hl
      cases hnd:ndK (ADc l) with
      |false=>rw[hnd] at h1;exact (A2 h1).elim
      |true=>
       rw[hnd] at h1
       obtain⟨v,h2,vs,rfl,h3⟩:=AIP hS hG hl
       have key:=fun O hO=>AR3 hS (O:=O) hO cs l h3 (AME hnd) (show AIf (A1 σ'.res) cs l=some r from h1)
       refine M9 (rs:=[r0]) (vs:=[_]) (by rw[<-hrs]) (.cons h2 .nil) rfl ⟨vs,rfl,hS.hp.kp,(key _ fun b hb=>?_).1⟩
       obtain⟨i,_,a,h4,h5⟩:=(key [] fun b hb=>by cases hb).2 b hb
       exact mem_mm.2 (.inl ⟨_,List.mem_of_getElem? (hS.res i a h4),h5⟩)
    . cases h1
  . cases h1
 refine F9 hf hb rfl (by rw[hlen ps ha];exact hl) ?_
 refine X8 (n:=3) ?_
 exact G9 hG c an _ _ _ _ _ _ _ _ _ _ _ _ _ hr h0 (fun σ' L' w' h1 _ _ hH=>fin σ' L' w' h1 hH) (fun i σ' L' w' h1=>by cases h1) (fun r' σ' L' w' hp hk _ hH=>by
  have hk:r'=r:=Option.some.inj hk
  subst hk
  exact fin σ' L' w' hp hH) PZ.no
end Go.Rx
set_option maxRecDepth 20000
set_option maxHeartbeats 4000000
namespace Go.Proofs.YtgioiejbphljoaaGreatDoor
open Go Go.Sx Go.Rx Go.RowKit
noncomputable def U5 (d:Desk):Option (Int×Int×Int×(List Report)×(List Dispute)×(List Answer)):=Option.bind (appo 64 ([]:(List Report)) d.reports) fun l1=>Option.bind (appo 24 ([]:(List Dispute)) d.disputes) fun l2=>Option.bind (appo 48 ([]:(List Answer)) d.answers) fun l3=>some (d.terms.answer,d.terms.mark,d.terms.lately,l1,l2,l3)
def AV9:An:=.x
noncomputable def ctrm13:CtrM:={ ps:=[],i:=0,c:=.sl 0 (.int .i64),rs:=[],F:=fun _ _=>none,ag:=some ⟨[.d (.st 4)],[.d (.int .i64),.d (.int .i64),.d (.int .i64),.own (.sl 45 (.st 1)),.own (.sl 53 (.st 2)),.own (.sl 60 (.st 3))],fun a=>U5 a.1⟩ }
theorem okm13:CtrM.ok Tryz.prog 13 ctrm13:=AR4 (G:={ gxb with fs:=[],fm:=[] }) (an:=AV9) (ACy trivial trivial trivial) Tryz.func13 rfl rfl (fun a=>by kernel_rfl)
noncomputable def Y3 (d:Desk) (asked:(List Asked)) (day:Int) (report:Int) (more:Answer):Option Bool:=Option.bind (Q9) fun r1=>Option.bind (α:=(Bool)) (Option.bind (AAk d day) fun r4=>cond ((!r4)) (some true) (Option.bind (N4 asked) fun r5=>cond ((!r5)) (some true) (some (!r1)))) ((fun x6=>cond (x6) (some r1) (Option.bind (ABG d more.dispute) fun r7=>cond (decide (r7 < 0)) (some r1) (Option.bind (ixo d.disputes r7) fun y8=>Option.bind (K2 d y8.id day) fun (r9,r10,r11)=>cond ((!decide (r11=0))) (some false) (Option.bind (U5 d) fun (r12,r13,r14,r15,r16,r17)=>Option.bind (appo 48 r17 ([more])) fun l18=>Option.bind (α:=(Bool)) (Option.bind (X3 (Desk.mk (Terms.mk r12 r13 r14) r15 r16 l18)) fun r21=>cond ((!decide (r21=0))) (some true) (cond (decide (y8.day<=more.day)) (Option.bind (chk .i64 (y8.day+d.terms.answer)) fun n22=>some (decide (more.day<=(min r10 n22)))) (some false))) ((fun x23=>cond (x23) (some r1) (Option.bind (U5 d) fun (r24,r25,r26,r27,r28,r29)=>Option.bind (B8 (S:=(Int×(List Answer))) (R:=((List Answer))) (fun (x45,x46)=>cond (decide (x45 < (d.answers.length:Int))) (Option.bind (ixo d.answers x45) fun y47=>Option.bind (α:=(Bool)) (cond ((!decide (y47.dispute=y8.id))) (some true) (cond (decide (y8.day<=y47.day)) (Option.bind (chk .i64 (y8.day+d.terms.answer)) fun n48=>some (decide (y47.day<=(min r10 n48)))) (some false))) ((fun x49=>Option.bind (α:=((List Answer))) (cond (x49) (Option.bind (appo 48 x46 ([y47])) fun l50=>some l50) (some x46)) ((fun x51=>Option.bind (chk .i64 (x45+1)) fun n52=>some (Sum.inl (n52,x51))))))) (some (Sum.inr x46))) ((0:Int),([]:(List Answer)))) ((fun x53=>Option.bind (B8 (S:=(Int)) (R:=(Unit⊕Bool)) (fun x78=>cond (decide (x78 < (([(Desk.mk (Terms.mk r12 r13 r14) r15 r16 l18),(Desk.mk (Terms.mk r24 r25 r26) r27 r28 x53)]).length:Int))) (Option.bind (ixo ([(Desk.mk (Terms.mk r12 r13 r14) r15 r16 l18),(Desk.mk (Terms.mk r24 r25 r26) r27 r28 x53)]) x78) fun y79=>Option.bind (K2 d y8.id day) fun (r80,r81,r82)=>Option.bind (K2 y79 y8.id day) fun (r83,r84,r85)=>Option.bind (I9 d day) fun (r86,r87)=>Option.bind (I9 y79 day) fun (r88,r89)=>Option.bind (E6 d asked day) fun (r90,r91)=>Option.bind (E6 y79 asked day) fun (r92,r93)=>Option.bind (O8 d report day) fun (r94,r95)=>Option.bind (O8 y79 report day) fun (r96,r97)=>Option.bind (α:=(Bool)) (cond ((!decide (r80=r83))) (some true) (cond ((!decide (r81=r84))) (some true) (cond ((!decide (r82=r85))) (some true) (Option.bind (M3 r86 r88) fun r98=>cond ((!r98)) (some true) (cond ((!decide (r87=r89))) (some true) (Option.bind (M4 r90 r92) fun r99=>cond ((!r99)) (some true) (cond ((!decide (r91=r93))) (some true) (cond ((!decide (r94=r96))) (some true) (some (!decide (r95=r97))))))))))) ((fun x100=>cond (x100) (some (Sum.inr (Sum.inr false))) (Option.bind (chk .i64 (x78+1)) fun n101=>some (Sum.inl n101))))) (some (Sum.inr (Sum.inl ())))) (0:Int)) ((Sum.elim (fun _=>some r1) (fun r102=>some r102)))))))))))))
def an5:An:=.nd (.x) (.nd (.x) (.nd (.nd (.jn [.norm ⟨[(.slot 54,.d .bool)],[9,5]⟩] (.x)) (.x)) (.nd (.x) (.nd (.x) (.nd (.x) (.nd (.x) (.nd (.x) (.nd (.x) (.nd (.x) (.nd (.nd (.jn [.norm ⟨[(.slot 109,.d .bool)],[17,500080,400080,300080,13,5]⟩] (.x)) (.x)) (.nd (.x) (.nd (.x) (.nd (.nd (.x) (.lp ⟨[(.slot 117,.d (.int .i64)),(.cell 18 5,.own (.sl 60 (.st 3)))],[18,400112,300112,17,500080,400080,300080,13,5]⟩ [.exit 0 ⟨[(.cell 18 5,.own (.sl 60 (.st 3)))],[18,400112,300112,17,500080,400080,300080,13,5]⟩] (.nd (.x) (.nd (.x) (.nd (.nd (.x) (.nd (.jn [.norm ⟨[(.slot 145,.d .bool)],[20,11805,18,400112,300112,17,500080,400080,300080,13,5]⟩] (.x)) (.jn [.norm ⟨[(.cell 18 5,.own (.sl 60 (.st 3)))],[18,400112,300112,17,500080,400080,300080,13,5]⟩] (.x)))) (.x)))))) (.nd (.nd (.x) (.lp ⟨[(.slot 157,.d (.int .i64))],[155,13,5]⟩ [.exit 2 ⟨[],[]⟩,.ret] (.nd (.x) (.nd (.x) (.nd (.nd (.x) (.nd (.x) (.nd (.x) (.nd (.x) (.nd (.x) (.nd (.x) (.nd (.x) (.nd (.x) (.nd (.x) (.nd (.jn [.norm ⟨[(.slot 263,.d .bool)],[155,13,5]⟩] (.x)) (.x))))))))))) (.x)))))) (.x)))))))))))))))
noncomputable def AXY:Ctr:=⟨[.d (.st 4),.d (.sl (.st 5)),.d (.int .i64),.d (.int .i64),.d (.st 3)],[.d .bool],fun a=>Y3 a.1 a.2.1 a.2.2.1 a.2.2.2.1 a.2.2.2.2.1⟩
theorem ok5:Ctr.ok Tryz.prog 5 AXY:=B0 (G:={ gxb with fs:=[(14,ctr14),(16,ctr16),(18,ctr18),(19,ctr19),(21,ctr21),(22,ctr22),(23,ctr23),(25,ctr25),(26,ctr26),(27,ctr27),(28,ctr28)],fm:=[(13,ctrm13)] }) (an:=an5) (ACy ⟨⟨ok14,Tryz.call14⟩,⟨⟨ok16,Tryz.call16⟩,⟨⟨ok18,Tryz.call18⟩,⟨⟨ok19,Tryz.call19⟩,⟨⟨ok21,Tryz.call21⟩,⟨⟨ok22,Tryz.call22⟩,⟨⟨ok23,Tryz.call23⟩,⟨⟨ok25,Tryz.call25⟩,⟨⟨ok26,Tryz.call26⟩,⟨⟨ok27,Tryz.call27⟩,⟨⟨ok28,Tryz.call28⟩,trivial⟩⟩⟩⟩⟩⟩⟩⟩⟩⟩⟩ trivial ⟨⟨okm13,Tryz.call13⟩,trivial⟩) Tryz.func5 rfl rfl rfl rfl (fun a=>by kernel_rfl)
end Go.Proofs.YtgioiejbphljoaaGreatDoor
set_option maxRecDepth 20000
set_option maxHeartbeats 1000000
set_option linter.unusedVariables false
namespace Go.Proofs.YtgioiejbphljoaaGreatDoor
open Go Go.Sx Go.Rx
namespace S
theorem AR5 {d:Desk} (h1:d.reports.length<=1000000) (h2:d.disputes.length<=1000000) (h3:d.answers.length<=1000000):U5 d=some (d.terms.answer,d.terms.mark,d.terms.lately,d.reports,d.disputes,d.answers):=by
 unfold U5
 rw[X7 (by simp only[List.length_nil];omega) (by simp only[List.length_nil];omega),bindS,X7 (by simp only[List.length_nil];omega) (by simp only[List.length_nil];omega),bindS,X7 (by simp only[List.length_nil];omega) (by simp only[List.length_nil];omega),bindS]
 rfl
structure Tw (d y:Desk):Prop where
 v:Vd y
 t:y.terms=d.terms
 r:y.reports=d.reports
 x:y.disputes=d.disputes
 dec:∀ x∈d.disputes,dec y x=dec d x
theorem Tw.wh {d y:Desk} (h:Tw d y) {x:Dispute} (hx:x∈d.disputes) (day:Int):wh y x day=wh d x day:=by
 unfold S.wh;rw[h.dec x hx]
theorem Tw.decd {d y:Desk} (h:Tw d y) (day:Int):decd y day=decd d day:=by
 unfold S.decd
 rw[h.x]
 have e:(d.disputes.filter fun x=>decide (3<=S.wh y x day))=d.disputes.filter fun x=>decide (3<=S.wh d x day):=List.filter_congr fun x hx=>by rw[h.wh hx]
 rw[e]
 exact List.map_congr_left fun x hx=>by rw[h.dec x (List.mem_filter.1 hx).1]
theorem Tw.more {d y:Desk} (h:Tw d y) (day:Int):more y day=more d day:=by
 unfold S.more
 rw[h.decd]
 exact List.map_congr_left fun z _=>by unfold ADb;rw[h.r]
theorem Tw.fol {d y:Desk} (h:Tw d y) {day:Int} {z:List Report×Int} (hz:AB4 y day z):AB4 d day z:=by
 unfold AB4 at hz ⊢
 rw[h.more,h.r] at hz
 exact hz
theorem Tw.wrong {d y:Desk} (h:Tw d y) (l:List Report) {x:Dispute} (hx:x∈d.disputes) (a:Asked):wrong y l x a=wrong d l x a:=by
 unfold S.wrong
 rw[h.dec x hx,h.t,h.r]
theorem Tw.due {d y:Desk} (h:Tw d y) (l:List Report) (asked:List Asked) (day:Int):AIc y l asked day=AIc d l asked day:=by
 unfold AIc
 rw[h.decd]
 have key:∀ (ys:List (Dispute×Verdict)) (f:A4 (Int×Int) Int),(∀ z∈ys,z.1∈d.disputes)->ys.foldl (AEm y l asked) f=ys.foldl (AEm d l asked) f:=by
  intro ys
  induction ys with
  |nil=>intro f _;rfl
  |cons z ys ih=>
   intro f hz
   have e:AEm y l asked f z=AEm d l asked f z:=by
    have es:ABc y l z.1=ABc d l z.1:=by
     funext g a
     unfold ABc
     rw[h.wrong l (hz z (List.mem_cons_self ..))]
    unfold AEm
    rw[es]
   rw[List.foldl_cons,List.foldl_cons,e]
   exact ih _ fun w hw=>hz w (List.mem_cons_of_mem _ hw)
 exact key _ _ fun z hz=>(decd_mem.1 hz).1
theorem AJB {α:Type} {l:List α} {p q:α->Bool} (h:∀ x∈l,p x=q x):l.any p=l.any q:=by
 induction l with
 |nil=>rfl
 |cons x l ih=>
  rw[List.any_cons,List.any_cons,h x (List.mem_cons_self ..),ih fun y hy=>h y (List.mem_cons_of_mem _ hy)]
theorem Tw.mark {d y:Desk} (h:Tw d y) (report day:Int):ADN y report day=ADN d report day:=by
 unfold ADN
 rw[h.x,AJB (p:=isO y report day) (q:=isO d report day) fun x hx=>by unfold isO;rw[h.wh hx],AJB (p:=isS y report day) (q:=isS d report day) fun x hx=>by unfold isS;rw[h.wh hx,h.dec x hx,h.t]]
theorem Tw.lt {d y:Desk} (h:Tw d y) {asked:List Asked} {day:Int} {r:List Letter×Int} (hr:LtS y asked day r):LtS d asked day r:=by
 obtain⟨z,hz,hc⟩:=hr
 rw[h.due] at hc
 exact⟨z,h.fol hz,hc⟩
theorem AR6 {d:Desk} (hv:Vd d) {asked:List Asked} {day:Int} {r r':List Letter×Int} (h:LtS d asked day r) (h':LtS d asked day r'):r=r':=by
 obtain⟨z,hz,hc⟩:=h
 obtain⟨z',hz',hc'⟩:=h'
 have:=AEl hv hz' hz
 subst this
 obtain⟨a,e⟩:=r
 obtain⟨b,f⟩:=r'
 rcases hc with⟨h1,h2⟩|⟨h1,h2,h3⟩ <;> rcases hc' with⟨g1,g2⟩|⟨g1,g2,g3⟩
 . rw[h2,g2]
 . omega
 . omega
 . have h2:e=0:=h2
   have g2:f=0:=g2
   have:a=b:=AG4 h3 g3
   rw[h2,g2,this]
theorem AT9 {d:Desk} (hv:Vd d) {asked:List Asked} (ha:asked.length<=40) {day:Int} {r:List Letter×Int} (h:LtS d asked day r):r.1.length<=1000000:=by
 obtain⟨z,hz,hc⟩:=h
 obtain⟨out,e⟩:=r
 rcases hc with⟨_,h2⟩|⟨_,_,hL⟩
 . show out.length<=_
   rw[(Prod.mk.inj h2).1];exact Nat.zero_le _
 dsimp only at hL ⊢
 obtain⟨xs,q1,q2⟩:=AJA (d:=d) (l:=z.1) (asked:=asked) (S.decd d day) fnone [] ⟨List.nodup_nil,fun a y=>by simp[fnone]⟩
 have hp:(out.map fun z=>((z.dispute,z.who),z.asked)).Perm xs:=(List.perm_ext_iff_of_nodup ?_ ((List.pairwise_map.1 q1.1).imp fun h e=>h (by rw[e]))).2 fun y=>?_
 . have h1:=hp.length_eq
   rw[List.length_map] at h1
   have hdl:=AEk (d:=d) (day:=day)
   have hxl:=hv.x.len
   have h2:(S.decd d day).length * asked.length<=20 * 40:=Nat.mul_le_mul (by omega) ha
   simp only[List.length_nil] at q2
   omega
 . rw[List.Nodup,List.pairwise_map]
   exact (List.pairwise_map.1 hL.nd).imp fun h e=>h (Prod.mk.inj e).1
 . obtain⟨⟨a,b⟩,c⟩:=y
   rw[List.mem_map]
   have h1:=hL.mem (Letter.mk a b c)
   refine Iff.trans ?_ (q1.2 (a,b) c).symm
   constructor
   . rintro⟨w,hw,hwe⟩
     obtain⟨w1,w2⟩:=Prod.mk.inj hwe
     obtain⟨w3,w4⟩:=Prod.mk.inj w1
     have:=(hL.mem w).1 hw
     rw[w3,w4,w2] at this
     exact this
   . exact fun hw=>⟨_,h1.2 hw,rfl⟩
theorem AR7 {d:Desk} (hv:Vd d) {day:Int} {z:List Report×Int} (h:AB4 d day z):z.1.length<=1000000:=by
 rcases id h with⟨_,rfl⟩|⟨h1,m,h2,h3,rfl⟩
 . decide
 . have:=(AOc hv h rfl).len
   dsimp only at this ⊢;omega
theorem AP1 {d:Desk} (hv:Vd d) {x:Dispute} {more:Answer} (h:¬ (x.day<=more.day/\more.day<=min (dec d x).day (x.day+d.terms.answer))):ACM x (x.day+d.terms.answer) (dec d x) more=dec d x:=by
 have hi:=AC1 hv x
 unfold ACM
 refine if_neg fun c=>?_
 rw[Bool.and_eq_true,Bool.or_eq_true] at c
 obtain⟨c1,c2⟩:=c
 have c1:=F0 c1
 by_cases c5:(dec d x).is_=5
 . have h5:(dec d x).day=x.day+d.terms.answer+1:=by rw[(hi.is5 c5).1]
   omega
 . have h5:(dec d x).day=(dec d x).by_.day:=by rw[(hi.by_ c5).1]
   rcases c2 with c2|c2
   . exact c5 (of_decide_eq_true c2)
   . have c2:=of_decide_eq_true c2
     omega
theorem AP2 {x:Dispute} {A:Int} {l l':List Answer} {v v':Verdict} (h:DecL x A l v) (h':DecL x A l' v') (hsub:∀ a∈l',a∈l) (hin:∀ a∈l,win x (x.day+A) a=true->a.day<=v.day->a∈l') (nd:∀ a∈l,∀ b∈l,a.id=b.id->a=b):v'=v:=by
 by_cases c:v.is_=5
 . obtain⟨h1,h2⟩:=h.is5 c
   by_cases c':v'.is_=5
   . rw[h1,(h'.is5 c').1]
   . obtain⟨_,g2,g3,_⟩:=h'.by_ c'
     rw[h2 _ (hsub _ g2)] at g3;cases g3
 . obtain⟨h1,h2,h3,h4⟩:=h.by_ c
   have hd:v.day=v.by_.day:=by rw[h1]
   have hm:=hin _ h2 h3 (by omega)
   by_cases c':v'.is_=5
   . rw[(h'.is5 c').2 _ hm] at h3;cases h3
   . obtain⟨g1,g2,g3,g4⟩:=h'.by_ c'
     have e1:=of_decide_eq_false (h4 _ (hsub _ g2) g3)
     have e2:=of_decide_eq_false (g4 _ hm h3)
     have:v'.by_=v.by_:=nd _ (hsub _ g2) _ h2 (by omega)
     rw[g1,h1,this]
theorem AR8 {d:Desk} (hv:Vd d) {x:Dispute} (hx:x∈d.disputes) {more:Answer} (hm:more.dispute=x.id) (h:¬ (x.day<=more.day/\more.day<=min (dec d x).day (x.day+d.terms.answer))) (hy:Vd (Desk.mk (Terms.mk d.terms.answer d.terms.mark d.terms.lately) d.reports d.disputes (d.answers++[more]))):Tw d (Desk.mk (Terms.mk d.terms.answer d.terms.mark d.terms.lately) d.reports d.disputes (d.answers++[more])):=by
 refine⟨hy,rfl,rfl,rfl,fun z hz=>?_⟩
 show AIX z d.terms.answer ((d.answers++[more]).filter fun a=>decide (a.dispute=z.id))=dec d z
 rw[List.filter_append]
 by_cases e:z=x
 . subst e
   have:([more].filter fun a=>decide (a.dispute=z.id))=[more]:=by simp[hm]
   rw[this]
   unfold AIX
   rw[List.foldl_append]
   exact AP1 hv h
 . have:([more].filter fun a=>decide (a.dispute=z.id))=[]:=by
    have hne:¬ more.dispute=z.id:=fun h=>e (X5 hv.x.nd z x hz hx (by rw[<-h,hm]))
    simp[hne]
   rw[this,List.append_nil]
   rfl
def keep (d:Desk) (x:Dispute) (a:Answer):Bool:=!decide (a.dispute=x.id)||(decide (x.day<=a.day)&&decide (a.day<=min (dec d x).day (x.day+d.terms.answer)))
theorem AUA {d:Desk} (hv:Vd d) (x:Dispute):Vd (Desk.mk (Terms.mk d.terms.answer d.terms.mark d.terms.lately) d.reports d.disputes (d.answers.filter (keep d x))):=
 ⟨hv.t,hv.r,⟨hv.x.len,hv.x.v,hv.x.nd⟩,⟨Nat.le_trans (List.length_filter_le ..) hv.a.len,fun a ha=>hv.a.v a (List.mem_filter.1 ha).1,(List.Sublist.map _ List.filter_sublist).nodup hv.a.nd⟩⟩
theorem AUB {d:Desk} (hv:Vd d) {x:Dispute} (hx:x∈d.disputes):Tw d (Desk.mk (Terms.mk d.terms.answer d.terms.mark d.terms.lately) d.reports d.disputes (d.answers.filter (keep d x))):=by
 have hy:=AUA hv x
 refine⟨hy,rfl,rfl,rfl,fun z hz=>?_⟩
 refine AP2 (AC1 hv z) (AC1 hy z) (fun a ha=>?_) (fun a ha hw hd=>?_) fun a ha b hb e=>X5 hv.a.nd a b (List.mem_filter.1 ha).1 (List.mem_filter.1 hb).1 e
 . obtain⟨h1,h2⟩:=List.mem_filter.1 ha
   exact List.mem_filter.2 ⟨(List.mem_filter.1 h1).1,h2⟩
 . obtain⟨h1,h2⟩:=List.mem_filter.1 ha
   refine List.mem_filter.2 ⟨List.mem_filter.2 ⟨h1,?_⟩,h2⟩
   have h2:a.dispute=z.id:=of_decide_eq_true h2
   unfold keep
   by_cases e:z=x
   . subst e
     have hw:=F0 hw
     rw[Bool.or_eq_true,Bool.and_eq_true]
     exact .inr ⟨decide_eq_true hw.1,decide_eq_true (by omega)⟩
   . have hne:¬ a.dispute=x.id:=fun h=>e (X5 hv.x.nd z x hz hx (by rw[<-h,h2]))
     rw[decide_eq_false hne];rfl
theorem AJE (h21:Q9=some true) {d:Desk} (hin:InD d) {asked:List Asked} {day report:Int} {more:Answer} (hm:0<=more.says/\more.says<=255) (hask:asked.length<=9223372036854775807):Y3 d asked day report more=some true:=by
 refine Ret.eq ?_
 unfold Y3
 rw[h21,bindS]
 refine Ret.bind (J4 (ARl hin) fun b hb=>?_)
 cases b with
 |false=>exact Ret.condT rfl (Ret.ok (Ret.condT rfl (Ret.ok rfl)))
 |true=>
 obtain⟨hv,hd0,hd1⟩:=hb rfl
 refine Ret.condF rfl (J4 (Q':=fun b=>b=true->AskV asked) ?_ fun b hb=>?_)
 . by_cases h:asked.length<=1000000
   . exact ARz h
   . unfold N4
     exact Ret.condT (decide_eq_true (by omega)) (Ret.ok fun h=>by cases h)
 cases b with
 |false=>exact Ret.condT rfl (Ret.ok (Ret.condT rfl (Ret.ok rfl)))
 |true=>
 have ha:=hb rfl
 have hall:=ha.len
 have hlx:=hv.x.len
 have hlr:=hv.r.len
 have hla:=hv.a.len
 have ht:=hv.t.1
 refine Ret.condF rfl (Ret.ok (Ret.condF rfl ?_))
 rw[At5]
 refine Ret.bind (ADM (fun _ _=>rfl) (by omega) (fun h=>Ret.condT (by decide) (Ret.ok rfl)) fun k hk h hp=>Ret.condF (decide_eq_false (by omega)) (Ret.bind (N6 hk ?_)))
 have hx:d.disputes[k]∈d.disputes:=List.getElem_mem hk
 have h:d.disputes[k].id=more.dispute:=of_decide_eq_true h
 generalize d.disputes[k]=x at hx h
 obtain⟨_,_,f,hf,x1,x2⟩:=hv.x.v x hx
 have hfm:=(hv.r.v f (AAN hf).1).2.2.2.2.2.1
 rw[AIY hv hx ⟨hd0,hd1⟩,bindS]
 dsimp only
 refine Ret.condF (by decide) ?_
 rw[AR5 (by omega) (by omega) (by omega),bindS]
 dsimp only
 rw[X7 (by simp only[List.length_cons,List.length_nil];omega) (by simp only[List.length_cons,List.length_nil];omega),bindS]
 have hinO:InD (Desk.mk (Terms.mk d.terms.answer d.terms.mark d.terms.lately) d.reports d.disputes (d.answers++[more])):=⟨hin.k,fun a h=>by
  rcases List.mem_append.1 h with h|h
  . exact hin.s a h
  . rw[List.mem_singleton.1 h];exact hm⟩
 refine Ret.bind (J4 (AKw hinO (by dsimp only;omega)) fun e he=>?_)
 refine Ret.cond (fun _=>Ret.ok (Ret.condT rfl (Ret.ok rfl))) fun e0=>?_
 have e0:e=0:=by simpa using e0
 have hvo:=he e0
 refine Ret.mono (Q:=fun b=>b=false->¬ (x.day<=more.day/\more.day<=min (dec d x).day (x.day+d.terms.answer))) ?_ fun b hb=>?_
 . refine Ret.cond (fun c=>Ret.bind (Ret.chk (by omega) (Ret.ok fun h=>?_))) fun c=>Ret.ok fun _ h=>?_
   . have:=of_decide_eq_false h
     omega
   . have:=of_decide_eq_false c
     omega
 cases b with
 |true=>exact Ret.condT rfl (Ret.ok rfl)
 |false=>
 have hlate:=hb rfl
 refine Ret.condF rfl (Ret.bind (Ret.ok (Ret.bind (D3 d.answers.length (fun n (t:Int×List Answer)=>t.1=n/\t.2=(d.answers.take n).filter (keep d x)) ⟨rfl,rfl⟩ ?_ ?_))))
 . rintro n hlt ⟨_,l⟩ ⟨rfl,hl⟩
   dsimp only at hl
   refine Ret.condT (ltT hlt) (Ret.bind (N6 hlt (Ret.bind (Ret.val (a:=keep d x d.answers[n]) ?_ ?_))))
   . unfold keep
     refine Ret.eq ?_
     by_cases c1:d.answers[n].dispute=x.id
     . refine Ret.condF (by rw[decide_eq_true c1];rfl) ?_
       rw[decide_eq_true c1]
       refine Ret.cond (fun c2=>Ret.bind (Ret.chk (by omega) (Ret.ok ?_))) fun c2=>Ret.ok ?_
       . rw[c2];rfl
       . rw[c2];rfl
     . exact Ret.condT (by rw[decide_eq_false c1];rfl) (Ret.ok (by rw[decide_eq_false c1];rfl))
   . have hll:l.length<=n:=by rw[hl];exact Nat.le_trans (List.length_filter_le ..) (List.length_take_le ..)
     have hfl:(d.answers.take (n+1)).filter (keep d x)=l++if keep d x d.answers[n] then [d.answers[n]] else []:=by
      rw[AAA hlt,List.filter_append,<-hl]
      cases c:keep d x d.answers[n] with
      |true=>simp[c]
      |false=>simp[c]
     refine Ret.bind (Ret.cond (fun c=>?_) fun c=>?_)
     . refine Ret.bind (Ret.appo (by simp only[List.length_cons,List.length_nil];omega) (by simp only[List.length_cons,List.length_nil];omega) (Ret.ok (Ret.bind (Ret.chk (by omega) (Ret.next ⟨by dsimp only;omega,?_⟩)))))
       dsimp only;rw[hfl,c];rfl
     . refine Ret.ok (Ret.bind (Ret.chk (by omega) (Ret.next ⟨by dsimp only;omega,?_⟩)))
       dsimp only;rw[hfl,c];simp
 . rintro⟨_,l⟩ ⟨rfl,hl⟩
   dsimp only at hl
   rw[List.take_length] at hl
   subst hl
   refine Ret.condF (ltF (Nat.le_refl _)) (Ret.done ?_)
   dsimp only
   have hys:([(Desk.mk (Terms.mk d.terms.answer d.terms.mark d.terms.lately) d.reports d.disputes (d.answers++[more])),(Desk.mk (Terms.mk d.terms.answer d.terms.mark d.terms.lately) d.reports d.disputes (d.answers.filter (keep d x)))]:List Desk).length=2:=rfl
   have tws:∀ y∈[(Desk.mk (Terms.mk d.terms.answer d.terms.mark d.terms.lately) d.reports d.disputes (d.answers++[more])),(Desk.mk (Terms.mk d.terms.answer d.terms.mark d.terms.lately) d.reports d.disputes (d.answers.filter (keep d x)))],Tw d y:=fun y hy=>by
    rcases List.mem_cons.1 hy with rfl|hy
    . exact AR8 hv hx h.symm hlate hvo
    . rw[List.mem_singleton.1 hy];exact AUB hv hx
   generalize [(Desk.mk (Terms.mk d.terms.answer d.terms.mark d.terms.lately) d.reports d.disputes (d.answers++[more])),(Desk.mk (Terms.mk d.terms.answer d.terms.mark d.terms.lately) d.reports d.disputes (d.answers.filter (keep d x)))]=ys at tws hys ⊢
   refine Ret.bind (D3 ys.length (fun n (t:Int)=>t=n) rfl ?_ ?_)
   . rintro n hlt _ rfl
     refine Ret.condT (ltT hlt) (Ret.bind (N6 hlt ?_))
     have hy:=tws _ (List.getElem_mem hlt)
     generalize ys[n]=y at hy
     rw[bindS,AIY hy.v (by rw[hy.x];exact hx) ⟨hd0,hd1⟩,bindS,hy.wh hx,hy.dec x hx]
     refine J4 (AG3 hv ⟨hd0,hd1⟩) fun z hz=>J4 (AG3 hy.v ⟨hd0,hd1⟩) fun z' hz'=>?_
     have:=AEl hv (hy.fol hz') hz
     subst this
     refine J4 (AFY hv ha ⟨hd0,hd1⟩) fun q hq=>J4 (AFY hy.v ha ⟨hd0,hd1⟩) fun q' hq'=>?_
     have:=AR6 hv (hy.lt hq') hq
     subst this
     rw[AK1 hv ⟨hd0,hd1⟩,bindS,AK1 hy.v ⟨hd0,hd1⟩,bindS,hy.r,hy.mark]
     have same:∀ {α:Type} [DecidableEq α] (a:α),(!decide (a=a))=false:=fun a=>by simp
     refine Ret.bind (Ret.condF (same _) (Ret.condF (same _) (Ret.condF (same _) ?_)))
     rw[AFZ (AR7 hv hz),bindS]
     refine Ret.condF rfl (Ret.condF (same _) ?_)
     rw[AFa (AT9 hv hall hq),bindS]
     refine Ret.condF rfl (Ret.condF (same _) (Ret.condF (same _) (Ret.ok ?_)))
     rw[same]
     refine Ret.condF rfl (Ret.bind (Ret.chk ?_ (Ret.next (by omega))))
     omega
   . rintro _ rfl
     exact Ret.condF (ltF (Nat.le_refl _)) (Ret.done (C5 (Ret.ok rfl)))
end S
end Go.Proofs.YtgioiejbphljoaaGreatDoor
