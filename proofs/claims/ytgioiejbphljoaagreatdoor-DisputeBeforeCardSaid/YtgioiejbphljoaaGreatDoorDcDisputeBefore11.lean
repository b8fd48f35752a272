/-
  What DisputeBefore stands on, part 11: memory, code, plain reckoning.
-/
import Derived.Test.YtgioiejbphljoaaGreatDoorDcDisputeBefore10
open List (mem_append mem_cons mem_map replicate toArray)
open Go.Proofs.Tryz
set_option linter.unusedVariables false
set_option linter.unusedSectionVars false
set_option maxRecDepth 20000
set_option maxHeartbeats 4000000
noncomputable section
namespace Go.Proofs.YtgioiejbphljoaaGreatDoor
open Go Go.Sx Go.Rx Go.RowKit
abbrev tbl:Tb:=gxb.tb
instance tbl_ok:TbOk prog tbl:=⟨gx_st,gx_ag⟩
section
variable{N:Nat}{ds:List Deferred}{L:Sx.A8}{w:World}{A B:A5}{X:Nat->A5}{Z:List PanicEntry->A5}{id:Nat}{l:List Oper}{L':Sx.A8}{ops:Array Oper}{q:Md}
theorem cp{c:Code}(h:puA tbl N l.toArray l L=some L')(k:CW prog N c ds L' w A B X Z):CW prog N (.seq (.region id l.toArray false) c) ds L w A B X Z:=AWl tbl_ok h k
theorem pz(n:Nat){l':List Oper}(h:puN tbl N ops [] (zs n) l L=some (l',L',[],[]))(k:Reg prog N ops q l' ds L' w A B X Z):Reg prog N ops q l ds L w A B X Z:=Reg.pu (tb:=tbl) v0 _ h rfl k
theorem pu{V:Vw}(hV:VwOk w V)(cs:List Nat){l':List Oper}{a1 b1:List Nat}(h:puN tbl N ops V cs l L=some (l',L',a1,b1))(he:a1=b1)(k:Reg prog N ops q l' ds L' w A B X Z):Reg prog N ops q l ds L w A B X Z:=Reg.pu (tb:=tbl) hV cs h he k
end
def Ky3:Ky prog 3 Int:=V6 .i64 underlying3
section
variable{M:List Nat}{w:World}{b:Nat}{o:Nat}{s:(List Report)}{v_b_0:Value}
theorem AV6:SlT prog 56 3 (A9 .i64).n 8:=rsl56
def APE:List (List Value):=[[vu 1,Value.func (.func 109) #[] #[],Value.func (.func 110) #[] #[]],[vu 2,Value.func (.func 111) #[] #[],Value.func (.func 112) #[] #[]],[vu 3,Value.func (.func 113) #[] #[],Value.func (.func 112) #[] #[]],[vu 5,Value.func (.func 114) #[] #[],Value.func (.func 112) #[] #[]],[vu 6,Value.func (.func 115) #[] #[],Value.func (.func 110) #[] #[]],[vu 7,Value.func (.func 116) #[] #[],Value.func (.func 110) #[] #[]]]
theorem AV7:SlT prog 148 153 3 24:=⟨underlying148,t153,_,by kernel_rfl,rfl,rfl,rfl,rfl⟩
theorem AH3(hM:MLt M w):Calls prog 74 (toArray []) w fun e w'=>∃v,e=.returned v/\RdS (Sx.rawE 3 (by decide)) M w' v APE/\Ext w w':=by
 have hI:=Hp.start (Mu:=[]) hM;refine B9 func74 rfl ntmps74 rfl ?_;refine A3 (A7 (C6 rfl rfl (Reg.nil (A3 (A7 ?_)))));iterate 6 refine AEy [(0,1),(1,1),(2,1)] zeroValue153 rfl underlying153 (fun _=>by simp[sizeOf150,sizeOf151,sizeOf5]) rfl (Cls.cons rfl (Cls.cons rfl (Cls.cons rfl (Cls.nil)))) rfl rfl ?_
 refine AEC (E:=Sx.rawE 3 (by decide)) (xs:=APE) AV7 hI rfl rfl (Cls.cons rfl (Cls.cons rfl (Cls.cons rfl (Cls.cons rfl (Cls.cons rfl (Cls.cons rfl (Cls.nil))))))) (Chs.cons ⟨rfl,rfl,one1 rfl (one1 rfl (one1 rfl (one0)))⟩ (Chs.cons ⟨rfl,rfl,one1 rfl (one1 rfl (one1 rfl (one0)))⟩ (Chs.cons ⟨rfl,rfl,one1 rfl (one1 rfl (one1 rfl (one0)))⟩ (Chs.cons ⟨rfl,rfl,one1 rfl (one1 rfl (one1 rfl (one0)))⟩ (Chs.cons ⟨rfl,rfl,one1 rfl (one1 rfl (one1 rfl (one0)))⟩ (Chs.cons ⟨rfl,rfl,one1 rfl (one1 rfl (one1 rfl (one0)))⟩ (Chs.nil))))))) rfl rfl ?_;intro v w2 hI2 x2;refine C6 rfl rfl (Reg.nil (C0 (fin1 results74 rfl ?_)));have hf:=hI2.freeze 0 rfl;exact⟨_,rfl,hf.adv (AKw (σ:=[])),hI2.kp⟩
theorem AT7(_:MLt M w):Calls prog 109 (toArray [.pointer (some ⟨b,o,none⟩)]) w fun e w'=>e=.returned (.pointer (some ⟨b,o+0,none⟩))/\Ext w w':=by
 refine B9 func109 rfl ntmps109 rfl ?_;refine A3 (A7 (C6 rfl rfl (Reg.nil (A3 (A7 (E5 rfl rfl (ADA rfl rfl (M3 rfl underlying90 rfl sizeOf86 rfl (C6 rfl rfl (Reg.nil (C0 ?_)))))))))));refine fin1 results109 rfl ?_;exact⟨rfl,Kp.refl _ _⟩
theorem AT8(_:MLt M w):Calls prog 111 (toArray [.pointer (some ⟨b,o,none⟩)]) w fun e w'=>e=.returned (.pointer (some ⟨b,o+4,none⟩))/\Ext w w':=by
 refine B9 func111 rfl ntmps111 rfl ?_;refine A3 (A7 (C6 rfl rfl (Reg.nil (A3 (A7 (E5 rfl rfl (ADA rfl rfl (M3 rfl underlying90 rfl sizeOf86 rfl (C6 rfl rfl (Reg.nil (C0 ?_)))))))))));refine fin1 results111 rfl ?_;exact⟨rfl,Kp.refl _ _⟩
theorem AT9(_:MLt M w):Calls prog 113 (toArray [.pointer (some ⟨b,o,none⟩)]) w fun e w'=>e=.returned (.pointer (some ⟨b,o+8,none⟩))/\Ext w w':=by
 refine B9 func113 rfl ntmps113 rfl ?_;refine A3 (A7 (C6 rfl rfl (Reg.nil (A3 (A7 (E5 rfl rfl (ADA rfl rfl (M3 rfl underlying90 rfl sizeOf86 rfl (C6 rfl rfl (Reg.nil (C0 ?_)))))))))));refine fin1 results113 rfl ?_;exact⟨rfl,Kp.refl _ _⟩
theorem AUA(_:MLt M w):Calls prog 114 (toArray [.pointer (some ⟨b,o,none⟩)]) w fun e w'=>e=.returned (.pointer (some ⟨b,o+12,none⟩))/\Ext w w':=by
 refine B9 func114 rfl ntmps114 rfl ?_;refine A3 (A7 (C6 rfl rfl (Reg.nil (A3 (A7 (E5 rfl rfl (ADA rfl rfl (M3 rfl underlying90 rfl sizeOf86 rfl (C6 rfl rfl (Reg.nil (C0 ?_)))))))))));refine fin1 results114 rfl ?_;exact⟨rfl,Kp.refl _ _⟩
theorem AUB(_:MLt M w):Calls prog 115 (toArray [.pointer (some ⟨b,o,none⟩)]) w fun e w'=>e=.returned (.pointer (some ⟨b,o+16,none⟩))/\Ext w w':=by
 refine B9 func115 rfl ntmps115 rfl ?_;refine A3 (A7 (C6 rfl rfl (Reg.nil (A3 (A7 (E5 rfl rfl (ADA rfl rfl (M3 rfl underlying90 rfl sizeOf86 rfl (C6 rfl rfl (Reg.nil (C0 ?_)))))))))));refine fin1 results115 rfl ?_;exact⟨rfl,Kp.refl _ _⟩
theorem AUC(_:MLt M w):Calls prog 116 (toArray [.pointer (some ⟨b,o,none⟩)]) w fun e w'=>e=.returned (.pointer (some ⟨b,o+20,none⟩))/\Ext w w':=by
 refine B9 func116 rfl ntmps116 rfl ?_;refine A3 (A7 (C6 rfl rfl (Reg.nil (A3 (A7 (E5 rfl rfl (ADA rfl rfl (M3 rfl underlying90 rfl sizeOf86 rfl (C6 rfl rfl (Reg.nil (C0 ?_)))))))))));refine fin1 results116 rfl ?_;exact⟨rfl,Kp.refl _ _⟩
def AAw(s:(List Report))(f:Report->Option Bool):Option Int:=
 (B7 (S:=Int) (R:=(Unit)⊕(Int)) (fun x1=>cond (decide (x1<(s.length:Int))) ((ixo s x1).bind fun y3=>(f y3).bind fun z17=>cond z17 (some (.inr (.inr x1))) ((chk .i64 (x1+1)).bind fun n23=>some (.inl n23))) (some (.inr (.inl ())))) 0).bind fun j24=>Sum.elim (fun _=>some (-1)) (fun r25=>some r25)  j24
theorem AEP(hM:MLt M w){v_s_0:Value}(f_s_0:RdS ReportE M w v_s_0 s){v_f:Value}{f:Report->Option Bool}(f_f:∀(x0:Report) (r:Bool) (w1:World),Kp [] w w1->InK .i64 x0.id->InK .i64 x0.source->InK .i64 x0.account->InK .i64 x0.made->InK .i64 x0.about->InK .u8 x0.kind->InK .i64 x0.cents->InK .i64 x0.of_->f x0=some r->CallsV prog v_f [Value.agg (toArray [vi x0.id,vi x0.source,vi x0.account,vi x0.made,vi x0.about,vu x0.kind,vi x0.cents,vi x0.of_])] w1 fun e w2=>e=.returned (Value.bool r)/\Ext w1 w2){r0:Int}(h:AAw s f=some r0):
  Calls prog 130 (toArray [v_s_0,v_f]) w fun e w'=>e=.returned (vi r0)/\InK .i64 r0/\Ext w w':=by
 have hI:=Hp.start (Mu:=[]) hM
 refine B9 func130 rfl ntmps130 rfl ?_
 refine cp rfl (A3 (cr (pz 1 rfl (AN2 rfl f_s_0 underlying24 rfl (pz 1 rfl (Reg.nil ?_))))))
 obtain⟨j1,h2,h⟩:=C5 h
 refine Q0 [0,1,7,8] rfl (ABH 4 (ι:=Unit) (fun _=>[]) (fun _=>fun w3=>hI.J [] w3 ((.inl ())=j1)) ?_ ?_)
 ·refine C4 (Q0 [8,0,1,7] rfl ?_)
  refine AHG 1 (ι:=Int) _ (fun x6=>[(8,vi x6)]) (fun x6=>x6) (fun x6=>fun w8=>hI.J [] w8 (InK .i64 x6)) 0 h2 ⟨hI,(Adv.refl _ _),(by decide)⟩ (sb rfl) ?_
  rintro x6 w8 ⟨hI9,hA10,r7⟩ y11 h12 hR13
  refine cp rfl (A3 (cc h12 rfl (fun hc14 h12=>?_) (fun hc14 h12=>?_)))
  ·refine E2 (A3 (C4 (cp rfl (cr (pz 3 rfl ?_)))))
   obtain⟨y15,hy15,h12⟩:=C5 h12
   refine AN5 rfl rfl (f_s_0.adv hI9.adv) hy15 underlying24 sizeOf45 rfl ?_
   intro b16 o17 cs18 hR19 hC20
   obtain⟨rfl,r21,r22,r23,r24,r25,r26,r27,r28⟩:=ReportE_R.1 hR19
   refine pu (vc hC20.cells v0) [199] rfl rfl ?_
   obtain⟨z29,hz29,h12⟩:=C5 h12
   refine ABO rfl rfl rfl ?_
   refine(f_f _ _ _ hI9.kp r21 r22 r23 r24 r25 r26 r27 r28 hz29).mono ?_
   rintro _ w30 ⟨rfl,e31⟩
   refine⟨_,rfl,?_⟩
   have hI33:=hI9.ext e31
   refine Reg.nil (cc h12 rfl (fun hc34 h12=>?_) (fun hc34 h12=>?_))
   ·refine cp rfl (C0 ?_)
    obtain rfl:=so h12
    obtain rfl:=hR13 _ rfl
    replace h:=elimR h
    obtain rfl:=so h
    refine fin1 results130 rfl ?_
    exact⟨rfl,r7,hI33.kp⟩
   refine E2 (A7 ?_)
   obtain⟨n35,hn35,h12⟩:=C5 h12
   replace hn35:=I8 hn35
   refine ACl rfl rfl rfl hn35 (pz 1 rfl (Reg.nil ?_))
   obtain rfl:=so h12
   refine⟨rfl,n35,⟨⟨hI33,hI33.adv,hn35.2⟩,rfl⟩,sb rfl⟩
  refine T3 (J7 ?_)
  obtain rfl:=so h12
  obtain rfl:=hR13 _ rfl
  refine⟨rfl,(),⟨hI9,hI9.adv,rfl⟩,sb rfl⟩
 rintro _ w3 ⟨hI4,hA5,rfl⟩
 replace h:=elimL h
 refine cp rfl (C0 ?_)
 obtain rfl:=so h
 refine fin1 results130 rfl ?_
 exact⟨rfl,(by decide),hI4.kp⟩
def N6(s:(List Report))(del:Report->Option Bool):Option (List Report):=
 (AAw s del).bind fun z1=>cond (decide (z1=(-1))) (some s) ((chk .i64 (z1+1)).bind fun n8=>(B7 (S:=Int×Int×(List Report)) (R:=(Int×(List Report))) (fun (x9,x10,x11)=>cond (decide (x10<(x11.length:Int))) (((ixo x11 x10).bind fun y13=>(del (Report.mk y13.id y13.source y13.account y13.made y13.about y13.kind y13.cents y13.of_)).bind fun z36=>(cond (!z36) ((ixo x11 x9).bind fun y42=>(seto x11 x9 (Report.mk y13.id y13.source y13.account y13.made y13.about y13.kind y13.cents y13.of_)).bind fun l56=>(chk .i64 (x9+1)).bind fun n60=>some (n60,l56)) (some (x9,x11))).bind fun (x61,x62)=>some (x61,x62)).bind fun (x63,x64)=>(chk .i64 (x10+1)).bind fun n65=>some (.inl (x63,n65,x64))) (some (.inr (x9,x11)))) (z1,n8,s)).bind fun (x66,x67)=>(AA4 x67 x66).bind fun l68=>(AAG (x67.take x66.toNat++replicate l68.length (Report.mk 0 0 0 0 0 0 0 0)) x66).bind fun l74=>some l74)
theorem ADj{v_s:Value}(hM:MLt M w)(hd:∀b∈ob v_s,b∉M)(p_s:Sx.Own ReportE 45 0 M w v_s s){v_del:Value}{del:Report->Option Bool}(f_del:∀(x0:Report) (r:Bool) (w1:World),Kp (ob v_s) w w1->InK .i64 x0.id->InK .i64 x0.source->InK .i64 x0.account->InK .i64 x0.made->InK .i64 x0.about->InK .u8 x0.kind->InK .i64 x0.cents->InK .i64 x0.of_->del x0=some r->CallsV prog v_del [Value.agg (toArray [vi x0.id,vi x0.source,vi x0.account,vi x0.made,vi x0.about,vu x0.kind,vi x0.cents,vi x0.of_])] w1 fun e w2=>e=.returned (Value.bool r)/\Ext w1 w2){r0:(List Report)}(h:N6 s del=some r0):
  Calls prog 133 (toArray [v_s,v_del]) w fun e w'=>∃v0_0:Value,e=.returned (v0_0)/\(Sx.Own ReportE 45 0 M w' v0_0 r0/\(∀b∈ob v0_0,b∈ob v_s\/w.heap.size<=b)/\Kp (ob v_s) w w'):=by
 have hI:=AAx hM hd p_s
 refine B9 func133 rfl ntmps133 rfl ?_
 refine cp rfl (cr (pz 2 rfl ?_))
 obtain⟨z1,hz2,h⟩:=C5 h
 refine G6 rfl call130 rfl ((AEP (hI.sel [] rfl).mlt (hI.lendRd [] 0 rfl rfl) (fun a0 r w9 e9 f0 f1 f2 f3 f4 f5 f6 f7 hr=>f_del a0 r w9 (hI.kp.trans (Ext.kp e9)) f0 f1 f2 f3 f4 f5 f6 f7 hr) hz2).mono ?_)
 rintro _ w3 ⟨rfl,r5,e4⟩
 refine⟨_,rfl,?_⟩
 have hI6:=hI.ext e4
 refine pz 1 rfl (Reg.nil (A3 (cp rfl (cc h rfl (fun hc7 h=>?_) (fun hc7 h=>?_)))))
 ·refine cp rfl (C0 ?_)
  obtain rfl:=so h
  refine fin1 results133 rfl ?_
  exact⟨_,rfl,(hI6.ownBack 0 rfl)⟩
 refine E2 (A3 (cr (pz 1 rfl ?_)))
 obtain⟨n8,hn8,h⟩:=C5 h
 replace hn8:=I8 hn8
 refine ACl rfl rfl rfl hn8 (pz 1 rfl (Reg.nil ?_))
 obtain⟨j9,h10,h⟩:=C5 h
 refine Q0 [1,5,6,0] rfl (ABH 3 (ι:=Int×(List Report)) (fun⟨x11,x13⟩=>[(5,vi x11)]) (fun⟨x11,x13⟩=>fun w14=>hI6.J [ownR (ob v_s) ReportE 45 v_s x13] w14 (InK .i64 x11/\(x11,x13)=j9)) ?_ ?_)
 ·refine C4 (Q0 [5,6,0,1] rfl (AHG 2 (ι:=Int×Int×(List Report)) _ (fun⟨x17,x19,x21⟩=>[(5,vi x17),(6,vi x19)]) (fun⟨x17,x19,x21⟩=>(x17,x19,x21)) (fun⟨x17,x19,x21⟩=>fun w22=>hI6.J [ownR (ob v_s) ReportE 45 v_s x21] w22 (InK .i64 x17/\InK .i64 x19)) (z1,n8,s) h10 ⟨hI6,(Adv.refl _ _),r5,hn8.2⟩ (sb rfl) ?_))
  rintro⟨x17,x19,x21⟩ w22 ⟨hI23,hA24,r18,r20⟩ y25 h26 hR27
  refine A3 (cr (pz 2 rfl (AFl rfl (hI23.ownAt 0 rfl) underlying24 rfl ?_)))
  refine pz 1 rfl (Reg.nil (cc h26 rfl (fun hc28 h26=>?_) (fun hc28 h26=>?_)))
  ·refine E2 ?_
   obtain⟨j29,h30,h26⟩:=C5 h26
   refine Q0 [5,0,1,6] rfl (AI2 1 (ι:=Int×(List Report)) (fun⟨x31,x33⟩=>[(5,vi x31)]) (fun⟨x31,x33⟩=>fun w34=>hI23.J [ownR (ob v_s) ReportE 45 v_s x33] w34 (InK .i64 x31/\(x31,x33)=j29)) ?_ ?_)
   ·refine C4 (cr (pz 2 rfl ?_))
    obtain⟨y37,hy37,h30⟩:=C5 h30
    refine AK0 0 hI23 rfl rfl rfl hy37 underlying24 sizeOf45 rfl ?_
    intro g38 cs39 hg40 hR41 hC42
    have khR41:=hR41
    obtain⟨rfl,r43,r44,r45,r46,r47,r48,r49,r50⟩:=ReportE_R.1 hR41
    refine pu (vc hC42 v0) [199] rfl rfl (P5 hI23 zeroValue45 rfl rfl ?_)
    intro b51 w52 hI53 x54
    refine N2 0 hI53 rfl rfl rfl rfl sizeOf45 rfl rfl (one1 rfl (one1 rfl (one1 rfl (one1 rfl (one1 rfl (one1 rfl (one1 rfl (one1 rfl one0)))))))) ?_
    intro w55 hI56 x57
    obtain⟨hC59,hI58⟩:=hI56.fz 0 rfl
    refine Reg.nil (cr (pu (vc hC59.cells v0) [0,199] rfl rfl ?_))
    obtain⟨z60,hz60,h30⟩:=C5 h30
    refine ABO rfl rfl rfl ?_
    refine(f_del _ _ _ hI58.kp r43 r44 r45 r46 r47 r48 r49 r50 hz60).mono ?_
    rintro _ w61 ⟨rfl,e62⟩
    refine⟨_,rfl,?_⟩
    have hI64:=hI58.ext e62
    refine pz 1 rfl (Reg.nil ?_)
    obtain⟨j65,h66,h30⟩:=C5 h30
    refine Q0 [5,7,29,0,1,6] rfl (ABH 3 (ι:=Int×(List Report)) (fun⟨x67,x69⟩=>[(5,vi x67)]) (fun⟨x67,x69⟩=>fun w70=>hI64.J [ownR (ob v_s) ReportE 45 v_s x69] w70 (InK .i64 x67/\(x67,x69)=j65)) ?_ ?_)
    ·refine cc h66 rfl (fun hc73 h66=>?_) (fun hc73 h66=>?_)
     ·refine cr (pu (vc ((hC59.adv (Adv.of_ext e62)).cells) v0) [0,0,199] rfl rfl ?_)
      obtain⟨y74,hy74,h66⟩:=C5 h66
      refine AK0 0 hI64 rfl rfl rfl hy74 underlying24 sizeOf45 rfl ?_
      intro g75 cs76 hg77 hR78 hC79
      have khR78:=hR78
      obtain⟨rfl,r80,r81,r82,r83,r84,r85,r86,r87⟩:=ReportE_R.1 hR78
      obtain⟨l88,hl88,h66⟩:=C5 h66
      refine ASH 0 (E:=ReportE) (o:=0) hI64 rfl rfl rfl rfl hg77 hl88 ((ReportE_R (x:=y74)).2 ⟨rfl,r80,r81,r82,r83,r84,r85,r86,r87⟩) hC79 ((ReportE_R (x:=(Report.mk y37.id y37.source y37.account y37.made y37.about y37.kind y37.cents y37.of_))).2 ⟨rfl,r43,r44,r45,r46,r47,r48,r49,r50⟩) rfl sizeOf45 rfl (one1 rfl (one1 rfl (one1 rfl (one1 rfl (one1 rfl (one1 rfl (one1 rfl (one1 rfl one0)))))))) ?_
      intro w89 hI90 x91
      refine Reg.nil (A7 (pz 1 rfl ?_))
      obtain⟨n92,hn92,h66⟩:=C5 h66
      replace hn92:=I8 hn92
      refine ACl rfl rfl rfl hn92 (pz 1 rfl (Reg.nil ?_))
      obtain rfl:=so h66
      refine⟨rfl,(n92,l88),⟨hI90,x91,hn92.2,rfl⟩,sb rfl⟩
     refine E2 ?_
     obtain rfl:=so h66
     refine⟨rfl,(x17,x21),⟨hI64,(Adv.refl _ _),r18,rfl⟩,sb rfl⟩
    rintro⟨x67,x69⟩ w70 ⟨hI71,hA72,r68,rfl⟩
    obtain rfl:=so h30
    refine⟨rfl,(x67,x69),⟨hI71,(x54.trans (x57.trans ((hI56.eraseH 0).trans ((Adv.of_ext e62).trans hA72)))),r68,rfl⟩,sb rfl⟩
   rintro⟨x31,x33⟩ w34 ⟨hI35,hA36,r32,rfl⟩
   refine A7 (pz 1 rfl ?_)
   obtain⟨n93,hn93,h26⟩:=C5 h26
   replace hn93:=I8 hn93
   refine ACl rfl rfl rfl hn93 (pz 1 rfl (Reg.nil ?_))
   obtain rfl:=so h26
   refine⟨rfl,(x31,n93,x33),⟨⟨hI35,(hA24.trans hA36),r32,hn93.2⟩,rfl⟩,sb rfl⟩
  refine T3 (J7 ?_)
  obtain rfl:=so h26
  obtain rfl:=hR27 _ rfl
  refine⟨rfl,(x17,x21),⟨hI23,hA24,r18,rfl⟩,sb rfl⟩
 rintro⟨x11,x13⟩ w14 ⟨hI15,hA16,r12,rfl⟩
 refine cr (pz 2 rfl ?_)
 obtain⟨l94,hl94,h⟩:=C5 h
 refine AYi 0 hI15 rfl rfl rfl hl94 underlying24 sizeOf45 rfl ?_
 intro v95 hv96
 refine ASx 0 (z0:=(Report.mk 0 0 0 0 0 0 0 0)) hI15 rfl hv96 hl94 rfl underlying24 zeroValue45 rfl (fun _ _=>((ReportE_R (x:=(Report.mk 0 0 0 0 0 0 0 0))).2 ⟨rfl,(show InK .i64 0 by decide),(show InK .i64 0 by decide),(show InK .i64 0 by decide),(show InK .i64 0 by decide),(show InK .i64 0 by decide),(show InK .u8 0 by decide),(show InK .i64 0 by decide),(show InK .i64 0 by decide)⟩)) ?_
 intro w97 hI98 x99
 refine Reg.nil (cr (pz 2 rfl ?_))
 obtain⟨l100,hl100,h⟩:=C5 h
 refine AYj 0 hI98 rfl rfl rfl hl100 underlying24 sizeOf45 rfl ?_
 intro v101 hI102 x103
 refine pz 1 rfl (Reg.nil (C0 ?_))
 obtain rfl:=so h
 refine fin1 results133 rfl ?_
 exact⟨_,rfl,(hI102.ownBack 0 rfl)⟩
def AGT(r:Report)(day_c:Int):Option Bool:=
 some (decide (r.about<day_c))
theorem ADk(hM:MLt M w){r:Report}(f_r_0:InK .i64 r.id)(f_r_1:InK .i64 r.source)(f_r_2:InK .i64 r.account)(f_r_3:InK .i64 r.made)(f_r_4:InK .i64 r.about)(f_r_5:InK .u8 r.kind)(f_r_6:InK .i64 r.cents)(f_r_7:InK .i64 r.of_){day_c:Int}(f_day_c_0:InK .i64 day_c){b_day_c:Nat}(c_day_c:RdC M w b_day_c 0 [vi day_c]){r0:Bool}(h:AGT r day_c=some r0):
  Calls prog 134 (toArray [Value.agg (toArray [vi r.id,vi r.source,vi r.account,vi r.made,vi r.about,vu r.kind,vi r.cents,vi r.of_]),vp b_day_c 0]) w fun e w'=>e=.returned (Value.bool r0)/\Ext w w':=by
 have hI:=Hp.start (Mu:=[]) hM
 refine B9 func134 rfl ntmps134 rfl ?_
 refine cr (R7 hI rfl rfl rfl ?_)
 intro b1 w2 hI3 x4
 obtain⟨hC6,hI5⟩:=hI3.fz 0 rfl
 refine pz 1 rfl (Reg.nil (cr (pu (vc hC6.cells (vc ((c_day_c.adv hI5.adv).cells) v0)) [0,104,200,0,0] rfl rfl (Reg.nil (C0 ?_)))))
 obtain rfl:=so h
 refine fin1 results134 rfl ?_
 exact⟨rfl,hI5.kp⟩
def J1(b:Book)(kind:Int):Option Told:=
 (I0 (Book.mk b.facts) kind).bind fun z11=>cond (decide ((z11.length:Int)=0)) (some (Told.mk 0 0 0 [])) ((chk .i64 ((z11.length:Int)-1)).bind fun n22=>(ixo z11 n22).bind fun y23=>(N6 z11 (fun x0_=>AGT x0_ y23.about)).bind fun z46=>(Q2 z46 false).bind fun z55=>some (Told.mk z55.known z55.cents z55.since z55.by_))
theorem AAF(hM:MLt M w)(hG:GlOk (P:=prog) M w){b:Book}(f_b_0:RdS ReportE M w v_b_0 b.facts){kind:Int}(f_kind_0:InK .u8 kind){r0:Told}(h:J1 b kind=some r0):
  Calls prog 112 (toArray [Value.agg (toArray [v_b_0]),vu kind]) w fun e w'=>∃v0_3:Value,e=.returned (Value.agg (toArray [vu r0.known,vi r0.cents,vi r0.since,v0_3]))/\InK .u8 r0.known/\InK .i64 r0.cents/\InK .i64 r0.since/\RdS (A9 .i64) M w' v0_3 r0.by_/\Ext w w':=by
 have hI:=Hp.start (Mu:=[]) hM
 refine B9 func112 rfl ntmps112 rfl ?_
 refine cr (R7 hI rfl rfl rfl ?_)
 intro b1 w2 hI3 x4
 obtain⟨hC6,hI5⟩:=hI3.fz 0 rfl
 refine P5 hI5 zeroValue86 rfl rfl ?_
 intro b7 w8 hI9 x10
 refine Reg.nil (cr (pu (vc ((hC6.adv x10).cells) v0) [199,0] rfl rfl ?_))
 obtain⟨z11,hz12,h⟩:=C5 h
 refine G6 rfl call117 rfl ((ACj (b:=(Book.mk b.facts)) hI9.mlt (hG.adv hI9.adv) (f_b_0.adv hI9.adv) f_kind_0 hz12).mono ?_)
 rintro _ w13 ⟨v15,rfl,hf16,e14⟩
 refine⟨_,rfl,?_⟩
 have hI17:=hI9.addOwn e14 hf16
 refine pz 1 rfl (Reg.nil (A3 (cr (pz 1 rfl (AFl rfl (hI17.ownAt 0 rfl) underlying24 rfl ?_)))))
 refine pz 1 rfl (Reg.nil (cc h rfl (fun hc18 h=>?_) (fun hc18 h=>?_)))
 ·refine cr ?_
  refine AEy [(0,1),(1,1),(2,1),(3,1)] zeroValue86 rfl underlying86 (fun _=>by simp[sizeOf3,sizeOf5,sizeOf56]) rfl (Cls.nil) rfl rfl ?_
  refine N2 1 hI17 rfl rfl rfl rfl sizeOf86 rfl rfl (one1 rfl (one1 rfl (one1 rfl (one1 rfl one0)))) ?_
  intro w19 hI20 x21
  refine Reg.nil (C0 ?_)
  obtain rfl:=so h
  refine H2 results112 (AllRs.cons (RsOk.agg rfl (hI20.row 1 rfl).rd.cells isAgg86 rfl sizeOf86) (AllRs.nil)) rfl ?_
  exact⟨_,rfl,(show InK .u8 0 by decide),(show InK .i64 0 by decide),(show InK .i64 0 by decide),(RdS.nil _ _ _),hI20.kp⟩
 refine E2 (cr (pz 2 rfl (AFl rfl (hI17.ownAt 0 rfl) underlying24 rfl ?_)))
 obtain⟨n22,hn22,h⟩:=C5 h
 replace hn22:=I8 hn22
 refine ASG rfl rfl rfl hn22 ?_
 obtain⟨y23,hy23,h⟩:=C5 h
 refine AK0 0 hI17 rfl rfl rfl hy23 underlying24 sizeOf45 rfl ?_
 intro g24 cs25 hg26 hR27 hC28
 have khR27:=hR27
 obtain⟨rfl,r29,r30,r31,r32,r33,r34,r35,r36⟩:=ReportE_R.1 hR27
 refine pu (vc hC28 v0) [0,104] rfl rfl (P5 hI17 zeroValue3 rfl rfl ?_)
 intro b37 w38 hI39 x40
 refine N2 0 hI39 rfl rfl rfl rfl sizeOf3 rfl rfl (one1 rfl one0) ?_
 intro w41 hI42 x43
 obtain⟨hC45,hI44⟩:=hI42.fz 0 rfl
 refine Reg.nil (cr (pz 1 rfl (AEB rfl rfl ?_)))
 obtain⟨z46,hz47,h⟩:=C5 h
 refine G6 rfl call133 rfl ((ADj (hI44.erase 0).mlt (hI44.apart 0 rfl) (hI44.lendOwn 0 rfl) (fun a0 r w9 e9 f0 f1 f2 f3 f4 f5 f6 f7 hr=>CallsV.ofL call134 rfl (ADk ((hI44.lendM 0 rfl).ext e9) f0 f1 f2 f3 f4 f5 f6 f7 r33 (hC45.adv ((hI44.lendH 0 rfl).trans (Adv.lent e9))) hr)) hz47).mono ?_)
 rintro _ w48 ⟨v50,rfl,hf51⟩
 refine⟨_,rfl,?_⟩
 have hI52:=hI44.took 0 rfl hf51
 obtain⟨hf53,hI54⟩:=hI52.fs 0 rfl
 obtain⟨z55,hz56,h⟩:=C5 h
 refine G6 rfl call132 rfl ((AJi hI54.mlt (hG.adv hI54.adv) hf53 hz56).mono ?_)
 rintro _ w57 ⟨v62,rfl,r59,r60,r61,hf63,e58⟩
 refine⟨_,rfl,?_⟩
 have hI64:=hI54.ext e58
 refine N2 0 hI64 rfl rfl rfl rfl sizeOf86 rfl rfl (one1 rfl (one1 rfl (one1 rfl (one1 (RdS.oneC hf63) one0)))) ?_
 intro w65 hI66 x67
 refine Reg.nil (C0 ?_)
 obtain rfl:=so h
 refine H2 results112 (AllRs.cons (RsOk.agg rfl (hI66.row 0 rfl).rd.cells isAgg86 rfl sizeOf86) (AllRs.nil)) rfl ?_
 exact⟨_,rfl,r59,r60,r61,((hf63.adv x67).adv hI66.baseH),hI66.kp⟩
def O3(b:Book):Option (A4 Int Span):=
 (I0 (Book.mk b.facts) 4).bind fun z11=>(B7 (S:=Int×(A4 Payer Int)) (R:=((A4 Payer Int))) (fun (x18,x19)=>cond (decide (x18<(z11.length:Int))) ((ixo z11 x18).bind fun y21=>((some ((x19 (Payer.mk y21.about y21.source)).getD 0)).bind fun y48=>(chk .i64 (y48+y21.cents)).bind fun n56=>some (B4 x19 (Payer.mk y21.about y21.source) n56)).bind fun x77=>(chk .i64 (x18+1)).bind fun n78=>some (.inl (n78,x77))) (some (.inr x19))) (0,fnone)).bind fun x79=>(AK2 (S:=(A4 Int Span)) (fun x96 (y97:Payer×Int)=>(some ((x96 y97.1.day).getD (Span.mk 0 0))).bind fun y114=>((cond (!((x96 y97.1.day).isSome)) (some (y97.2,y97.2)) (some (y114.lo,y114.hi))).bind fun (x132,x133)=>some (x132,x133)).bind fun (x134,x135)=>some (B4 x96 y97.1.day (Span.mk (min x134 y97.2) (max x135 y97.2)))) x79 fnone).bind fun x139=>some x139
theorem AFj(hM:MLt M w)(hG:GlOk (P:=prog) M w){b:Book}(f_b_0:RdS ReportE M w v_b_0 b.facts){r0:(A4 Int Span)}(h:O3 b=some r0):
  Calls prog 75 (toArray [Value.agg (toArray [v_b_0])]) w fun e w'=>∃v0_0:Value,e=.returned (v0_0)/\RdF Ky3 SpanE true M w' v0_0 r0/\Ext w w':=by
 have hI:=Hp.start (Mu:=[]) hM
 refine B9 func75 rfl ntmps75 rfl ?_
 refine cr (R7 hI rfl rfl rfl ?_)
 intro b1 w2 hI3 x4
 obtain⟨hC6,hI5⟩:=hI3.fz 0 rfl
 refine pz 1 rfl (Reg.nil (cr (AKQ AAP (A9 .i64) false hI5 rfl ?_)))
 intro b7 w8 hI9 x10
 refine pz 1 rfl (Reg.nil (A3 (cr (pu (vc ((hC6.adv x10).cells) v0) [199] rfl rfl ?_))))
 obtain⟨z11,hz12,h⟩:=C5 h
 refine G6 rfl call117 rfl ?_
 refine(ACj (b:=(Book.mk b.facts)) hI9.mlt (hG.adv hI9.adv) (f_b_0.adv hI9.adv) (by decide) hz12).mono ?_
 rintro _ w13 ⟨v15,rfl,hf16,e14⟩
 refine⟨_,rfl,?_⟩
 have hI17:=hI9.addOwn e14 hf16
 refine AFl rfl (hI17.ownAt 0 rfl) underlying24 rfl ?_
 refine pz 1 rfl (Reg.nil ?_)
 obtain⟨j18,h19,h⟩:=C5 h
 refine Q0 [13,14,15,3] rfl (ABH 3 (ι:=(A4 Payer Int)) (fun x20=>[]) (fun x20=>fun w21=>hI17.J [ownR [] ReportE 45 v15 z11,mapO AAP (A9 .i64) false b7 x20] w21 (x20=j18)) ?_ ?_)
 ·refine C4 (Q0 [15,3,13,14] rfl ?_)
  refine AHG 1 (ι:=Int×(A4 Payer Int)) _ (fun⟨x24,x26⟩=>[(15,vi x24)]) (fun⟨x24,x26⟩=>(x24,x26)) (fun⟨x24,x26⟩=>fun w27=>hI17.J [ownR [] ReportE 45 v15 z11,mapO AAP (A9 .i64) false b7 x26] w27 (InK .i64 x24)) (0,fnone) h19 ⟨hI17,(Adv.refl _ _),(by decide)⟩ (sb rfl) ?_
  rintro⟨x24,x26⟩ w27 ⟨hI28,hA29,r25⟩ y30 h31 hR32
  refine cp rfl (A3 (cc h31 rfl (fun hc33 h31=>?_) (fun hc33 h31=>?_)))
  ·refine E2 (A3 (C4 (cr ?_)))
   obtain⟨y34,hy34,h31⟩:=C5 h31
   refine AK0 0 hI28 rfl rfl rfl hy34 underlying24 sizeOf45 rfl ?_
   intro g35 cs36 hg37 hR38 hC39
   have khR38:=hR38
   obtain⟨rfl,r40,r41,r42,r43,r44,r45,r46,r47⟩:=ReportE_R.1 hR38
   refine pu (vc hC39 v0) [199] rfl rfl (P5 hI28 zeroValue45 rfl rfl ?_)
   intro b48 w49 hI50 x51
   refine N2 0 hI50 rfl rfl rfl rfl sizeOf45 rfl rfl (one1 rfl (one1 rfl (one1 rfl (one1 rfl (one1 rfl (one1 rfl (one1 rfl (one1 rfl one0)))))))) ?_
   intro w52 hI53 x54
   obtain⟨hC56,hI55⟩:=hI53.fz 0 rfl
   refine Reg.nil ?_
   obtain⟨j57,h58,h31⟩:=C5 h31
   refine Q0 [5,3,13,14,15] rfl (ABH 1 (ι:=(A4 Payer Int)) (fun x59=>[]) (fun x59=>fun w60=>hI55.J [ownR [] ReportE 45 v15 z11,mapO AAP (A9 .i64) false b7 x59] w60 (x59=j57)) ?_ ?_)
   ·obtain⟨y67,hy67,h59⟩:=C5 h58
    obtain⟨n75,hn75,h60⟩:=C5 h59
    obtain rfl:=AaO hy67
    refine AMu hI55 hC56 rfl rfl ⟨r44,r41⟩ hn75 ?_
    intro L' w' hb hI' hA'
    obtain rfl:=so h60
    exact⟨rfl,_,⟨hI',hA',rfl⟩,Sub.cons (hb 3 (by decide)) (Sub.cons (hb 13 (by decide)) (Sub.cons (hb 14 (by decide)) (Sub.cons (hb 15 (by decide)) (Sub.nil _))))⟩
   rintro x59 w60 ⟨hI61,hA62,rfl⟩
   refine A7 ?_
   obtain⟨n215,hn215,h31⟩:=C5 h31
   replace hn215:=I8 hn215
   refine ACl rfl rfl rfl hn215 (pz 1 rfl (Reg.nil ?_))
   obtain rfl:=so h31
   refine⟨rfl,(n215,x59),⟨⟨hI61,(hA29.trans (x51.trans (x54.trans ((hI53.eraseH 0).trans hA62)))),hn215.2⟩,rfl⟩,sb rfl⟩
  refine T3 (J7 ?_)
  obtain rfl:=so h31
  obtain rfl:=hR32 _ rfl
  refine⟨rfl,x26,⟨hI28,hA29,rfl⟩,sb rfl⟩
 rintro x20 w21 ⟨hI22,hA23,rfl⟩
 refine cr (AKQ Ky3 SpanE true hI22 rfl ?_)
 intro b216 w217 hI218 x219
 refine pz 1 rfl (Reg.nil (A3 (cr (pz 1 rfl ?_))))
 have hf220:=hI218.freezeM 2 rfl
 have hI221:=hI218.erase 2
 refine AQo hI221 hf220 rfl underlying186 rfl ?_
 intro r222 b223 c224 es225 xs226 w227 hX228 hL229 hI230 x231
 refine Reg.nil ?_
 obtain⟨j232,h233,h⟩:=C5 h
 refine Q0 [34,6] rfl (ABH 1 (ι:=(A4 Int Span)) (fun x234=>[]) (fun x234=>fun w235=>hI230.J [mapO Ky3 SpanE true b216 x234,ownR [] ReportE 45 v15 z11] w235 (x234=j232)) ?_ ?_)
 ·refine C4 (Q0 [6,34] rfl (AQr 0 (ι:=(A4 Int Span)) _ (fun x239=>[]) (fun x239=>x239) (fun x239=>fun l238 w240=>hI230.K [N7 r222 b223 c224 es225 xs226 none l238,mapO Ky3 SpanE true b216 x239,ownR [] ReportE 45 v15 z11] w240) fnone xs226 (AQl h233 hL229) ⟨hI230,(Adv.refl _ _)⟩ (sb rfl) ?_))
  rintro x239 l238 w240 ⟨hI241,hA242⟩ h244 hR245
  refine cr (AQp 0 hI241 (hX228.adv (x231.trans hA242)) rfl rfl rfl (fun hn246=>?_) ?_)
  ·obtain rfl:=h244 hn246
   have hI256:=hI241.erase 0
   refine pz 1 rfl (Reg.nil (A3 (ABG rfl ?_)))
   refine T3 (J7 ?_)
   refine⟨rfl,x239,⟨hI256,(hA242.trans (hI241.eraseH 0)),rfl⟩,sb rfl⟩
  intro y247 l248 k249 v250 w251 hp252 hI253 x254
  obtain⟨shB255,hB255⟩:=hR245 y247 l248 hp252
  have zhB255:=hB255
  refine pz 1 rfl (Reg.nil (A3 (ABr rfl ?_)))
  refine E2 (C4 (cr (AQq 0 hI253 (hX228.adv (x231.trans (hA242.trans x254))) rfl rfl rfl ?_)))
  intro v257 hk258 hv259
  have hR260:=Vl.one1 hv259
  obtain⟨r261',r261⟩:=hR260
  obtain rfl:=AMz r261'
  have hI262:=hI253.itOff 0 rfl
  refine pz 2 rfl (P5 hI262 zeroValue189 rfl rfl ?_)
  intro b263 w264 hI265 x266
  refine N2 0 hI265 rfl rfl rfl rfl sizeOf189 rfl rfl (one1 rfl (one1 rfl one0)) ?_
  intro w267 hI268 x269
  obtain⟨hC271,hI270⟩:=hI268.fz 0 rfl
  refine pz 1 rfl (Reg.nil (cr (pu (vc hC271.cells v0) [0,0,100] rfl rfl ?_)))
  obtain⟨y272,hy272,hB255⟩:=C5 hB255
  refine AWi 1 (a:=y247.1.day) (z0:=(Span.mk 0 0)) hI270 rfl rfl rfl (show InK .i64 y247.1.day from(show InK .i64 y247.1.day/\InK .i64 y247.1.source from hk258).1) underlying156 zeroValue88 ⟨_,((SpanE_R (x:=(Span.mk 0 0))).2 ⟨rfl,(show InK .i64 0 by decide),(show InK .i64 0 by decide)⟩),.inl ⟨rfl,rfl⟩⟩ rfl ?_
  intro v273 hv274
  rw[AaO hy272]at hv274
  obtain⟨cs275,hR276,rfl⟩:=Vl.agg hv274
  obtain⟨rfl,r277,r278⟩:=SpanE_R.1 hR276
  refine pz 3 rfl (P5 hI270 zeroValue88 rfl rfl ?_)
  intro b279 w280 hI281 x282
  refine N2 0 hI281 rfl rfl rfl rfl sizeOf88 rfl rfl (one1 rfl (one1 rfl one0)) ?_
  intro w283 hI284 x285
  refine pz 1 rfl (Reg.nil ?_)
  obtain⟨j286,h287,hB255⟩:=C5 hB255
  refine Q0 [10,6,7,8,9,34] rfl (AI2 1 (ι:=Int×Int) (fun⟨x288,x290⟩=>[]) (fun⟨x288,x290⟩=>fun w292=>hI284.J [rowR 88 b279 [vi x288,vi x290],N7 r222 b223 c224 es225 xs226 none l248,mapO Ky3 SpanE true b216 x239,ownR [] ReportE 45 v15 z11] w292 (InK .i64 x288/\InK .i64 x290/\(x288,x290)=j286)) ?_ ?_)
  ·refine cp rfl ?_
   obtain⟨j295,h296,h287⟩:=C5 h287
   refine Q0 [48,6,7,8,9,34] rfl (ABH 1 (ι:=Int×Int) (fun⟨x297,x299⟩=>[]) (fun⟨x297,x299⟩=>fun w301=>hI284.J [rowR 88 b279 [vi x297,vi x299],N7 r222 b223 c224 es225 xs226 none l248,mapO Ky3 SpanE true b216 x239,ownR [] ReportE 45 v15 z11] w301 (InK .i64 x297/\InK .i64 x299/\(x297,x299)=j295)) ?_ ?_)
   ·refine cc h296 rfl (fun hc304 h296=>?_) (fun hc304 h296=>?_)
    ·refine A7 (pz 2 rfl ?_)
     refine AEy [(0,1),(1,1)] zeroValue88 rfl underlying88 (fun _=>by simp[sizeOf3]) rfl (Cls.cons rfl (Cls.cons rfl (Cls.nil))) rfl rfl ?_
     refine N2 0 hI284 rfl rfl rfl rfl sizeOf88 rfl rfl (one1 rfl (one1 rfl one0)) ?_
     intro w305 hI306 x307
     refine Reg.nil ?_
     obtain rfl:=so h296
     refine⟨rfl,(y247.2,y247.2),⟨hI306,x307,r261,r261,rfl⟩,sb rfl⟩
    refine E2 ?_
    obtain rfl:=so h296
    refine⟨rfl,(y272.lo,y272.hi),⟨hI284,(Adv.refl _ _),r277,r278,rfl⟩,sb rfl⟩
   rintro⟨x297,x299⟩ w301 ⟨hI302,hA303,r298,r300,rfl⟩
   obtain rfl:=so h287
   refine⟨rfl,(x297,x299),⟨hI302,hA303,r298,r300,rfl⟩,sb rfl⟩
  rintro⟨x288,x290⟩ w292 ⟨hI293,hA294,r289,r291,rfl⟩
  refine A7 (pu (vc ((hC271.adv (x282.trans (x285.trans hA294))).cells) (vc ((hI293.row 0 rfl).rd.cells) v0)) [0,0,100,0,200,0] rfl rfl (ASB rfl rfl rfl ?_))
  refine pu (vc ((hI293.row 0 rfl).rd.cells) v0) [0,101,0] rfl rfl (ASC rfl rfl rfl ?_)
  refine AEy [(0,1),(1,1)] zeroValue88 rfl underlying88 (fun _=>by simp[sizeOf3]) rfl (Cls.cons rfl (Cls.cons rfl (Cls.nil))) rfl rfl ?_
  refine AKR 2 (a:=y247.1.day) (z:=(Span.mk (min x288 y247.2) (max x290 y247.2))) hI293 rfl rfl rfl (show InK .i64 y247.1.day from(show InK .i64 y247.1.day/\InK .i64 y247.1.source from hk258).1) rfl ⟨_,((SpanE_R (x:=(Span.mk (min x288 y247.2) (max x290 y247.2)))).2 ⟨rfl,(AKu r289 r261),(AKv r291 r261)⟩),.inl ⟨rfl,rfl⟩⟩ underlying156 ?_
  intro w308 hI309 x310
  refine Reg.nil ?_
  obtain rfl:=so hB255
  refine⟨rfl,(B4 x239 y247.1.day (Span.mk (min x288 y247.2) (max x290 y247.2))),y247,l248,⟨hp252,zhB255,⟨(hI309.sel [1,2,3] rfl),((hA242.trans (x254.trans ((APR (σ:=[N7 r222 b223 c224 es225 xs226 (some y247) l248,mapO Ky3 SpanE true b216 x239,ownR [] ReportE 45 v15 z11]) (M:=M) 0 rfl).trans (x266.trans (x269.trans ((hI268.eraseH 0).trans (x282.trans (x285.trans (hA294.trans x310))))))))).trans (ABP (σ:=[rowR 88 b279 [vi x288,vi x290],N7 r222 b223 c224 es225 xs226 none l248,mapO Ky3 SpanE true b216 (B4 x239 y247.1.day (Span.mk (min x288 y247.2) (max x290 y247.2))),ownR [] ReportE 45 v15 z11]) [1,2,3]))⟩⟩,sb rfl⟩
 rintro x234 w235 ⟨hI236,hA237,rfl⟩
 refine cp rfl (C0 ?_)
 obtain rfl:=so h
 have hf311:=hI236.freezeM 0 rfl
 have hI312:=hI236.erase 0
 refine fin1 results75 rfl ?_
 exact⟨_,rfl,(hf311.adv hI312.baseH),hI312.kp⟩
end
def ABp(s:State)(b:Book):Option (State×Int):=(O3 b).bind fun r1=>W5 r1 fun l18=>(List.foldlM (m:=Option) (s:=(Int×Int)) (α:=Int×Span) (fun (x12,x13) (k14,v15)=>(chk .i64 (x12+v15.lo)).bind fun n16=>(chk .i64 (x13+v15.hi)).bind fun n17=>some (n16,n17)) (s.paid.lo,s.paid.hi) l18).bind fun (x19,x20)=>Option.bind (α:=(Int)) (cond ((!decide (s.closed.known=0))) (some (4:Int)) (Option.bind (α:=(Int)) (cond ((!decide (s.default.known=0))) (some (3:Int)) (Option.bind (α:=(Bool)) (cond (decide (s.late.known=1)) (some true) (some (decide (0<s.late.cents)))) ((fun x21=>Option.bind (α:=(Int)) (cond (x21) (some (2:Int)) (Option.bind (α:=(Int)) (cond (decide (0<(b.facts.length:Int))) (some (1:Int)) (some s.is_)) ((fun x22=>some x22)))) ((fun x23=>some x23)))))) ((fun x24=>some x24)))) ((fun x25=>some ((State.mk (Told.mk s.opened.known s.opened.cents s.opened.since s.opened.by_) (Told.mk s.limit.known s.limit.cents s.limit.since s.limit.by_) (Told.mk s.owed.known s.owed.cents s.owed.since s.owed.by_) (Told.mk s.late.known s.late.cents s.late.since s.late.by_) (Told.mk s.default.known s.default.cents s.default.since s.default.by_) (Told.mk s.closed.known s.closed.cents s.closed.since s.closed.by_) (Span.mk x19 x20) x25),(0:Int))))
def AMg:An:=.nd (.lp ⟨[(.cell 12 24,.d (.int .i64)),(.cell 12 25,.d (.int .i64))],[8,12]⟩ [] (.x)) (.nd (.nd (.x) (.jn [.norm ⟨[(.cell 12 26,.d (.int .u8))],[8,12]⟩] (.nd (.x) (.nd (.x) (.jn [.norm ⟨[(.cell 12 26,.d (.int .u8))],[8,12]⟩] (.nd (.x) (.nd (.jn [.norm ⟨[(.slot 92,.d .bool)],[8,12]⟩] (.x)) (.jn [.norm ⟨[(.cell 12 26,.d (.int .u8))],[8,12]⟩] (.nd (.x) (.nd (.x) (.jn [.norm ⟨[(.cell 12 26,.d (.int .u8))],[8,12]⟩] (.x)))))))))))) (.x))
theorem AZp{M:List Nat}{w:World}{b:Book}{v:Value}(h:OkD (P:=prog) M w (.st 15) b v):∃u,v=.agg (toArray [u])/\RdS ReportE M w u b.facts:=by
 obtain⟨cs,h0,h3⟩:=h;have h3:v=.agg (toArray cs):=h3.elim (fun h=>h.2) fun h=>by cases h.1
 have h0:BookE.R M w cs b:=h0;simp only[BookE,mapE_R,sliceE_R]at h0;obtain⟨u,rfl,k⟩:=h0;exact⟨u,h3,k⟩
def ctr75:Ctr:=⟨[.d (.st 15)],[.d (.mp 3 (.int .i64) (.st 8))],fun a=>O3 a.1⟩
theorem ok75:Ctr.ok prog 75 ctr75:=by
 refine⟨by decide,fun M w a vals r hM hg ha hr=>?_⟩;obtain⟨b,_⟩:=a;obtain⟨v,_,rfl,hv,rfl⟩:=ha;obtain⟨u,rfl,hf⟩:=AZp hv;refine(AFj hM hg hf hr).mono ?_;rintro _ w' ⟨v,rfl,h1,h2⟩;exact⟨[v],rfl,⟨v,rfl,⟨[v],⟨v,_,rfl,rfl,h1⟩,.inr ⟨rfl,rfl⟩⟩⟩,h2⟩
def AAn(b:Book):Nat->Option Told
 |0=>G3 b 1
 |1=>J1 b 2
 |2=>J1 b 3
 |3=>J1 b 5
 |4=>G3 b 6
 |_=>G3 b 7
def X5(b:Book):Option (State×Int):=(AAn b 0).bind fun t0=>(AAn b 1).bind fun t1=>(AAn b 2).bind fun t2=>(AAn b 3).bind fun t3=>(AAn b 4).bind fun t4=>(AAn b 5).bind fun t5=>ABp (State.mk t0 t1 t2 t3 t4 t5 (Span.mk 0 0) 0) b
def AG1:Told:=Told.mk 0 0 0 []
def stateZ:State:=State.mk AG1 AG1 AG1 AG1 AG1 AG1 (Span.mk 0 0) 0
def M9(l:List Report)(account day known:Int):Option (State×Int):=
 (I5 l).bind fun z5=>cond (!decide (z5=0)) (some (stateZ,z5)) (((F9 0 999999 ([account]:List Int)).bind fun z19=>cond (!z19) (some true) ((F9 0 100000 ([day,known]:List Int)).bind fun z29=>some (!z29))).bind fun x34=>cond x34 (some (stateZ,2)) ((X4 l account day known).bind fun b=>X5 b))
def zC:List Value:=[.int .u8 0,.int .i64 0,.int .i64 0,.slice none 0 0]
def stZ:Nat->List Value
 |0=>[.int .i64 0,.int .i64 0,.int .u8 0]
 |n+1=>zC++stZ n
def stCs:List (Told×Value)->Nat->List Value
 |[],n=>stZ n
 |p::l,n=>tC p.1 p.2++stCs l n
def zR:List Value:=stCs [] 6
theorem on27:∀u∈zR,u.oneCell'=true:=List.all_eq_true.1 (show zR.all (fun u=>u.oneCell')=true by kernel_rfl)
theorem ANq:∀(n:Nat),(stZ n).length=4*n+3
 |0=>rfl
 |n+1=>by show(zC++stZ n).length=_;rw[Aaf,ANq n];simp only[zC,List.length_cons,List.length_nil];omega
theorem AMh:∀(l:List (Told×Value)) (n:Nat),(stCs l n).length=4*l.length+4*n+3
 |[],n=>by show(stZ n).length=_;rw[ANq];simp only[List.length_nil];omega
 |p::l,n=>by show(tC p.1 p.2++stCs l n).length=_;rw[Aaf,AMh l n];simp only[tC,List.length_cons,List.length_nil];omega
theorem AMi(t:Told)(u:Value)(n:Nat):∀(l:List (Told×Value)),B6 (stCs l (n+1)) (4*l.length) (tC t u)=stCs (l++[(t,u)]) n
 |[]=>by show B6 (zC++stZ n) 0 (tC t u)=tC t u++stZ n;simp[zC,tC,B6]
 |p::l=>by
  show B6 (tC p.1 p.2++stCs l (n+1)) (4*(l.length+1)) (tC t u)=tC p.1 p.2++stCs (l++[(t,u)]) n;rw[<-AMi t u n l,show 4*(l.length+1)=4*l.length+4 by omega];simp[tC,B6]
section
variable{M:List Nat}{w:World}
section
variable{β:Type}{B:Enc β}{k:IntKind}{x:Int}{b:List Value}{y:β}{ρ:Nat->Value}{R:Nat->Option AR}{vs:List Value}
theorem pI(h:InK k x)(r:B.R M w b y):(B2 (A9 k) B).R M w (.int k x::b) (x,y):=prodE_R.2 ⟨[_],_,rfl,⟨rfl,h⟩,r⟩
theorem pN(r:B.R M w b y):(B2 (E6 (A9 .i64)) B).R M w (.slice none 0 0::b) ([],y):=prodE_R.2 ⟨[_],_,rfl,sliceE_R.2 ⟨_,rfl,RdS.nil _ _ _⟩,r⟩
theorem pT(r:B.R M w b y):(B2 (A9 .u8) (B2 (A9 .i64) (B2 (A9 .i64) (B2 (E6 (A9 .i64)) B)))).R M w (zC++b) (0,0,0,[],y):=pI (by decide) (pI (by decide) (pI (by decide) (pN r)))
theorem zR_ok:(enc (P:=prog) (.st 9)).R M w zR stateZ:=mapE_R.2 (pT (pT (pT (pT (pT (pT (pI (by decide) (pI (by decide) ⟨rfl,by decide⟩))))))))
def tS(t:Told):List SV:=[.int .u8 t.known,.int .i64 t.cents,.int .i64 t.since,.dat (.sl (.int .i64)) t.by_]
theorem AC6{l:List SV}(h:InK k x)(r:OkL (P:=prog) ρ R M w l vs):OkL (P:=prog) ρ R M w (.int k x::l) (.int k x::vs):=⟨_,[_],_,rfl,⟨rfl,h⟩,rfl,r⟩
theorem AB5{t:Told}{u:Value}{l:List SV}(h:AGS M w t u)(r:OkL (P:=prog) ρ R M w l vs):OkL (P:=prog) ρ R M w (tS t++l) (tC t u++vs):=by
 obtain⟨sa,c,hv,_⟩:=h.2.2.2.shape;exact AC6 h.1 (AC6 h.2.1 (AC6 h.2.2.1 ⟨u,[u],vs,rfl,⟨rfl,okS (α:=.int .i64) h.2.2.2⟩,by rw[hv];rfl,r⟩))
theorem AMj{ρ:Nat->Value}{R:Nat->Option AR}:∀{vs:List Value},(∀v∈vs,v.cells=#[v])->OkL (P:=prog) ρ R M w (replicate vs.length .dead) vs
 |[],_=>rfl
 |v::vs,h=>⟨v,[v],vs,rfl,h v (AaT ..),h v (AaT ..),AMj fun u hu=>h u (AaQ _ hu)⟩
theorem AV9:∀v∈zR,v.cells=#[v]:=fun v hv=>by
 simp only[zR,stCs,stZ,zC,List.cons_append,List.nil_append,mem_cons,List.not_mem_nil,or_false]at hv;rcases hv with rfl|rfl|rfl|rfl|rfl|rfl|rfl|rfl|rfl|rfl|rfl|rfl|rfl|rfl|rfl|rfl|rfl|rfl|rfl|rfl|rfl|rfl|rfl|rfl|rfl|rfl|rfl<;>rfl
end
end
theorem AWA{b:Book}:∀{i:Nat},i<6->∃(k:Int) (fa ft:Nat),ixo APE (i:Int)=some [.int .u8 k,.func (.func fa) #[] #[],.func (.func ft) #[] #[]]/\(∀args w,(callFunc fa args).run prog w=.ok (.enter fa args) w)/\(∀args w,(callFunc ft args).run prog w=.ok (.enter ft args) w) /\
  (∀{M:List Nat} {w:World} {p:Nat},MLt M w->Calls prog fa (toArray [.pointer (some ⟨p,0,none⟩)]) w fun e w'=>e=.returned (.pointer (some ⟨p,4*i,none⟩))/\Ext w w') /\
  ∀{M:List Nat} {w:World} {v:Value} {t:Told},MLt M w->GlOk (P:=prog) M w->RdS ReportE M w v b.facts->AAn b i=some t->Calls prog ft (toArray [.agg (toArray [v]),.int .u8 k]) w fun e w'=>∃u,e=.returned (.agg (toArray (tC t u)))/\InK .u8 t.known/\InK .i64 t.cents/\InK .i64 t.since/\RdS (A9 .i64) M w' u t.by_/\Ext w w'
 |0,_=>⟨1,109,110,rfl,call109,call110,fun hM=>AT7 hM,fun hM hG f h=>AAE hM hG f (by decide) h⟩
 |1,_=>⟨2,111,112,rfl,call111,call112,fun hM=>AT8 hM,fun hM hG f h=>AAF hM hG f (by decide) h⟩
 |2,_=>⟨3,113,112,rfl,call113,call112,fun hM=>AT9 hM,fun hM hG f h=>AAF hM hG f (by decide) h⟩
 |3,_=>⟨5,114,112,rfl,call114,call112,fun hM=>AUA hM,fun hM hG f h=>AAF hM hG f (by decide) h⟩
 |4,_=>⟨6,115,110,rfl,call115,call110,fun hM=>AUB hM,fun hM hG f h=>AAE hM hG f (by decide) h⟩
 |5,_=>⟨7,116,110,rfl,call116,call110,fun hM=>AUC hM,fun hM hG f h=>AAE hM hG f (by decide) h⟩
noncomputable def AWB:Code:=match f38.body with
 |some (.seq _ (.seq _ (.seq _ (.seq _ (.seq _ (.seq _ c))))))=>c
 |_=>.skip
def cs38:List Ck:=[.d (.st 9),.d (.int .i64)]
def APF:Gx:={ gxb with fs:=[(75,ctr75)] }
theorem AJj:GxOk prog APF:=B1 ⟨⟨ok75,call75⟩,trivial⟩
def AWC(s:State)(b:Book):AS:=⟨[(8,.ptr 8 0),(11,.rp (.str 15 b) 0),(12,.ptr 12 0)],[(8,.row 90 (replicate 27 .dead)),(12,.row 90 (tS s.opened++(tS s.limit++(tS s.owed++(tS s.late++(tS s.default++(tS s.closed++[.int .i64 s.paid.lo,.int .i64 s.paid.hi,.int .u8 s.is_])))))))],[],[]⟩
theorem AWD(s:State)(b:Book):V7 APF 111 (S8 APF cs38 f38.results.toList) AWB AMg (S8 APF cs38 f38.results.toList) some (AWC s b)=ABp s b:=by kernel_rfl
def ctr38:Ctr:=⟨[.d (.sl (.st 1)),.d (.int .i64),.d (.int .i64),.d (.int .i64)],cs38,fun a=>M9 a.1 a.2.1 a.2.2.1 a.2.2.2.1⟩
theorem ok38:Ctr.ok prog 38 ctr38:=by
 refine⟨by decide,fun M w a vals r hM hG ha hr=>?_⟩;obtain⟨l,account,day,known,_⟩:=a;obtain⟨v_l_0,_,rfl,hvl,va,_,rfl,hva,vd,_,rfl,hvd,vk,_,rfl,hvk,rfl⟩:=ha;obtain⟨rfl,f_account_0⟩:=AKj hva;obtain⟨rfl,f_day_0⟩:=AKj hvd;obtain⟨rfl,f_known_0⟩:=AKj hvk;have f_l_0:RdS ReportE M w v_l_0 l:=OkD.rds hvl;have h:M9 l account day known=some r:=hr;unfold M9 at h;have hI:=Hp.start (Mu:=[]) hM;refine B9 func38 rfl ntmps38 rfl ?_;refine cr ?_;refine P5 hI zeroValue90 rfl rfl ?_;intro b1 w2 hI3 x4;refine pz 1 rfl ?_;refine Reg.nil ?_;refine A3 ?_;refine cr ?_;refine pz 1 rfl ?_;obtain⟨z5,hz6,h⟩:=C5 h;refine G6 rfl call65 rfl ?_;refine(AIx hI3.mlt (hG.adv hI3.adv) (f_l_0.adv hI3.adv) hz6).mono ?_;rintro _ w7 ⟨rfl,r9,e8⟩;refine⟨_,rfl,?_⟩;have hI10:=hI3.ext e8;refine pz 1 rfl ?_;refine Reg.nil ?_;refine cp rfl ?_;refine cc h rfl (fun hc11 h=>?_) (fun hc11 h=>?_)
 . skip;refine cr ?_;refine AEy [(0,4),(4,4),(8,4),(12,4),(16,4),(20,4),(24,2),(26,1)] zeroValue90 rfl underlying90 (fun _=>by simp[sizeOf5,sizeOf86,sizeOf88]) rfl (Cls.nil) rfl rfl ?_;refine pz 1 rfl ?_;refine N2 0 hI10 rfl rfl rfl rfl sizeOf90 rfl rfl on27 ?_;intro w12 hI13 x14;refine pz 1 rfl ?_;refine Reg.nil ?_;refine C0 ?_;obtain rfl:=AaO h;refine H2 results38 (AllRs.cons (RsOk.agg rfl (hI13.row 0 rfl).rd.cells isAgg90 rfl sizeOf90) (AllRs.cons (RsOk.tmp rfl) (AllRs.nil))) rfl ?_;exact⟨[_,_],rfl,⟨_,_,rfl,⟨_,zR_ok,.inl ⟨rfl,rfl⟩⟩,_,rfl,okN r9⟩,hI13.kp⟩
 refine E2 ?_;refine A3 ?_;obtain⟨j15,h16,h⟩:=C5 h;refine AC7 (L:=[(0,_),(1,_),(2,_),(3,_),(8,_)]) (sb rfl) ?_;refine AI2 0 (ι:=Bool) (fun x17=>[(33,Value.bool x17)]) (fun x17=>fun w18=>hI10.J [rowR 90 b1 zR] w18 (x17=j15)) ?_ ?_
 . skip;refine A7 ?_;refine pz 1 rfl ?_;refine AEC (E:=(A9 .i64)) (xs:=[account]) AV6 hI10 rfl rfl (Cls.cons rfl Cls.nil) (Chs.cons ⟨rfl,f_account_0⟩ Chs.nil) rfl rfl ?_;intro v21 w22 hI23 x24;obtain⟨z25,hz26,h16⟩:=C5 h16;refine G6 rfl call66 rfl ?_;refine(AGR (hI23.sel [1] rfl).mlt ((hG.adv hI23.adv).adv (ABP (σ:=[ownR [] (A9 .i64) 3 v21 ([account]:List Int),rowR 90 b1 zR]) [1])) (by decide) (by decide) (hI23.lendRd [1] 0 rfl rfl) hz26).mono ?_;rintro _ w27 ⟨rfl,e28⟩;refine⟨_,rfl,?_⟩;have hI29:=hI23.ext e28;refine pz 2 rfl ?_;refine gs (t:=27) h16 rfl (fun hg30 h16=>?_) (fun hg30 h16=>?_)
   . skip;refine pz 6 rfl ?_;refine Reg.nil ?_;obtain rfl:=so h16;refine⟨rfl,true,⟨(hI29.sel [1] rfl),((x24.trans (Adv.of_ext e28)).trans (ABP (σ:=[ownR [] (A9 .i64) 3 v21 ([account]:List Int),rowR 90 b1 zR]) [1])),rfl⟩,sb rfl⟩
   . skip;refine pz 2 rfl ?_;refine Reg.take rfl rfl ?_;refine AEC (E:=(A9 .i64)) (xs:=[day,known]) AV6 hI29 rfl rfl (Cls.cons rfl (Cls.cons rfl Cls.nil)) (Chs.cons ⟨rfl,f_day_0⟩ (Chs.cons ⟨rfl,f_known_0⟩ Chs.nil)) rfl rfl ?_;intro v31 w32 hI33 x34;refine Reg.take rfl rfl ?_;obtain⟨z35,hz36,h16⟩:=C5 h16;refine G6 rfl call66 rfl ?_;refine(AGR (hI33.sel [1,2] rfl).mlt ((hG.adv hI33.adv).adv (ABP (σ:=[ownR [] (A9 .i64) 3 v31 ([day,known]:List Int),ownR [] (A9 .i64) 3 v21 ([account]:List Int),rowR 90 b1 zR]) [1,2])) (by decide) (by decide) (hI33.lendRd [1,2] 0 rfl rfl) hz36).mono ?_;rintro _ w37 ⟨rfl,e38⟩;refine⟨_,rfl,?_⟩;have hI39:=hI33.ext e38;refine pz 2 rfl ?_;refine Reg.nil ?_;obtain rfl:=so h16;refine⟨rfl,!z35,⟨(hI39.sel [2] rfl),((x24.trans ((Adv.of_ext e28).trans (x34.trans (Adv.of_ext e38)))).trans (ABP (σ:=[ownR [] (A9 .i64) 3 v31 ([day,known]:List Int),ownR [] (A9 .i64) 3 v21 ([account]:List Int),rowR 90 b1 zR]) [2])),rfl⟩,sb rfl⟩
 rintro x17 w18 ⟨hI19,hA20,rfl⟩;refine cc h rfl (fun hc40 h=>?_) (fun hc40 h=>?_)
 . skip;refine cr ?_;refine AEy [(0,4),(4,4),(8,4),(12,4),(16,4),(20,4),(24,2),(26,1)] zeroValue90 rfl underlying90 (fun _=>by simp[sizeOf5,sizeOf86,sizeOf88]) rfl (Cls.nil) rfl rfl ?_;refine N2 0 hI19 rfl rfl rfl rfl sizeOf90 rfl rfl on27 ?_;intro w41 hI42 x43;refine pz 1 rfl ?_;refine Reg.nil ?_;refine C0 ?_;obtain rfl:=AaO h;refine H2 results38 (AllRs.cons (RsOk.agg rfl (hI42.row 0 rfl).rd.cells isAgg90 rfl sizeOf90) (AllRs.cons (RsOk.tmp rfl) (AllRs.nil))) rfl ?_;exact⟨[_,_],rfl,⟨_,_,rfl,⟨_,zR_ok,.inl ⟨rfl,rfl⟩⟩,_,rfl,okN (by decide)⟩,hI42.kp⟩
 refine E2 ?_;refine cr ?_;refine pz 4 rfl ?_;obtain⟨z44,hz45,h⟩:=C5 h;refine G6 rfl call73 rfl ?_;refine(AJh hI19.mlt (hG.adv hI19.adv) (f_l_0.adv hI19.adv) f_account_0 f_day_0 f_known_0 hz45).mono ?_;rintro _ w46 ⟨v48,rfl,hf49,e47⟩;refine⟨_,rfl,?_⟩;have hI50:=hI19.ext e47;refine P5 hI50 zeroValue146 rfl rfl ?_;intro b51 w52 hI53 x54;refine N2 0 hI53 rfl rfl rfl rfl sizeOf146 rfl rfl (one1 (RdS.oneC hf49) one0) ?_;intro w55 hI56 x57;obtain⟨hC59,hI58⟩:=hI56.fz 0 rfl;refine Reg.nil ?_;refine cr ?_;refine P5 hI58 zeroValue90 rfl rfl ?_;intro b60 w61 hI62 x63;refine Reg.nil ?_;refine A3 ?_;refine cr ?_;refine G6 rfl call74 rfl ?_;refine(AH3 hI62.mlt).mono ?_;rintro _ w64 ⟨v66,rfl,hf67,e65⟩;refine⟨_,rfl,?_⟩;have hI68:=hI62.ext e65;refine AN2 rfl hf67 underlying148 rfl ?_;refine pz 1 rfl ?_;refine Reg.nil ?_;unfold X5 at h;obtain⟨t0,e0,h⟩:=C5 h;obtain⟨t1,e1,h⟩:=C5 h;obtain⟨t2,e2,h⟩:=C5 h;obtain⟨t3,e3,h⟩:=C5 h;obtain⟨t4,e4,h⟩:=C5 h;obtain⟨t5,e5,h⟩:=C5 h;obtain⟨T,hT0,hT1,hT2,hT3,hT4,hT5⟩:∃T:Nat->Told,T 0=t0/\T 1=t1/\T 2=t2/\T 3=t3/\T 4=t4/\T 5=t5:=⟨fun
  |0=>t0
  |1=>t1
  |2=>t2
  |3=>t3
  |4=>t4
  |_=>t5,rfl,rfl,rfl,rfl,rfl,rfl⟩
 have hT:∀i,i<6->AAn z44 i=some (T i)
  |0,_=>hT0▸e0
  |1,_=>hT1▸e1
  |2,_=>hT2▸e2
  |3,_=>hT3▸e3
  |4,_=>hT4▸e4
  |5,_=>hT5▸e5
 have hC:RdC (mm [rowR 90 b60 zR,rowR 90 b1 zR] M) w64 b51 0 [v48]:=hC59.adv (x63.trans (Adv.of_ext e65));have hF:RdS ReportE (mm [rowR 90 b60 zR,rowR 90 b1 zR] M) w64 v48 z44.facts:=hf49.adv (x54.trans (x57.trans ((hI56.eraseH 0).trans (x63.trans (Adv.of_ext e65)))));have hGl:GlOk (P:=prog) (mm [rowR 90 b60 zR,rowR 90 b1 zR] M) w64:=hG.adv hI68.adv;refine C4 ?_;refine AC7 (L:=[(42,.int .i64 0),(41,.int .i64 6),(40,v66),(11,.pointer (some ⟨b51,0,none⟩)),(12,.pointer (some ⟨b60,0,none⟩)),(8,.pointer (some ⟨b1,0,none⟩))]) (sb rfl) ?_;refine AKk 1 (ι:=Nat) (fun i=>[(42,.int .i64 i)]) (fun i W=>i<=6/\∃l:List (Told×Value),l.length=i/\Hp w [] M [rowR 90 b60 (stCs l (6-i)),rowR 90 b1 zR] W/\Adv (mm [rowR 90 b60 zR,rowR 90 b1 zR] M) (mm [rowR 90 b60 zR,rowR 90 b1 zR] M) w64 W/\∀(j:Nat) (p:Told×Value),l[j]?=some p->p.1=T j/\AGS (mm [rowR 90 b60 zR,rowR 90 b1 zR] M) W p.1 p.2) (fun i=>6-i) 0 ⟨Aas _,[],rfl,hI68,Adv.refl _ _,fun j p hj=>by simp at hj⟩ (sb rfl) fun i W hW=>?_;obtain⟨hi,l,hl,hIW,hAW,hlt⟩:=hW;refine cr ?_;refine AEw rfl rfl rfl ?_;refine Reg.nil ?_;refine A3 ?_;refine T4 rfl (fun hc=>?_) (fun hc=>?_)
 . have hi6:i<6:=by have:=AaW hc;omega
   obtain⟨k,fa,ft,hz,ca,ct,hat,htell⟩:=AWA (b:=z44) hi6;refine E2 ?_;refine A3 ?_;refine C4 ?_;refine cr ?_;refine AN5 (z:=[.int .u8 k,.func (.func fa) #[] #[],.func (.func ft) #[] #[]]) rfl rfl (hf67.adv hAW) hz underlying148 sizeOf153 rfl ?_;intro b69 o70 cs71 hR72 hC73;obtain⟨rfl,_⟩:=hR72;refine pu (vc hC73.cells v0) [199] rfl rfl ?_;refine P5 hIW zeroValue153 rfl rfl ?_;intro b74 w75 hI76 x77;refine N2 0 hI76 rfl rfl rfl rfl sizeOf153 rfl rfl (one1 rfl (one1 rfl (one1 rfl one0))) ?_;intro w78 hI79 x80;obtain⟨hC82,hI81⟩:=hI79.fz 0 rfl;refine Reg.nil ?_;have a81:=hAW.trans (x77.trans (x80.trans (hI79.eraseH 0)));refine AQd hI81 (by rw[AMh];omega) hC82 (hC.adv a81) rfl rfl rfl ca ct hat (fun hm h=>htell hm (hGl.adv (a81.trans h)) (hF.adv (a81.trans h)) (hT i hi6)) ?_;intro L' w112 v100 hb hI114 hA' htok;have hrow:B6 (stCs l (6-i)) (4*i) (tC (T i) v100)=stCs (l++[(T i,v100)]) (6-(i+1)):=by
    rw[show 6-i=6-(i+1)+1 by omega,<-hl];exact AMi _ _ _ l
   have aW:=x77.trans (x80.trans ((hI79.eraseH 0).trans hA'));refine AC7 (L:=[(42,.int .i64 i),(41,.int .i64 6),(40,v66),(11,.pointer (some ⟨b51,0,none⟩)),(12,.pointer (some ⟨b60,0,none⟩)),(8,.pointer (some ⟨b1,0,none⟩))]) (Sub.cons (hb 42 (by decide)) (Sub.cons (hb 41 (by decide)) (Sub.cons (hb 40 (by decide)) (Sub.cons (hb 11 (by decide)) (Sub.cons (hb 12 (by decide)) (Sub.cons (hb 8 (by decide)) (Sub.nil _))))))) ?_;refine A7 ?_;refine ACl (n:=((i+1:Nat):Int)) rfl rfl rfl ⟨by omega,by rw[InK.i64];omega⟩ ?_;refine pz 1 rfl ?_;refine Reg.nil ?_;refine⟨rfl,i+1,⟨by omega,l++[(T i,v100)],by simp[hl],?_,hAW.trans aW,fun j p hj=>?_⟩,Sub.cons rfl (Sub.cons rfl (Sub.cons rfl (Sub.cons rfl (Sub.cons rfl (Sub.cons rfl (Sub.nil _)))))),by omega⟩
   . rw[<-hrow];exact hI114
   . by_cases hj2:j<l.length
     . rw[Aaw hj2]at hj;obtain⟨p1,p2,p3,p4,p5⟩:=hlt j p hj;exact⟨p1,p2,p3,p4,p5.adv aW⟩
     . rw[Aa8 (by omega)]at hj;have hj0:j=l.length:=by
        have:=List.getElem?_eq_some_iff.1 hj;obtain⟨q,_⟩:=this;simp at q;omega
       subst hj0;simp at hj;subst hj;rw[hl];exact⟨rfl,htok⟩
 . have hi6:i=6:=by have:=AaZ hc;omega
   subst hi6;refine T3 ?_;refine J7 ?_;match l,hl with
   |[p0,p1,p2,p3,p4,p5],_=>
   obtain⟨q0,k0⟩:=hlt 0 p0 rfl;obtain⟨q1,k1⟩:=hlt 1 p1 rfl;obtain⟨q2,k2⟩:=hlt 2 p2 rfl;obtain⟨q3,k3⟩:=hlt 3 p3 rfl;obtain⟨q4,k4⟩:=hlt 4 p4 rfl;obtain⟨q5,k5⟩:=hlt 5 p5 rfl;rw[hT0]at q0;rw[hT1]at q1;rw[hT2]at q2;rw[hT3]at q3;rw[hT4]at q4;rw[hT5]at q5;rw[<-q0,<-q1,<-q2,<-q3,<-q4,<-q5]at h;have hst:Holds (P:=prog) w [] M (AWC (State.mk p0.1 p1.1 p2.1 p3.1 p4.1 p5.1 (Span.mk 0 0) 0) z44) [(11,.pointer (some ⟨b51,0,none⟩)),(12,.pointer (some ⟨b60,0,none⟩)),(8,.pointer (some ⟨b1,0,none⟩))] W:=by
    refine⟨[rowR 90 b60 (stCs [p0,p1,p2,p3,p4,p5] 0),rowR 90 b1 zR],fun i=>if i=12 then .pointer (some ⟨b60,0,none⟩) else .pointer (some ⟨b1,0,none⟩),fun i=>if i=12 then stCs [p0,p1,p2,p3,p4,p5] 0 else zR,fun _=>[],fun i=>if i=12 then 0 else 1,hIW,fun i a hi=>?_,fun i j a b hi hj e=>?_,fun i a hi=>?_,fun t s ht=>?_,⟨trivial,hGl.adv hAW⟩⟩
    . replace hi:A1 [(8,_),(12,_)] i=some a:=hi;rw[fnd_cons]at hi;split at hi
      . rename_i e;subst e;cases hi;rfl
      rw[fnd_cons]at hi;split at hi
      . rename_i e;subst e;cases hi;rfl
      cases hi
    . replace hi:A1 [(8,_),(12,_)] i=some a:=hi;replace hj:A1 [(8,_),(12,_)] j=some b:=hj;rw[fnd_cons]at hi hj;split at hi<;>split at hj
      . rename_i e1 e2;rw[<-e1,<-e2]
      . rename_i e1 e2;rw[fnd_cons]at hj;split at hj
        . rename_i e3;subst e1 e3;cases e
        . cases hj
      . rename_i e1 e2;rw[fnd_cons]at hi;split at hi
        . rename_i e3;subst e2 e3;cases e
        . cases hi
      . rw[fnd_cons]at hi hj;split at hi<;>split at hj
        . rename_i e3 e4;rw[<-e3,<-e4]
        . cases hj
        . cases hi
        . cases hi
    . replace hi:A1 [(8,_),(12,_)] i=some a:=hi;rw[fnd_cons]at hi;split at hi
      . rename_i e;subst e;cases hi;exact⟨⟨b1,rfl⟩,AMj AV9⟩
      rw[fnd_cons]at hi;split at hi
      . rename_i e;subst e;cases hi;exact⟨⟨b60,rfl⟩,AB5 k0 (AB5 k1 (AB5 k2 (AB5 k3 (AB5 k4 (AB5 k5 (AC6 (show InK .i64 0 by decide) (AC6 (show InK .i64 0 by decide) (AC6 (show InK .u8 0 by decide) rfl))))))))⟩
      cases hi
    . replace ht:A1 [(8,_),(11,_),(12,_)] t=some s:=ht;rw[fnd_cons]at ht;split at ht
      . rename_i e;subst e;cases ht;exact⟨_,rfl,b1,rfl,rfl⟩
      rw[fnd_cons]at ht;split at ht
      . rename_i e;subst e;cases ht;exact⟨_,rfl,b51,0,_,[v48],rfl,hC.adv hAW,AR2 (hF.adv hAW),rfl⟩
      rw[fnd_cons]at ht;split at ht
      . rename_i e;subst e;cases ht;exact⟨_,rfl,b60,rfl,rfl⟩
      cases ht
   refine AC7 (L:=[(11,.pointer (some ⟨b51,0,none⟩)),(12,.pointer (some ⟨b60,0,none⟩)),(8,.pointer (some ⟨b1,0,none⟩))]) (Sub.cons rfl (Sub.cons rfl (Sub.cons rfl (Sub.nil _)))) ?_;exact AFO AJj AWB AMg ((AWD _ z44).trans h) hst (fun σ2 L2 w2 h2 _ hH2=>AGH AJj (by decide) h2 hH2) fun r' σ2 L2 w2 hp hk hH2=>by
    have hk:r'=r:=AaO hk;subst hk;exact AGH AJj (by decide) hp hH2
end Go.Proofs.YtgioiejbphljoaaGreatDoor
namespace Go.Proofs.YtgioiejbphljoaaGreatDoor
open Go Go.Sx Go.Rx
namespace S
section
variable{s:List Report}{f:Report->Option Bool}{g:Report->Bool}
theorem AR5{α:Type}{D:Nat->α->Option Int}{k:α->Int}{i:Nat}(h:∀y,D i y=some (k y)){a b:α}:AKf D a b [i]=some (cf2 k k a b):=by
 refine Ret.eq ?_;unfold AKf;refine Ret.bind (Ret.loop (fun t:Int=>t=0\/t=1/\P8 (k a) (k b)=0) (fun t=>1-t.toNat) (.inl rfl) ?_);rintro _ (rfl|⟨rfl,e⟩)
 . refine Ret.condT rfl (Ret.bind (Ret.val (show ixo [i] 0=some i from rfl) ?_));rw[h,h,bindS,bindS,p_cmp,bindS];by_cases c:P8 (k a) (k b)=0
   . rw[Aab c];exact Ret.condF rfl (Ret.bind (Ret.chk (by omega) (Ret.next ⟨.inr ⟨rfl,c⟩,by decide⟩)))
   . rw[AaY c];exact Ret.condT rfl (Ret.done (Ret.elimR (Ret.ok (by unfold cf2;rw[if_neg c]))))
 . exact Ret.condF rfl (Ret.done (Ret.elimL (Ret.ok (by unfold cf2;rw[Aac e,e]))))
theorem AR6{F:List Report}(hl:F.length<=1000000){k:Int}:I0 (Book.mk F) k=some (F.filter fun r=>decide (r.kind=k)):=by
 refine Ret.eq ?_;unfold I0;refine Ret.bind (C9 F.length (fun n (t:Int×List Report)=>t.1=n/\t.2=(F.take n).filter fun r=>decide (r.kind=k)) ⟨rfl,rfl⟩ ?_ ?_)
 . rintro n hlt ⟨_,X⟩ ⟨rfl,hX⟩;dsimp only at hX;have hXl:X.length<=n:=by rw[hX];exact Aad (AbD ..) (by rw[Aa3];omega)
   refine Ret.condT (ltT hlt) (Ret.bind (O2 hlt (Ret.bind (Ret.cond (fun c=>Ret.bind (Ret.appo (by simp only[List.length_singleton];omega) (by simp only[List.length_singleton];omega) (Ret.ok (Ret.bind (Ret.chk (by omega) (Ret.next ⟨by dsimp only;omega,?_⟩)))))) fun c=>Ret.ok (Ret.bind (Ret.chk (by omega) (Ret.next ⟨by dsimp only;omega,?_⟩)))))))
   . dsimp only;rw[P9 hlt,Abb,hX,Aa5,Aac c];rfl
   . dsimp only;rw[P9 hlt,Abb,hX,Aa5,if_neg (by rw[c];decide)];simp
 . rintro⟨_,X⟩ ⟨rfl,hX⟩;dsimp only at hX;rw[Aay]at hX;exact Ret.condF (ltF (Aae _)) (Ret.done (Ret.ok hX))
theorem AUE(hl:s.length<=1000000):O8 s=some s:=by
 unfold O8;have h2:appo 64 ([]:List Report) s=some s:=ABv (xs:=([]:List Report)) (by simp;omega) (by simp;omega);refine AJm (fun h=>?_) ?_
 . rw[h];rfl
 . show (appo 64 ([]:List Report) s).bind (fun l7=>some l7)=some s;rw[h2,bindS]
theorem AYH{L:List Report}(hn:(L.map (·.id)).Nodup)(hl:L.length<=1000000):Ret (ABD L) fun X=>X.length<=1000000:=by
 unfold ABD;rw[AUE hl,bindS];have ho:=AIu (x:=L) (cmp:=fun a b=>F3 a b [108]) (k1:=fun x:Report=>x.id) (k2:=fun x:Report=>x.id) (fun a b=>AR5 (D:=fd160.D) fun _=>rfl) (fun a b ha hb e _=>Z5 hn a b ha hb e) hl;refine Ret.bind (Ret.bind (ho.mono fun m hm=>Ret.ok ?_));have hml:=hm.1.length_eq;refine Ret.bind (C9 m.length (fun n (t:Int×List Int)=>t.1=n/\t.2.length=n) ⟨rfl,rfl⟩ ?_ ?_)
 . rintro n hlt ⟨_,X⟩ ⟨rfl,hX⟩;dsimp only at hX;exact Ret.condT (ltT hlt) (Ret.bind (O2 hlt (Ret.bind (Ret.appo (by simp only[List.length_singleton];omega) (by simp only[List.length_singleton];omega) (Ret.bind (Ret.chk (by omega) (Ret.next ⟨by dsimp only;omega,by simp[hX]⟩)))))))
 . rintro⟨_,X⟩ ⟨rfl,hX⟩;dsimp only at hX;exact Ret.condF (ltF (Aae _)) (Ret.done (Ret.ok (by rw[hX];omega)))
def TB(t:Told):Prop:=t.by_.length<=1000000
theorem AQe{L:List Report}(hn:(L.map (·.id)).Nodup)(hl:L.length<=1000000){only:Bool}:Ret (Q2 L only) TB:=by
 unfold Q2;refine Ret.cond (fun _=>Ret.ok (Aas _)) fun c=>?_;have c:=AaZ c;refine Ret.bind (O2 (n:=0) (by omega) (E7 (AYH hn hl) fun ids hids=>?_));refine Ret.bind (C9 L.length (fun n (t:Int×Int×Int)=>t.1=n) rfl ?_ ?_)
 . rintro n hlt ⟨_,x,y⟩ rfl;refine Ret.condT (ltT hlt) (Ret.bind (O2 hlt ?_));rw[show U7 L[n] L[0] only=some (decide (L[n].cents=L[0].cents)&&(!only||decide (L[n].about=L[0].about))) by unfold U7;cases decide (L[n].cents=L[0].cents)<;>cases only<;>rfl,bindS]
   refine Ret.bind (Ret.cond (fun _=>Ret.ok ?_) fun _=>Ret.ok ?_)<;>exact Ret.bind (Ret.chk (by omega) (Ret.next (by dsimp only;omega)))
 . rintro⟨_,x,y⟩ rfl;exact Ret.condF (ltF (Aae _)) (Ret.done (Ret.ok hids))
theorem AYI(h:∀x∈s,f x=some (g x))(hl:s.length<=1000000){Q:Int->Prop}(h1:(∀x∈s,g x=false)->Q (-1))(h2:∀(n:Nat) (hn:n<s.length),g s[n]=true->(∀x∈s.take n,g x=false)->Q n):Ret (AAw s f) Q:=AD7 h hl h1 h2
theorem AYJ(h:∀x∈s,f x=some (g x))(hl:s.length<=1000000){Q:List Report->Prop}(hQ:Q (s.filter fun x=>!g x)):Ret (N6 s f) Q:=by
 unfold N6;refine Ret.bind (AYI h hl (fun h1=>?_) fun n hn h1 h2=>?_)
 . refine Ret.condT rfl (Ret.ok ?_);rw[List.filter_eq_self.2 fun x hx=>by rw[h1 x hx];rfl]at hQ;exact hQ
 . refine Ret.condF (AaY (by omega)) (Ret.bind (Ret.chk (by omega) ?_));have h0:s.take n=(s.take (n+1)).filter fun x=>!g x:=by
    rw[P9 hn,Abb,List.filter_eq_self.2 fun x hx=>by rw[h2 x hx];rfl];simp[h1]
   refine Ret.bind (Ret.loop (fun t:Int×Int×List Report=>∃i j:Nat,t.1=i/\t.2.1=j/\i<=j/\j<=s.length/\t.2.2.length=s.length/\t.2.2.drop j=s.drop j/\t.2.2.take i=(s.take j).filter fun x=>!g x) (fun t=>s.length-t.2.1.toNat) ⟨n,n+1,rfl,rfl,by omega,by omega,rfl,rfl,h0⟩ ?_);rintro⟨_,_,X⟩ ⟨i,j,rfl,rfl,hij,hj,hX,hd,ht⟩;dsimp only at hX hd ht ⊢;refine Ret.cond (fun h3=>?_) fun h3=>?_
   . have hlt:j<s.length:=by have:=AaW h3;omega
     have hXj:X[j]?=some s[j]:=by
      have:=AaX (fun l:List Report=>l[0]?) hd;simp only[List.getElem?_drop,Nat.add_zero]at this;rw[this,AaV hlt]
     have hst:(s.take (j+1)).filter (fun x=>!g x)=(s.take j).filter (fun x=>!g x)++if g s[j] then [] else [s[j]]:=by
      rw[P9 hlt,Abb];cases c:g s[j]<;>simp[c]
     have hd':X.drop (j+1)=s.drop (j+1):=by rw[<-AcL,hd,AcL]
     refine Ret.bind (Ret.bind (Ret.ixo hXj (Ret.bind (Ret.val (h _ (Aak hlt)) (Ret.bind ?_)))));refine Ret.cond (fun h4=>?_) fun h4=>?_
     . have hXi:X[i]?=some (X[i]'(by omega)):=AaV (by omega);refine Ret.bind (Ret.ixo hXi (Ret.bind (Ret.seto (by omega) (Ret.bind (Ret.chk (by omega) (Ret.ok (Ret.ok (Ret.bind (Ret.chk (by omega) (Ret.next ⟨⟨i+1,j+1,by dsimp only;omega,by dsimp only;omega,by omega,by omega,(by rw[Ab4];exact hX),?_,?_⟩,by dsimp only;omega⟩))))))))))
       . rw[List.drop_set_of_lt (by omega)];exact hd'
       . have h5:g s[j]=false:=by simpa using h4
         rw[hst,h5,Ab8,AbZ (by omega),List.take_set_of_le (by omega),ht];rfl
     . have h5:g s[j]=true:=by simpa using h4
       refine Ret.ok (Ret.ok (Ret.bind (Ret.chk (by omega) (Ret.next ⟨⟨i,j+1,rfl,by dsimp only;omega,by omega,by omega,hX,hd',?_⟩,by dsimp only;omega⟩))));rw[hst,h5,ht];simp
   . have hge:j=s.length:=by have:=AaZ h3;omega
     subst hge;refine Ret.done ?_;dsimp only;rw[Aay]at ht;refine Ret.bind (Ret.val (by unfold AA4;rw[Aac ⟨by omega,by omega⟩]) (Ret.bind (Ret.val (by unfold AAG;rw[Aac ⟨by omega,by simp;omega⟩]) (Ret.ok ?_))));rw[show((i:Int).toNat)=i from rfl,List.take_append_of_le_length (by rw[Aa3];omega),List.take_take,Nat.min_self,ht];exact hQ
end
structure FO(F:List Report):Prop where
 nd:(F.map (·.id)).Nodup
 len:F.length<=60
 c:∀r∈F,0<=r.cents/\r.cents<=1000000000000
section
variable{F:List Report}{k:Int}{d:Int}
theorem FO.filter(h:FO F)(p:Report->Bool):FO (F.filter p):=
 ⟨(Abq _ AbE).nodup h.nd,Aad (AbD ..) h.len,fun r hr=>h.c r (List.mem_filter.1 hr).1⟩
theorem AMk(h:FO F):Ret (G3 (Book.mk F) k) TB:=by
 unfold G3;have hl:=h.len;rw[AR6 (by omega),bindS];have hf:=h.filter fun r=>decide (r.kind=k);exact E7 (AQe hf.nd (by have:=hf.len;omega)) fun t ht=>Ret.ok ht
theorem AMl(h:FO F):Ret (J1 (Book.mk F) k) TB:=by
 unfold J1;have hl:=h.len;rw[AR6 (F:=F) (by omega),bindS];have hf:=h.filter fun r=>decide (r.kind=k);generalize (F.filter fun r=>decide (r.kind=k))=L at hf;have hll:=hf.len;refine Ret.cond (fun _=>Ret.ok (Aas _)) fun c=>?_;have c:=AaZ c;rw[show(L.length:Int)-1=((L.length-1:Nat):Int) by omega];refine Ret.bind (Ret.chk (by omega) (Ret.bind (O2 (by omega) (Ret.bind (AYJ (g:=fun r=>decide (r.about<(L[L.length-1]'(by omega)).about)) (fun x _=>rfl) (by omega) ?_)))));have hg:=hf.filter fun x=>!decide (x.about<(L[L.length-1]'(by omega)).about);exact E7 (AQe hg.nd (by have:=hg.len;omega)) fun t ht=>Ret.ok ht
theorem AEu(h:FO F):∀i,Ret (AAn (Book.mk F) i) TB
 |0=>AMk h
 |1=>AMl h
 |2=>AMl h
 |3=>AMl h
 |4=>AMk h
 |_+5=>AMk h
def AWE(m:A4 Int Span):Prop:=∃l,Lists m l/\l.length<=60/\∀d sp,m d=some sp->(0<=sp.lo/\sp.lo<=60000000000000)/\0<=sp.hi/\sp.hi<=60000000000000
def PdM(m:A4 Payer Int)(d:Int)(sp:Span):Prop:=(∃p,p.day=d/\m p=some sp.lo)/\(∃p,p.day=d/\m p=some sp.hi)/\∀p z,p.day=d->m p=some z->sp.lo<=z/\z<=sp.hi
theorem PdM.uniq{m:A4 Payer Int}{a b:Span}(h:PdM m d a)(k:PdM m d b):a=b:=by
 obtain⟨⟨p1,h1,e1⟩,⟨p2,h2,e2⟩,h3⟩:=h;obtain⟨⟨q1,k1,f1⟩,⟨q2,k2,f2⟩,k3⟩:=k;have a1:=k3 _ _ h1 e1;have a2:=k3 _ _ h2 e2;have a3:=h3 _ _ k1 f1;have a4:=h3 _ _ k2 f2;cases a;cases b
 simp only[Span.mk.injEq]at *;omega
def PdE(l:List (Payer×Int))(d:Int)(sp:Span):Prop:=(∃e∈l,e.1.day=d/\e.2=sp.lo)/\(∃e∈l,e.1.day=d/\e.2=sp.hi)/\∀e∈l,e.1.day=d->sp.lo<=e.2/\e.2<=sp.hi
theorem PdE.m{m:A4 Payer Int}{l:List (Payer×Int)}(hl:Lists m l){d:Int}{sp:Span}(h:PdE l d sp):PdM m d sp:=by
 obtain⟨⟨e1,g1,g2,g3⟩,⟨e2,g4,g5,g6⟩,g7⟩:=h;exact⟨⟨e1.1,g2,by rw[<-g3];exact(hl.2 _ _).1 g1⟩,⟨e2.1,g5,by rw[<-g6];exact(hl.2 _ _).1 g4⟩,fun p z hp hz=>g7 (p,z) ((hl.2 _ _).2 hz) hp⟩
theorem AWF(h:FO F):Ret (O3 (Book.mk F)) AWE:=by
 unfold O3;have hl:=h.len;rw[AR6 (F:=F) (by omega),bindS];have hf:=h.filter fun r=>decide (r.kind=4);generalize (F.filter fun r=>decide (r.kind=4))=L at hf;have hll:=hf.len;refine Ret.bind (C9 L.length (fun n (t:Int×A4 Payer Int)=>t.1=n/\(∃l,Lists t.2 l/\l.length<=n)/\∀p z,t.2 p=some z->0<=z/\z<=n*1000000000000) ⟨rfl,⟨[],Lists.nil,Aae _⟩,fun p z h=>by simp[fnone]at h⟩ ?_ ?_)
 . rintro n hlt ⟨_,m⟩ ⟨rfl,⟨l,h1,h2⟩,h3⟩;dsimp only at h1 h2 h3;have hc:=hf.c L[n] (Aak hlt);have hg:0<=(m (Payer.mk L[n].about L[n].source)).getD 0/\(m (Payer.mk L[n].about L[n].source)).getD 0<=n*1000000000000:=by
    cases hq:m (Payer.mk L[n].about L[n].source) with
    |some z=>exact h3 _ _ hq
    |none=>exact⟨Int.le_refl _,by show(0:Int)<=_;omega⟩
   refine Ret.condT (ltT hlt) (Ret.bind (O2 hlt (Ret.bind (Ret.bind (Ret.ok ?_)))));refine Ret.bind (Ret.chk (by omega) (Ret.ok (Ret.bind (Ret.chk (by omega) (Ret.next ⟨by dsimp only;omega,?_,fun p z hp=>?_⟩)))))
   . obtain⟨l',h4,h5⟩:=AFX h1 (Payer.mk L[n].about L[n].source) ((m (Payer.mk L[n].about L[n].source)).getD 0+L[n].cents);exact⟨l',h4,by omega⟩
   . dsimp only[B4]at hp;split at hp
     . cases hp;omega
     . have:=h3 p z hp;omega
 . rintro⟨_,m⟩ ⟨rfl,⟨l,h1,h2⟩,h3⟩;dsimp only at h1 h2 h3;refine Ret.condF (ltF (Aae _)) (Ret.done (Ret.bind ?_));have hall:∀l',Lists m l'->∃s:A4 Int Span,List.foldlM (fun (x96:A4 Int Span) (y97:Payer×Int)=>(some ((x96 y97.1.day).getD (Span.mk 0 0))).bind fun y114=>((cond (!((x96 y97.1.day).isSome)) (some (y97.2,y97.2)) (some (y114.lo,y114.hi))).bind fun (x132,x133)=>some (x132,x133)).bind fun (x134,x135)=>some (B4 x96 y97.1.day (Span.mk (min x134 y97.2) (max x135 y97.2)))) fnone l'=some s/\(∃q,Lists s q/\q.length<=l'.length)/\∀d,(s d=none->∀e∈l',e.1.day≠d)/\∀sp,s d=some sp->PdE l' d sp:=fun l' hl'=>by
    obtain⟨x,h4,h5⟩:=ABa (f:=fun (x96:A4 Int Span) (y97:Payer×Int)=>(some ((x96 y97.1.day).getD (Span.mk 0 0))).bind fun y114=>((cond (!((x96 y97.1.day).isSome)) (some (y97.2,y97.2)) (some (y114.lo,y114.hi))).bind fun (x132,x133)=>some (x132,x133)).bind fun (x134,x135)=>some (B4 x96 y97.1.day (Span.mk (min x134 y97.2) (max x135 y97.2)))) (fun pre (x:A4 Int Span)=>(∃q,Lists x q/\q.length<=pre.length)/\∀d,(x d=none->∀e∈pre,e.1.day≠d)/\∀sp,x d=some sp->PdE pre d sp) l' [] fnone ⟨⟨[],Lists.nil,Aae _⟩,fun d=>⟨fun _ e he=>by simp at he,fun sp h=>by simp[fnone]at h⟩⟩ (fun pre y x hy hx=>by
     obtain⟨⟨q,hq1,hq2⟩,hx⟩:=hx;have key:∀lo hi:Int,PdE (pre++[y]) y.1.day (Span.mk lo hi)->(∃q,Lists (B4 x y.1.day (Span.mk lo hi)) q/\q.length<=(pre++[y]).length)/\∀d,(B4 x y.1.day (Span.mk lo hi) d=none->∀e∈pre++[y],e.1.day≠d)/\∀sp,B4 x y.1.day (Span.mk lo hi) d=some sp->PdE (pre++[y]) d sp:=fun lo hi hp=>by
      obtain⟨q',h6,h7⟩:=AFX hq1 y.1.day (Span.mk lo hi);refine⟨⟨q',h6,by simp;omega⟩,fun d=>?_⟩;by_cases c:d=y.1.day
      . subst c;simp only[B4,if_true];exact⟨fun h=>(by cases h),fun sp h=>(by cases h;exact hp)⟩
      . simp only[B4,if_neg c];refine⟨fun h e he h9=>?_,fun sp h=>?_⟩
        . rcases mem_append.1 he with he|he
          . exact(hx d).1 h e he h9
          . have:e=y:=by simpa using he
            subst this;exact c h9.symm
        . obtain⟨⟨e1,g1,g2⟩,⟨e2,g4,g5⟩,g7⟩:=(hx d).2 sp h;refine⟨⟨e1,AaR _ g1,g2⟩,⟨e2,AaR _ g4,g5⟩,fun e he h9=>?_⟩;rcases mem_append.1 he with he|he
          . exact g7 e he h9
          . have:e=y:=by simpa using he
            subst this;exact absurd h9.symm c
     cases hq:x y.1.day with
     |none=>
      have hno:=(hx _).1 hq
      refine⟨_,by rw[bindS];rfl,key _ _ ?_⟩
      refine⟨⟨y,by simp,rfl,by simp⟩,⟨y,by simp,rfl,by simp⟩,fun e he h9=>?_⟩
      rcases mem_append.1 he with he|he
      . exact absurd h9 (hno e he)
      . have:e=y:=by simpa using he
        subst this;simp
     |some s=>
      obtain⟨⟨e1,g1,g2,g3⟩,⟨e2,g4,g5,g6⟩,g7⟩:=(hx _).2 s hq
      refine⟨_,rfl,key _ _ ⟨?_,?_,fun e he h9=>?_⟩⟩
      . by_cases c:s.lo<=y.2
        . exact⟨e1,AaR _ g1,g2,by dsimp only[Option.getD];rw[g3];omega⟩
        . exact⟨y,by simp,rfl,by dsimp only[Option.getD];omega⟩
      . by_cases c:y.2<=s.hi
        . exact⟨e2,AaR _ g4,g5,by dsimp only[Option.getD];rw[g6];omega⟩
        . exact⟨y,by simp,rfl,by dsimp only[Option.getD];omega⟩
      . dsimp only[Option.getD]
        rcases mem_append.1 he with he|he
        . have:=g7 e he h9;omega
        . have:e=y:=by simpa using he
          subst this;omega)
    rw[Aam]at h5;exact⟨x,h4,h5.1,h5.2⟩
   obtain⟨s,h4,⟨q,h5,h6⟩,h7⟩:=hall l h1;refine⟨s,ASz h1 fun l' hl'=>?_,Ret.ok ⟨q,h5,by omega,fun d sp hd=>?_⟩⟩
   . obtain⟨s',h8,_,h9⟩:=hall l' hl';rw[h8];congr 1;funext d;have no:∀{l1 l2:List (Payer×Int)} {s1 s2:A4 Int Span},Lists m l1->Lists m l2->(∀d,(s1 d=none->∀e∈l1,e.1.day≠d)/\∀sp,s1 d=some sp->PdE l1 d sp)->(∀d,(s2 d=none->∀e∈l2,e.1.day≠d)/\∀sp,s2 d=some sp->PdE l2 d sp)->s1 d=none->s2 d=none:=fun {l1 l2 s1 s2} k1 k2 k3 k4 k5=>by
      cases hs:s2 d with
      |none=>rfl
      |some sp=>
       obtain⟨⟨e,g1,g2,_⟩,_⟩:=(k4 d).2 sp hs
       exact absurd g2 ((k3 d).1 k5 e ((k1.2 e.1 e.2).2 ((k2.2 e.1 e.2).1 g1)))
     cases hs:s' d with
     |none=>exact(no hl' h1 h9 h7 hs).symm
     |some sp=>
      cases ht:s d with
      |none=>rw[no h1 hl' h7 h9 ht]at hs;cases hs
      |some sq=>rw[(((h9 d).2 sp hs).m hl').uniq (((h7 d).2 sq ht).m h1)]
   . obtain⟨⟨p1,_,e1⟩,⟨p2,_,e2⟩,_⟩:=((h7 d).2 sp hd).m h1;have a1:=h3 _ _ e1;have a2:=h3 _ _ e2;omega
theorem AMm{l l':List Int}(h:l.Perm l'):l.sum=l'.sum:=by
 induction h with
 |nil=>rfl
 |cons x _ ih=>simp only[List.sum_cons,ih]
 |swap x y l=>simp only[List.sum_cons];omega
 |trans _ _ h1 h2=>exact h1.trans h2
def SB(s:State):Prop:=TB s.opened/\TB s.limit/\TB s.owed/\TB s.late/\TB s.default/\TB s.closed
theorem AWH(h:FO F){t0 t1 t2 t3 t4 t5:Told}(hb:TB t0/\TB t1/\TB t2/\TB t3/\TB t4/\TB t5):Ret (ABp (State.mk t0 t1 t2 t3 t4 t5 (Span.mk 0 0) 0) (Book.mk F)) fun z=>z.2=0/\SB z.1:=by
 have hB:=hb;unfold ABp;refine E7 (AWF h) fun m hm=>?_;obtain⟨l0,hl0,hlen,hb⟩:=hm;refine AGP hl0 (fun s:Int×Int=>s=((l0.map (·.2.lo)).sum,(l0.map (·.2.hi)).sum)) (fun l hl=>?_) (fun s s' h1 h2=>h1.trans h2.symm) fun s hs=>?_
 . have hp:=hl.one hl0;have hll:l.length<=60:=by rw[hp.length_eq];exact hlen
   have hbe:∀e∈l,(0<=e.2.lo/\e.2.lo<=60000000000000)/\0<=e.2.hi/\e.2.hi<=60000000000000:=fun e he=>hb e.1 e.2 ((hl.2 e.1 e.2).1 he);have key:∀(q p:List (Int×Span)) (x y:Int),p.length+q.length<=60->(0<=x/\x<=p.length*60000000000000)->(0<=y/\y<=p.length*60000000000000)->(∀e∈q,(0<=e.2.lo/\e.2.lo<=60000000000000)/\0<=e.2.hi/\e.2.hi<=60000000000000)->List.foldlM (m:=Option) (s:=(Int×Int)) (α:=Int×Span) (fun (x12,x13) (k14,v15)=>(chk .i64 (x12+v15.lo)).bind fun n16=>(chk .i64 (x13+v15.hi)).bind fun n17=>some (n16,n17)) (x,y) q=some (x+(q.map (·.2.lo)).sum,y+(q.map (·.2.hi)).sum):=by
    intro q;induction q with
    |nil=>intro p x y _ _ _ _;simp
    |cons e q ih=>
     intro p x y h1 h2 h3 h4
     have he:=h4 e (AaT ..)
     simp only[List.length_cons]at h1
     have:=ih (p++[e]) (x+e.2.lo) (y+e.2.hi) (by simp;omega) (by simp;omega) (by simp;omega) fun z hz=>h4 z (AaQ _ hz)
     rw[AbM]
     show ((chk .i64 (x+e.2.lo)).bind _).bind _=_
     rw[AI1 (by omega),bindS,AI1 (by omega),bindS,bindS,this]
     simp only[List.map_cons,List.sum_cons]
     rw[Int.add_assoc,Int.add_assoc]
   have h1:=key l [] 0 0 (by simp;omega) (by simp) (by simp) hbe;refine⟨_,h1,?_⟩;rw[Int.zero_add,Int.zero_add,AMm (hp.map (·.2.lo)),AMm (hp.map (·.2.hi))]
 . obtain⟨x,y⟩:=s;dsimp only;refine Ret.bind ?_;refine Ret.cond (fun _=>Ret.ok (Ret.ok ⟨rfl,hB⟩)) fun _=>Ret.bind (Ret.cond (fun _=>Ret.ok (Ret.ok (Ret.ok ⟨rfl,hB⟩))) fun _=>Ret.bind (Ret.cond (fun _=>Ret.ok ?_) fun _=>Ret.ok ?_))<;>refine Ret.bind (Ret.cond (fun _=>Ret.ok (Ret.ok (Ret.ok (Ret.ok ⟨rfl,hB⟩)))) fun _=>Ret.bind (Ret.cond (fun _=>Ret.ok (Ret.ok (Ret.ok (Ret.ok (Ret.ok ⟨rfl,hB⟩))))) fun _=>Ret.ok (Ret.ok (Ret.ok (Ret.ok (Ret.ok ⟨rfl,hB⟩))))))
theorem AWI(h:FO F):∃s,X5 (Book.mk F)=some (s,0)/\SB s:=by
 obtain⟨z,h1,h2,h3⟩:Ret (X5 (Book.mk F)) fun z=>z.2=0/\SB z.1:=by
  unfold X5;exact E7 (AEu h 0) fun _ b0=>E7 (AEu h 1) fun _ b1=>E7 (AEu h 2) fun _ b2=>E7 (AEu h 3) fun _ b3=>E7 (AEu h 4) fun _ b4=>E7 (AEu h 5) fun _ b5=>AWH h ⟨b0,b1,b2,b3,b4,b5⟩
 exact⟨z.1,by rw[h1,<-h2],h3⟩
def ofA(a day:Int)(r:Report):Bool:=decide (r.account=a)&&decide (r.about<=day)
theorem AWK{l:List Report}(h:VL l){out:List Report}(hs:St l k out):FO out:=by
 have hK:=ACD h k;refine⟨(hs.perm.map _).nodup_iff.2 (AJd hK),by rw[hs.perm.length_eq];exact AKh hK,fun r hr=>?_⟩;obtain⟨o,ho,h7,hw,rfl⟩:=T_mem.1 (hs.perm.mem_iff.1 hr);have hz:=ACE (K:=P1 l k) ho;have hv:=hK.v o ho;obtain⟨_,_,_,_,_,_,_,hv,_⟩:=hv;have hm:most o.kind<=1000000000000:=by unfold most;split<;>(try split)<;>omega
 unfold fix;cases hb:AJc (P1 l k) o with
 |none=>exact⟨hv.1,Int.le_trans hv.2 hm⟩
 |some c=>
  rw[hb]at hz
  obtain⟨_,_,⟨hc1,hc2⟩,_⟩:=hz.2.1
  exact⟨hc1,by dsimp only;omega⟩
theorem AZq{l:List Report}(h:VL l){r:Report}(hr:r∈T (P1 l k)):InR r:=by
 have hK:=ACD h k;obtain⟨o,ho,h7,hw,rfl⟩:=T_mem.1 hr;have hz:=ACE (K:=P1 l k) ho;unfold fix;have h1:=ARs (hK.v o ho);cases hb:AJc (P1 l k) o with
 |none=>exact h1
 |some c=>
  rw[hb]at hz
  have h2:=ARs (hK.v c hz.1)
  exact⟨h1.1,h1.2.1,h1.2.2.1,h1.2.2.2.1,h2.2.2.2.2.1,h1.2.2.2.2.2.1,h2.2.2.2.2.2.2.1,h1.2.2.2.2.2.2.2⟩
theorem ANr{l:List Report}(h:VL l){a day known:Int}(ha:0<=a/\a<=999999)(hd:0<=day/\day<=100000)(hk:0<=known/\known<=100000):∃out s,St l known out/\SB s/\X5 (Book.mk (out.filter (ofA a day)))=some (s,0)/\M9 l a day known=some (s,0):=by
 obtain⟨b,h1,out,h2,h3⟩:Ret (X4 l a day known) fun b=>∃out,St l known out/\b=Book.mk (out.filter (ofA a day)):=by
  unfold X4;refine Ret.bind (AQT h fun D hD=>Ret.bind (ANh (ACD h known) hD fun out h1 h2=>?_));have hs:St l known out:=⟨h1,h2⟩;rw[Aac ⟨by have:=(AWK h hs).len;omega,fun r hr=>AZq h (h1.mem_iff.1 hr)⟩];exact Ret.ok ⟨out,hs,rfl⟩
 subst h3;obtain⟨s,hs,hsb⟩:=AWI ((AWK h h2).filter (ofA a day));refine⟨out,s,h2,hsb,hs,Ret.eq ?_⟩;unfold M9;rw[AGv h,bindS];refine Ret.condF (by decide) (Ret.bind ?_);rw[AGG (by simp),bindS,show([a].all (inB 0 999999))=true by simp[inB,ha]];refine Ret.condF rfl ?_;rw[AGG (by simp),bindS,show([day,known].all (inB 0 100000))=true by simp[inB,hd,hk]];exact Ret.ok (Ret.condF rfl (X9 h1 (Ret.val hs rfl)))
end
end S
end Go.Proofs.YtgioiejbphljoaaGreatDoor
namespace Go.Proofs.YtgioiejbphljoaaGreatDoor
open Go Go.Sx Go.Rx Go.RowKit
section
variable{M:List Nat}{w:World}{w0:World}{L:A8}{σ:AS}
theorem ANs:GxOk prog gxb:=B1 trivial
theorem C33(hM:MLt M w)(hg:GlOk (P:=prog) M w):Calls prog 33 #[] w fun e w'=>∃vr vx va,e=.returned (.agg (toArray [.int .i64 30,.int .i64 100,.int .i64 60,vr,vx,va]))/\Sx.Own (enc (P:=prog) (.st 1)) 45 0 (ob vr++M) w' vr D0.reports/\(∀b∈ob vr,w.heap.size<=b)/\Ext w w':=by
 have h0:Holds (P:=prog) w [] M ⟨[],[],[],[]⟩ (T7 0 []) w:=Holds.start hM (fun t s ht=>by cases ht) ⟨trivial,hg⟩;refine ABQ (l:=[]) (fn:=f33) func33 rfl rfl rfl ?_;refine A3 ?_;refine ABY ANs (by exact rfl) h0 fun L1 w1 hE1 h1=>?_;refine A3 ?_;refine ABY ANs (by exact rfl) h1 fun L2 w2 hE2 h2=>?_;have h3:=AFQ (env':=[(0,.ptr 0 0)]) (res':=[(14,.own false (.sl 60 (.st 3)) D0.answers),(9,.own false (.sl 53 (.st 2)) D0.disputes),(5,.own false (.sl 45 (.st 1)) D0.reports),(0,.row 28 [.int .i64 30,.int .i64 100,.int .i64 60,.own 5,.own 9,.own 14])]) h2 ⟨rfl,trivial⟩ fun _=>rfl;clear h1 h2;obtain⟨S,ρ,γ,μ,ι,hS⟩:=h3;obtain⟨v0,l0,bb0,hb0,rfl⟩:=hS.env 0 (.ptr 0 0) rfl;obtain⟨b0,e0,r0,o0,i0⟩:=hS.rowAt (i:=0) (e:=28) (l:=[.int .i64 30,.int .i64 100,.int .i64 60,.own 5,.own 9,.own 14]) rfl;rw[hb0]at e0;cases e0;obtain⟨qa,g4,k0,oa⟩:=AAj o0;obtain⟨qb,ea,k1,ob⟩:=AAj oa;obtain⟨qc,eb,k2,oc⟩:=AAj ob;obtain⟨qd,ec,od⟩:=AC5 oc;obtain⟨qe,ed,oe⟩:=AC5 od;obtain⟨qf,ee,of⟩:=AC5 oe;have of:qf=[]:=of;rw[of]at ee;rw[ee]at ed;rw[ed]at ec;rw[ec]at eb;rw[eb]at ea;rw[ea]at g4;rw[g4]at r0;have i5:=hS.res 5 (.own false (.sl 45 (.st 1)) D0.reports) rfl;refine C0 ?_;have ho:=ALQ (P:=prog) (c:=.sl 45 (.st 1)) (x:=D0.reports) (v:=ρ 5) hS.hp (ι 5) i5;exact FinM.of (H2 (rs:=[.cell 0 28]) (vs:=[_]) rfl (.cons (.agg l0 r0.rd.cells isAgg28 rfl sizeOf28) .nil) rfl ⟨ρ 5,ρ 9,ρ 14,rfl,ho.1,ho.2,hS.hp.kp⟩)
def AMn:Gx:={ gxb with fs:=[(14,ctr14),(16,ctr16),(18,ctr18),(19,ctr19),(24,ctr24),(31,ctr31),(32,ctr32),(33,ctr33),(37,ctr37),(54,ctr54)] }
theorem J2:GxOk prog AMn:=B1 ⟨⟨ok14,call14⟩,⟨⟨ok16,call16⟩,⟨⟨ok18,call18⟩,⟨⟨ok19,call19⟩,⟨⟨ok24,call24⟩,⟨⟨ok31,call31⟩,⟨⟨ok32,call32⟩,⟨⟨ok33,call33⟩,⟨⟨ok37,call37⟩,⟨⟨ok54,call54⟩,trivial⟩⟩⟩⟩⟩⟩⟩⟩⟩⟩
def APG:Code->Nat->List Oper
 |.region _ o _,0=>o.toList
 |.seq a _,0=>APG a 0
 |.seq _ b,n+1=>APG b n
 |_,_=>[]
noncomputable def c21:Code:=match Tryz.f21.body with
 |some c=>c
 |none=>.skip
def o21:List Oper:=APG c21 4
theorem H7[Trk][Sg][Sf]{P:Program}[Se P][Sl (P:=P)][Anch]{Mu M:List Nat}{G:Gx}{N:Nat}{ds:List Deferred}{A B:A5}{X:Nat->A5}{Z:List PanicEntry->A5}{all l:List Oper}{σ σ':AS}{Y:Type}{o:Option Y}{x:Y}{K:Y->Option AS}(hG:GxOk P G)(n:Nat)(hH:Holds (P:=P) w0 Mu M σ L w)(hb:o=some x)(h:D3 G N all some (l.take n) σ=Option.bind o K)(hk:K x=some σ')(hA:∀L' w',EnvS (C2 (l.take n)) L L'->Holds (P:=P) w0 Mu M σ' L' w'->Reg P N (toArray all) .seq (l.drop n) ds L' w' A B X Z):Reg P N (toArray all) .seq l ds L w A B X Z:=by
 have:=Holds.ops (P:=P) (A:=A) (B:=B) (X:=X) (Z:=Z) (ds:=ds) (l:=l.take n) (rest:=l.drop n) hG (by rw[h,hb];exact hk) hH hA;rwa [Aby]at this
def r33:List Report:=[Report.mk 51 70 5 50 10 8 450 1,Report.mk 52 70 5 72 0 9 0 2]
def s33(σ:AS)(l:List Report):AS:=apps (some 50) ([.del 49 (.dat (.sl (.st 1)) r33)]++[.hnd 46 (.own false (.sl 45 (.st 1)) l),.put (.own 46)]) { σ with env:=(43,.bool true)::σ.env }
theorem AYK(_:Holds (P:=prog) w0 [] M σ L w)(e:D3 AMn Tryz.f21.ntmps o21 some (List.take 1 (List.drop 27 o21)) σ=AE6 AMn 50 (A1 σ.res) (fun l=>some (apps (some 50) l { σ with env:=(43,.bool true)::σ.env })) .append [.own 46,.own 49] [24,24])(e2:AE6 AMn 50 (A1 σ.res) (fun l=>some (apps (some 50) l { σ with env:=(43,.bool true)::σ.env })) .append [.own 46,.own 49] [24,24]=AOI 50 (A1 σ.res) (fun l=>some (apps (some 50) l { σ with env:=(43,.bool true)::σ.env })) 45 (.st 1) 64 [.del 49 (.dat (.sl (.st 1)) r33)] [49] r33 (.own 46))(e3:A1 σ.res 46=some (AR.own false (.sl 45 (.st 1)) D0.reports)):
  D3 AMn Tryz.f21.ntmps o21 some (List.take 1 (List.drop 27 o21)) σ=(appo 64 D0.reports r33).bind fun l=>some (s33 σ l):=by
 rw[e,e2]
 unfold AOI
 dsimp only
 rw[e3]
 kernel_rfl
theorem AMv[Trk][Sg][Sf]{P:Program}[Se P][Anch]{w0 w:World}{Mu M:List Nat}{L:A8}{σ:AS}{env':List (Nat×SV)}{res':List (Nat×AR)}(h:Holds (P:=P) w0 Mu M σ L w)(hE:AllE σ.env env')(hr:σ.res=res'):Holds (P:=P) w0 Mu M ⟨env',res',[],[]⟩ L w:=AFQ h hE fun j=>by rw[hr]
theorem ok21:Ctr.ok prog 21 ctr21:=by
 refine⟨by decide,fun M w a vals r hM hg ha hr=>?_⟩;have ha:vals=[]:=ha;subst ha;have hr:T5=some r:=hr;unfold T5 at hr;by_cases hA:AMe;rotate_left
 . rw[if_neg hA]at hr;cases hr
 rw[Aac hA]at hr;cases hr
 obtain⟨l,x,due,a1,a2,a3,b1,b2,b3,b4,b5,b6,e1,e2,e3⟩:=hA;have h0:Holds (P:=prog) w [] M ⟨[],[],[],[]⟩ (T7 0 []) w:=Holds.start hM (fun t s ht=>by cases ht) ⟨trivial,hg⟩;refine ABQ (l:=[]) (fn:=Tryz.f21) func21 rfl rfl rfl ?_;refine A3 ?_;refine ABY J2 (by exact rfl) h0 fun L1 w1 hE1 h1=>?_;refine A3 ?_;refine ABn J2 h1 a1 (by exact rfl) (by exact rfl) fun L2 w2 hE2 h2=>?_;refine A3 ?_;refine ABn J2 h2 a2 (by exact rfl) (by exact rfl) fun L3 w3 hE3 h3=>?_;refine A3 ?_;refine ABn J2 h3 a3 (by exact rfl) (by exact rfl) fun L4 w4 hE4 h4=>?_;refine A3 ?_;refine A7 ?_;show Reg prog _ (toArray o21) .seq o21 _ _ _ _ _ _ _;refine H7 J2 2 h4 b1 (by exact rfl) (by exact rfl) fun L5 w5 hE5 h5=>?_;refine H7 J2 3 h5 b2 (by exact rfl) (by exact rfl) fun L6 w6 hE6 h6=>?_;refine H7 J2 3 h6 b3 (by exact rfl) (by exact rfl) fun L7 w7 hE7 h7=>?_;refine H7 J2 3 h7 b4 (by exact rfl) (by exact rfl) fun L8 w8 hE8 h8=>?_;refine H7 J2 3 h8 b5 (by exact rfl) (by exact rfl) fun L9 w9 hE9 h9=>?_;refine H7 J2 3 h9 b6 (by exact rfl) (by exact rfl) fun L10 w10 hE10 h10=>?_;refine H7 J2 5 h10 (o:=some ()) (x:=()) (K:=fun _=>_) rfl (by exact rfl) (by exact rfl) fun L11 w11 hE11 h11=>?_;have hg43:=h11.slotB (t:=43) (b:=true) rfl;obtain⟨S,ρ,γ,μ,ι,hS⟩:=h11;refine Reg.take (j:=20) (t:=43) rfl hg43 ?_;refine G6 (xs:=[]) (vs:=[]) rfl call33 rfl ?_;refine(C33 (M:=mm S M) hS.hp.mlt hS.anch.2).mono fun e w12 h=>?_;obtain⟨vr,vx,va,rfl,hown,hnew,hext⟩:=h;refine⟨_,rfl,?_⟩;refine Reg.take (j:=20) (t:=43) rfl hg43 ?_;refine AQg (cs:=[.int .i64 30,.int .i64 100,.int .i64 60,vr,vx,va]) rfl underlying28 rfl isAgg24 rfl rfl ?_;obtain⟨q1,q2⟩:=AJL (d:=none) hS hext (i:=46) (c:=.sl 45 (.st 1)) (x:=D0.reports) (v:=vr) ⟨trivial,hown,hnew⟩;have h12:Holds (P:=prog) w [] M _ _ w12:=⟨_,_,_,_,_,q1.put (d:=46) (s:=.own 46) (v:=vr) (q2 _)⟩;have h13:=h12.toL (L2:=(46,vr)::(45,.agg (toArray [.int .i64 30,.int .i64 100,.int .i64 60,vr,vx,va]))::L11) (fun t s ht=>by
  have n45:¬45=t:=fun e=>by
   subst e;cases (show none=some s from ht)
  by_cases e46:46=t
  . rw[look_cons,Aac e46,look_cons,Aac e46]
  . rw[look_cons,if_neg e46,look_cons,if_neg n45,look_cons,if_neg e46])
 have happ:appo 64 D0.reports r33=some l33:=ABv (by decide) (by decide);refine H7 J2 3 h13 (o:=some ()) (x:=()) (K:=fun _=>_) rfl (by exact rfl) (by exact rfl) fun L13 w13 hE13 h14=>?_;refine H7 J2 1 h14 happ (AYK h14 (by exact rfl) (by exact rfl) (by exact rfl)) rfl fun L14 w14 hE14 h15=>?_;have h16:=AMv (env':=[(43,.bool true),(44,.own 9),(50,.own 46),(3,.own 15),(4,.int .i64 0),(5,.own 20),(6,.int .i64 0)]) (res':=[(46,.own false (.sl 45 (.st 1)) l33),(20,.own false (.sl 3 (.int .i64)) due),(15,.own false (.sl 70 (.st 6)) x),(9,.own false (.sl 45 (.st 1)) l)]) h15 ⟨by kernel_rfl,by kernel_rfl,by kernel_rfl,by kernel_rfl,by kernel_rfl,by kernel_rfl,by kernel_rfl,trivial⟩ (by kernel_rfl);clear h1 h2 h3 h4 h5 h6 h7 h8 h9 h10 h12 h13 h14 h15 q1 q2;refine H7 J2 1 h16 e1 (by exact rfl) (by exact rfl) fun L17 w17 hE17 h17=>?_;refine H7 J2 12 h17 e2 (by exact rfl) (by exact rfl) fun L18 w18 hE18 h18=>?_;refine H7 J2 9 h18 e3 (by exact rfl) (by exact rfl) fun L19 w19 hE19 h19=>?_;refine H7 J2 2 h19 (o:=some ()) (x:=()) (K:=fun _=>_) rfl (by exact rfl) (by exact rfl) fun L20 w20 hE20 h20=>?_;refine Reg.nil ?_;refine C0 ?_;exact FinM.of (AGH J2 (cs:=[.d .bool]) rfl (by exact rfl) h20)
end
def X6(d:Desk)(day:Int)(before:Int)(id:Int)(about:Int):Option Bool:=(T5).bind fun r1=>Option.bind (α:=(Bool)) ((ABC d day).bind fun r3=>cond ((!r3)) (some true) (cond (decide (before<0)) (some true) (cond (decide (day<before)) (some true) (cond (decide (id<0)) (some true) (cond (decide (999999<id)) (some true) (cond (decide (about<0)) (some true) (cond (decide (100000<about)) (some true) (some (!r1))))))))) ((fun x4=>cond (x4) (some r1) ((K4 d day).bind fun (r5,r6)=>(K4 d before).bind fun (r7,r8)=>Option.bind (α:=(Bool)) (cond ((!decide (r6=0))) (some true) (some (!decide (r8=0)))) ((fun x9=>cond (x9) (Option.bind (α:=(Bool)) (cond (r1) (cond (decide (r6=9)) (cond (decide (r8=0)) (some true) (some (decide (r8=9)))) (some false)) (some false)) ((fun x10=>some x10))) (Option.bind (α:=(Bool×(List Report))) (cond (decide ((r5.length:Int)<(r7.length:Int))) (some (true,r5)) (cond (decide ((r7.length:Int)<(d.reports.length:Int))) (some (true,r5)) ((AAG r5 (r7.length:Int)).bind fun l15=>(J0 l15 r7).bind fun r16=>cond ((!r16)) (some (true,r5)) ((AAG r5 (d.reports.length:Int)).bind fun l17=>(J0 l17 d.reports).bind fun r18=>some ((!r18),r5))))) ((fun (x19,x20)=>cond (x19) (some false) ((AA4 x20 (r7.length:Int)).bind fun l21=>(B7 (S:=(Int)) (R:=(Unit⊕Bool)) (fun x26=>cond (decide (x26<(l21.length:Int))) ((ixo l21 x26).bind fun y27=>Option.bind (α:=(Bool)) (cond (decide (y27.made<=before)) (some true) (some (decide (day<y27.made)))) ((fun x28=>cond (x28) (some (Sum.inr (Sum.inr false))) ((chk .i64 (x26+1)).bind fun n29=>some (Sum.inl n29))))) (some (Sum.inr (Sum.inl ())))) (0:Int)).bind ((Sum.elim (fun _=>(M9 x20 id about before).bind fun (r30,r31)=>(M9 r7 id about before).bind fun (r32,r33)=>Option.bind (α:=(Bool)) (cond (r1) (cond (decide (r31=0)) (cond (decide (r33=0)) ((V8 r30 r32).bind fun r35=>some r35) (some false)) (some false)) (some false)) ((fun x36=>some x36))) (fun r37=>some r37))))))))))))
def AZr:An:=.nd (.x) (.nd (.x) (.nd (.nd (.jn [.norm ⟨[(.slot 55,.d .bool)],[5]⟩] (.x)) (.x)) (.nd (.x) (.nd (.x) (.nd (.nd (.jn [.norm ⟨[(.slot 74,.d .bool)],[66,60,5]⟩] (.x)) (.nd (.nd (.jn [.norm ⟨[(.slot 10,.d .bool)],[]⟩] (.x)) (.x)) (.x))) (.nd (.nd (.jn [.norm ⟨[(.slot 120,.d .bool),(.slot 12,.d (.sl (.st 1)))],[66]⟩] (.x)) (.x)) (.nd (.nd (.x) (.lp ⟨[(.slot 126,.d (.int .i64))],[66]⟩ [.exit 0 ⟨[],[66]⟩,.ret] (.nd (.x) (.nd (.x) (.nd (.nd (.x) (.nd (.jn [.norm ⟨[(.slot 139,.d .bool)],[66]⟩] (.x)) (.x))) (.x)))))) (.nd (.x) (.nd (.x) (.nd (.jn [.norm ⟨[(.slot 10,.d .bool)],[]⟩] (.x)) (.x)))))))))))
def AYL:Ctr:=⟨[.d (.st 4),.d (.int .i64),.d (.int .i64),.d (.int .i64),.d (.int .i64)],[.d .bool],fun a=>X6 a.1 a.2.1 a.2.2.1 a.2.2.2.1 a.2.2.2.2.1⟩
theorem ok11:Ctr.ok prog 11 AYL:=B0 (G:={ gxb with fs:=[(14,ctr14),(18,ctr18),(21,ctr21),(22,ctr22),(38,ctr38),(39,ctr39)] }) (an:=AZr) (B1 ⟨⟨ok14,call14⟩,⟨⟨ok18,call18⟩,⟨⟨ok21,call21⟩,⟨⟨ok22,call22⟩,⟨⟨ok38,call38⟩,⟨⟨ok39,call39⟩,trivial⟩⟩⟩⟩⟩⟩) func11 rfl rfl rfl rfl (fun a=>by kernel_rfl)
end Go.Proofs.YtgioiejbphljoaaGreatDoor
namespace Go.Proofs.YtgioiejbphljoaaGreatDoor
open Go Go.Sx Go.Rx
namespace S
theorem ABb{t:Told}(h:TB t):F5 t t=some true:=by
 unfold F5;rw[AKL h];simp only[decide_true];rfl
theorem APH{s:State}(h:SB s):V8 s s=some true:=by
 obtain⟨h0,h1,h2,h3,h4,h5⟩:=h;unfold V8;rw[ABb h0,ABb h1,ABb h2,ABb h3,ABb h4,ABb h5];simp only[decide_true];rfl
theorem AQf{k:Int}{b:List Report}(hb:∀r∈b,k<r.made):∀(a:List Report),P1 (a++b) k=P1 a k
 |[]=>by
  have:∀(b:List Report),(∀r∈b,k<r.made)->P1 b k=[]:=fun b=>by
   induction b with
   |nil=>intro _;rfl
   |cons r b ih=>
    intro h
    have h1:=h r (AaT ..)
    unfold P1
    rw[if_neg (fun h2=>by omega)]
    exact ih fun x hx=>h x (AaQ _ hx)
  exact this b hb
 |x::a=>by
  show(if x.made<=k/\x∉P1 (a++b) k then x::P1 (a++b) k else P1 (a++b) k)=if x.made<=k/\x∉P1 a k then x::P1 a k else P1 a k
  rw[AQf hb a]
theorem AIy{k:Int}:∀{m:List Report},m.Pairwise (le2 (·.made) (·.id))->m=m.filter (fun r=>decide (r.made<=k))++m.filter fun r=>!decide (r.made<=k)
 |[],_=>rfl
 |r::m,h=>by
  rw[List.pairwise_cons]at h;have ih:=AIy (k:=k) h.2;by_cases c:r.made<=k
  . rw[Aa5,Aac (Aab c),Aa5,if_neg (by simp[c]),AbH,<-ih]
  . have h1:m.filter (fun r=>decide (r.made<=k))=[]:=List.filter_eq_nil_iff.2 fun x hx h9=>by
     have h8:=h.1 x hx;have h9:=AaW h9;unfold le2 at h8;dsimp only at h8;omega
    have h2:m.filter (fun r=>!decide (r.made<=k))=m:=List.filter_eq_self.2 fun x hx=>by
     have h8:=h.1 x hx;unfold le2 at h8;dsimp only at h8;simp;omega
    rw[Aa5,if_neg (by simp[c]),Aa5,Aac (by simp[c]),h1,h2];rfl
theorem AMo{d:Desk}{day before:Int}(hb:before<=day):AAD d before=(AAD d day).filter fun r=>decide (r.made<=before):=by
 unfold AAD ACc;rw[Aau,Aau,List.filter_map,List.filter_filter];congr 1;refine AcU fun x hx=>?_;rw[Bool.eq_iff_iff];simp only[Bool.and_eq_true,decide_eq_true_eq,Function.comp];rw[AMY];unfold wh;constructor
 . intro h;split at h
   . rename_i c;exact⟨c,by rw[Aac (by omega)];exact h⟩
   . split at h<;>omega
 . rintro⟨c,h⟩;rw[Aac (by omega)]at h;rw[Aac c];exact h
theorem AR7{d:Desk}{day:Int}{r:Report}(h:r∈AAD d day):r.made<=day:=by
 unfold AAD at h;obtain⟨y,hy,rfl⟩:=mem_map.1 h;rw[decd_mem]at hy;obtain⟨_,h3,h4⟩:=hy;rw[AMY,h4];unfold wh at h3;split at h3
 . assumption
 . split at h3<;>omega
theorem AIz(h21:T5=some true){d:Desk}(hin:InD d){day before id about:Int}:X6 d day before id about=some true:=by
 refine Ret.eq ?_;unfold X6;rw[h21,bindS];refine Ret.bind (E7 (ATs hin) fun b hb=>?_);cases b with
 |false=>exact Ret.condT rfl (Ret.ok (Ret.condT rfl (Ret.ok rfl)))
 |true=>
 obtain⟨hv,hd0,hd1⟩:=hb rfl;refine Ret.condF rfl (Ret.cond (fun _=>Ret.ok (Ret.condT rfl (Ret.ok rfl))) fun c0=>Ret.cond (fun _=>Ret.ok (Ret.condT rfl (Ret.ok rfl))) fun c1=>Ret.cond (fun _=>Ret.ok (Ret.condT rfl (Ret.ok rfl))) fun c2=>Ret.cond (fun _=>Ret.ok (Ret.condT rfl (Ret.ok rfl))) fun c3=>Ret.cond (fun _=>Ret.ok (Ret.condT rfl (Ret.ok rfl))) fun c4=>Ret.cond (fun _=>Ret.ok (Ret.condT rfl (Ret.ok rfl))) fun c5=>Ret.ok (Ret.condF rfl ?_));have c0:=AaZ c0;have c1:=AaZ c1;have c2:=AaZ c2;have c3:=AaZ c3;have c4:=AaZ c4;have c5:=AaZ c5;have hlr:=hv.r.len;refine E7 (AH2 hv ⟨hd0,hd1⟩) fun z1 hz1=>E7 (AH2 hv (day:=before) ⟨by omega,by omega⟩) fun z2 hz2=>?_;have hz10:=hz1;have hz20:=hz2;rcases hz1 with⟨g1,rfl⟩|⟨g1,m1,p1,q1,rfl⟩
 . refine Ret.bind (Ret.condT (by decide) (Ret.ok (Ret.condT rfl (Ret.bind (Ret.condT rfl (Ret.condT (by decide) ?_))))));rcases hz2 with⟨g2,rfl⟩|⟨g2,m2,p2,q2,rfl⟩
   . exact Ret.condF (by decide) (Ret.ok (Ret.ok (by decide)))
   . exact Ret.condT rfl (Ret.ok (Ret.ok rfl))
 have hle:(AAD d before).length<=(AAD d day).length:=by rw[AMo (d:=d) (day:=day) (before:=before) (by omega)];exact AbD ..
 rcases hz2 with⟨g2,rfl⟩|⟨g2,m2,p2,q2,rfl⟩
 . omega
 have hm2:m2=m1.filter fun r=>decide (r.made<=before):=by
  refine AB3 (p2.trans ?_) q2 (q1.filter _) fun a b ha hb _ e=>Z5 (AG0 hv) a b (p2.mem_iff.1 ha) (p2.mem_iff.1 hb) e;rw[AMo (d:=d) (day:=day) (before:=before) (by omega)];exact(p1.filter _).symm
 obtain⟨rest,hrest⟩:∃rest,rest=m1.filter fun r=>!decide (r.made<=before):=⟨_,rfl⟩;have hm1:m1=m2++rest:=by rw[hm2,hrest];exact AIy q1
 have hr:∀r∈rest,before<r.made/\r.made<=day:=fun r hr=>by
  rw[hrest]at hr;obtain⟨h1,h2⟩:=List.mem_filter.1 hr;have h2:¬r.made<=before:=by simpa using h2
  exact⟨by omega,AR7 (p1.mem_iff.1 h1)⟩
 have hl1:(d.reports++m1).length<=60:=by rw[Aaf,p1.length_eq];exact g1
 have hl2:(d.reports++m2).length<=60:=by rw[Aaf,p2.length_eq];exact g2
 have hcut:d.reports++m1=(d.reports++m2)++rest:=by rw[hm1,Aax]
 refine Ret.bind (Ret.condF rfl (Ret.ok (Ret.condF rfl ?_)));refine Ret.bind (Ret.condF (AaY (by rw[hcut];simp only[List.length_append];omega)) (Ret.condF (AaY (by simp only[List.length_append];omega)) ?_));refine Ret.bind (Ret.val (show AAG (d.reports++m1) ((d.reports++m2).length:Int)=some (d.reports++m2) by
  unfold AAG;rw[Aac ⟨by omega,by rw[hcut];simp only[List.length_append];omega⟩,Int.toNat_natCast,hcut,List.take_left'];rfl) ?_)
 rw[ADh (by omega),bindS];refine Ret.condF rfl (Ret.bind (Ret.val (show AAG (d.reports++m1) (d.reports.length:Int)=some d.reports by
  unfold AAG;rw[Aac ⟨by omega,by simp only[List.length_append];omega⟩,Int.toNat_natCast,List.take_left'];rfl) ?_))
 rw[ADh (by omega),bindS];refine Ret.ok (Ret.condF rfl (Ret.bind (Ret.val (show AA4 (d.reports++m1) ((d.reports++m2).length:Int)=some rest by
  unfold AA4;rw[Aac ⟨by omega,by rw[hcut];simp only[List.length_append];omega⟩,Int.toNat_natCast,hcut,List.drop_left'];rfl) ?_)))
 have hrl:rest.length<=60:=by rw[hcut]at hl1;simp only[List.length_append]at hl1;omega
 refine Ret.bind (C9 rest.length (fun n (t:Int)=>t=n) rfl ?_ ?_)
 . rintro n hlt _ rfl;have hx:=hr _ (Aak hlt);refine Ret.condT (ltT hlt) (Ret.bind (O2 hlt (Ret.bind (Ret.condF (AaY (by omega)) (Ret.ok ?_)))));rw[AaY (by omega)];exact Ret.condF rfl (Ret.bind (Ret.chk (by omega) (Ret.next (by omega))))
 rintro _ rfl;refine Ret.condF (ltF (Aae _)) (Ret.done (Ret.elimL ?_));have v1:=AMd hv hz10 rfl;have v2:=AMd hv hz20 rfl;obtain⟨o1,s1,st1,sb1,e1,e2⟩:=ANr v1 (a:=id) (day:=about) (known:=before) ⟨by omega,by omega⟩ ⟨by omega,by omega⟩ ⟨by omega,by omega⟩;obtain⟨o2,s2,st2,sb2,e3,e4⟩:=ANr v2 (a:=id) (day:=about) (known:=before) ⟨by omega,by omega⟩ ⟨by omega,by omega⟩ ⟨by omega,by omega⟩;have hk:P1 (d.reports++m1) before=P1 (d.reports++m2) before:=by rw[hcut];exact AQf (fun r h=>(hr r h).1) _
 have ho:o1=o2:=(St.uniq v2 (known:=before) (a:=o1) (b:=o2) ⟨by rw[<-hk];exact st1.perm,st1.ord⟩ st2);subst ho;have hs:s1=s2:=by
  have:=e1.symm.trans e3;cases this;rfl
 subst hs;refine X9 e2 (X9 e4 ?_);dsimp only;refine Ret.bind (Ret.condT rfl (Ret.condT rfl (Ret.condT rfl ?_)));rw[APH sb1,bindS];exact Ret.ok (Ret.ok rfl)
end S
end Go.Proofs.YtgioiejbphljoaaGreatDoor
end
