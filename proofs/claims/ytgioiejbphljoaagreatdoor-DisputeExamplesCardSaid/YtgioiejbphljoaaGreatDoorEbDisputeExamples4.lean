/-
  Part DisputeExamples 4 of the texts that the statement's proof stands on: what memory holds, how code is walked, what the functions reckon. In the order in which they build.
-/
import Derived.Test.YtgioiejbphljoaaGreatDoorEbDisputeExamples3
open List (mem_append mem_singleton replicate toArray)
open Nat (beq blt)
set_option linter.unusedVariables false
set_option linter.unusedSectionVars false
noncomputable section
namespace Go.Rx
open Go Go.Sx Go.RowKit
variable[Trk][Sg][Sf]{P:Program}[Se P][Anch]{w0 w w':World}{Mu M:List Nat}{σ:AS}{L:A7}{S:List Res}{ρ:Nat->Value}{γ:Nat->List Value}{μ:Nat->List Nat}{ι:Nat->Nat}{N:Nat}{ops:Array Oper}{ds:List Deferred}{B:A3}{X:Nat->A3}{Z:List PanicEntry->A3}{d:Nat}{ty:TypeId}{pos:String}{af:Array Edge}{k:IntKind}{x:Operand}{s:SV}{D:List Nat}{b:Bool}{i:Int}{t:TypeId}{n:Int}
theorem ARK{x:Int}(h:AJl k x=true):InK k x:=by
 cases k<;>simp only[AJl,Bool.and_eq_true,decide_eq_true_eq]at h<;>first|cases h;done|skip
 all_goals first|exact InK.i64.2 h|exact InK.u8.2 h|exact InK.u16.2 h|exact InK.u32.2 h
theorem HS.ev[Fx](h:HS w0 Mu M σ L w S ρ γ μ ι)(hx:B2 σ.env x=some s):∃v,Sx.ev L x=some v/\Ok ρ (A1 σ.res) (mm S M) w s v:=by
 cases x with
 |tmp t=>exact h.env t s hx
 |const v=>
  refine⟨v,rfl,?_⟩
  have hx:AJm v=some s:=hx
  cases v with
  |int k x=>
   have hx:(bif AJl k x then some (SV.int k x) else none)=some s:=hx
   cases I:AJl k x with
   |true=>rw[I,cond_true]at hx;cases hx;exact⟨rfl,ARK I⟩
   |false=>rw[I,cond_false]at hx;exact(A2 hx).elim
  |bool b=>
   have hx:SV.bool b=s:=AXz hx
   subst hx;exact rfl
  |slice a n c=>
   have H:(match (generalizing:=false) a,n,c with
    |none,0,0=>some SV.nilS
    |_,_,_=>none)=some s:=hx
   clear hx
   split at H
   . cases H;exact rfl
   . exact(A2 H).elim
  |map a=>
   cases a with
   |none=>
    have hx:SV.raw (.map none)=s:=AXz hx
    subst hx;exact⟨rfl,rfl,rfl⟩
   |some _=>exact(A2 hx).elim
  |pointer a=>
   cases a with
   |none=>
    have hx:SV.raw (.pointer none)=s:=AXz hx
    subst hx;exact⟨rfl,rfl,rfl⟩
   |some _=>exact(A2 hx).elim
  |_=>exact(A2 hx).elim
 |global g=>exact⟨_,rfl,h.anch.2 g s hx _ _⟩
 |func f=>
  have hx:SV.fn f []=s:=AXz hx
  subst hx
  exact⟨_,rfl,[],rfl,rfl⟩
def EnvS(D:List Nat)(L L':A7):Prop:=∀t,t∉D->Sx.A5 L' t=Sx.A5 L t
theorem EnvS.refl(D:List Nat)(L:A7):EnvS D L L:=fun _ _=>rfl
theorem EnvS.trans{L1 L2 L3:A7}(h:EnvS D L1 L2)(k:EnvS D L2 L3):EnvS D L1 L3:=fun t H=>(k t H).trans (h t H)
theorem EnvS.mono{D D':List Nat}{L L':A7}(h:EnvS D L L')(hd:∀t∈D,t∈D'):EnvS D' L L':=fun t H=>h t fun hm=>H (hd t hm)
theorem EnvS.put(d:Nat)(L:A7)(v:Value):EnvS [d] L ((d,v)::L):=fun t I=>by
 have H:beq d t=false:=by
  cases J:beq d t with
  |false=>rfl
  |true=>exact absurd (AX5 J).symm (fun e=>I (by rw[e];exact mem_singleton.2 rfl))
 show(bif beq d t then some v else Sx.A5 L t)=Sx.A5 L t
 rw[H,cond_false]
abbrev B7[Fx](P:Program)[Se P](N:Nat)(ops:Array Oper)(ds:List Deferred)(L:A7)(w:World)(o:Oper)(w0:World)(Mu M:List Nat)(σ':AS)(B:A3)(X:Nat->A3)(Z:List PanicEntry->A3):Prop:=
 Reg P N ops .seq [o] ds L w (fun ds' L' w'=>ds'=ds/\EnvS o.dst.toList L L'/\Holds w0 Mu M σ' L' w') B X Z
theorem HS.fin[Fx](h:HS w0 Mu M σ L w S ρ γ μ ι){v:Value}(H:Ok ρ (A1 σ.res) (mm S M) w s v):Reg P N ops .seq [] ds ((d,v)::L) w (fun ds' L' w'=>ds'=ds/\EnvS [d] L L'/\Holds w0 Mu M (apps (some d) [.put s] σ) L' w') B X Z:=
 Reg.nil ⟨rfl,EnvS.put _ _ _,S,ρ,γ,μ,ι,h.put H⟩
theorem AS5[Fx](h:HS w0 Mu M σ L w S ρ γ μ ι)(hN:blt d N=true)(hx:B2 σ.env x=some s):
  B7 P N ops ds L w ⟨some d,.move x,ty,pos,af,none⟩ w0 Mu M (apps (some d) [.put s] σ) B X Z:=by
 obtain⟨v,I,H⟩:=h.ev hx
 exact J3 I hN (h.fin H)
theorem APQ[Fx](h:HS w0 Mu M σ L w S ρ γ μ ι)(hN:blt d N=true)(hx:B2 σ.env x=some s):
  B7 P N ops ds L w ⟨some d,.assign x,ty,pos,af,none⟩ w0 Mu M (apps (some d) [.put s] σ) B X Z:=by
 obtain⟨v,I,H⟩:=h.ev hx
 exact G7 I hN (h.fin H)
theorem AN3[Fx](h:HS w0 Mu M σ L w S ρ γ μ ι)(hN:blt d N=true){c x y:Operand}(V:B2 σ.env c=some (.bool b))(hx:B2 σ.env (bif b then x else y)=some s):
  B7 P N ops ds L w ⟨some d,.pick c x y,ty,pos,af,none⟩ w0 Mu M (apps (some d) [.put s] σ) B X Z:=by
 obtain⟨u,I,H⟩:=h.ev V
 have H:u=Value.bool b:=H
 subst H
 obtain⟨v,U,J⟩:=h.ev hx
 cases b with
 |true=>exact AUT I U hN (h.fin J)
 |false=>exact AUU I U hN (h.fin J)
theorem AHA[Fx](h:HS w0 Mu M σ L w S ρ γ μ ι)(hN:blt d N=true)(hx:B2 σ.env x=some s)(U:(∃v o,s=.rp v o)\/∃i o,s=.ptr i o):
  B7 P N ops ds L w ⟨some d,.nilCheck x,ty,pos,af,none⟩ w0 Mu M (apps (some d) [.put s] σ) B X Z:=by
 obtain⟨v,J,H⟩:=h.ev hx
 rcases U with⟨u,o,rfl⟩|⟨i,o,rfl⟩
 . have I:=H
   obtain⟨b,o0,u',vs,rfl,_⟩:=I
   exact AO9 J hN (h.fin H)
 . have I:=H
   obtain⟨b,_,rfl⟩:=I
   exact AO9 J hN (h.fin H)
theorem AS6[Fx][Sl (P:=P)](h:HS w0 Mu M σ L w S ρ γ μ ι)(hN:blt d N=true){t:Ty}{q:Option (den t)}{y:den t}(hx:B2 σ.env x=some (.np t q))(I:q=some y):
  B7 P N ops ds L w ⟨some d,.nilCheck x,ty,pos,af,none⟩ w0 Mu M (apps (some d) [.put (.rp (G0 t y) 0)] σ) B X Z:=by
 obtain⟨v,C,H⟩:=h.ev hx
 subst I
 rcases H with⟨H,_⟩|⟨y',b,o,vs,H,rfl,W,V⟩
 . cases H
 . cases H
   obtain⟨u,U,J⟩:=J6 V
   exact AO9 C hN (h.fin ⟨b,o,u,vs,rfl,W,E1 t U,J⟩)
theorem HS.int[Fx](h:HS w0 Mu M σ L w S ρ γ μ ι)(hx:B2 σ.env x=some (.int k i)):Sx.ev L x=some (.int k i)/\InK k i:=by
 obtain⟨v,J,I,H⟩:=h.ev hx;subst I;exact⟨J,H⟩
theorem HS.bool[Fx](h:HS w0 Mu M σ L w S ρ γ μ ι)(hx:B2 σ.env x=some (.bool b)):Sx.ev L x=some (.bool b):=by
 obtain⟨v,I,H⟩:=h.ev hx;have H:v=Value.bool b:=H;subst H;exact I
theorem AU7[Fx](h:HS w0 Mu M σ L w S ρ γ μ ι)(hN:blt d N=true)(hx:B2 σ.env x=some (.bool b)):
  B7 P N ops ds L w ⟨some d,.unOp .not t x,ty,pos,af,none⟩ w0 Mu M (apps (some d) [.put (.bool (!b))] σ) B X Z:=
 AUb (h.bool hx) hN (h.fin rfl)
theorem AU8[Fx](h:HS w0 Mu M σ L w S ρ γ μ ι)(hN:blt d N=true)(hx:B2 σ.env x=some (.int k i))(H:chk k (-i)=some n):
  B7 P N ops ds L w ⟨some d,.unOp .neg t x,ty,pos,af,none⟩ w0 Mu M (apps (some d) [.put (.int k n)] σ) B X Z:=
 AUu (h.int hx).1 hN (U5 H) (h.fin ⟨rfl,(U5 H).2⟩)
theorem AN4[Fx](h:HS w0 Mu M σ L w S ρ γ μ ι)(hN:blt d N=true){s t:TypeId}{k k':IntKind}{du:TypeDesc}(J:P.underlying s=some du)(I:P.underlying t=some (.int k'))(hx:B2 σ.env x=some (.int k i))(H:chk k' i=some n):
  B7 P N ops ds L w ⟨some d,.convert s t x,ty,pos,af,none⟩ w0 Mu M (apps (some d) [.put (.int k' n)] σ) B X Z:=
 AUv (h.int hx).1 J I hN (U5 H) (h.fin ⟨rfl,(U5 H).2⟩)
variable{t':TypeId}{y:Operand}{j:Int}
theorem AU9[Fx](h:HS w0 Mu M σ L w S ρ γ μ ι)(hN:blt d N=true){b:BinOp}{r:Bool}(hx:B2 σ.env x=some (.int k i))(hy:B2 σ.env y=some (.int k j))(J:cmp b i j=some r):
  B7 P N ops ds L w ⟨some d,.binOp b t x y t',ty,pos,af,none⟩ w0 Mu M (apps (some d) [.put (.bool r)] σ) B X Z:=by
 have I:=(h.int hx).1
 have H:=(h.int hy).1
 cases b<;>first|(have J:=AXz J;subst J)|exact(A2 J).elim
 . exact AUX I H hN (h.fin rfl)
 . exact AQR I H hN (h.fin rfl)
 . exact AGv I H hN (h.fin rfl)
 . exact AUV I H hN (h.fin rfl)
 . exact AUW I H hN (h.fin rfl)
 . exact AQQ I H hN (h.fin rfl)
theorem AVA[Fx](h:HS w0 Mu M σ L w S ρ γ μ ι)(hN:blt d N=true)(hx:B2 σ.env x=some (.int k i))(hy:B2 σ.env y=some (.int k j))(H:chk k (i+j)=some n):
  B7 P N ops ds L w ⟨some d,.binOp .add t x y t',ty,pos,af,none⟩ w0 Mu M (apps (some d) [.put (.int k n)] σ) B X Z:=
 AQS (h.int hx).1 (h.int hy).1 hN (U5 H) (h.fin ⟨rfl,(U5 H).2⟩)
theorem AVB[Fx](h:HS w0 Mu M σ L w S ρ γ μ ι)(hN:blt d N=true)(hx:B2 σ.env x=some (.int k i))(hy:B2 σ.env y=some (.int k j))(H:chk k (i-j)=some n):
  B7 P N ops ds L w ⟨some d,.binOp .sub t x y t',ty,pos,af,none⟩ w0 Mu M (apps (some d) [.put (.int k n)] σ) B X Z:=
 AUq (h.int hx).1 (h.int hy).1 hN (U5 H) (h.fin ⟨rfl,(U5 H).2⟩)
theorem AVC[Fx](h:HS w0 Mu M σ L w S ρ γ μ ι)(hN:blt d N=true)(hx:B2 σ.env x=some (.int k i))(hy:B2 σ.env y=some (.int k j))(H:chk k (i*j)=some n):
  B7 P N ops ds L w ⟨some d,.binOp .mul t x y t',ty,pos,af,none⟩ w0 Mu M (apps (some d) [.put (.int k n)] σ) B X Z:=
 AUr (h.int hx).1 (h.int hy).1 hN (U5 H) (h.fin ⟨rfl,(U5 H).2⟩)
theorem AVD[Fx](h:HS w0 Mu M σ L w S ρ γ μ ι)(hN:blt d N=true)(hx:B2 σ.env x=some (.int k i))(hy:B2 σ.env y=some (.int k j))(H:AJX k i j=some n):
  B7 P N ops ds L w ⟨some d,.binOp .quo t x y t',ty,pos,af,none⟩ w0 Mu M (apps (some d) [.put (.int k n)] σ) B X Z:=
 AUs (h.int hx).1 (h.int hy).1 hN (AJY H) (h.fin ⟨rfl,AQ8 H⟩)
theorem AVE[Fx](h:HS w0 Mu M σ L w S ρ γ μ ι)(hN:blt d N=true)(hx:B2 σ.env x=some (.int k i))(hy:B2 σ.env y=some (.int k j))(H:AJZ i j=some n):
  B7 P N ops ds L w ⟨some d,.binOp .rem t x y t',ty,pos,af,none⟩ w0 Mu M (apps (some d) [.put (.int k n)] σ) B X Z:=
 AUt (h.int hx).1 (h.int hy).1 hN (AJa H) (h.fin ⟨rfl,AQ9 H (h.int hx).2⟩)
theorem AVF[Fx](h:HS w0 Mu M σ L w S ρ γ μ ι)(hN:blt d N=true)(hx:B2 σ.env x=some (.int k i))(hy:B2 σ.env y=some (.int k j)):
  B7 P N ops ds L w ⟨some d,.binOp .and t x y t',ty,pos,af,none⟩ w0 Mu M (apps (some d) [.put (.int k (AJh k i j))] σ) B X Z:=
 AUy (h.int hx).1 (h.int hy).1 hN (h.fin ⟨rfl,andI_in⟩)
theorem AVG[Fx](h:HS w0 Mu M σ L w S ρ γ μ ι)(hN:blt d N=true){k':IntKind}(hx:B2 σ.env x=some (.int k i))(hy:B2 σ.env y=some (.int k' j))(H:AGC i j k.bits=some n):
  B7 P N ops ds L w ⟨some d,.binOp .shr t x y t',ty,pos,af,none⟩ w0 Mu M (apps (some d) [.put (.int k n)] σ) B X Z:=
 AUw (h.int hx).1 (h.int hy).1 hN H (h.fin ⟨rfl,ARB H (h.int hx).2⟩)
theorem AVH[Fx](h:HS w0 Mu M σ L w S ρ γ μ ι)(hN:blt d N=true){k':IntKind}(hx:B2 σ.env x=some (.int k i))(hy:B2 σ.env y=some (.int k' j))(H:AGD k i j=some n):
  B7 P N ops ds L w ⟨some d,.binOp .shl t x y t',ty,pos,af,none⟩ w0 Mu M (apps (some d) [.put (.int k n)] σ) B X Z:=
 AUx (h.int hx).1 (h.int hy).1 hN H (h.fin ⟨rfl,ARA H⟩)
theorem AVI[Fx](h:HS w0 Mu M σ L w S ρ γ μ ι)(hN:blt d N=true){p q:Bool}(H:P.underlying t=some .bool)(hx:B2 σ.env x=some (.bool p))(hy:B2 σ.env y=some (.bool q)):
  B7 P N ops ds L w ⟨some d,.binOp .eql t x y t',ty,pos,af,none⟩ w0 Mu M (apps (some d) [.put (.bool (p==q))] σ) B X Z:=
 AUz (h.bool hx) (h.bool hy) hN H (h.fin rfl)
theorem AVJ[Fx](h:HS w0 Mu M σ L w S ρ γ μ ι)(hN:blt d N=true){p q:Bool}(H:P.underlying t=some .bool)(hx:B2 σ.env x=some (.bool p))(hy:B2 σ.env y=some (.bool q)):
  B7 P N ops ds L w ⟨some d,.binOp .neq t x y t',ty,pos,af,none⟩ w0 Mu M (apps (some d) [.put (.bool (!(p==q)))] σ) B X Z:=
 AU0 (h.bool hx) (h.bool hy) hN H (h.fin rfl)
end Go.Rx
namespace Go.Rx
open Go Go.Sx Go.RowKit
variable[Trk][Sg][Sf]{P:Program}[Se P]{ρ:Nat->Value}{R:Nat->Option AR}{M:List Nat}{w:World}
theorem ACd:∀(s:SV) {u:Value} {n:Nat},wd s=n+1->Ok ρ R M w s u->u.cells.size=n+1:=by
 intro s u n H h;cases I:one s with
 |true=>
  rw[Ok.cells1 s I h]
  cases s<;>first|exact H|cases I|cases H
 |false=>
  cases s<;>first|cases I;done|cases H;done|skip
  rename_i k m x
  obtain⟨cs,W,J|J⟩:=h
  . obtain⟨_,rfl⟩:=J
    obtain⟨_,V,U,_⟩:=W
    have H:m=n+1:=H
    show(toArray cs).size=_
    rw[U];simp[V,H]
  . cases J.1
theorem AE9:∀(l:List SV) (o:Nat) {s:SV} {vs:List Value},P8 l o=some s->OkL ρ R M w l vs->∃u c r,Ok ρ R M w s u/\u.cells=toArray c/\vs.drop o=c++r
 |[],_,_,_,h,_=>(A2 h).elim
 |s::l,0,s',vs,h,⟨u,c,r,V,U,J,W⟩=>by
  have h:some s=some s':=h;cases h
  exact⟨u,c,r,U,J,by rw[V];rfl⟩
 |s::l,o+1,s',vs,h,⟨u,c,r,V,U,J,W⟩=>by
  simp only[P8]at h;cases H:wd s with
  |zero=>rw[H]at h;exact(A2 h).elim
  |succ n=>
   rw[H]at h
   have hl:=ACd s H U
   rw[J]at hl
   have hl:c.length=n+1:=by simpa using hl
   cases I:Nat.ble n o with
   |false=>simp only[I,cond_false]at h;exact(A2 h).elim
   |true=>
    simp only[I,cond_true]at h
    have C:=AYT I
    obtain⟨u',c',r',F,E,D⟩:=AE9 l (o-n) h W
    refine⟨u',c',r',F,E,?_⟩
    rw[V,AZI,AYp (by omega),AYR,hl,show o+1-(n+1)=o-n by omega,D]
theorem AAG:∀(l:List SV) {m:Nat} {vs:List Value},P9 l=some m->OkL ρ R M w l vs->vs.length=m
 |[],m,vs,h,H=>by
  have H:vs=[]:=H;have h:some 0=some m:=h;cases h;rw[H];rfl
 |s::l,m,vs,h,⟨u,c,r,H,V,U,J⟩=>by
  simp only[P9]at h;cases I:wd s with
  |zero=>rw[I]at h;exact(A2 h).elim
  |succ n=>
   rw[I]at h
   have hl:=ACd s I V
   rw[U]at hl
   have hl:c.length=n+1:=by simpa using hl
   cases hx:P9 l with
   |none=>rw[hx]at h;exact(A2 h).elim
   |some k=>
    rw[hx]at h
    have h:some (n+1+k)=some m:=h
    cases h
    rw[H,AYN,hl,AAG l hx J]
theorem AJ5:∀(l:List SV) (o:Nat) {l':List SV} {vs:List Value},AFR l o=some l'->OkL ρ R M w l vs->OkL ρ R M w l' (vs.drop o)
 |l,0,l',vs,h,J=>by
  have h:some l=some l':=by cases l<;>exact h
  cases h;exact J
 |[],_+1,_,_,h,_=>(A2 h).elim
 |s::l,o+1,l',vs,h,⟨u,c,r,J,C,W,V⟩=>by
  simp only[AFR]at h;cases H:wd s with
  |zero=>rw[H]at h;exact(A2 h).elim
  |succ n=>
   rw[H]at h
   have hl:=ACd s H C
   rw[W]at hl
   have hl:c.length=n+1:=by simpa using hl
   cases I:Nat.ble n o with
   |false=>simp only[I,cond_false]at h;exact(A2 h).elim
   |true=>
    simp only[I,cond_true]at h
    have U:=AYT I
    have:=AJ5 l (o-n) h V
    rw[J,AZI,AYp (by omega),AYR,hl,show o+1-(n+1)=o-n by omega]
    exact this
theorem AJ6:∀(l:List SV) (o:Nat) {l':List SV} {vs:List Value},AD2 l o=some l'->OkL ρ R M w l vs->OkL ρ R M w l' (vs.take o)/\o<=vs.length
 |l,0,l',vs,h,J=>by
  have h:some []=some l':=by cases l<;>exact h
  cases h;exact⟨by rw[List.take_zero];exact rfl,AYh _⟩
 |[],_+1,_,_,h,_=>(A2 h).elim
 |s::l,o+1,l',vs,h,⟨u,c,r,J,V,U,D⟩=>by
  simp only[AD2]at h;cases H:wd s with
  |zero=>rw[H]at h;exact(A2 h).elim
  |succ n=>
   rw[H]at h
   have hl:=ACd s H V
   rw[U]at hl
   have hl:c.length=n+1:=by simpa using hl
   cases I:Nat.ble n o with
   |false=>simp only[I]at h;exact(A2 h).elim
   |true=>
    simp only[I]at h
    have W:=AYT I
    cases hx:AD2 l (o-n) with
    |none=>simp only[hx]at h;exact(A2 h).elim
    |some r'=>
     simp only[hx]at h
     have h:=AXz h
     subst h
     obtain⟨C,E⟩:=AJ6 l (o-n) hx D
     refine⟨⟨u,c,r.take (o-n),?_,V,U,C⟩,?_⟩
     . rw[J,AZb,AYk (by omega),hl,show o+1-(n+1)=o-n by omega]
     . rw[J,AYN];omega
theorem AGQ:∀(s:SV) {u:Value},ADJ s=true->Ok ρ R M w s u->u=.agg u.cells
 |.ary _ _ _,u,_,h=>by
  obtain⟨cs,I,H|H⟩:=h
  . obtain⟨_,rfl⟩:=H;rfl
  . cases H.1
 |.str _ _,u,_,h=>by
  obtain⟨cs,I,H|H⟩:=h
  . obtain⟨_,rfl⟩:=H;rfl
  . cases H.1
 |.agg _,u,_,h=>by obtain⟨vs,rfl,_⟩:=h;rfl
 |.int _ _,_,h,_|.bool _,_,h,_|.dat _ _,_,h,_|.own _,_,h,_|.ptr _ _,_,h,_|.ep _ _ _ _ _,_,h,_|.rp _ _,_,h,_|.fv _ _ _,_,h,_|.fn _ _,_,h,_|.nilS,_,h,_|.np _ _,_,h,_|.it _ _,_,h,_|.raw _,_,h,_|.ap _ _ _ _,_,h,_|.undef,_,h,_|.dead,_,h,_|.tup _,_,h,_=>by cases h
theorem AEI{G:Gx}[Sl (P:=P)]{t o:Nat}{v s:SV}{u:Value}(H:S6 G t o v=some s)(h:Ok ρ R M w v u):
  (lk G.tb.ag t=some 0/\∃x,u.cells.toList[o]?=some x/\Ok ρ R M w s x)\/∃n cs,lk G.tb.ag t=some (n+1)/\cs.length=n/\(∀j y,cs[j]?=some y->u.cells.toList[o+j]?=some y)/\Ok ρ R M w s (.agg (toArray cs)):=by
 have hk:=Ok.cellsOf v h
 unfold S6 at H
 cases Q:lk G.tb.ag t with
 |none=>rw[Q]at H;exact(A2 H).elim
 |some a=>
  rw[Q]at H
  cases a with
  |zero=>
   simp only at H
   cases hx:P8 (Rx.cellsOf v) o with
   |none=>rw[hx]at H;exact(A2 H).elim
   |some s'=>
    rw[hx]at H
    simp only at H
    cases O:one s' with
    |false=>rw[O]at H;exact(A2 H).elim
    |true=>
     rw[O]at H
     have H:=AXz H
     subst H
     obtain⟨x,c,r,D,C,T⟩:=AE9 _ o hx hk
     rw[Ok.cells1 s' O D]at C
     have C:[x]=c:=by simpa using AX9 Array.toList C
     subst C
     refine .inl ⟨rfl,x,?_,D⟩
     have:=AX9 (fun l=>l[0]?) T
     simpa using this
  |succ n=>
   simp only at H
   cases F:P9 (Rx.cellsOf v) with
   |none=>rw[F]at H;exact(A2 H).elim
   |some m=>
    rw[F]at H
    simp only at H
    have V:=AAG _ F hk
    have key:(match AFR (Rx.cellsOf v) o with
     |some l=>match AD2 l n with
      |some r=>match lk G.ty t with
       |some (.arr _ _)=>match r with
        |[s]=>match ADJ s with
         |true=>some s
         |false=>none
        |_=>none
       |_=>some (.agg r)
      |none=>none
     |none=>none)=some s->∃n' cs,some (n+1)=some (n'+1)/\List.length cs=n'/\(∀j y,cs[j]?=some y->u.cells.toList[o+j]?=some y)/\Ok ρ R M w s (.agg (toArray cs)):=fun H=>by
     cases hd:AFR (Rx.cellsOf v) o with
     |none=>rw[hd]at H;exact(A2 H).elim
     |some l1=>
      rw[hd]at H
      simp only at H
      cases K:AD2 l1 n with
      |none=>rw[K]at H;exact(A2 H).elim
      |some l2=>
       rw[K]at H
       simp only at H
       obtain⟨D,C⟩:=AJ6 l1 n K (AJ5 _ o hd hk)
       have W:∀(j:Nat) (y:Value),((u.cells.toList.drop o).take n)[j]?=some y->u.cells.toList[o+j]?=some y:=fun j y hy=>by
        rw[AYa]at hy;split at hy
        . rw[AYu]at hy;exact hy
        . cases hy
       have U:((u.cells.toList.drop o).take n).length=n:=by rw[AYj];omega
       have fin1:SV.agg l2=s->Ok ρ R M w s (.agg (toArray ((u.cells.toList.drop o).take n))):=fun e=>by subst e;exact⟨_,rfl,D⟩
       split at H
       . cases l2 with
         |nil=>exact(A2 H).elim
         |cons s1 r1=>cases r1 with
          |cons _ _=>exact(A2 H).elim
          |nil=>
           simp only at H
           cases I:ADJ s1 with
           |false=>rw[I]at H;exact(A2 H).elim
           |true=>
            rw[I]at H
            have H:=AXz H
            subst H
            obtain⟨x,hx,J⟩:=OkL.one D
            refine⟨n,_,rfl,U,W,?_⟩
            rw[hx,AZk,<-AGQ s1 I J];exact J
       . exact⟨n,_,rfl,U,W,fin1 (AXz H)⟩
    right
    cases E:beq m n with
    |false=>simp only[E]at H;exact key H
    |true=>
     cases o with
     |succ o=>simp only[E]at H;exact key H
     |zero=>
      simp only[E]at H
      have hm:=AX5 E
      cases I:ADJ v with
      |false=>rw[I]at H;exact(A2 H).elim
      |true=>
       rw[I]at H
       have H:=AXz H
       subst H
       exact⟨n,u.cells.toList,rfl,by rw[V,hm],fun j y hy=>by rw[AYQ];exact hy,by rw[AZk,<-AGQ v I h];exact h⟩
end Go.Rx
namespace Go.Rx
open Go Go.Sx Go.RowKit
variable[Trk][Sg][Sf]{P:Program}[Se P][Anch]{w0 w w':World}{Mu M:List Nat}{σ:AS}{L:A7}{S:List Res}{ρ:Nat->Value}{γ:Nat->List Value}{μ:Nat->List Nat}{ι:Nat->Nat}{N:Nat}{ops:Array Oper}{ds:List Deferred}{B:A3}{X:Nat->A3}{Z:List PanicEntry->A3}{d:Nat}{ty:TypeId}{pos:String}{af:Array Edge}{G:Gx}{t:Nat}{o:Nat}{x:Operand}{v:SV}{s:SV}{i:Nat}{e:Nat}{p:Bool}{u:Ty}{xs:List (den u)}
theorem AGR[Fx][Sl (P:=P)](h:HS w0 Mu M σ L w S ρ γ μ ι)(J:GxOk P G)(hN:blt d N=true){t b o0 o:Nat}{u:Value}{vs:List Value}(hx:Sx.ev L x=some (.pointer (some ⟨b,o0+o,none⟩)))(V:Cells w b o0 vs)(W:u.cells=toArray vs)(hv:Ok ρ (A1 σ.res) (mm S M) w v u)(C:S6 G t o v=some s):
  B7 P N ops ds L w ⟨some d,.load t x,ty,pos,af,none⟩ w0 Mu M (apps (some d) [.put s] σ) B X Z:=by
 have hl:u.cells.toList=vs:=by rw[W]
 rcases AEI C hv with⟨H,y,I,U⟩|⟨n,cs,H,I,U,D⟩
 . rw[hl]at I
   exact V9 hx (V o y I) (ACR J.ag H) hN (h.fin U)
 . refine AAs (cs:=cs) hx (fun j y hy=>?_) (AgOk.at1 J.ag H).1 I (AgOk.at1 J.ag H).2 hN (h.fin D)
   have:=U j y hy
   rw[hl]at this
   have:=V (o+j) y this
   rwa [<-AYs]at this
theorem ARL[Fx][Sl (P:=P)](h:HS w0 Mu M σ L w S ρ γ μ ι)(I:GxOk P G)(hN:blt d N=true)(hx:B2 σ.env x=some (.rp v o))(H:S6 G t o v=some s):
  B7 P N ops ds L w ⟨some d,.load t x,ty,pos,af,none⟩ w0 Mu M (apps (some d) [.put s] σ) B X Z:=by
 obtain⟨u,W,b,o0,u',vs,rfl,V,U,J⟩:=h.ev hx
 exact AGR h I hN W V.cells J U H
theorem HS.rowAt[Fx](h:HS w0 Mu M σ L w S ρ γ μ ι){l:List SV}(hi:A1 σ.res i=some (.row e l)):∃b,ρ i=.pointer (some ⟨b,0,none⟩)/\Row e w b (γ i)/\OkL ρ (A1 σ.res) (mm S M) w l (γ i)/\S[ι i]?=some (rowR e b (γ i)):=by
 obtain⟨⟨b,I⟩,hl⟩:=h.row i _ hi;have H:=h.res i _ hi;have H:S[ι i]?=some (rowR e (blk (ρ i)) (γ i)):=H;rw[I]at H;exact⟨b,I,h.hp.row (ι i) H,hl,H⟩
theorem ARM[Fx][Sl (P:=P)](h:HS w0 Mu M σ L w S ρ γ μ ι)(J:GxOk P G)(hN:blt d N=true){l:List SV}(hx:B2 σ.env x=some (.ptr i o))(hi:A1 σ.res i=some (.row e l))(I:S6 G t o (.agg l)=some s):
  B7 P N ops ds L w ⟨some d,.load t x,ty,pos,af,none⟩ w0 Mu M (apps (some d) [.put s] σ) B X Z:=by
 obtain⟨u,C,b,W,rfl⟩:=h.ev hx
 obtain⟨b',H,V,U,_⟩:=h.rowAt hi
 rw[W]at H;cases H
 exact AGR (u:=.agg (toArray (γ i))) (v:=.agg l) h J hN (by rw[C,AYQ]) V.rd.cells rfl ⟨_,rfl,U⟩ I
theorem HS.ownAt[Fx](h:HS w0 Mu M σ L w S ρ γ μ ι){t:Ty}{xs:List (den t)}(hi:A1 σ.res i=some (.own p (.sl e t) xs)):Sx.Own (enc t) e 0 (mm S M) w (ρ i) xs:=h.hp.ownAt (ι i) (h.res i _ hi)
theorem ARN[Fx][Sl (P:=P)](h:HS w0 Mu M σ L w S ρ γ μ ι)(D:GxOk P G)(hN:blt d N=true){ix:Int}{z:den u}(hx:B2 σ.env x=some (.ep i u ix (some z) o))(C:S6 G t o (G0 u z)=some s):
  B7 P N ops ds L w ⟨some d,.load t x,ty,pos,af,none⟩ w0 Mu M (apps (some d) [.put s] σ) B X Z:=by
 obtain⟨v,Y,g,n,c,p,e,xs,T,Q,V,rfl,O⟩:=h.ev hx
 have J:=h.ownAt Q
 have W:=(AAC (O z rfl)).2.2
 obtain⟨g',cap,cur,U,K,_⟩:=J.at_ (by have:=V.1;have:=V.2;omega)
 rw[T]at U;cases U
 obtain⟨cs,F,E⟩:=J.cellsAt K W
 obtain⟨y,I,H⟩:=J6 F
 exact AGR h D hN Y E H (E1 u I) C
theorem ADO[Fx](h:HS w0 Mu M σ L w S ρ γ μ ι)(Q:GxOk P G)(hN:blt d N=true){t f k u:Nat}{l:List (Nat×Nat)}{s s':SV}(hl:lk G.tb.st t=some l)(O:nth l f=some (k,u))(hx:B2 σ.env x=some s)(K:(∃v o,s=.rp v o/\s'=.rp v (o+k))\/(∃i o,s=.ptr i o/\s'=.ptr i (o+k))\/∃i t ix z o,s=.ep i t ix z o/\s'=.ep i t ix z (o+k)):
  B7 P N ops ds L w ⟨some d,.fieldAddr t x f,ty,pos,af,none⟩ w0 Mu M (apps (some d) [.put s'] σ) B X Z:=by
 obtain⟨fields,J,U⟩:=StOk.at Q.st hl
 obtain⟨fl,m,I,Y,T,E⟩:=U.at O
 rw[AYQ]at I
 obtain⟨v,D,C⟩:=h.ev hx
 subst Y;subst T
 rcases K with⟨v,o,rfl,rfl⟩|⟨i,o,rfl,rfl⟩|⟨i,t',ix,z,o,rfl,rfl⟩
 . obtain⟨b,o0,u',vs,rfl,H,W,V⟩:=C
   exact ABD D J I E hN (h.fin ⟨b,o0,u',vs,by rw[AYs],H,W,V⟩)
 . obtain⟨b,H,rfl⟩:=C
   exact ABD D J I E hN (h.fin ⟨b,H,rfl⟩)
 . obtain⟨g,n,c,p,e,xs,H,W,V,rfl,F⟩:=C
   exact ABD D J I E hN (h.fin ⟨g,n,c,p,e,xs,H,W,V,by rw[AYs],F⟩)
theorem OkV.nth:∀(l:List SV) (i:Nat) {s:SV} {vs:List Value},Sx.nth l i=some s->OkV ρ (A1 σ.res) (mm S M) w l vs->∃v,vs[i]?=some v/\Ok ρ (A1 σ.res) (mm S M) w s v
 |[],_,_,_,h,_=>(A2 h).elim
 |s::l,0,s',vs,h,⟨u,r,H,J,I⟩=>by
  have h:some s=some s':=h;cases h
  exact⟨u,by rw[H];rfl,J⟩
 |s::l,i+1,s',vs,h,⟨u,r,H,J,I⟩=>by
  obtain⟨v,V,U⟩:=OkV.nth l i h I;exact⟨v,by rw[H];simpa using V,U⟩
theorem AN5[Fx](h:HS w0 Mu M σ L w S ρ γ μ ι)(hN:blt d N=true){l:List SV}(hx:B2 σ.env x=some (.tup l))(H:nth l i=some s):
  B7 P N ops ds L w ⟨some d,.extract x i,ty,pos,af,none⟩ w0 Mu M (apps (some d) [.put s] σ) B X Z:=by
 obtain⟨v,V,vs,rfl,U⟩:=h.ev hx
 obtain⟨u,J,I⟩:=OkV.nth l i H U
 exact AF9 V J hN (h.fin I)
theorem AS7[Fx](h:HS w0 Mu M σ L w S ρ γ μ ι)(hN:blt d N=true){t e:TypeId}(U:P.underlying t=some (.slice e))(hx:B2 σ.env x=some (.dat (.sl u) xs)):
  B7 P N ops ds L w ⟨some d,.call ⟨.builtin .len,#[x],#[t]⟩,ty,pos,af,none⟩ w0 Mu M (apps (some d) [.put (.int .i64 xs.length)] σ) B X Z:=by
 obtain⟨v,W,_,cs,V,I|I⟩:=h.ev hx
 . cases I.1
 . obtain⟨_,rfl⟩:=I
   obtain⟨v',H,J⟩:=V
   have H:v=v':=by simpa using H
   subst H
   exact AUe W J U hN (h.fin ⟨rfl,RdS.inK J⟩)
theorem AS8[Fx](h:HS w0 Mu M σ L w S ρ γ μ ι)(hN:blt d N=true){t e:TypeId}{i e':Nat}(H:P.underlying t=some (.slice e))(hx:B2 σ.env x=some (.own i))(hi:A1 σ.res i=some (.own p (.sl e' u) xs)):
  B7 P N ops ds L w ⟨some d,.call ⟨.builtin .len,#[x],#[t]⟩,ty,pos,af,none⟩ w0 Mu M (apps (some d) [.put (.int .i64 xs.length)] σ) B X Z:=by
 obtain⟨v,J,I,_⟩:=h.ev hx
 subst I
 exact ASW J (h.ownAt hi) H hN (h.fin ⟨rfl,Own.inK (h.ownAt hi)⟩)
theorem AS9[Fx](h:HS w0 Mu M σ L w S ρ γ μ ι)(hN:blt d N=true){t e:TypeId}(I:P.underlying t=some (.slice e))(hx:B2 σ.env x=some .nilS):
  B7 P N ops ds L w ⟨some d,.call ⟨.builtin .len,#[x],#[t]⟩,ty,pos,af,none⟩ w0 Mu M (apps (some d) [.put (.int .i64 0)] σ) B X Z:=by
 obtain⟨v,J,H⟩:=h.ev hx
 have H:v=.slice none 0 0:=H
 subst H
 exact AEq J I hN (h.fin ⟨rfl,InK.i64.2 (by omega)⟩)
variable{N:Nat}{ops:Array Oper}{ds:List Deferred}{B:A3}{X:Nat->A3}{Z:List PanicEntry->A3}{d:Nat}{ty:TypeId}{pos:String}{af:Array Edge}{G:Gx}{t:TypeId}{v:Value}{u:Ty}{x:Operand}{y:Operand}{s:SV}{k:IntKind}{i:Int}{xs:List (den u)}{z:den u}{R:Nat->Option AR}
theorem SlT.size{t e:TypeId}{n b:Nat}(T:SlT P t e n b):∀w,(sizeOf e).run P w=.ok n w:=fun w=>by
 obtain⟨i,z,hi,_,H,_,_⟩:=T.info;simp[sizeOf,typeInfo,hi,H]
theorem OkD.rds{M:List Nat}{w:World}{t:Ty}{xs:List (den t)}(h:OkD M w (.sl t) xs v):RdS (enc t) M w v xs:=by
 obtain⟨cs,U,I|I⟩:=h
 . cases I.1
 . obtain⟨_,rfl⟩:=I;obtain⟨v',H,J⟩:=U;have H:v=v':=by simpa using H
   subst H;exact J
theorem AVK[Fx][Sl (P:=P)](h:HS w0 Mu M σ L w S ρ γ μ ι)(C:GxOk P G)(hN:blt d N=true){t e b:Nat}(hl:lk G.sl t=some (e,u,b))(hx:B2 σ.env x=some s)(U:A9 s=[])(hd:B9 (A1 σ.res) (.sl u) s=some xs)(hy:B2 σ.env y=some (.int k i))(J:ixo xs i=some z):
  B7 P N ops ds L w ⟨some d,.indexAddr t x y,ty,pos,af,none⟩ w0 Mu M (apps (some d) [.put (.rp (G0 u z) 0)] σ) B X Z:=by
 obtain⟨v,Q,O⟩:=h.ev hx
 have K:=(I5 (M':=mm S M) (fun _ V=>V) (.sl u) s (fun j H=>by rw[U]at H;cases H) hd O).rds
 have I:=SlOk.at C.sl hl
 refine ASZ Q (h.int hy).1 K J I.und (SlT.size I) hN fun b' o cs W D=>?_
 obtain⟨u',F,E⟩:=J6 W
 exact h.fin ⟨b',o,u',cs,rfl,D,E1 u F,E⟩
theorem AVL[Fx](h:HS w0 Mu M σ L w S ρ γ μ ι)(D:GxOk P G)(hN:blt d N=true){t e b j e':Nat}{p:Bool}(hl:lk G.sl t=some (e,u,b))(hx:B2 σ.env x=some (.own j))(I:A1 σ.res j=some (.own p (.sl e' u) xs))(hy:B2 σ.env y=some (.int k i))(H:ixo xs i=some z):
  B7 P N ops ds L w ⟨some d,.indexAddr t x y,ty,pos,af,none⟩ w0 Mu M (apps (some d) [.put (.ep j u i (some z) 0)] σ) B X Z:=by
 obtain⟨v,K,F,_⟩:=h.ev hx
 subst F
 have V:=SlOk.at D.sl hl
 refine AWf (ι j) h.hp (h.res j _ I) K (h.int hy).1 H V.und (SlT.size V) hN fun g cs C O Q=>?_
 obtain⟨U,J,_⟩:=AAC H
 obtain⟨g',cap,cur,E,W,_⟩:=(h.ownAt I).at_ (by omega)
 rw[C]at W
 have:g=g':=by simpa using W
 subst this
 exact h.fin ⟨g,_,_,p,e',xs,E,I,⟨U,J⟩,rfl,fun y hy=>by cases hy;exact H⟩
theorem ACe[Sl (P:=P)]{ns:List SV}(H:R9 s=some ns)(h:Ok ρ (A1 σ.res) (mm S M) w s v):OkL ρ (A1 σ.res) (mm S M) w ns v.cells.toList/\AFS ns=true:=by
 unfold R9 at H;cases I:AFS (Rx.cellsOf s) with
 |false=>rw[I]at H;exact(A2 H).elim
 |true=>
  rw[I]at H
  have H:=AXz H
  subst H
  exact⟨Ok.cellsOf s h,I⟩
theorem AFA:∀(l:List SV) {vs:List Value},AFS l=true->OkL ρ (A1 σ.res) (mm S M) w l vs->∀u∈vs,u.oneCell'=true
 |[],vs,_,h=>by
  have h:vs=[]:=h;rw[h];exact fun _ I=>by cases I
 |s::l,vs,H,⟨u,c,r,W,V,U,J⟩=>by
  simp only[AFS,Bool.and_eq_true]at H;rw[W];intro x hx;rcases mem_append.1 hx with hx|hx
  . exact Ok.oneC s H.1 V x (by rw[U];simpa using hx)
  . exact AFA l H.2 J x hx
theorem HS.newRow[Fx](h:HS w0 Mu M σ L w S ρ γ μ ι){i e b:Nat}{l:List SV}{cs:List Value}(I:Hp w0 Mu M (rowR e b cs::S) w')(hA:Adv (mm S M) (mm (rowR e b cs::S) M) w w')(hl:OkL ρ (A1 σ.res) (mm S M) w l cs):
  HS w0 Mu M ((Ac.new i (.row e (subL i .dead l))).app none σ) L w' (rowR e b cs::S) (Q0 ρ i (.pointer (some ⟨b,0,none⟩))) (Q0 γ i cs) (Q0 μ i []) (fun j=>if j=i then 0 else ι j+1):=by
 refine h.new (r:=.row e (subL i .dead l)) (v:=.pointer (some ⟨b,0,none⟩)) (cs:=cs) (mu:=[]) I hA ⟨⟨b,rfl⟩,?_⟩
 refine OkL.sub (p:=.dead) hA (fun j H=>N7 H) (fun j H p e' t xs J=>?_) trivial l hl
 show A1 ((i,_)::U6 i (R3 i .dead σ.res)) j=_
 rw[fnd_cons,if_neg (fun e=>H e.symm),fnd_rdel,if_neg H,fnd_subR,J];rfl
theorem AVM[Fx][Sl (P:=P)](h:HS w0 Mu M σ L w S ρ γ μ ι)(hN:blt d N=true){l:List SV}(hx:B2 σ.env x=some s)(H:R9 s=some l):
  B7 P N ops ds L w ⟨some d,.box t x,ty,pos,af,none⟩ w0 Mu M (apps (some d) [.new d (.row t (subL d .dead l)),.put (.ptr d 0)] σ) B X Z:=by
 obtain⟨v,W,V⟩:=h.ev hx
 obtain⟨U,_⟩:=ACe H V
 refine AAD (cs:=v.cells.toList) h.hp W (by simp) hN fun b w' I hA=>?_
 have J:=h.newRow (i:=d) I hA U
 refine Reg.nil ⟨rfl,EnvS.put _ _ _,_,_,_,_,_,J.put (d:=d) (s:=.ptr d 0) (v:=.pointer (some ⟨b,0,none⟩)) ⟨b,upf_self,rfl⟩⟩
theorem InK.zero(k:IntKind):InK k 0:=by cases k<;>simp[InK,IntKind.min,IntKind.max,IntKind.signed,IntKind.bits]
theorem APR{M:List Nat}{w:World}{m:Nat}:Ok ρ R M w (.ary k (m+1) (replicate (m+1) 0)) (.agg (toArray (replicate (m+1) (.int k 0)))):=
 ⟨_,⟨by omega,by simp,by simp,fun y hy=>by rw[(List.mem_replicate.1 hy).2];exact InK.zero k⟩,.inl ⟨rfl,rfl⟩⟩
theorem AGS{M:List Nat}{w:World}:∀(u:Ty) {s:SV},AC0 u=some s->Ok ρ R M w s (zv u)
 |.int k,s,h=>by
  have h:SV.int k 0=s:=AXz h;subst h;exact⟨rfl,InK.zero k⟩
 |.bool,s,h=>by
  have h:SV.bool false=s:=AXz h;subst h;exact rfl
 |.sl _,s,h=>by
  have h:SV.nilS=s:=AXz h;subst h;exact rfl
 |.arr k n,s,h=>by
  cases n with
  |zero=>exact(A2 h).elim
  |succ m=>
   have h:SV.ary k (m+1) (replicate (m+1) 0)=s:=AXz h
   subst h;exact APR
 |.st _,_,h=>(A2 h).elim
 |.fno _,_,h=>(A2 h).elim
 |.mp _ _ _,s,h=>by
  have h:SV.raw (.map none)=s:=AXz h;subst h;exact⟨rfl,rfl,rfl⟩
theorem AGT{M:List Nat}{w:World}{R:Nat->Option AR}:∀(l:List Ty) {ss:List SV},AB4 l=some ss->OkL ρ R M w ss (zv.zvL l)
 |[],ss,h=>by
  have h:[]=ss:=AXz h;subst h;exact rfl
 |t::l,ss,h=>by
  simp only[AB4]at h;cases H:AC0 t with
  |none=>rw[H]at h;exact(A2 h).elim
  |some s=>
   rw[H]at h
   cases I:AB4 l with
   |none=>rw[I]at h;exact(A2 h).elim
   |some r=>
    rw[I]at h
    have h:s::r=ss:=AXz h
    subst h
    have U:OkL ρ R M w r (zv.zvL l):=AGT l I
    have J:Ok ρ R M w s (zv t):=AGS t H
    refine⟨zv t,(zv t).cells.toList,_,?_,J,by simp,U⟩
    cases t with
    |arr k n=>rfl
    |int _|bool|sl _=>rfl
    |st _=>exact(A2 H).elim
    |fno _=>exact(A2 H).elim
    |mp _ _ _=>rfl
theorem AJ7(J:GxOk P G){M:List Nat}{w:World}{t:Nat}(h:ABU G t=some s):∃z,(∀w,(zeroValue t).run P w=.ok z w)/\Ok ρ R M w s z:=by
 unfold ABU at h;cases H:lk G.ty t with
 |none=>
  rw[H]at h
  simp only at h
  cases I:lk G.pz t with
  |none=>rw[I]at h;exact(A2 h).elim
  |some q=>
   rw[I]at h
   have h:SV.raw (AMZ q)=s:=AXz h
   subst h
   exact⟨_,PzOk.at J.pz I,rfl,by cases q<;>rfl,by cases q<;>rfl⟩
 |some u=>
  rw[H]at h
  refine⟨zv u,(TyOk.at J.ty H).2.2,?_⟩
  cases u with
  |st n=>
   simp only at h
   cases hl:AB4 (Sf.ft n) with
   |none=>rw[hl]at h;exact(A2 h).elim
   |some l=>
    rw[hl]at h
    have h:SV.agg l=s:=AXz h
    subst h
    exact⟨_,rfl,AGT _ hl⟩
  |int _|bool|sl _|arr _ _|mp _ _ _|fno _=>exact AGS _ h
theorem ARO[Fx][Sl (P:=P)](h:HS w0 Mu M σ L w S ρ γ μ ι)(U:GxOk P G)(hN:blt d N=true){l:List SV}(H:ABU G t=some s)(I:R9 s=some l):
  B7 P N ops ds L w ⟨some d,.alloc t,ty,pos,af,none⟩ w0 Mu M (apps (some d) [.new d (.row t (subL d .dead l)),.put (.ptr d 0)] σ) B X Z:=by
 obtain⟨z,D,C⟩:=AJ7 (ρ:=ρ) (M:=mm S M) (w:=w) (R:=A1 σ.res) U H
 obtain⟨W,_⟩:=ACe I C
 refine ACQ (cs:=z.cells.toList) h.hp D (by simp) hN fun b w' J hA=>?_
 have V:=h.newRow (i:=d) J hA W
 refine Reg.nil ⟨rfl,EnvS.put _ _ _,_,_,_,_,_,V.put (d:=d) (s:=.ptr d 0) (v:=.pointer (some ⟨b,0,none⟩)) ⟨b,upf_self,rfl⟩⟩
theorem AJ8{M:List Nat}{w:World}{R:Nat->Option AR}:∀(ns l:List SV) {l':List SV} {cs vs:List Value},overL l ns=some l'->OkL ρ R M w l cs->OkL ρ R M w ns vs->vs.length<=cs.length/\OkL ρ R M w l' (vs++cs.drop vs.length)
 |[],l,l',cs,vs,h,D,J=>by
  have h:some l=some l':=by cases l<;>exact h
  cases h
  have J:vs=[]:=J;subst J;exact⟨AYh _,D⟩
 |_::_,[],_,_,_,h,_,_=>(A2 h).elim
 |n::ns,s::l,l',cs,vs,h,⟨u,c,r,D,J,O,K⟩,⟨u',c',r',C,I,H,W⟩=>by
  simp only[overL]at h;cases V:beq (wd s) (wd n) with
  |false=>simp only[V]at h;exact(A2 h).elim
  |true=>
   simp only[V]at h
   have E:=AX5 V
   cases U:wd n with
   |zero=>simp only[U]at h;exact(A2 h).elim
   |succ m=>
    simp only[U]at h
    cases hx:overL l ns with
    |none=>simp only[hx]at h;exact(A2 h).elim
    |some x=>
     simp only[hx]at h
     have h:=AXz h
     subst h
     have e1:=ACd n U I
     have e2:=ACd s (E.trans U) J
     rw[H]at e1;rw[O]at e2
     have e1:c'.length=m+1:=by simpa using e1
     have e2:c.length=m+1:=by simpa using e2
     obtain⟨Q,F⟩:=AJ8 ns l hx K W
     subst D;subst C
     refine⟨by simp;omega,u',c',_,?_,I,H,F⟩
     rw[AYU,AYN,AZI,AYp (by omega),AYR,show c'.length+r'.length-c.length=r'.length by omega]
theorem ADh{M:List Nat}{w:World}{R:Nat->Option AR}:∀(l:List SV) (o:Nat) {ns l':List SV} {cs vs:List Value},setW l o ns=some l'->OkL ρ R M w l cs->OkL ρ R M w ns vs->o+vs.length<=cs.length/\OkL ρ R M w l' (cs.take o++vs++cs.drop (o+vs.length))
 |l,0,ns,l',cs,vs,h,W,H=>by
  have h:overL l ns=some l':=by cases l<;>exact h
  obtain⟨V,U⟩:=AJ8 ns l h W H;exact⟨by omega,by simpa using U⟩
 |[],_+1,_,_,_,_,h,_,_=>(A2 h).elim
 |s::l,o+1,ns,l',cs,vs,h,⟨u,c,r,W,H,V,U⟩,hv=>by
  simp only[setW]at h;cases I:wd s with
  |zero=>simp only[I]at h;exact(A2 h).elim
  |succ n=>
   simp only[I]at h
   cases J:Nat.ble n o with
   |false=>simp only[J]at h;exact(A2 h).elim
   |true=>
    simp only[J]at h
    have C:=AYT J
    cases hx:setW l (o-n) ns with
    |none=>simp only[hx]at h;exact(A2 h).elim
    |some x=>
     simp only[hx]at h
     have h:=AXz h
     subst h
     have e2:=ACd s I H
     rw[V]at e2
     have e2:c.length=n+1:=by simpa using e2
     obtain⟨E,D⟩:=ADh l (o-n) hx U hv
     subst W
     refine⟨by simp;omega,u,c,_,?_,H,V,D⟩
     rw[AZb,AYk (by omega),AZI,AYp (by omega),AYR,e2,show o+1-(n+1)=o-n by omega,show o+1+vs.length-(n+1)=o-n+vs.length by omega]
     simp
variable{R R':Nat->Option AR}
mutual
theorem Ok.res(J:∀j p e t (xs:List (den t)),R j=some (.own p (.sl e t) xs)->R' j=some (.own p (.sl e t) xs)):∀(s:SV) {v:Value},Ok ρ R M w s v->Ok ρ R' M w s v
 |.int _ _,_,h|.bool _,_,h|.dat _ _,_,h|.str _ _,_,h|.ary _ _ _,_,h|.own _,_,h|.ptr _ _,_,h|.fv _ _ _,_,h|.nilS,_,h|.np _ _,_,h|.it _ _,_,h|.raw _,_,h|.undef,_,h|.dead,_,h=>h
 |.agg l,_,⟨vs,I,H⟩=>⟨vs,I,OkL.res J l H⟩
 |.ep j t x z o,v,⟨g,n,c,q,e,xs,I,H,U⟩=>⟨g,n,c,q,e,xs,I,J _ _ _ _ _ H,U⟩
 |.rp s _,_,⟨b,o0,u,vs,I,H,U,V⟩=>⟨b,o0,u,vs,I,H,Ok.res J s U,V⟩
 |.ap s _ _ _,_,⟨b,o,I,H⟩=>⟨b,o,Ok.res J s I,H⟩
 |.fn _ l,_,⟨vs,I,H⟩=>⟨vs,I,OkV.res J l H⟩
 |.tup l,_,⟨vs,I,H⟩=>⟨vs,I,OkV.res J l H⟩
theorem OkL.res(H:∀j p e t (xs:List (den t)),R j=some (.own p (.sl e t) xs)->R' j=some (.own p (.sl e t) xs)):∀(l:List SV) {vs:List Value},OkL ρ R M w l vs->OkL ρ R' M w l vs
 |[],_,h=>h
 |s::l,_,⟨u,c,r,V,U,J,I⟩=>⟨u,c,r,V,Ok.res H s U,J,OkL.res H l I⟩
theorem OkV.res(H:∀j p e t (xs:List (den t)),R j=some (.own p (.sl e t) xs)->R' j=some (.own p (.sl e t) xs)):∀(l:List SV) {vs:List Value},OkV ρ R M w l vs->OkV ρ R' M w l vs
 |[],_,h=>h
 |s::l,_,⟨u,r,U,J,I⟩=>⟨u,r,U,Ok.res H s J,OkV.res H l I⟩
end
variable{N:Nat}{ops:Array Oper}{ds:List Deferred}{B:A3}{X:Nat->A3}{Z:List PanicEntry->A3}{d:Nat}{ty:TypeId}{pos:String}{af:Array Edge}{G:Gx}
theorem AH4{i j:Nat}{g:AR->AR}{c:List Nat}:A1 (σ.upd i g c).res j=if j=i then(A1 σ.res j).map g else(A1 σ.res j).map (AR.old i):=by
 show A1 (AD3 i g σ.res) j=_;rw[ACc]
theorem APS[Fx][Sl (P:=P)](h:HS w0 Mu M σ L w S ρ γ μ ι)(A:GxOk P G){t i o e n:Nat}{x y:Operand}{s:SV}{l l' ns:List SV}(hy:B2 σ.env y=some s)(Q:R9 s=some ns)(hx:B2 σ.env x=some (.ptr i o))(hi:A1 σ.res i=some (.row e l))(E:setW l o ns=some l')(O:lk G.sz t=some n)(T:P9 ns=some n):
  B7 P N ops ds L w ⟨none,.store t x y,ty,pos,af,none⟩ w0 Mu M (apps none [.sto i o ns] σ) B X Z:=by
 have Y:AAO o ns (.row e l)=.row e l':=by simp only[AAO,E]
 obtain⟨v,k,f⟩:=h.ev hy
 obtain⟨C,d⟩:=ACe Q f
 obtain⟨u,a,b,W,rfl⟩:=h.ev hx
 obtain⟨b',K,m,R,D⟩:=h.rowAt hi
 rw[W]at K;cases K
 obtain⟨J,I⟩:=ADh l o E R C
 refine ABF (ι i) (vs:=v.cells.toList) h.hp D a k (by simp) (SzOk.at A.sz O) (AAG ns T C) (AZe J) (AFA ns d C) fun w' F hA=>?_
 have H:S.set (ι i) (rowR e b (B8 (γ i) o v.cells.toList))=S.set (ι i) (G9 (ρ i) (B8 (γ i) o v.cells.toList) (μ i) (.row e l')):=by
  show _=S.set (ι i) (rowR e (blk (ρ i)) _);rw[W];rfl
 rw[H]at F hA
 refine Reg.nil ⟨rfl,EnvS.refl _ _,_,_,_,_,_,h.upd (r:=.row e l') (g:=AAO o ns) (c:=APC o ns (A1 σ.res i)) hi Y F hA (fun p e' t' xs U=>by cases U) ⟨⟨b,W⟩,?_⟩⟩
 rw[<-W0 _ _ _ J]at I
 refine OkL.res (fun j p e' t' xs V=>?_) l' (OkL.adv hA l' I)
 rw[AH4]
 by_cases U:j=i
 . subst U;rw[hi]at V;cases V
 . rw[if_neg U,V];rfl
theorem ALi{R:Nat->Option AR}{t:Ty}{l:List SV}{x:den t}(h:toP R t l=some x)(H:∀n,t≠.st n):∃s,l=[s]/\B9 R t s=some x:=by
 cases t with
 |st n=>exact absurd rfl (H n)
 |int _|bool|sl _|arr _ _|mp _ _ _|fno _=>
  cases l with
  |nil=>exact(A2 h).elim
  |cons s r=>cases r with
   |nil=>exact⟨s,rfl,h⟩
   |cons _ _=>exact(A2 h).elim
theorem AJ9[Sl (P:=P)]{M M':List Nat}{w:World}{R:Nat->Option AR}(J:∀b∈M',b∈M)(t:Ty){l:List SV}{x:den t}{cs:List Value}(I:Rds ρ R M' w (ownsLL l))(hd:toP R t l=some x)(h:OkL ρ R M w l cs):(enc t).R M' w cs x:=by
 by_cases H:∃n,t=.st n
 . obtain⟨n,rfl⟩:=H;exact(I5 (v:=.agg (toArray cs)) J (.st n) (.agg l) I hd ⟨cs,rfl,h⟩).cells
 . obtain⟨s,rfl,V⟩:=ALi hd fun n e=>H ⟨n,e⟩;obtain⟨u,rfl,U⟩:=h.one;exact(I5 J t s (I.mono (by simp[ownsLL])) V U).cells
theorem E7{d:Option Nat}:∀(a b:List Ac) (σ:AS),apps d (a++b) σ=apps d b (apps d a σ)
 |[],_,_=>rfl
 |_::a,b,σ=>E7 a b _
theorem AEJ{R:Nat->Option AR}:∀(I:List Nat) {as_:List Ac},frz R I=some as_->∀a∈as_,∃i p,a=.del i p
 |[],as_,h,a,H=>by cases h;cases H
 |i::I,as_,h,a,H=>by
  simp only[frz]at h;cases V:has I i with
  |true=>rw[V,cond_true]at h;exact AEJ I h a H
  |false=>
   rw[V,cond_false]at h
   generalize J:ACT R i=o at h
   cases o with
   |none=>exact(A2 h).elim
   |some a1=>
    generalize U:frz R I=o2 at h
    cases o2 with
    |none=>exact(A2 h).elim
    |some r=>
     have h:a1++r=as_:=AXz h
     subst h
     rcases mem_append.1 H with H|H
     . unfold ACT at J
       split at J
       . cases J;exact⟨_,_,by simpa using H⟩
       . cases J
       . split at J
         . cases J;exact⟨_,_,by simpa using H⟩
         . cases J
       . cases J
     . exact AEJ I U a H
theorem AGU{d:Option Nat}:∀(as_:List Ac) (σ:AS),(∀a∈as_,∃i p,a=.del i p)->apps d as_ σ=apps none as_ σ
 |[],_,_=>rfl
 |a::as_,σ,h=>by
  obtain⟨i,p,rfl⟩:=h a (AX4 ..);exact AGU as_ _ fun b H=>h b (AX0 _ H)
variable{N:Nat}{ops:Array Oper}{ds:List Deferred}{B:A3}{X:Nat->A3}{Z:List PanicEntry->A3}{d:Nat}{ty:TypeId}{pos:String}{af:Array Edge}{G:Gx}{I:List Nat}{t:Nat}{e:Nat}{b:Nat}{u:Ty}{x:Operand}{y:Operand}{s:SV}{fz:List Ac}{i:Nat}{p:Bool}
theorem HS.evL[Fx](h:HS w0 Mu M σ L w S ρ γ μ ι):∀{xs:List Operand} {ss:List SV},evL (B2 σ.env) xs=some ss->∃vs,evs L xs=some vs/\OkV ρ (A1 σ.res) (mm S M) w ss vs
 |[],ss,hx=>by cases hx;exact⟨[],rfl,rfl⟩
 |x::xs,ss,hx=>by
  simp only[Rx.evL]at hx;cases I:B2 σ.env x with
  |none=>rw[I]at hx;exact(A2 hx).elim
  |some s=>
   rw[I]at hx
   cases H:Rx.evL (B2 σ.env) xs with
   |none=>rw[H]at hx;exact(A2 hx).elim
   |some r=>
    rw[H]at hx
    have hx:s::r=ss:=AXz hx
    subst hx
    obtain⟨v,W,V⟩:=h.ev I
    obtain⟨vs,U,J⟩:=h.evL H
    exact⟨v::vs,by simp only[evs,W,U],v,vs,rfl,V,J⟩
theorem AHB:Still R R I:=fun _ _=>⟨fun _ _ _ h=>h,fun _ _ h _=>h⟩
theorem HS.frz[Fx](h:HS w0 Mu M σ L w S ρ γ μ ι){as_:List Ac}(H:frz (A1 σ.res) I=some as_):
  ∃S1 ι1,HS w0 Mu M (apps (some d) as_ σ) L w S1 ρ γ μ ι1/\RdR ρ γ (A1 σ.res) (mm S1 M) w I/\∀b∈mm S1 M,b∈mm S M:=by
 rw[AGU as_ σ (AEJ I H)]
 exact AN2 I (A1 σ.res) AHB h H
theorem ATA[Fx][Sl (P:=P)](h:HS w0 Mu M σ L w S ρ γ μ ι)(O:GxOk P G)(hN:blt d N=true){ys l:List (den u)}(hl:lk G.sl t=some (e,u,b))(hx:B2 σ.env x=some .nilS)(hy:B2 σ.env y=some s)(hd:B9 (A1 σ.res) (.sl u) s=some ys)(E:frz (A1 σ.res) (A9 s)=some fz)(U:appo b ([]:List (den u)) ys=some l):
  B7 P N ops ds L w ⟨some d,.call ⟨.builtin .append,#[x,y],#[t,t]⟩,ty,pos,af,none⟩ w0 Mu M (apps (some d) (fz++[.new d (.own false (.sl e u) l),.put (.own d)]) σ) B X Z:=by
 obtain⟨v,c,W⟩:=h.ev hx
 have W:v=.slice none 0 0:=W
 subst W
 obtain⟨v2,a,R⟩:=h.ev hy
 obtain⟨S1,ι1,D,A,Y⟩:=h.frz (d:=d) E
 have T:=(I5 (M':=mm S1 M) Y (.sl u) s A.1 hd R).rds
 obtain⟨K,F⟩:=ACP U
 have I:=D.hp.addNil (enc u) e
 refine AFQ 0 (SlOk.at O.sl hl) (mu:=[]) I rfl c a (T.adv (AB3 (enc u) e)) K hN fun v' w' J hA=>?_
 have H:(ownR [] (enc u) e (.slice none 0 0) ([]:List (den u))::S1).set 0 (ownR [] (enc u) e v' ([]++ys))=ownR [] (enc u) e v' l::S1:=by rw[F];rfl
 rw[H]at J hA
 have V:Adv (mm S1 M) (mm (ownR [] (enc u) e v' l::S1) M) w w':=(AB3 (enc u) e).trans hA
 have Q:=D.new (i:=d) (r:=.own false (.sl e u) l) (v:=v') (cs:=[]) (mu:=[]) J V trivial
 have C:Sx.Own (enc u) e 0 (mm (ownR [] (enc u) e v' l::S1) M) w' v' l:=J.ownAt 0 rfl
 refine Reg.nil ⟨rfl,EnvS.put _ _ _,?_⟩
 rw[E7]
 exact⟨_,_,_,_,_,Q.put (d:=d) (s:=.own d) (v:=v') ⟨upf_self.symm,by rw[C.cells1],C.oneC⟩⟩
theorem ACI{R:Nat->Option AR}:∀(I:List Nat) {as_:List Ac},frz R I=some as_->∀a∈as_,∃i∈I,∃p,a=.del i p
 |[],as_,h,a,H=>by cases h;cases H
 |i::I,as_,h,a,H=>by
  simp only[Rx.frz]at h;cases W:has I i with
  |true=>
   rw[W,cond_true]at h
   obtain⟨j,U,p,rfl⟩:=ACI I h a H
   exact⟨j,AX0 _ U,p,rfl⟩
  |false=>
   rw[W,cond_false]at h
   generalize J:ACT R i=o at h
   cases o with
   |none=>exact(A2 h).elim
   |some a1=>
    generalize V:Rx.frz R I=o2 at h
    cases o2 with
    |none=>exact(A2 h).elim
    |some r=>
     have h:a1++r=as_:=AXz h
     subst h
     rcases mem_append.1 H with H|H
     . unfold ACT at J
       split at J
       . cases J;exact⟨i,AX4 ..,_,by simpa using H⟩
       . cases J
       . split at J
         . cases J;exact⟨i,AX4 ..,_,by simpa using H⟩
         . cases J
       . cases J
     . obtain⟨j,U,p,rfl⟩:=ACI I V a H
       exact⟨j,AX0 _ U,p,rfl⟩
theorem AH5{d:Option Nat}{i:Nat}{p:Bool}{e:Nat}{t:Ty}{xs:List (den t)}:∀(as_:List Ac) (σ:AS),(∀a∈as_,∃j q,a=.del j q/\j≠i)->A1 σ.res i=some (.own p (.sl e t) xs)->A1 (apps d as_ σ).res i=some (.own p (.sl e t) xs)
 |[],_,_,h=>h
 |a::as_,σ,I,h=>by
  obtain⟨j,q,rfl,H⟩:=I a (AX4 ..);refine AH5 as_ _ (fun b J=>I b (AX0 _ J)) ?_;show A1 (U6 j (R3 j q σ.res)) i=_;rw[fnd_rdel,if_neg (fun e=>H e.symm),fnd_subR,h];rfl
theorem AGV{d:Option Nat}{i:Nat}{p:Bool}{c:Oc}{x:den c.ty}:∀(as_:List Ac) (σ:AS),(∀a∈as_,∃j q,a=.del j q/\j≠i)->A1 σ.res i=some (.own p c x)->A1 (apps d as_ σ).res i=some (.own p c x)
 |[],_,_,h=>h
 |a::as_,σ,I,h=>by
  obtain⟨j,q,rfl,H⟩:=I a (AX4 ..);refine AGV as_ _ (fun b J=>I b (AX0 _ J)) ?_;show A1 (U6 j (R3 j q σ.res)) i=_;rw[fnd_rdel,if_neg (fun e=>H e.symm),fnd_subR,h];rfl
theorem ATB[Fx][Sl (P:=P)](h:HS w0 Mu M σ L w S ρ γ μ ι)(A:GxOk P G)(hN:blt d N=true){xs ys l:List (den u)}(hl:lk G.sl t=some (e,u,b))(hx:B2 σ.env x=some (.own i))(hi:A1 σ.res i=some (.own p (.sl e u) xs))(U:i∉A9 s)(hy:B2 σ.env y=some s)(hd:B9 (A1 σ.res) (.sl u) s=some ys)(F:frz (A1 σ.res) (A9 s)=some fz)(W:appo b xs ys=some l):
  B7 P N ops ds L w ⟨some d,.call ⟨.builtin .append,#[x,y],#[t,t]⟩,ty,pos,af,none⟩ w0 Mu M (apps (some d) (fz++[.hnd i (.own p (.sl e u) l),.put (.own i)]) σ) B X Z:=by
 obtain⟨v,I,m,_⟩:=h.ev hx
 subst m
 obtain⟨v2,k,g⟩:=h.ev hy
 obtain⟨S1,ι1,C,f,c⟩:=h.frz (d:=d) F
 have R:=(I5 (M':=mm S1 M) c (.sl u) s f.1 hd g).rds
 obtain⟨T,Q⟩:=ACP W
 have K:A1 (apps (some d) fz σ).res i=some (.own p (.sl e u) xs):=AH5 fz σ (fun a Y=>by
  obtain⟨j,O,q,rfl⟩:=ACI _ F a Y;exact⟨j,q,rfl,fun e=>U (e▸O)⟩) hi
 have H:=C.res i _ K
 refine AFQ (ι1 i) (SlOk.at A.sl hl) (mu:=bif p then μ i else []) C.hp H I k R T hN fun v' w' J hA=>?_
 rw[<-Q]at J hA
 have V:ι1 i<S1.length:=by
  rcases AYF (ι1 i) S1.length with I|I
  . exact I
  . rw[AYC I]at H;cases H
 have E:Sx.Own (enc u) e 0 (mm (S1.set (ι1 i) (ownR (bif p then μ i else []) (enc u) e v' l)) M) w' v' l:=J.ownAt (ι1 i) (mu:=bif p then μ i else []) (by simp[V])
 have D:=C.hnd (r:=.own p (.sl e u) l) (v:=v') (cs:=[]) K J hA trivial
 refine Reg.nil ⟨rfl,EnvS.put _ _ _,?_⟩
 rw[E7]
 exact⟨_,_,_,_,_,D.put (d:=d) (s:=.own i) (v:=v') ⟨upf_self.symm,by rw[E.cells1],E.oneC⟩⟩
variable{N:Nat}{ops:Array Oper}{ds:List Deferred}{B:A3}{X:Nat->A3}{Z:List PanicEntry->A3}{d:Nat}{ty:TypeId}{pos:String}{af:Array Edge}{G:Gx}{x:Operand}{y:Operand}{k:IntKind}{i:Int}{j:Int}{ts:Array TypeId}{u:Ty}
theorem AVN[Fx](h:HS w0 Mu M σ L w S ρ γ μ ι)(hN:blt d N=true)(hx:B2 σ.env x=some (.int k i))(hy:B2 σ.env y=some (.int k j)):
  B7 P N ops ds L w ⟨some d,.call ⟨.builtin .min,#[x,y],ts⟩,ty,pos,af,none⟩ w0 Mu M (apps (some d) [.put (.int k (min i j))] σ) B X Z:=
 AUk (h.int hx).1 (h.int hy).1 hN (h.fin ⟨rfl,AO7 (h.int hx).2 (h.int hy).2⟩)
theorem AVO[Fx](h:HS w0 Mu M σ L w S ρ γ μ ι)(hN:blt d N=true)(hx:B2 σ.env x=some (.int k i))(hy:B2 σ.env y=some (.int k j)):
  B7 P N ops ds L w ⟨some d,.call ⟨.builtin .max,#[x,y],ts⟩,ty,pos,af,none⟩ w0 Mu M (apps (some d) [.put (.int k (max i j))] σ) B X Z:=
 AUl (h.int hx).1 (h.int hy).1 hN (h.fin ⟨rfl,AO8 (h.int hx).2 (h.int hy).2⟩)
theorem AMz[Fx](h:HS w0 Mu M σ L w S ρ γ μ ι)(hN:blt d N=true){g:Nat}{xs:List Operand}{l:List SV}(hx:evL (B2 σ.env) xs=some l):
  B7 P N ops ds L w ⟨some d,.makeFunc (.func g) #[] (toArray xs),ty,pos,af,none⟩ w0 Mu M (apps (some d) [.put (.fn g l)] σ) B X Z:=by
 obtain⟨vs,I,H⟩:=h.evL hx
 exact ADz I hN (h.fin ⟨vs,rfl,H⟩)
theorem ARP[Fx][Sl (P:=P)](h:HS w0 Mu M σ L w S ρ γ μ ι)(J:GxOk P G)(hN:blt d N=true){t f k u:Nat}{l:List (Nat×Nat)}{v r:SV}(hl:lk G.tb.st t=some l)(O:nth l f=some (k,u))(hx:B2 σ.env x=some v)(Q:S6 G u k v=some r)(hv:ADJ v=true):
  B7 P N ops ds L w ⟨some d,.field t x f,ty,pos,af,none⟩ w0 Mu M (apps (some d) [.put r] σ) B X Z:=by
 obtain⟨fields,C,U⟩:=StOk.at J.st hl
 obtain⟨fl,m,W,R,A,a⟩:=U.at O
 rw[AYQ]at W
 obtain⟨y,Y,K⟩:=h.ev hx
 have T:=AGQ v hv K
 have F:Sx.ev L x=some (.agg (toArray y.cells.toList)):=by rw[AZk,<-T];exact Y
 subst R;subst A
 rcases AEI Q K with⟨I,z,E,H⟩|⟨n,cs,I,E,H,V⟩
 . exact ASV F C W (ACR J.ag I) E hN (h.fin H)
 . refine AUj F C W (AgOk.at1 J.ag I).1 (AgOk.at1 J.ag I).2 hN ?_
   have:(y.cells.toList.drop fl.offset).take n=cs:=by
    apply AYr;intro j;rcases AYF j n with D|D
    . rw[AYa,AYB D,AYu,AX7 (l:=cs) (by omega)];exact H j _ (AX7 (by omega))
    . rw[AYa,if_neg (by omega),AYC (by omega)]
   rw[this]
   exact h.fin V
theorem ALj:∀(l:List (Nat×Operand)) (i:Nat),AGH i l=true->l.map (·.1)=List.range' i l.length
 |[],_,_=>rfl
 |(j,_)::r,i,h=>by
  simp only[AGH,Bool.and_eq_true]at h;have:=AX5 h.1;subst this;simp[List.range'_succ,ALj r (i+1) h.2]
theorem AKA[Sl (P:=P)]{R:Nat->Option AR}{M M':List Nat}{w:World}(I:∀b∈M',b∈M){u:Ty}:∀(ss:List SV) {xs:List (den u)} {vs:List Value},Rds ρ R M' w (ownsLL ss)->AAX u R ss=some xs->OkV ρ R M w ss vs->Cls vs (vs.map fun v=>v.cells.toList)/\Chs (enc u) M' w (vs.map fun v=>v.cells.toList) xs
 |[],xs,vs,_,h,hk=>by
  have hk:vs=[]:=hk;have h:[]=xs:=AXz h;subst hk;subst h;exact⟨Cls.nil,Chs.nil⟩
 |s::l,xs,vs,H,h,⟨v,r,D,C,W⟩=>by
  simp only[AAX]at h;cases hd:B9 R u s with
  |none=>rw[hd]at h;exact(A2 h).elim
  |some x=>
   rw[hd]at h
   cases hl:AAX u R l with
   |none=>rw[hl]at h;exact(A2 h).elim
   |some y=>
    rw[hl]at h
    have h:x::y=xs:=AXz h
    subst h;subst D
    have V:=(I5 I u s (H.mono (by simp only[ownsLL];intro i hi;exact AX2 _ hi)) hd C).cells
    obtain⟨U,J⟩:=AKA I l (H.mono (by simp only[ownsLL];intro i hi;exact AX3 _ hi)) hl W
    exact⟨Cls.cons (by simp) U,Chs.cons V J⟩
theorem AKB[Fx][Sl (P:=P)](h:HS w0 Mu M σ L w S ρ γ μ ι)(W:GxOk P G)(hN:blt d N=true){t e b n m:Nat}{ps:List (Nat×Operand)}{ss:List SV}{xs:List (den u)}{fz:List Ac}(hl:lk G.sl t=some (e,u,b))(hm:lk G.sz e=some m)(hv:evL (B2 σ.env) (ps.map (·.2))=some ss)(hd:AAX u (A1 σ.res) ss=some xs)(F:frz (A1 σ.res) (ownsLL ss)=some fz)(D:AGH 0 ps=true)(E:n=ps.length)(K:Nat.ble (n*m) 16777216=true):
  B7 P N ops ds L w ⟨some d,.buildSlice t n (toArray ps),ty,pos,af,none⟩ w0 Mu M (apps (some d) (fz++[.new d (.own false (.sl e u) xs),.put (.own d)]) σ) B X Z:=by
 subst E
 obtain⟨vs,R,A⟩:=h.evL hv
 obtain⟨S1,ι1,C,Y,T⟩:=h.frz (d:=d) F
 obtain⟨Q,O⟩:=AKA (M':=mm S1 M) T ss Y.1 hd A
 have V:=SlOk.at W.sl hl
 have H:m=(enc u).n:=by
  have e1:=SzOk.at W.sz hm w;rw[SlT.size V w]at e1;cases e1;rfl
 subst H
 have hi:=ALj ps 0 D
 rw[<-List.range_eq_range']at hi
 refine AJe V C.hp hi R Q O K hN fun v' w' J hA=>?_
 have I:=C.new (i:=d) (r:=.own false (.sl e u) xs) (v:=v') (cs:=[]) (mu:=[]) J hA trivial
 have U:Sx.Own (enc u) e 0 (mm (ownR [] (enc u) e v' xs::S1) M) w' v' xs:=J.ownAt 0 rfl
 refine Reg.nil ⟨rfl,EnvS.put _ _ _,?_⟩
 rw[E7]
 exact⟨_,_,_,_,_,I.put (d:=d) (s:=.own d) (v:=v') ⟨upf_self.symm,by rw[U.cells1],U.oneC⟩⟩
theorem HS.lend[Fx](h:HS w0 Mu M σ L w S ρ γ μ ι)(I:List Nat):RdR ρ γ (A1 σ.res) M w I:=by
 have U:∀J,Rds ρ (A1 σ.res) M w J:=fun J i _ p c x H=>AH3 h.hp [] (ι i) rfl (h.row i _ H) (h.res i _ H);have key:∀(n:Nat) (I:List Nat),RdN ρ γ (A1 σ.res) M w n I:=by
  intro n;induction n with
  |zero=>exact fun I=>U I
  |succ n ih=>
   refine fun I=>⟨U I,fun i _ e l H=>?_⟩
   obtain⟨b,D,E,C,W⟩:=h.rowAt H
   exact⟨ih _,b,D,h.hp.lendC [] (ι i) rfl W,OkL.adv (Adv.drop fun b V=>mem_mm.2 (.inr V)) l C⟩
 exact key 4 I
theorem AGW:∀(t:Ty) (x:den t),A9 (G0 t x)=[]
 |.int _,_|.bool,_|.sl _,_|.st _,_|.arr _ _,_|.mp _ _ _,_|.fno _,_=>rfl
theorem AKC:∀(l:List Ty) (x:P2 l),ownsLL (ofL l x)=[]
 |[],_=>rfl
 |[t],x=>by show A9 (G0 t x)++[]=[];rw[AGW t x];rfl
 |t::u::l,x=>by show A9 (G0 t x.1)++ownsLL (ofL (u::l) x.2)=[];rw[AGW t x.1,AKC (u::l) x.2];rfl
theorem AEK(s:SV):∀i∈ownsLL (Rx.cellsOf s),i∈A9 s:=by
 cases s with
 |str n x=>intro i hi;rw[show ownsLL (Rx.cellsOf (.str n x))=[] from AKC _ _]at hi;cases hi
 |agg l=>exact fun i hi=>hi
 |int _ _|bool _|dat _ _|ary _ _ _|own _|ptr _ _|ep _ _ _ _ _|rp _ _|fv _ _ _|fn _ _|nilS|raw _|it _ _|np _ _|ap _ _ _ _|undef|dead|tup _=>
  intro i hi
  simp only[Rx.cellsOf,ownsLL,List.append_nil]at hi
  exact hi
theorem ADi[Sl (P:=P)]{R:Nat->Option AR}{M':List Nat}(W:∀b∈M',b∈M){t:Ty}{s:SV}{x:den t}{v:Value}{n:Nat}(D:RdN ρ γ R M' w (n+1) (A9 s))(hd:Z3 R t s=some x)(h:Ok ρ R M w s v):PtOk M' w (.pt t) x v:=by
 cases s with
 |rp u o=>
  cases o with
  |succ o=>exact(A2 hd).elim
  |zero=>
   have hd:toP R t (Rx.cellsOf u)=some x:=hd
   obtain⟨b,o0,y,vs,H,V,U,J⟩:=h
   have I:=Ok.cellsOf u U
   rw[J]at I
   exact⟨b,o0,vs,H,V.adv (Adv.drop W),AJ9 W t (D.1.mono (AEK u)) hd I⟩
 |ptr i o=>
  cases o with
  |succ o=>exact(A2 hd).elim
  |zero=>
   cases C:R i with
   |none=>
    have hd:(match R i with
     |some (.row _ c)=>toP R t c
     |_=>none)=some x:=hd
    rw[C]at hd;exact(A2 hd).elim
   |some a=>
    have hd:(match R i with
     |some (.row _ c)=>toP R t c
     |_=>none)=some x:=hd
    rw[C]at hd
    cases a with
    |own _ _ _=>exact(A2 hd).elim
    |row e c=>
     obtain⟨H,b,V,U,J⟩:=D.2 i (by simp[A9]) e c C
     obtain⟨b',I,F⟩:=h
     rw[V]at I;cases I
     exact⟨b,0,γ i,F,U,AJ9 (fun _ E=>E) t H.rds hd J⟩
 |np t' q=>
  cases q with
  |none=>exact(A2 hd).elim
  |some y=>
   have hd:G8 t' t y=some x:=hd
   obtain⟨e,hx⟩:=O1 hd
   subst e
   rcases h with⟨H,_⟩|⟨y',b,o,vs,H,V,U,J⟩
   . cases H
   . cases H
     have hx:y=x:=hx
     subst hx
     exact⟨b,o,vs,V,U.adv (Adv.drop W),(enc t').adv J (Adv.drop W)⟩
 |int _ _|bool _|dat _ _|ary _ _ _|own _|str _ _|agg _|ep _ _ _ _ _|fv _ _ _|fn _ _|nilS|raw _|it _ _|ap _ _ _ _|undef|dead|tup _=>exact(A2 hd).elim
def AJH:(a:List Ty)->(ps:List Pt)->E0 (a.map Pt.d)->E0 ps->E0 (a.map Pt.d++ps)
 |[],_,_,y=>y
 |_::a,ps,x,y=>(x.1,AJH a ps x.2 y)
theorem AF2{M:List Nat}{w:World}:∀(a:List Ty) (ps:List Pt) {x:E0 (a.map Pt.d)} {y:E0 ps} {vs us:List Value},ArgsOk M w (a.map Pt.d) x vs->ArgsOk M w ps y us->ArgsOk M w (a.map Pt.d++ps) (AJH a ps x y) (vs++us)
 |[],_,_,_,vs,us,h,H=>by
  have h:vs=[]:=h;subst h;exact H
 |t::a,ps,x,y,vs,us,⟨v,r,U,J,I⟩,H=>by
  subst U;exact⟨v,r++us,rfl,J,AF2 a ps I H⟩
theorem AKD{M1:List Nat}{w1:World}{v:Value}{r:Ty}(ps:List Pt)(y:E0 ps):∀(a:List Ty) (f:E0 (a.map Pt.d++ps)->Option (den r)) (vs:List Value),
  (∀(x:E0 (a.map Pt.d)) (as_:List Value),ArgsOk M1 w1 (a.map Pt.d) x as_->∀q,f (AJH a ps x y)=some q->CallsV P v (vs++as_) w1 fun e w2=>∃u,e=.returned u/\OkD M1 w2 r q u/\Ext w1 w2) ->
  FnR P M1 w1 v a r (AMa r a ps y f) vs
 |[],f,vs,h=>fun q H=>by
  have:=h () [] rfl q H;rwa [AYO]at this
 |t::a,f,vs,h=>fun x u I=>AKD ps y a (fun z=>f (x,z)) (vs++[u]) fun xs as_ has q H=>by
  have:=h (x,xs) (u::as_) ⟨u,as_,rfl,I,has⟩ q H;rwa [AYU,AZf]
variable{M':List Nat}{G:Gx}{s:SV}{v:Value}{n:Nat}{g:Nat}
theorem RdR.mono{I J:List Nat}(h:RdR ρ γ R M w J)(H:∀i∈I,i∈J):RdR ρ γ R M w I:=RdN.mono h H
theorem ALk[Sl (P:=P)](T:∀b∈M',b∈M){s s':SV}(O:RdN ρ γ R M' w (n+1) (A9 s))(H:ABl R s=some s')(h:Ok ρ R M w s v):∃b o u vs,v=.pointer (some ⟨b,o,none⟩)/\RdC M' w b o vs/\(Ok ρ R M w s' u\/Ok ρ R M' w s' u)/\u.cells=toArray vs/\RdN ρ γ R M' w n (A9 s'):=by
 have dn:∀{n:Nat} {I:List Nat},RdN ρ γ R M' w (n+1) I->RdN ρ γ R M' w n I:=by
  intro n;induction n with
  |zero=>exact fun h=>h.1
  |succ n ih=>exact fun h=>⟨h.1,fun i hi e l U=>by
   obtain⟨A,W⟩:=h.2 i hi e l U;exact⟨ih A,W⟩⟩
 cases s with
 |rp u o=>
  have H:(match (generalizing:=false) o,Rx.cellsOf u with
   |0,[s]=>some s
   |_,_=>none)=some s':=H
  cases o with
  |succ o=>exact(A2 H).elim
  |zero=>
   cases J:Rx.cellsOf u with
   |nil=>rw[J]at H;exact(A2 H).elim
   |cons s1 r=>cases r with
    |cons _ _=>rw[J]at H;exact(A2 H).elim
    |nil=>
     rw[J]at H
     have H:s1=s':=AXz H
     subst H
     obtain⟨b,o0,y,vs,W,K,F,E⟩:=h
     have V:=Ok.cellsOf u F
     rw[J,E]at V
     obtain⟨y',D,C⟩:=OkL.one V
     refine⟨b,o0,y',vs,W,K.adv (Adv.drop T),.inl C,?_,(dn O).mono fun i hi=>?_⟩
     . rw[show vs=y'.cells.toList by simpa using D]
     . exact AEK u i (by rw[J];show i∈A9 s1++[];rw[AYO];exact hi)
 |ptr i o=>
  have H:(match (generalizing:=false) o,R i with
   |0,some (.row _ [s])=>some s
   |_,_=>none)=some s':=H
  cases o with
  |succ o=>exact(A2 H).elim
  |zero=>
   cases U:R i with
   |none=>rw[U]at H;exact(A2 H).elim
   |some a=>
    rw[U]at H
    cases a with
    |own _ _ _=>exact(A2 H).elim
    |row e c=>
     cases c with
     |nil=>exact(A2 H).elim
     |cons s1 r=>cases r with
      |cons _ _=>exact(A2 H).elim
      |nil=>
       have H:s1=s':=AXz H
       subst H
       obtain⟨W,b,K,F,E⟩:=O.2 i (by simp[A9]) e _ U
       obtain⟨b',V,D⟩:=h
       rw[K]at V;cases V
       obtain⟨y',C,Y⟩:=OkL.one E
       exact⟨b,0,y',γ i,D,F,.inr Y,by rw[C],W.mono fun j Q=>by show j∈A9 s1++[];rw[AYO];exact Q⟩
 |np _ _|int _ _|bool _|dat _ _|ary _ _ _|own _|str _ _|agg _|ep _ _ _ _ _|fv _ _ _|fn _ _|nilS|raw _|it _ _|ap _ _ _ _|undef|dead|tup _=>exact(A2 H).elim
theorem ALl[Sl (P:=P)](J:∀b∈M',b∈M){t:Ty}{x:Option (den t)}(H:RdN ρ γ R M' w (n+1) (A9 s))(hd:AGE R t s=some x)(h:Ok ρ R M w s v):NpOk M' w t x v:=by
 have key:∀{s:SV} {x:Option (den t)},RdN ρ γ R M' w (n+1) (A9 s)->(match Z3 R t s with
   |some x=>some (some x)
   |none=>none)=some x->Ok ρ R M w s v->NpOk M' w t x v:=fun {s x} H hd h=>by
  cases I:Z3 R t s with
  |none=>rw[I]at hd;exact(A2 hd).elim
  |some y=>
   rw[I]at hd
   have hd:some y=x:=AXz hd
   subst hd
   obtain⟨b,o,vs,W,V,U⟩:=ADi J H I h
   exact .inr ⟨y,b,o,vs,rfl,W,V,U⟩
 cases s with
 |np t' q=>
  have hd:(if h:t'=t then some (h▸q) else none)=some x:=hd
  split at hd
  . rename_i e
    subst e
    have hd:q=x:=AXz hd
    subst hd
    exact NpOk.mon J h
  . exact(A2 hd).elim
 |rp u o=>exact key H hd h
 |ptr i o=>exact key H hd h
 |int _ _|bool _|dat _ _|ary _ _ _|own _|str _ _|agg _|ep _ _ _ _ _|fv _ _ _|fn _ _|nilS|raw _|it _ _|ap _ _ _ _|undef|dead|tup _=>exact(A2 hd).elim
theorem AKE[Sl (P:=P)](U:∀b∈M',b∈M):∀(b:Bool) {t:Ty} {s:SV} {x:AEv b t} {v:Value} {n:Nat},RdN ρ γ R M' w (n+2) (A9 s)->toB R b t s=some x->Ok ρ R M w s v->BOk M' w b t x v
 |false,t,s,x,v,n,J,hd,h=>ADi U J hd h
 |true,t,s,x,v,n,J,hd,h=>by
  have hd:(match ABl R s with
   |some s'=>AGE R t s'
   |none=>none)=some x:=hd
  cases H:ABl R s with
  |none=>rw[H]at hd;exact(A2 hd).elim
  |some s'=>
   rw[H]at hd
   obtain⟨b,o,u,vs,F,E,I,D,W⟩:=ALk U J H h
   have V:NpOk M' w t x u:=I.elim (fun I=>ALl U W hd I) fun I=>ALl (fun _ H=>H) W hd I
   have C:vs=[u]:=by
    have:=D.symm.trans (NpOk.one V).1;simpa using this
   exact⟨b,o,u,F,C▸E,V⟩
theorem AH6[Sl (P:=P)](I:∀b∈M',b∈M){n:Nat}:∀(cs:List (Bool×Ty)) (ss:List SV) {x:AAW cs} {vs:List Value},RdN ρ γ R M' w (n+2) (ownsLL ss)->ABm R cs ss=some x->OkV ρ R M w ss vs->BsOk M' w cs x vs
 |[],ss,x,vs,_,h,hk=>by
  cases ss with
  |nil=>exact hk
  |cons _ _=>exact(A2 h).elim
 |(b,t)::cs,ss,x,vs,H,h,hk=>by
  cases ss with
  |nil=>exact(A2 h).elim
  |cons s l=>
   obtain⟨v,r,V,U,J⟩:=hk
   have h:(match toB R b t s with
    |some x=>match ABm R cs l with
     |some r=>some (x,r)
     |none=>none
    |none=>none)=some x:=h
   cases hx:toB R b t s with
   |none=>rw[hx]at h;exact(A2 h).elim
   |some y=>
    rw[hx]at h
    cases hy:ABm R cs l with
    |none=>rw[hy]at h;exact(A2 h).elim
    |some z=>
     rw[hy]at h
     have h:(y,z)=x:=AXz h
     subst h
     exact⟨v,r,V,AKE I b (H.mono fun i hi=>AX2 _ hi) hx U,AH6 I cs l (H.mono fun i hi=>AX3 _ hi) hy J⟩
theorem ALm[Sl (P:=P)](W:∀b∈M',b∈M){cs:List (Bool×Ty)}{x:AAW cs}(D:RdN ρ γ R M' w (n+3) (A9 s))(hd:AGF R g cs s=some x)(h:Ok ρ R M w s v):PtOk M' w (.cl g cs) x v:=by
 unfold AGF at hd;cases I:ABl R s with
 |none=>rw[I]at hd;exact(A2 hd).elim
 |some s'=>
  rw[I]at hd
  obtain⟨b,o,u,vs,Q,O,K,F,C⟩:=ALk W D I h
  cases s' with
  |fn g' l=>
   have hd:(match (generalizing:=false) beq g' g with
    |true=>ABm R cs l
    |false=>none)=some x:=hd
   cases V:beq g' g with
   |false=>rw[V]at hd;exact(A2 hd).elim
   |true=>
    rw[V]at hd
    have H:ABm R cs l=some x:=hd
    clear hd
    have e:=AX5 V
    subst e
    have U:∃caps,u=.func (.func g') #[] (toArray caps)/\BsOk M' w cs x caps:=by
     rcases K with⟨caps,U,J⟩|⟨caps,U,J⟩
     . exact⟨caps,U,AH6 W cs l C H J⟩
     . exact⟨caps,U,AH6 (fun _ I=>I) cs l C H J⟩
    obtain⟨caps,rfl,J⟩:=U
    have E:vs=[.func (.func g') #[] (toArray caps)]:=by
     have:(#[Value.func (.func g') #[] (toArray caps)]:Array Value)=toArray vs:=F;simpa using (AX9 Array.toList this).symm
    exact⟨b,o,caps,Q,E▸O,J⟩
  |np _ _|int _ _|bool _|dat _ _|ary _ _ _|own _|str _ _|agg _|ep _ _ _ _ _|fv _ _ _|nilS|raw _|it _ _|ap _ _ _ _|undef|dead|tup _|rp _ _|ptr _ _=>exact(A2 hd).elim
theorem ARQ[Sl (P:=P)](I:∀b∈M',b∈M)(p:Pt)(s:SV){x:p.den}(H:RdR ρ γ R M' w (A9 s))(hx:AD4 R p s=some x)(h:Ok ρ R M w s v):PtOk M' w p x v:=by
 cases p with
 |d _=>exact(A2 hx).elim
 |fn _ _=>exact(A2 hx).elim
 |nl=>exact(A2 hx).elim
 |pt t=>exact ADi I H hx h
 |pp t=>exact AKE I true H hx h
 |cl g cs=>exact ALm I H hx h
theorem ALn[Sl (P:=P)](I:∀b∈M',b∈M):∀(ps:List Pt) (ss:List SV) {y:E0 ps} {vs:List Value},RdR ρ γ R M' w (ownsLL ss)->ABn R ps ss=some y->OkV ρ R M w ss vs->ArgsOk M' w ps y vs
 |[],ss,y,vs,_,h,hk=>by
  cases ss with
  |nil=>exact hk
  |cons _ _=>exact(A2 h).elim
 |p::ps,ss,y,vs,H,h,hk=>by
  cases ss with
  |nil=>exact(A2 h).elim
  |cons s l=>
   obtain⟨v,r,V,U,J⟩:=hk
   have h:(match AD4 R p s with
    |some x=>match ABn R ps l with
     |some r=>some (x,r)
     |none=>none
    |none=>none)=some y:=h
   cases hx:AD4 R p s with
   |none=>rw[hx]at h;exact(A2 h).elim
   |some x=>
    rw[hx]at h
    cases hy:ABn R ps l with
    |none=>rw[hy]at h;exact(A2 h).elim
    |some z=>
     rw[hy]at h
     have h:(x,z)=y:=AXz h
     subst h
     exact⟨v,r,V,ARQ I p s (H.mono fun i hi=>AX2 _ hi) hx U,ALn I ps l (H.mono fun i hi=>AX3 _ hi) hy J⟩
theorem BOk.adv(H:Adv M M' w w'):∀{b:Bool} {t:Ty} {x:AEv b t} {v:Value},BOk M w b t x v->BOk M' w' b t x v
 |false,t,_,_,⟨b,o,vs,U,J,I⟩=>⟨b,o,vs,U,J.adv H,(enc t).adv I H⟩
 |true,_,_,_,⟨b,o,u,U,J,I⟩=>⟨b,o,u,U,J.adv H,I.adv H⟩
theorem BsOk.adv(H:Adv M M' w w'):∀{cs:List (Bool×Ty)} {x:AAW cs} {vs:List Value},BsOk M w cs x vs->BsOk M' w' cs x vs
 |[],_,_,h=>h
 |(_,_)::_,_,_,⟨v,r,U,J,I⟩=>⟨v,r,U,J.adv H,BsOk.adv H I⟩
theorem PtOk.adv(H:Adv M M' w w'):∀{p:Pt} {x:p.den} {v:Value},PtOk M w p x v->PtOk M' w' p x v
 |.d _,_,_,h=>OkD.adv h H
 |.pt t,_,_,⟨b,o,vs,U,J,I⟩=>⟨b,o,vs,U,J.adv H,(enc t).adv I H⟩
 |.fn _ _,_,_,h=>⟨FnOk.adv h.1 H,h.2⟩
 |.pp t,x,v,h=>BOk.adv (b:=true) H h
 |.nl,_,_,h=>h
 |.cl _ _,_,_,⟨b,o,caps,U,J,I⟩=>⟨b,o,caps,U,J.adv H,I.adv H⟩
theorem ArgsOk.adv(H:Adv M M' w w'):∀{ps:List Pt} {x:E0 ps} {vs:List Value},ArgsOk M w ps x vs->ArgsOk M' w' ps x vs
 |[],_,_,h=>h
 |_::_,_,_,⟨v,r,U,J,I⟩=>⟨v,r,U,J.adv H,ArgsOk.adv H I⟩
theorem W7[Sl (P:=P)](T:GxOk P G)(E:GlOk (P:=P) M' w)(O:∀b∈M',b∈M){caps:List SV}{a:List Ty}{r:Ty}{F:P7 a r}{vs:List Value}(C:RdR ρ γ R M' w (ownsLL caps))(H:ACx G R g caps a r=some F)(h:OkV ρ R M w caps vs):FnOk M' w (.func (.func g) #[] (toArray vs)) a r F:=by
 unfold ACx at H;cases U:A1 G.fs g with
 |none=>rw[U]at H;exact(A2 H).elim
 |some c=>
  rw[U]at H
  obtain⟨J,V⟩:=FsOk.at T.fs U
  obtain⟨ps,rs,f⟩:=c
  simp only at H
  generalize ps.drop a.length=cps at H
  unfold AHt at H
  cases hy:ABn R cps caps with
  |none=>rw[hy]at H;exact(A2 H).elim
  |some y=>
   rw[hy]at H
   simp only[ANn]at H
   split at H
   . rename_i K
     obtain⟨A,Y⟩:=K
     subst A;subst Y
     have H:=AXz H
     subst H
     have I:=ALn O cps caps C hy h
     intro M1 w1 hA Q
     refine AKD cps y a _ [] fun xs as_ has q D=>?_
     have hcall:=J.2 M1 w1 (AJH a cps xs y) (as_++vs) q Q (E.adv hA) (AF2 a cps has (I.adv hA)) D
     refine CallsV.go V rfl hcall ?_
     rintro e w2 ⟨us,rfl,hk,hx⟩
     obtain⟨u,rfl,W⟩:=hk
     exact⟨u,rfl,W,hx⟩
   . exact(A2 H).elim
end Go.Rx
namespace Go.Rx
open Go Go.Sx Go.RowKit
variable[Trk][Sg][Sf]{P:Program}[Se P]{w:World}{M M':List Nat}{ρ:Nat->Value}{γ:Nat->List Value}{R:Nat->Option AR}{G:Gx}
theorem AM0{a a':List Ty}{r r':Ty}{f:P7 a r}{g:P7 a' r'}(h:AJC a a' r r' f=some g):∃(e1:a=a') (e2:r=r'),e1▸e2▸f=g:=by
 unfold AJC at h;split at h
 . rename_i e;exact⟨e.1,e.2,AXz h⟩
 . cases h
theorem ARR[Sl (P:=P)](U:GxOk P G)(J:GlOk (P:=P) M w)(H:∀b∈M',b∈M)(p:Pt)(s:SV){x:p.den}{v:Value}(I:RdR ρ γ R M' w (A9 s))(hx:AD5 G R p s=some x)(h:Ok ρ R M w s v):PtOk M' w p x v:=by
 cases p with
 |d t=>exact I5 H t s I.1 hx h
 |pt t=>exact ADi H I hx h
 |pp t=>exact AKE H true I hx h
 |cl g cs=>exact ALm H I hx h
 |nl=>
  cases s with
  |nilS=>exact h
  |int _ _|bool _|dat _ _|ary _ _ _|own _|str _ _|agg _|ep _ _ _ _ _|rp _ _|ptr _ _|fv _ _ _|fn _ _|raw _|it _ _|np _ _|ap _ _ _ _|undef|dead|tup _=>exact(A2 hx).elim
 |fn a r=>
  cases s with
  |fv a' r' f=>
   have hx:AJC a' a r' r f=some x:=hx
   obtain⟨e1,e2,hx⟩:=AM0 hx
   subst e1;subst e2
   have hx:f=x:=hx
   subst hx
   exact⟨FnOk.adv h.1 (Adv.drop H),h.2⟩
  |fn g caps=>
   have hx:ACx G R g caps a r=some x:=hx
   obtain⟨vs,rfl,V⟩:=h
   exact⟨W7 U (J.adv (Adv.drop H)) H I hx V,rfl,rfl⟩
  |int _ _|bool _|dat _ _|ary _ _ _|own _|str _ _|agg _|ep _ _ _ _ _|rp _ _|ptr _ _|nilS|raw _|it _ _|np _ _|ap _ _ _ _|undef|dead|tup _=>exact(A2 hx).elim
theorem ABK[Sl (P:=P)](U:GxOk P G)(I:GlOk (P:=P) M w)(J:∀b∈M',b∈M):∀(ps:List Pt) (ss:List SV) {y:E0 ps} {vs:List Value},RdR ρ γ R M' w (ownsLL ss)->I7 G R ps ss=some y->OkV ρ R M w ss vs->ArgsOk M' w ps y vs
 |[],ss,y,vs,_,h,hk=>by
  cases ss with
  |nil=>exact hk
  |cons _ _=>exact(A2 h).elim
 |p::ps,ss,y,vs,H,h,hk=>by
  cases ss with
  |nil=>exact(A2 h).elim
  |cons s l=>
   obtain⟨v,r,C,W,V⟩:=hk
   have h:(match AD5 G R p s with
    |some x=>match I7 G R ps l with
     |some r=>some (x,r)
     |none=>none
    |none=>none)=some y:=h
   cases hx:AD5 G R p s with
   |none=>rw[hx]at h;exact(A2 h).elim
   |some x=>
    rw[hx]at h
    cases hy:I7 G R ps l with
    |none=>rw[hy]at h;exact(A2 h).elim
    |some z=>
     rw[hy]at h
     have h:(x,z)=y:=AXz h
     subst h
     exact⟨v,r,C,ARR U I J p s (H.mono fun i hi=>AX2 _ hi) hx W,ABK U I J ps l (H.mono fun i hi=>AX3 _ hi) hy V⟩
theorem OkV.app:∀{ss tt:List SV} {vs us:List Value},OkV ρ R M w ss vs->OkV ρ R M w tt us->OkV ρ R M w (ss++tt) (vs++us)
 |[],_,vs,_,h,H=>by
  have h:vs=[]:=h;subst h;exact H
 |_::_,_,_,_,⟨u,r,U,H,J⟩,I=>⟨u,r++_,by rw[U];rfl,H,OkV.app J I⟩
theorem AKF:∀{ss:List SV} {vs:List Value},OkV ρ R M w ss vs->Ok ρ R M w (AEx ss) (ABs vs)
 |[],vs,h=>by
  have h:vs=[]:=h;subst h;exact⟨[],rfl,rfl⟩
 |[s],vs,⟨u,r,J,I,H⟩=>by
  have H:r=[]:=H;subst H;subst J;exact I
 |s::t::l,vs,⟨u,r,J,I,u',r',H,V,U⟩=>by
  subst H;subst J;exact⟨u::u'::r',rfl,u,_,rfl,I,u',r',rfl,V,U⟩
variable{w':World}{Mm Mo:List Nat}
theorem ACf{id:Nat}{c e:Ck}{l:List Ck}{x:E2 (c::e::l)}:H1 id (c::e::l) x=((AHu id c x.1).1::(H1 (id+100000) (e::l) x.2).1,(AHu id c x.1).2++(H1 (id+100000) (e::l) x.2).2):=rfl
theorem AHC:∀(rs:List Ck) {r:E2 rs} {vs:List Value} (id:Nat),own1 rs=0->KsOk (P:=P) Mm Mo w w' rs r vs->(H1 id rs r).2=[]/\X7 rs vs=[]/\∀(ρ:Nat->Value) R M',(∀b∈M',b∈Mo)->OkV (P:=P) ρ R M' w' (H1 id rs r).1 vs
 |[],r,vs,id,_,h=>by
  have h:vs=[]:=h;subst h;exact⟨rfl,rfl,fun _ _ _ _=>rfl⟩
 |[c],r,vs,id,I,h=>by
  obtain⟨v,rfl,h⟩:=h;cases c with
  |d t=>exact⟨rfl,rfl,fun ρ R M' H=>⟨v,[],rfl,E1 t (OkD.mon H h),rfl⟩⟩
  |own _=>cases I
  |undef=>exact h.elim
  |it ts=>exact⟨rfl,rfl,fun ρ R M' H=>⟨v,[],rfl,⟨ItV.mon H h.1,h.2⟩,rfl⟩⟩
  |np t=>exact⟨rfl,rfl,fun ρ R M' H=>⟨v,[],rfl,NpOk.mon H h,rfl⟩⟩
 |c::e::l,r,vs,id,I,h=>by
  obtain⟨v,q,rfl,h,W⟩:=h;cases c with
  |d t=>
   obtain⟨V,U,J⟩:=AHC (e::l) (id+100000) I W
   rw[ACf]
   exact⟨by show []++_=[];rw[V];rfl,U,fun ρ R M' H=>⟨v,q,rfl,E1 t (OkD.mon H h),J ρ R M' H⟩⟩
  |own _=>cases I
  |undef=>exact h.elim
  |it ts=>
   obtain⟨V,U,J⟩:=AHC (e::l) (id+100000) I W
   rw[ACf]
   exact⟨by show []++_=[];rw[V];rfl,U,fun ρ R M' H=>⟨v,q,rfl,⟨ItV.mon H h.1,h.2⟩,J ρ R M' H⟩⟩
  |np t=>
   obtain⟨V,U,J⟩:=AHC (e::l) (id+100000) I W
   rw[ACf]
   exact⟨by show []++_=[];rw[V];rfl,U,fun ρ R M' H=>⟨v,q,rfl,NpOk.mon H h,J ρ R M' H⟩⟩
theorem AFB:∀(rs:List Ck) {r:E2 rs} {vs:List Value} (id:Nat),AAR rs=true->KsOk (P:=P) Mm Mo w w' rs r vs->(H1 id rs r).2=[]/\∀(ρ:Nat->Value) R M',OkV (P:=P) ρ R M' w' (H1 id rs r).1 vs
 |[],r,vs,id,_,h=>by
  have h:vs=[]:=h;subst h;exact⟨rfl,fun _ _ _=>rfl⟩
 |[c],r,vs,id,H,h=>by
  obtain⟨v,rfl,h⟩:=h;cases c with
  |d t=>
   cases t with
   |int k=>exact⟨rfl,fun ρ R M'=>⟨v,[],rfl,E1 (ρ:=ρ) (R:=R) (.int k) h,rfl⟩⟩
   |bool=>exact⟨rfl,fun ρ R M'=>⟨v,[],rfl,E1 (ρ:=ρ) (R:=R) .bool h,rfl⟩⟩
   |_=>cases H
  |own _=>cases H
  |undef=>exact h.elim
  |it _=>cases H
  |np _=>cases H
 |c::e::l,r,vs,id,H,h=>by
  obtain⟨v,q,rfl,h,U⟩:=h;cases c with
  |d t=>
   cases t with
   |int k=>
    obtain⟨J,I⟩:=AFB (e::l) (id+100000) H U
    rw[ACf]
    exact⟨by show []++_=[];rw[J];rfl,fun ρ R M'=>⟨v,q,rfl,E1 (ρ:=ρ) (R:=R) (.int k) h,I ρ R M'⟩⟩
   |bool=>
    obtain⟨J,I⟩:=AFB (e::l) (id+100000) H U
    rw[ACf]
    exact⟨by show []++_=[];rw[J];rfl,fun ρ R M'=>⟨v,q,rfl,E1 (ρ:=ρ) (R:=R) .bool h,I ρ R M'⟩⟩
   |_=>cases H
  |own _=>cases H
  |undef=>exact h.elim
  |it _=>cases H
  |np _=>cases H
section
variable[Anch]{w0 w w':World}{Mu M Mo:List Nat}{σ:AS}{L:A7}{S:List Res}{ρ:Nat->Value}{γ:Nat->List Value}{μ:Nat->List Nat}{ι:Nat->Nat}{d:Option Nat}
theorem AN6{M Mo:List Nat}{w w':World}{t:Nat}{u:Ty}{x:List (den u)}{v:Value}(h:Sx.Own (enc (P:=P) u) t 0 M w' v x/\∀b∈ob v,w.heap.size<=b):CkOk (P:=P) M Mo w w' (.own (.sl t u)) x v:=
 ⟨trivial,h.1.mon (fun _ H=>mem_append.1 H),h.2⟩
theorem AH7[Fx](h:HS w0 Mu M σ L w S ρ γ μ ι)(e:Ext w w'){i:Nat}{c:Oc}{x:den c.ty}{v:Value}(hv:Hnd v c/\(E9 (P:=P) [] v c x).holds (O8 c v++mm S M) w'/\∀b∈O8 c v,w.heap.size<=b):
  HS w0 Mu M (apps d [.new i (.own false c x)] σ) L w' (E9 [] v c x::S) (Q0 ρ i v) (Q0 γ i []) (Q0 μ i []) (fun j=>if j=i then 0 else ι j+1)/\∀R,Ok (Q0 ρ i v) R (mm (E9 (P:=P) [] v c x::S) M) w' (.own i) v:=by
 obtain⟨I,H,J⟩:=hv
 have V:∀b∈(E9 (P:=P) [] v c x).fp,w.heap.size<=b/\b<w'.heap.size:=fun b U=>⟨J b (by rw[ocR_fp]at U;exact U),(E9 (P:=P) [] v c x).lt H b U⟩
 have W:(E9 (P:=P) [] v c x).holds (mm (E9 (P:=P) [] v c x::S) M) w':=by
  show(E9 (P:=P) [] v c x).holds ((E9 (P:=P) [] v c x).fp++mm S M) w';rw[ocR_fp];exact H
 have C:=h.hp.add e V ocR_mu W
 have D:=h.new (i:=i) (r:=.own false c x) (v:=v) (cs:=[]) (mu:=[]) C (h.hp.addA e V) I
 obtain⟨g1,g2⟩:=AJ3 I W
 exact⟨D,fun R=>⟨upf_self.symm,g1,g2⟩⟩
theorem AHD[Fx](h:HS w0 Mu M σ L w S ρ γ μ ι)(e:Ext w w'):∀(rs:List Ck) {r:E2 rs} {vs:List Value} (id:Nat),own1 rs<=1->KsOk (mm S M) Mo w w' rs r vs->(∀b∈X7 rs vs++mm S M,b∈Mo) ->
  ∃S' ρ' γ' μ' ι',HS w0 Mu M (apps d (H1 id rs r).2 σ) L w' S' ρ' γ' μ' ι'/\(∀b∈mm S' M,b∈Mo)/\OkV ρ' (A1 (apps d (H1 id rs r).2 σ).res) (mm S' M) w' (H1 id rs r).1 vs
 |[],r,vs,id,_,hk,H=>⟨S,ρ,γ,μ,ι,h.ext e,H,hk⟩
 |[c],r,vs,id,_,hk,H=>by
  obtain⟨v,rfl,hk⟩:=hk;cases c with
  |d t=>exact⟨S,ρ,γ,μ,ι,h.ext e,H,v,[],rfl,E1 t (OkD.mon H hk),rfl⟩
  |own et=>
   obtain⟨V,I⟩:=AH7 (d:=d) h e (i:=id) hk
   refine⟨_,_,_,_,_,V,fun b J=>H b ?_,v,[],rfl,I _,rfl⟩
   rcases mem_append.1 (show b∈(E9 (P:=P) [] v et r).fp++mm S M from J) with J|J
   . exact AX2 _ (AX2 _ (ALh J))
   . exact AX3 _ J
  |undef=>exact hk.elim
  |it ts=>exact⟨S,ρ,γ,μ,ι,h.ext e,H,v,[],rfl,⟨ItV.mon H hk.1,hk.2⟩,rfl⟩
  |np t=>exact⟨S,ρ,γ,μ,ι,h.ext e,H,v,[],rfl,NpOk.mon H hk,rfl⟩
 |c::c2::l,r,vs,id,C,hk,H=>by
  obtain⟨v,q,rfl,hk,U⟩:=hk;rw[ACf];cases c with
  |d t=>
   obtain⟨S',ρ',γ',μ',ι',V,I,W⟩:=AHD h e (c2::l) (id+100000) C U H
   exact⟨S',ρ',γ',μ',ι',V,I,v,q,rfl,E1 t (OkD.mon I hk),W⟩
  |own et=>
   have C:own1 (c2::l)=0:=by
    have:own1 (c2::l)+1<=1:=C;omega
   obtain⟨I,W,O⟩:=AHC (c2::l) (id+100000) C U
   obtain⟨K,F⟩:=AH7 (d:=d) h e (i:=id) hk
   have D:∀b∈mm (E9 (P:=P) [] v et r.1::S) M,b∈Mo:=fun b J=>H b (by
    rcases mem_append.1 (show b∈(E9 (P:=P) [] v et r.1).fp++mm S M from J) with J|J
    . exact AX2 _ (AX2 _ (ALh J))
    . exact AX3 _ J)
   have E:(AHu id (.own et) r.1).2++(H1 (id+100000) (c2::l) r.2).2=[.new id (.own false et r.1)]:=by rw[I];rfl
   simp only[E]
   exact⟨_,_,_,_,_,K,D,v,q,rfl,F _,O _ _ _ D⟩
  |undef=>exact hk.elim
  |it ts=>
   obtain⟨S',ρ',γ',μ',ι',V,I,W⟩:=AHD h e (c2::l) (id+100000) C U H
   exact⟨S',ρ',γ',μ',ι',V,I,v,q,rfl,⟨ItV.mon I hk.1,hk.2⟩,W⟩
  |np t=>
   obtain⟨S',ρ',γ',μ',ι',V,I,W⟩:=AHD h e (c2::l) (id+100000) C U H
   exact⟨S',ρ',γ',μ',ι',V,I,v,q,rfl,NpOk.mon I hk,W⟩
variable{N:Nat}{ops:Array Oper}{ds:List Deferred}{B:A3}{X:Nat->A3}{Z:List PanicEntry->A3}{ty:TypeId}{pos:String}{af:Array Edge}{G:Gx}{f:Operand}{g:Nat}{id:Nat}{caps:List SV}{ss:List SV}{ss':List SV}{c:Ctr}{a:E0 c.ps}{fz:List Ac}{xs:Array Operand}{ts:Array TypeId}
theorem HS.frzO[Fx](h:HS w0 Mu M σ L w S ρ γ μ ι){I:List Nat}{as_:List Ac}(H:Rx.frz (A1 σ.res) I=some as_):
  ∃S1 ι1,HS w0 Mu M (apps d as_ σ) L w S1 ρ γ μ ι1/\RdR ρ γ (A1 σ.res) (mm S1 M) w I/\∀b∈mm S1 M,b∈mm S M:=by
 rw[AGU as_ σ (AEJ I H)]
 exact AN2 I (A1 σ.res) AHB h H
theorem AN7[Fx][Sl (P:=P)](h:HS w0 Mu M σ L w S ρ γ μ ι)(D:GxOk P G){xs:List Operand}{r:E2 c.rs}(J:∀ρ R M w vs,OkV (P:=P) ρ R M w (ss++caps) vs->OkV (P:=P) ρ R M w ss' vs)(Q:B2 σ.env f=some (.fn g caps))(Y:evL (B2 σ.env) xs=some ss)(T:A1 G.fs g=some c)(hd:I7 G (A1 σ.res) c.ps ss'=some a)(W:(bif AAR c.rs then some [] else frz (A1 σ.res) (ownsLL ss'))=some fz)(F:c.F a=some r):
  ∃vf vs,Sx.ev L f=some vf/\evs L xs=some vs/\CallsV P vf vs w fun e w'=>∃v,e=.returned v/\∃S' ρ' γ' μ' ι',HS w0 Mu M (apps d (fz++(H1 id c.rs r).2) σ) L w' S' ρ' γ' μ' ι'/\Ok ρ' (A1 (apps d (fz++(H1 id c.rs r).2) σ).res) (mm S' M) w' (AEx (H1 id c.rs r).1) v:=by
 obtain⟨vf,N,cv,rfl,O⟩:=h.ev Q
 obtain⟨av,Z,K⟩:=h.evL Y
 obtain⟨H,U⟩:=FsOk.at D.fs T
 refine⟨_,_,N,Z,?_⟩
 cases C:AAR c.rs with
 |true=>
  rw[C,cond_true]at W
  cases W
  have hargs:=ABK D h.anch.2 (M':=M) (fun b I=>mem_mm.2 (.inr I)) c.ps _ (h.lend _) hd (J _ _ _ _ _ (OkV.app K O))
  refine CallsV.go U rfl (H.2 M w a _ r (fun b I=>h.hp.mlt b (mem_mm.2 (.inr I))) (h.anch.2.adv (Adv.drop fun b I=>mem_mm.2 (.inr I))) hargs F) ?_
  rintro e w2 ⟨vs,rfl,hk,hx⟩
  obtain⟨V,E⟩:=AFB c.rs id C hk
  rw[V]
  exact⟨_,rfl,S,ρ,γ,μ,ι,h.ext hx,AKF (E _ _ _)⟩
 |false=>
  rw[C,cond_false]at W
  obtain⟨S1,ι1,V,E,X⟩:=h.frzO (d:=d) W
  have hargs:=ABK D h.anch.2 (M':=mm S1 M) X c.ps _ E hd (J _ _ _ _ _ (OkV.app K O))
  refine CallsV.go U rfl (H.2 (mm S1 M) w a _ r V.hp.mlt V.anch.2 hargs F) ?_
  rintro e w2 ⟨vs,rfl,hk,hx⟩
  obtain⟨S',ρ',γ',μ',ι',B,_,A⟩:=AHD (d:=d) V hx c.rs id H.1 hk (fun b I=>I)
  rw[E7]
  exact⟨_,rfl,S',ρ',γ',μ',ι',B,AKF A⟩
theorem ATC[Fx][Sl (P:=P)](h:HS w0 Mu M σ L w S ρ γ μ ι)(K:GxOk P G)(hN:(match d with|some d=>blt d N|none=>true)=true){r:E2 c.rs}(H:∀ρ R M w vs,OkV (P:=P) ρ R M w (ss++caps) vs->OkV (P:=P) ρ R M w ss' vs)(D:B2 σ.env f=some (.fn g caps))(F:evL (B2 σ.env) xs.toList=some ss)(E:A1 G.fs g=some c)(hd:I7 G (A1 σ.res) c.ps ss'=some a)(C:(bif AAR c.rs then some [] else frz (A1 σ.res) (ownsLL ss'))=some fz)(O:c.F a=some r):
  B7 P N ops ds L w ⟨d,.call ⟨.value f,xs,ts⟩,ty,pos,af,none⟩ w0 Mu M (apps d (fz++(H1 id c.rs r).2++[.put (AEx (H1 id c.rs r).1)]) σ) B X Z:=by
 obtain⟨vf,vs,W,V,U⟩:=AN7 (d:=d) (id:=id) h K H D F E hd C O
 obtain⟨xs⟩:=xs
 cases d with
 |some d=>
  refine ADV W V hN (U.mono ?_)
  rintro e w2 ⟨v,rfl,S',ρ',γ',μ',ι',I,J⟩
  rw[E7]
  exact⟨v,rfl,I.fin J⟩
 |none=>
  refine AD0 W V (U.mono ?_)
  rintro e w2 ⟨v,rfl,S',ρ',γ',μ',ι',I,J⟩
  rw[E7]
  exact⟨v,rfl,Reg.nil ⟨rfl,EnvS.refl _ _,S',ρ',γ',μ',ι',I⟩⟩
theorem AKG[Sl (P:=P)]{M':List Nat}(U:∀b∈M',b∈M){R:Nat->Option AR}{v:Value}{r:Ty}:∀(a:List Ty) (f:P7 a r) (ss:List SV) {vs vs0:List Value} {o:Option (den r)},FnR P M' w v a r f vs0->Y4 r a f R ss=some o->OkV ρ R M w ss vs->Rds ρ R M' w (ownsLL ss) ->
  ∀y,o=some y->CallsV P v (vs0++vs) w fun e w2=>∃u,e=.returned u/\OkD M' w2 r y u/\Ext w w2
 |[],f,ss,vs,vs0,o,I,H,hk,_=>by
  cases ss with
  |cons _ _=>exact(A2 H).elim
  |nil=>
   have H:some f=some o:=H
   cases H
   have hk:vs=[]:=hk
   subst hk
   intro y hy
   rw[AYO]
   exact I y hy
 |t::a,f,ss,vs,vs0,o,I,H,hk,J=>by
  cases ss with
  |nil=>exact(A2 H).elim
  |cons s l=>
   obtain⟨u,q,rfl,C,W⟩:=hk
   have H:(match B9 R t s with
    |some x=>Y4 r a (f x) R l
    |none=>none)=some o:=H
   cases hx:B9 R t s with
   |none=>rw[hx]at H;exact(A2 H).elim
   |some x=>
    rw[hx]at H
    intro y hy
    have V:=I5 U t s (J.mono fun i hi=>AX2 _ hi) hx C
    have:=AKG U a (f x) l (I x u V) H W (J.mono fun i hi=>AX3 _ hi) y hy
    rwa [AYU,AZf]at this
theorem ARS[Fx][Sl (P:=P)](h:HS w0 Mu M σ L w S ρ γ μ ι)(hN:(match d with|some d=>blt d N|none=>true)=true){a:List Ty}{r:Ty}{F:P7 a r}{o:Option (den r)}{y:den r}(E:∃v,Sx.ev L f=some v/\FnOk (P:=P) (mm S M) w v a r F)(O:evL (B2 σ.env) xs.toList=some ss)(K:Y4 r a F (A1 σ.res) ss=some o)(C:frz (A1 σ.res) (ownsLL ss)=some fz)(D:o=some y):
  B7 P N ops ds L w ⟨d,.call ⟨.value f,xs,ts⟩,ty,pos,af,none⟩ w0 Mu M (apps d (fz++[.put (G0 r y)]) σ) B X Z:=by
 obtain⟨vf,W,Y⟩:=E
 obtain⟨vs,V,T⟩:=h.evL O
 obtain⟨S1,ι1,H,Q,U⟩:=h.frzO (d:=d) C
 have J:=AKG U a F ss (Y (mm S1 M) w (Adv.drop U) H.hp.mlt) K T Q.1 y D
 obtain⟨xs⟩:=xs
 rcases d with _|d
 case some=>
  refine ADV W V hN (J.mono ?_)
  rintro e w2 ⟨v,rfl,I,hx⟩
  rw[E7]
  exact⟨v,rfl,(H.ext hx).fin (E1 r I)⟩
 case none=>
  refine AD0 W V (J.mono ?_)
  rintro e w2 ⟨v,rfl,I,hx⟩
  rw[E7]
  exact⟨v,rfl,Reg.nil ⟨rfl,EnvS.refl _ _,S1,ρ,γ,μ,ι1,H.ext hx⟩⟩
end
end Go.Rx
namespace Go.Rx
open Go Go.Sx Go.RowKit
variable[Trk][Sg][Sf]{P:Program}[Se P][Anch]
theorem APT{G:Gx}{t:Nat}{ns:List SV}(h:szB G t ns=true):∃n,lk G.sz t=some n/\P9 ns=some n:=by
 unfold szB at h;cases I:lk G.sz t with
 |none=>rw[I]at h;cases h
 |some n=>
  rw[I]at h
  cases H:P9 ns with
  |none=>simp only[H]at h;cases h
  |some m=>
   simp only[H]at h
   have:=AX5 h
   subst this;exact⟨_,rfl,rfl⟩
theorem AIa{ns:List SV}{n:Nat}(h:AMf ns n=true):P9 ns=some n:=by
 unfold AMf at h;cases H:P9 ns with
 |none=>rw[H]at h;cases h
 |some m=>
  rw[H]at h
  have:=AX5 h
  subst this;rfl
theorem AHE:∀(ns l:List SV) {l':List SV},overL l ns=some l'->∀i∈ownsLL l',i∈ownsLL l\/i∈ownsLL ns
 |[],l,l',h,i,hi=>by
  have h:some l=some l':=by cases l<;>exact h
  cases h;exact .inl hi
 |_::_,[],_,h,_,_=>(A2 h).elim
 |n::ns,s::l,l',h,i,hi=>by
  simp only[overL]at h;cases I:beq (wd s) (wd n) with
  |false=>simp only[I]at h;exact(A2 h).elim
  |true=>
   simp only[I]at h
   cases H:wd n with
   |zero=>simp only[H]at h;exact(A2 h).elim
   |succ m=>
    simp only[H]at h
    cases hx:overL l ns with
    |none=>simp only[hx]at h;exact(A2 h).elim
    |some x=>
     simp only[hx]at h
     have h:=AXz h
     subst h
     rcases mem_append.1 (show i∈A9 n++ownsLL x from hi) with hi|hi
     . exact .inr (AX2 _ hi)
     . exact(AHE ns l hx i hi).imp (AX3 _) (AX3 _)
theorem AIb:∀(l:List SV) (o:Nat) {ns l':List SV},setW l o ns=some l'->∀i∈ownsLL l',i∈ownsLL l\/i∈ownsLL ns
 |l,0,ns,l',h,i,hi=>by
  have h:overL l ns=some l':=by cases l<;>exact h
  exact AHE ns l h i hi
 |[],_+1,_,_,h,_,_=>(A2 h).elim
 |s::l,o+1,ns,l',h,i,hi=>by
  simp only[setW]at h;cases H:wd s with
  |zero=>simp only[H]at h;exact(A2 h).elim
  |succ n=>
   simp only[H]at h
   cases I:Nat.ble n o with
   |false=>simp only[I]at h;exact(A2 h).elim
   |true=>
    simp only[I]at h
    cases hx:setW l (o-n) ns with
    |none=>simp only[hx]at h;exact(A2 h).elim
    |some x=>
     simp only[hx]at h
     have h:=AXz h
     subst h
     rcases mem_append.1 (show i∈A9 s++ownsLL x from hi) with hi|hi
     . exact .inl (AX2 _ hi)
     . exact(AIb l (o-n) hx i hi).imp (AX3 _) id
theorem AIc:∀(ns l:List SV) {l':List SV},overL l ns=some l'->∀i∈O7 l',i∈O7 l\/i∈O7 ns
 |[],l,l',h,i,hi=>by
  have h:some l=some l':=by cases l<;>exact h
  cases h;exact .inl hi
 |_::_,[],_,h,_,_=>(A2 h).elim
 |n::ns,s::l,l',h,i,hi=>by
  simp only[overL]at h;cases I:beq (wd s) (wd n) with
  |false=>simp only[I]at h;exact(A2 h).elim
  |true=>
   simp only[I]at h
   cases H:wd n with
   |zero=>simp only[H]at h;exact(A2 h).elim
   |succ m=>
    simp only[H]at h
    cases hx:overL l ns with
    |none=>simp only[hx]at h;exact(A2 h).elim
    |some x=>
     simp only[hx]at h
     have h:=AXz h
     subst h
     rcases mem_append.1 (show i∈S8 n++O7 x from hi) with hi|hi
     . exact .inr (AX2 _ hi)
     . exact(AIc ns l hx i hi).imp (AX3 _) (AX3 _)
theorem AKH:∀(l:List SV) (o:Nat) {ns l':List SV},setW l o ns=some l'->∀i∈O7 l',i∈O7 l\/i∈O7 ns
 |l,0,ns,l',h,i,hi=>by
  have h:overL l ns=some l':=by cases l<;>exact h
  exact AIc ns l h i hi
 |[],_+1,_,_,h,_,_=>(A2 h).elim
 |s::l,o+1,ns,l',h,i,hi=>by
  simp only[setW]at h;cases H:wd s with
  |zero=>simp only[H]at h;exact(A2 h).elim
  |succ n=>
   simp only[H]at h
   cases I:Nat.ble n o with
   |false=>simp only[I]at h;exact(A2 h).elim
   |true=>
    simp only[I]at h
    cases hx:setW l (o-n) ns with
    |none=>simp only[hx]at h;exact(A2 h).elim
    |some x=>
     simp only[hx]at h
     have h:=AXz h
     subst h
     rcases mem_append.1 (show i∈S8 s++O7 x from hi) with hi|hi
     . exact .inl (AX2 _ hi)
     . exact(AKH l (o-n) hx i hi).imp (AX3 _) id
variable{w0 w w':World}{Mu M:List Nat}{σ:AS}{L:A7}{S:List Res}{ρ:Nat->Value}{γ:Nat->List Value}{μ:Nat->List Nat}{ι:Nat->Nat}{N:Nat}{ops:Array Oper}{ds:List Deferred}{B:A3}{X:Nat->A3}{Z:List PanicEntry->A3}{d:Nat}{ty:TypeId}{pos:String}{af:Array Edge}{G:Gx}
theorem APU[Fx][Sl (P:=P)](h:HS w0 Mu M σ L w S ρ γ μ ι)(hG:GxOk P G){t i o e n:Nat}{p:Bool}{u:Ty}{ix:Int}{z z2:den u}{xs m:List (den u)}{x y:Operand}{s:SV}{l' ns:List SV}{fz:List Ac}(hy:B2 σ.env y=some s)(l:R9 s=some ns)(hx:B2 σ.env x=some (.ep i u ix (some z) o))(hi:A1 σ.res i=some (.own p (.sl e u) xs))(O:setW (Rx.cellsOf (G0 u z)) o ns=some l')(hd:toP (A1 σ.res) u l'=some z2)(T:frz (A1 σ.res) (ownsLL ns)=some fz)(I:has (ownsLL ns) i=false)(hm:ABE xs ix z2=some m)(k:lk G.sz t=some n)(hn:P9 ns=some n):
  B7 P N ops ds L w ⟨none,.store t x y,ty,pos,af,none⟩ w0 Mu M (apps none (fz++[.cnt i (.sl e u) m]) σ) B X Z:=by
 obtain⟨v,h1,h2⟩:=h.ev hy
 obtain⟨K,h4⟩:=ACe l h2
 obtain⟨av,h5,g,nn,cc,p',e',xs',h6,f,A,rfl,h9⟩:=h.ev hx
 rw[hi]at f;cases f
 have H:=h9 z rfl
 obtain⟨S1,ι1,k1,k2,k3⟩:=h.frzO (d:=none) T
 have k4:A1 (apps none fz σ).res i=some (.own p (.sl e u) xs):=AH5 fz σ (fun a U=>by
  obtain⟨j,D,q,rfl⟩:=ACI _ T a U;exact⟨j,q,rfl,fun e=>by subst e;rw[has_iff.2 D]at I;cases I⟩) hi
 have k5:=k1.res i _ k4
 have C:=h.ownAt hi
 have Q:=k1.ownAt k4
 obtain⟨g',cap,cur,k6,k7,_⟩:=Q.at_ (by have:=A.1;have:=A.2;omega)
 rw[h6]at k6;cases k6
 obtain⟨cs,k8,k9⟩:=Q.cellsAt k7 (AAC H).2.2
 obtain⟨cs0,j8,j9⟩:=C.cellsAt k7 (AAC H).2.2
 have F:cs0=cs:=by
  have e1:=(enc u).len j8;have e2:=(enc u).len k8;refine AYr fun q=>?_;rcases AYF q cs.length with V|V
  . obtain⟨a,U⟩:∃a,cs[q]?=some a:=⟨cs[q],by simp[V]⟩;obtain⟨b,Y⟩:∃b,cs0[q]?=some b:=⟨cs0[q]'(by omega),by rw[AX7]⟩;have f1:=k9 q a U;have f2:=j9 q b Y;rw[f1]at f2;rw[U,Y];cases f2;rfl
  . rw[AYC V,AYC (by omega)]
 subst F
 obtain⟨y0,q1,q2⟩:=J6 j8
 have q3:=Ok.cellsOf (ρ:=ρ) (R:=A1 σ.res) (G0 u z) (E1 u q1)
 rw[q2]at q3
 obtain⟨q4,q5⟩:=ADh _ o O q3 K
 rw[<-W0 _ _ _ q4]at q5
 have W:∀j∈ownsLL l',j∈ownsLL ns:=fun j D=>(AIb _ o O j D).elim (fun h=>by
  have J:=AEK (G0 u z) j h;rw[AGW]at J;cases J) id
 have q6:=AJ9 k3 u (k2.1.mono W) hd q5
 refine AU1 (ι1 i) (vs:=v.cells.toList) k1.hp k5 h5 h1 (by simp) k7 hm k8 k9 q6 (AZe q4) (SzOk.at hG.sz k) (AAG ns hn K) (AFA ns h4 K) fun w' hp hA=>?_
 refine Reg.nil ⟨rfl,EnvS.refl _ _,?_⟩
 rw[E7]
 have E:Y2 (.sl e u) m (.own p (.sl e u) xs)=.own p (.sl e u) m:=by simp only[Y2,castO,dif_pos]
 exact⟨_,_,_,_,_,k1.upd (r:=.own p (.sl e u) m) (cs:=γ i) (g:=Y2 (.sl e u) m) (c:=[0]) k4 E hp hA (fun p' e' t' ys he=>by
  cases he
  obtain⟨_,_,rfl⟩:=AGA hm;exact⟨_,rfl,by simp⟩) trivial⟩
theorem AKI[Sl (P:=P)]{M:List Nat}{R:Nat->Option AR}{E:Operand->Option SV}(Q:∀x s,E x=some s->∃v,Sx.ev L x=some v/\Ok ρ R M w s v)(pl:List (Nat×Nat)):∀(ps:List (Nat×Operand)) {l l':List SV} {cs:List Value},AD8 pl E ps l=some l'->OkL ρ R M w l cs ->
  ∃vs css out,evs L (ps.map (·.2))=some vs/\Cls vs css/\fillL pl cs ((ps.map (·.1)).zip css)=some out/\OkL ρ R M w l' out
 |[],l,l',cs,h,O=>by
  have h:some l=some l':=h;cases h
  exact⟨[],[],cs,rfl,trivial,rfl,O⟩
 |(i,x)::r,l,l',cs,h,O=>by
  simp only[AD8]at h;cases J:nth pl i with
  |none=>rw[J]at h;exact(A2 h).elim
  |some q=>
   obtain⟨o,n⟩:=q
   rw[J]at h
   cases W:E x with
   |none=>simp only[W]at h;exact(A2 h).elim
   |some s=>
    simp only[W]at h
    cases I:AMf (Rx.cellsOf s) n with
    |false=>simp only[I]at h;exact(A2 h).elim
    |true=>
     simp only[I]at h
     cases V:setW l o (Rx.cellsOf s) with
     |none=>simp only[V]at h;exact(A2 h).elim
     |some l1=>
      simp only[V]at h
      obtain⟨v,A,Y⟩:=Q x s W
      have U:=Ok.cellsOf s Y
      obtain⟨T,H⟩:=ADh l o V O U
      rw[<-W0 _ _ _ T]at H
      obtain⟨vs,css,out,K,F,D,C⟩:=AKI Q pl r h H
      refine⟨v::vs,v.cells.toList::css,out,by simp only[List.map_cons,evs,A,K],⟨by simp,F⟩,?_,C⟩
      rw[AAt]at J
      simp only[List.map_cons,List.zip_cons_cons,fillL,J,AAG _ (AIa I) U,true_and]
      rw[AYB (by rw[<-AAG _ (AIa I) U];exact T)]
      exact D
theorem ART[Fx][Sl (P:=P)](h:HS w0 Mu M σ L w S ρ γ μ ι)(H:GxOk P G)(hN:blt d N=true){t:Nat}{pl:List (Nat×Nat)}{ps:Array (Nat×Operand)}{l l':List SV}{E:Operand->Option SV}(V:∀x s,E x=some s->B2 σ.env x=some s)(J:lk G.bd t=some pl)(I:ABU G t=some (.agg l))(U:AD8 pl E ps.toList l=some l'):
  B7 P N ops ds L w ⟨some d,.build t ps,ty,pos,af,none⟩ w0 Mu M (apps (some d) [.put (.agg l')] σ) B X Z:=by
 obtain⟨z,T,zc,rfl,Q⟩:=AJ7 (ρ:=ρ) (M:=mm S M) (w:=w) (R:=A1 σ.res) H I
 obtain⟨fields,O,K⟩:=BdOk.at H.bd J
 obtain⟨vs,css,out,F,D,C,W⟩:=AKI (fun x s hx=>h.ev (V x s hx)) pl ps.toList U Q
 obtain⟨ps⟩:=ps
 exact ASb pl T rfl O K F D C hN (h.fin ⟨out,rfl,W⟩)
theorem ATD{x y:Operand}(h:opB x y=true):x=y:=by
 cases x with
 |tmp t=>cases y with
  |tmp u=>rw[AX5 (show beq t u=true from h)]
  |const _=>cases h
  |func _=>cases h
  |global _=>cases h
 |const v=>cases y with
  |tmp u=>cases v<;>cases h
  |const u=>cases v with
   |int k n=>cases u with
    |int k' n'=>
     have h:(match kEq k k' with
      |true=>decide (n=n')
      |false=>false)=true:=h
     cases hk:kEq k k' with
     |true=>
      rw[hk]at h
      rw[ADX hk,AX6 (show decide (n=n')=true from h)]
     |false=>
      rw[hk]at h
      cases h
    |_=>cases h
   |_=>cases u<;>cases h
  |func _=>cases v<;>cases h
  |global _=>cases v<;>cases h
 |func _=>cases h
 |global _=>cases h
variable{N:Nat}{ops:Array Oper}{ds:List Deferred}{B:A3}{X:Nat->A3}{Z:List PanicEntry->A3}{d:Nat}{ty:TypeId}{pos:String}{af:Array Edge}{G:Gx}{e:Nat}{u:Ty}{z0:den u}{t:Nat}{b:Nat}{x:Operand}{k:IntKind}{xs:List (den u)}{s:SV}{fz:List Ac}{R:Nat->Option AR}{y:Operand}{i:Int}{p:Bool}
theorem APV(W:GxOk P G)(V:lk G.ty e=some u)(I:AG4 u=some z0)(hi:∃z,(P.info? e).bind (·.zero)=some z):∃z:Value,(P.info? e).bind (·.zero)=some z/\z.cells=#[z]/\∀M w,(enc (P:=P) u).R M w [z] z0:=by
 obtain⟨z,H⟩:=hi;have C:=(TyOk.at W.ty V).2.2;have U:z=zv u:=by
  cases J:P.info? e with
  |none=>rw[J]at H;cases H
  |some i=>
   rw[J]at H
   have H:i.zero=some z:=H
   have:=C default
   simp[zeroValue,typeInfo,J,H]at this
   exact this
 subst U;refine⟨zv u,H,?_⟩;cases u with
 |int k=>
  have I:some (0:Int)=some z0:=I
  cases I
  exact⟨rfl,fun _ _=>⟨rfl,InK.zero k⟩⟩
 |bool=>
  have I:some false=some z0:=I
  cases I
  exact⟨rfl,fun _ _=>rfl⟩
 |sl t=>
  have I:some ([]:List (den t))=some z0:=I
  cases I
  exact⟨rfl,fun _ _=>⟨_,rfl,RdS.nil _ _ _⟩⟩
 |st _=>exact(A2 I).elim
 |arr _ _=>exact(A2 I).elim
 |mp _ _ _=>exact(A2 I).elim
 |fno _=>exact(A2 I).elim
theorem ALR[Fx](h:HS w0 Mu M σ L w S ρ γ μ ι)(C:GxOk P G)(hN:blt d N=true){m:Int}(hl:lk G.sl t=some (e,u,b))(E:lk G.ty e=some u)(D:AG4 u=some z0)(hx:B2 σ.env x=some (.int k m))(hm:mko b z0 m=some xs):
  B7 P N ops ds L w ⟨some d,.makeSlice t x x,ty,pos,af,none⟩ w0 Mu M (apps (some d) [.new d (.own false (.sl e u) xs),.put (.own d)] σ) B X Z:=by
 have W:=SlOk.at C.sl hl
 obtain⟨i,z',I,H,_⟩:=W.info
 obtain⟨z,O,K,F⟩:=APV C E D ⟨z',by rw[I];exact H⟩
 refine AWh W O K F h.hp (h.int hx).1 (h.int hx).1 hm hN fun v' w' U hA=>?_
 have J:=h.new (i:=d) (r:=.own false (.sl e u) xs) (v:=v') (cs:=[]) (mu:=[]) U hA trivial
 have V:Sx.Own (enc u) e 0 (mm (ownR [] (enc u) e v' xs::S) M) w' v' xs:=U.ownAt 0 rfl
 refine Reg.nil ⟨rfl,EnvS.put _ _ _,?_⟩
 exact⟨_,_,_,_,_,J.put (d:=d) (s:=.own d) (v:=v') ⟨upf_self.symm,by rw[V.cells1],V.oneC⟩⟩
theorem HS.rdF[Fx][Sl (P:=P)](h:HS w0 Mu M σ L w S ρ γ μ ι)(hx:B2 σ.env x=some s)(hd:B9 (A1 σ.res) (.sl u) s=some xs)(H:Rx.frz (A1 σ.res) (A9 s)=some fz):
  ∃v S1 ι1,Sx.ev L x=some v/\HS w0 Mu M (apps (some d) fz σ) L w S1 ρ γ μ ι1/\RdS (enc u) (mm S1 M) w v xs:=by
 obtain⟨v,W,V⟩:=h.ev hx
 obtain⟨S1,ι1,U,J,I⟩:=h.frz (d:=d) H
 exact⟨v,S1,ι1,W,U,(I5 (M':=mm S1 M) I (.sl u) s J.1 hd V).rds⟩
theorem AN8{M:List Nat}{w:World}{v:Value}(h:RdS (enc u) M w v xs):Ok ρ R M w (.dat (.sl u) xs) v:=⟨rfl,[v],⟨v,rfl,h⟩,.inr ⟨rfl,rfl⟩⟩
theorem ATE[Fx][Sl (P:=P)](h:HS w0 Mu M σ L w S ρ γ μ ι)(V:GxOk P G)(hN:blt d N=true){xs l:List (den u)}(hl:lk G.sl t=some (e,u,b))(hx:B2 σ.env x=some s)(hd:B9 (A1 σ.res) (.sl u) s=some xs)(I:Rx.frz (A1 σ.res) (A9 s)=some fz)(hy:B2 σ.env y=some (.int k i))(J:AGx xs i=some l):
  B7 P N ops ds L w ⟨some d,.slice t x (some y) none none,ty,pos,af,none⟩ w0 Mu M (apps (some d) (fz++[.put (.dat (.sl u) l)]) σ) B X Z:=by
 obtain⟨v,S1,ι1,D,C,W⟩:=h.rdF (d:=d) hx hd I
 have H:=SlOk.at V.sl hl
 obtain⟨U,rfl⟩:=ANj J
 rw[E7]
 exact AUn D (h.int hy).1 W U H.und (SlT.size H) hN fun v' hv=>C.fin (AN8 hv)
theorem ATF[Fx][Sl (P:=P)](h:HS w0 Mu M σ L w S ρ γ μ ι)(V:GxOk P G)(hN:blt d N=true){xs l:List (den u)}(hl:lk G.sl t=some (e,u,b))(hx:B2 σ.env x=some s)(hd:B9 (A1 σ.res) (.sl u) s=some xs)(I:Rx.frz (A1 σ.res) (A9 s)=some fz)(hy:B2 σ.env y=some (.int k i))(J:ABR xs i=some l):
  B7 P N ops ds L w ⟨some d,.slice t x none (some y) none,ty,pos,af,none⟩ w0 Mu M (apps (some d) (fz++[.put (.dat (.sl u) l)]) σ) B X Z:=by
 obtain⟨v,S1,ι1,D,C,W⟩:=h.rdF (d:=d) hx hd I
 have H:=SlOk.at V.sl hl
 obtain⟨U,rfl⟩:=AIW J
 rw[E7]
 exact AUm D (h.int hy).1 W U H.und (SlT.size H) hN fun v' hv _=>C.fin (AN8 hv)
theorem ARU{ct:List Nat}{d:Nat}{j:Nat}(h:tkQ ct d R e u s=some (j,p))(hd:B9 R (.sl u) s=some xs):s=.own j/\R j=some (.own p (.sl e u) xs):=by
 cases s with
 |own i=>
  have h:(match has ct d with
   |true=>match R i with
    |some (.own p c _)=>match decide (c=.sl e u) with
     |true=>some (i,p)
     |false=>none
    |_=>none
   |false=>none)=some (j,p):=h
  cases C:has ct d with
  |false=>rw[C]at h;exact(A2 h).elim
  |true=>
   rw[C]at h
   have hd:(match R i with
    |some (.own _ c xs)=>G8 c.ty (.sl u) xs
    |_=>none)=some xs:=hd
   cases U:R i with
   |none=>rw[U]at h;exact(A2 h).elim
   |some a=>
    rw[U]at h hd
    cases a with
    |row e l=>exact(A2 h).elim
    |own q c x=>
     have J:(match decide (c=.sl e u) with
      |true=>some (i,q)
      |false=>none)=some (j,p):=h
     have I:G8 c.ty (.sl u) x=some xs:=hd
     clear h hd
     cases H:decide (c=.sl e u) with
     |false=>rw[H]at J;exact(A2 J).elim
     |true=>
      rw[H]at J
      have D:(i,q)=(j,p):=AXz J
      have W:=AX6 H
      clear J H
      subst W
      cases D
      have V:G8 (Oc.sl e u).ty (.sl u) x=some x:=dif_pos rfl
      rw[V]at I
      cases I
      exact⟨rfl,U⟩
 |bool _|ary _ _ _|str _ _|agg _|fv _ _ _|fn _ _|raw _|it _ _|np _ _|ap _ _ _ _|undef|dead|tup _|rp _ _|ptr _ _|ep _ _ _ _ _|dat _ _|int _ _|nilS=>exact(A2 h).elim
theorem ARV[Fx][Sl (P:=P)](h:HS w0 Mu M σ L w S ρ γ μ ι)(E:GxOk P G)(hN:blt d N=true){t e b i:Nat}{j:Int}{xs l:List (den u)}(hl:lk G.sl t=some (e,u,b))(hx:B2 σ.env x=some (.own i))(hi:A1 σ.res i=some (.own p (.sl e u) xs))(hy:B2 σ.env y=some (.int k j))(D:ABR xs j=some l):
  B7 P N ops ds L w ⟨some d,.slice t x none (some y) none,ty,pos,af,none⟩ w0 Mu M (apps (some d) [.hnd i (.own p (.sl e u) l),.put (.own i)] σ) B X Z:=by
 obtain⟨v,I,F,_⟩:=h.ev hx
 subst F
 have H:=h.res i _ hi
 have C:=SlOk.at E.sl hl
 refine AWg (ι i) (mu:=bif p then μ i else []) h.hp H I (h.int hy).1 D C.und (SlT.size C) hN fun v' V hA=>?_
 have J:ι i<S.length:=by
  rcases AYF (ι i) S.length with I|I
  . exact I
  . rw[AYC I]at H;cases H
 have W:Sx.Own (enc u) e 0 (mm (S.set (ι i) (ownR (bif p then μ i else []) (enc u) e v' l)) M) w v' l:=V.ownAt (ι i) (mu:=bif p then μ i else []) (by simp[J])
 have U:=h.hnd (r:=.own p (.sl e u) l) (v:=v') (cs:=[]) hi V hA trivial
 refine Reg.nil ⟨rfl,EnvS.put _ _ _,?_⟩
 exact⟨_,_,_,_,_,U.put (d:=d) (s:=.own i) (v:=v') ⟨upf_self.symm,by rw[W.cells1],W.oneC⟩⟩
theorem ATG[Fx][Sl (P:=P)](h:HS w0 Mu M σ L w S ρ γ μ ι)(C:GxOk P G)(hN:blt d N=true){k k':IntKind}(hl:lk G.sl t=some (e,u,b))(hx:B2 σ.env x=some s)(hd:B9 (A1 σ.res) (.sl u) s=some xs)(H:A9 s=[]):
  B7 P N ops ds L w ⟨some d,.slice t x none (some (.const (.int k 0))) (some (.const (.int k' 0))),ty,pos,af,none⟩ w0 Mu M (apps (some d) [.new d (.own false (.sl e u) []),.put (.own d)] σ) B X Z:=by
 obtain⟨v,F,E⟩:=h.ev hx
 have D:=(I5 (M':=mm S M) (fun _ W=>W) (.sl u) s (fun j U=>by rw[H]at U;cases U) hd E).rds
 obtain⟨a,c,rfl,_⟩:=D.shape
 have V:=SlOk.at C.sl hl
 refine ASa F V.und (SlT.size V) hN fun v' hk=>?_
 have J:=h.hp.addLit (enc (P:=P) u) e hk
 have I:=h.new (i:=d) (r:=.own false (.sl e u) []) (v:=v') (cs:=[]) (mu:=[]) J (AMW _ _ hk) trivial
 have H:Sx.Own (enc u) e 0 (mm (ownR [] (enc u) e v' []::S) M) w v' []:=J.ownAt 0 rfl
 refine Reg.nil ⟨rfl,EnvS.put _ _ _,?_⟩
 exact⟨_,_,_,_,_,I.put (d:=d) (s:=.own d) (v:=v') ⟨upf_self.symm,by rw[H.cells1],H.oneC⟩⟩
theorem AQi[Fx][Sl (P:=P)](h:HS w0 Mu M σ L w S ρ γ μ ι)(O:GxOk P G)(hN:blt d N=true){b:BinOp}{t t' n:Nat}{s s':SV}{p q:Sg.S n}(hl:lk G.eq t=some n)(I:b=.eql\/b=.neq)(hx:B2 σ.env x=some s)(hy:B2 σ.env y=some s')(K:A9 s=[])(U:A9 s'=[])(F:B9 (A1 σ.res) (.st n) s=some p)(E:B9 (A1 σ.res) (.st n) s'=some q):
  B7 P N ops ds L w ⟨some d,.binOp b t x y t',ty,pos,af,none⟩ w0 Mu M (apps (some d) [.put (.bool (match b with|.eql=>Sf.eq n p q|_=>!Sf.eq n p q))] σ) B X Z:=by
 obtain⟨v,D,a⟩:=h.ev hx
 obtain⟨v',C,R⟩:=h.ev hy
 have A:=I5 (M':=mm S M) (fun _ I=>I) (.st n) s (fun j H=>by rw[K]at H;cases H) F a
 have Y:=I5 (M':=mm S M) (fun _ I=>I) (.st n) s' (fun j H=>by rw[U]at H;cases H) E R
 obtain⟨cs,T,⟨_,rfl⟩|⟨V,_⟩⟩:=A
 . obtain⟨cs',Q,⟨_,rfl⟩|⟨V,_⟩⟩:=Y
   . obtain⟨W,J⟩:=EqOk.at O.eq hl
     have J:=J (mm S M) w cs cs' p q T Q
     rcases I with rfl|rfl
     . exact AUh J W D C hN (h.fin rfl)
     . exact AUi J W D C hN (h.fin rfl)
   . cases V
 . cases V
theorem ATH[Sl (P:=P)]{M:List Nat}{w:World}{t:Ty}{x:den t}(h:zdM t=some x):OkD (P:=P) M w t x (zv t):=by
 unfold zdM at h;cases H:zdS t with
 |none=>rw[H]at h;exact(A2 h).elim
 |some s=>
  rw[H]at h
  have key:Ok (P:=P) (fun _=>undef) (fun _=>none) M w s (zv t):=by
   cases t with
   |st n=>
    have H:(match AB4 (Sf.ft n) with
     |some l=>some (.agg l)
     |none=>none)=some s:=H
    cases hl:AB4 (Sf.ft n) with
    |none=>rw[hl]at H;exact(A2 H).elim
    |some l=>
     rw[hl]at H
     have H:SV.agg l=s:=AXz H
     subst H
     exact⟨_,rfl,AGT _ hl⟩
   |mp _ _ _=>exact(A2 H).elim
   |fno _=>exact(A2 H).elim
   |int _|bool|sl _|arr _ _=>exact AGS _ H
  exact I5 (M':=M) (fun _ I=>I) t s (fun i _ p c x h=>by cases h) h key
variable{N:Nat}{ops:Array Oper}{ds:List Deferred}{B:A3}{X:Nat->A3}{Z:List PanicEntry->A3}{d:Nat}{ty:TypeId}{pos:String}{af:Array Edge}{G:Gx}{mu:List Nat}{m:Nat}{b:Nat}{k:Ty}{v:Ty}{f:A4 (den k) (den v)}{K:Ky P m (den k)}{s:SV}{y:Operand}{sy:SV}{a:den k}{t:Nat}{e:Nat}{R:Nat->Option AR}{cm:Bool}{z0:den v}{x:Operand}{sx:SV}{i:Nat}
theorem AC7(hK:Se.ky (P:=P) m k=some K):mapRes (P:=P) mu m k v b f={ mapO K (enc v) v.agg b f with mu:=mu }:=by
 unfold mapRes;rw[hK]
theorem AKJ(hK:Se.ky (P:=P) m k=some K)(h:(mapRes (P:=P) mu m k v b f).holds M w):MapH K (enc (P:=P) v) v.agg M w b f:=by
 rw[AC7 hK]at h;exact h
theorem HS.mapAt[Fx](h:HS w0 Mu M σ L w S ρ γ μ ι){u:Value}(hK:Se.ky (P:=P) m k=some K)(hd:B9 (A1 σ.res) (.mp m k v) s=some f)(V:Ok ρ (A1 σ.res) (mm S M) w s u):
  ∃b,u=.map (some b)/\MapH K (enc (P:=P) v) v.agg (mm S M) w b f:=by
 cases s with
 |own i=>
  have hd:(match A1 σ.res i with
   |some (.own _ c x)=>G8 c.ty (.mp m k v) x
   |_=>none)=some f:=hd
  cases hi:A1 σ.res i with
  |none=>rw[hi]at hd;exact(A2 hd).elim
  |some a=>
   rw[hi]at hd
   cases a with
   |row _ _=>exact(A2 hd).elim
   |own p c x=>
    obtain⟨J,hd⟩:=O1 (show G8 c.ty (.mp m k v) x=some f from hd)
    cases c with
    |sl _ _=>cases J
    |mp m' k' v'=>
     cases J
     have hd:x=f:=hd
     subst hd
     obtain⟨b,W⟩:=h.row i _ hi
     have E:=h.hp.get _ (h.res i _ hi)
     have I:(mapRes (P:=P) (bif p then μ i else []) m k v (blk (ρ i)) x).holds (mm S M) w:=E
     have C:=AKJ hK I
     have U:blk (ρ i)=b:=by rw[W];rfl
     rw[U]at C
     exact⟨b,V.1.trans W,C⟩
 |dat t' x=>
  obtain⟨J,hd⟩:=O1 (show G8 t' (.mp m k v) x=some f from hd)
  cases J
  have hd:x=f:=hd
  subst hd
  obtain⟨_,cs,⟨u',K',rfl,H,b,rfl,_,D⟩,⟨I,_⟩|⟨_,I⟩⟩:=V
  . cases I
  . have:u=.map (some b):=(List.singleton_inj.1 I).symm
    rw[hK]at H;cases H
    exact⟨b,this,D⟩
 |int _ _|bool _|ary _ _ _|str _ _|agg _|fv _ _ _|fn _ _|raw _|it _ _|np _ _|ap _ _ _ _|undef|dead|tup _|rp _ _|ptr _ _|ep _ _ _ _ _|nilS=>exact(A2 hd).elim
theorem HS.key[Fx][Sl (P:=P)](h:HS w0 Mu M σ L w S ρ γ μ ι)(hy:B2 σ.env y=some sy)(H:A9 sy=[])(J:B9 (A1 σ.res) k sy=some a):∃u,Sx.ev L y=some u/\OkD (P:=P) (mm S M) w k a u:=by
 obtain⟨u,V,U⟩:=h.ev hy;exact⟨u,V,I5 (M':=mm S M) (fun _ I=>I) k sy (fun i hi=>by rw[H]at hi;cases hi) J U⟩
theorem AN9[Fx](h:HS w0 Mu M σ L w S ρ γ μ ι)(J:GxOk P G)(hN:blt d N=true)(hl:lk G.mp t=some (m,e,k,v)):
  B7 P N ops ds L w ⟨some d,.makeMap t none,ty,pos,af,none⟩ w0 Mu M (apps (some d) [.new d (.own false (.mp m k v) (show A4 (den k) (den v) from fnone)),.put (.own d)] σ) B X Z:=by
 obtain⟨K,hK,_,_,_⟩:=MpOk.at J.mp hl
 refine AQU K (enc (P:=P) v) v.agg h.hp hN fun b w' H hA=>?_
 have I:E9 (P:=P) [] (.map (some b)) (.mp m k v) (show A4 (den k) (den v) from fnone)=mapO K (enc v) v.agg b fnone:=AC7 hK
 rw[<-I]at H hA
 have U:=h.new (i:=d) (r:=.own false (.mp m k v) (show A4 (den k) (den v) from fnone)) (v:=.map (some b)) (cs:=[]) (mu:=[]) H hA ⟨b,rfl⟩
 refine Reg.nil ⟨rfl,EnvS.put _ _ _,?_⟩
 exact⟨_,_,_,_,_,U.put (d:=d) (s:=.own d) (v:=.map (some b)) ⟨upf_self.symm,rfl,rfl⟩⟩
theorem ATI{M:List Nat}{o:Option (den v)}{r:Value}(H:OkD (P:=P) M w v (o.getD z0) r):Ok ρ R M w (lkR cm v o z0) (if cm then .tuple #[r,.bool o.isSome] else r):=by
 cases cm with
 |true=>exact⟨[r,.bool o.isSome],rfl,r,_,rfl,E1 v H,_,_,rfl,rfl,rfl⟩
 |false=>exact E1 v H
theorem APW[Fx][Sl (P:=P)](h:HS w0 Mu M σ L w S ρ γ μ ι)(E:GxOk P G)(hN:blt d N=true)(hl:lk G.mp t=some (m,e,k,v))(hx:B2 σ.env x=some sx)(hd:B9 (A1 σ.res) (.mp m k v) sx=some f)(hy:B2 σ.env y=some sy)(W:A9 sy=[])(C:B9 (A1 σ.res) k sy=some a)(U:zdM v=some z0):
  B7 P N ops ds L w ⟨some d,.lookup t x y cm,ty,pos,af,none⟩ w0 Mu M (apps (some d) [.put (lkR cm v (f a) z0)] σ) B X Z:=by
 obtain⟨K,hK,J,V,H⟩:=MpOk.at E.mp hl
 obtain⟨vx,R,Y⟩:=h.ev hx
 obtain⟨vy,T,Q⟩:=h.key hy W C
 obtain⟨hv,I⟩:=J _ _ _ _ Q
 subst hv
 obtain⟨b,rfl,D⟩:=h.mapAt hK hd Y
 obtain⟨r,O,F⟩:=D.lookup I V H (ATH U)
 refine P4 _ w rfl rfl hN (fun A hA=>?_) (h.fin (ATI (cm:=cm) F))
 simp[execOp,hA.eval R,hA.eval T,O cm w rfl]
theorem AId(h:AJv R m k v s=some (i,f)):s=.own i/\R i=some (.own false (.mp m k v) f):=by
 cases s with
 |own j=>
  have h:(match R j with
   |some (.own false c f)=>match castO c (.mp m k v) f with
    |some f=>some (j,f)
    |none=>none
   |_=>none)=some (i,f):=h
  cases I:R j with
  |none=>rw[I]at h;exact(A2 h).elim
  |some a=>
   rw[I]at h
   cases a with
   |row _ _=>exact(A2 h).elim
   |own p c g=>
    cases p with
    |true=>exact(A2 h).elim
    |false=>
     simp only at h
     cases H:castO c (.mp m k v) g with
     |none=>rw[H]at h;exact(A2 h).elim
     |some g'=>
      rw[H]at h
      have h:(j,g')=(i,f):=AXz h
      cases h
      obtain⟨J,H⟩:=AAF H
      subst J
      have H:g=f:=H
      subst H
      exact⟨rfl,I⟩
 |int _ _|bool _|dat _ _|ary _ _ _|str _ _|agg _|fv _ _ _|fn _ _|raw _|it _ _|np _ _|ap _ _ _ _|undef|dead|tup _|rp _ _|ptr _ _|ep _ _ _ _ _|nilS=>exact(A2 h).elim
theorem HS.mapO[Fx](h:HS w0 Mu M σ L w S ρ γ μ ι)(hK:Se.ky (P:=P) m k=some K)(hi:A1 σ.res i=some (.own false (.mp m k v) f)):∃b,ρ i=.map (some b)/\S[ι i]?=some (Sx.mapO K (enc (P:=P) v) v.agg b f):=by
 obtain⟨b,H⟩:=h.row i _ hi;have J:=h.res i _ hi;have I:S[ι i]?=some (mapRes (P:=P) [] m k v (blk (ρ i)) f):=J;rw[AC7 hK,H]at I;exact⟨b,H,I⟩
theorem HS.mapUp[Fx](h:HS w0 Mu M σ L w S ρ γ μ ι){f f':A4 (den k) (den v)}(hK:Se.ky (P:=P) m k=some K)(hi:A1 σ.res i=some (.own false (.mp m k v) f))(U:ρ i=.map (some b))(J:Hp w0 Mu M (S.set (ι i) (Sx.mapO K (enc (P:=P) v) v.agg b f')) w')(hA:Adv (mm S M) (mm (S.set (ι i) (Sx.mapO K (enc (P:=P) v) v.agg b f')) M) w w')(dd:Option Nat):Holds w0 Mu M (apps dd [.cnt i (.mp m k v) f'] σ) L w':=by
 have I:G9 (P:=P) (ρ i) (γ i) (μ i) (.own false (.mp m k v) f')=Sx.mapO K (enc (P:=P) v) v.agg b f':=by
  rw[U];exact AC7 hK
 rw[<-I]at J hA;have H:Y2 (.mp m k v) f' (.own false (.mp m k v) f)=.own false (.mp m k v) f':=by simp only[Y2,castO,dif_pos]
 exact⟨_,_,_,_,_,h.upd (r:=.own false (.mp m k v) f') (cs:=γ i) (g:=Y2 (.mp m k v) f') (c:=[0]) hi H J hA (fun p' e' t' ys I=>by cases I) ⟨b,U⟩⟩
theorem ALS[Fx][Sl (P:=P)](h:HS w0 Mu M σ L w S ρ γ μ ι)(R:GxOk P G){x y u:Operand}{sy su:SV}{z:den v}{fz:List Ac}(hl:lk G.mp t=some (m,e,k,v))(hx:B2 σ.env x=some (.own i))(hi:A1 σ.res i=some (.own false (.mp m k v) f))(hy:B2 σ.env y=some sy)(T:A9 sy=[])(U:B9 (A1 σ.res) k sy=some a)(O:B2 σ.env u=some su)(H:has (A9 su) i=false)(F:B9 (A1 σ.res) v su=some z)(W:Rx.frz (A1 σ.res) (A9 su)=some fz):
  B7 P N ops ds L w ⟨none,.mapUpdate t x y u,ty,pos,af,none⟩ w0 Mu M (apps none (fz++[.cnt i (.mp m k v) (@B5 _ _ (ADY k) f a z)]) σ) B X Z:=by
 obtain⟨K,hK,V,I,E⟩:=MpOk.at R.mp hl
 obtain⟨vx,D,p,_⟩:=h.ev hx
 subst p
 obtain⟨vy,o,n⟩:=h.key hy T U
 obtain⟨hv,J⟩:=V _ _ _ _ n
 subst hv
 obtain⟨vu,l,g⟩:=h.ev O
 obtain⟨S1,ι1,k1,k2,k3⟩:=h.frzO (d:=none) W
 have k4:A1 (apps none fz σ).res i=some (.own false (.mp m k v) f):=AGV fz σ (fun a U=>by
  obtain⟨j,Y,q,rfl⟩:=ACI _ W a U;exact⟨j,q,rfl,fun e=>by subst e;rw[has_iff.2 Y]at H;cases H⟩) hi
 obtain⟨b,C,A⟩:=k1.mapO hK k4
 rw[C]at D
 have c:=I5 (M':=mm S1 M) k3 v su k2.1 F g
 letI:DecidableEq (den k):=ADY k
 refine AMY (ι1 i) k1.hp A D o J l c I fun w' Q hA=>?_
 refine Reg.nil ⟨rfl,EnvS.refl _ _,?_⟩
 rw[E7]
 exact k1.mapUp hK k4 C Q hA none
theorem APX[Fx][Sl (P:=P)](h:HS w0 Mu M σ L w S ρ γ μ ι)(O:GxOk P G){t t' m e i:Nat}(hl:lk G.mp t=some (m,e,k,v))(hx:B2 σ.env x=some (.own i))(hi:A1 σ.res i=some (.own false (.mp m k v) f))(hy:B2 σ.env y=some sy)(D:A9 sy=[])(E:B9 (A1 σ.res) k sy=some a):
  B7 P N ops ds L w ⟨none,.call ⟨.builtin .delete,#[x,y],#[t,t']⟩,ty,pos,af,none⟩ w0 Mu M (apps none [.cnt i (.mp m k v) (@Z2 _ _ (ADY k) f a)] σ) B X Z:=by
 obtain⟨K,hK,J,H,W⟩:=MpOk.at O.mp hl
 obtain⟨vx,V,Y,_⟩:=h.ev hx
 subst Y
 obtain⟨vy,T,Q⟩:=h.key hy D E
 obtain⟨hv,I⟩:=J _ _ _ _ Q
 subst hv
 obtain⟨b,U,F⟩:=h.mapO hK hi
 rw[U]at V
 letI:DecidableEq (den k):=ADY k
 refine AU2 (ι i) h.hp F V T I H fun w' C hA=>?_
 exact Reg.nil ⟨rfl,EnvS.refl _ _,h.mapUp hK hi U C hA none⟩
theorem ATJ[Fx][Sl (P:=P)](h:HS w0 Mu M σ L w S ρ γ μ ι)(E:GxOk P G)(hN:blt d N=true)(hl:lk G.mp t=some (m,e,k,v)){n:Int}(hx:B2 σ.env x=some sx)(hd:B9 (A1 σ.res) (.mp m k v) sx=some f)(U:chk .i64 (AJq f)=some n):
  B7 P N ops ds L w ⟨some d,.call ⟨.builtin .len,#[x],#[t]⟩,ty,pos,af,none⟩ w0 Mu M (apps (some d) [.put (.int .i64 n)] σ) B X Z:=by
 obtain⟨K,hK,C,H,J⟩:=MpOk.at E.mp hl
 obtain⟨vx,O,F⟩:=h.ev hx
 obtain⟨b,rfl,D⟩:=h.mapAt hK hd F
 obtain⟨es,c,xs,g1,g2,g3,g4⟩:=D
 have hl:(es.size:Int)=AJq f:=by rw[ARF g4,<-g3.len];simp
 obtain⟨V,I⟩:=U5 U
 subst V
 refine P4 _ w rfl rfl hN (fun a W=>?_) (h.fin ⟨rfl,I⟩)
 simp[execOp,resolve,invoke,builtin,Builtin.len_,W.eval O,run_underlying H,MapKept.run_getObj_map g1,goInt,hl]
variable{N:Nat}{ops:Array Oper}{ds:List Deferred}{A B:A3}{X:Nat->A3}{Z:List PanicEntry->A3}{d:Nat}{ty:TypeId}{pos:String}{af:Array Edge}{G:Gx}{q:Md}{rest:List Oper}{m:Nat}{x:Operand}{y:Operand}{k:IntKind}{i:Int}{j:Int}
theorem AM1{t e len m b o:Nat}(hx:Sx.ev L x=some (.pointer (some ⟨b,o,none⟩)))(hy:Sx.ev L y=some (.int k i))(W:0<=i)(V:i<len)(I:P.underlying t=some (.array len e))(J:∀w,(sizeOf e).run P w=.ok m w)(hN:blt d N=true)(h:Reg P N ops q rest ds ((d,.pointer (some ⟨b,o+i.toNat*m,none⟩))::L) w A B X Z):Reg P N ops q (⟨some d,.indexAddr t x y,ty,pos,af,none⟩::rest) ds L w A B X Z:=by
 refine Reg.val (.pointer (some ⟨b,o+i.toNat*m,none⟩)) rfl rfl hN (fun a H w' _=>?_) h;have U:i.toNat<len:=by omega
 simp[execOp,H.eval hx,H.eval hy,Instr.indexAt,asIntOf,run_underlying I,Instr.sureAddr,W,V,J,add_none]
theorem ARW{n i j:Int}(h:ixA n i=some j):0<=i/\i<n/\j=i:=by
 unfold ixA at h;split at h
 . rename_i hi;cases h;exact⟨hi.1,hi.2,rfl⟩
 . cases h
theorem ARX(h:0<=i):(i*Int.ofNat m).toNat=i.toNat*m/\0<=i*Int.ofNat m:=by
 obtain⟨j,rfl⟩:=Int.eq_ofNat_of_zero_le h;have:(j:Int)*Int.ofNat m=((j*m:Nat):Int):=by simp
 rw[this];exact⟨by rw[Int.toNat_natCast];simp,Int.natCast_nonneg _⟩
theorem AKK{m len:Nat}(h:0<=i)(I:i<len):i*Int.ofNat m+m<=((len*m:Nat):Int):=by
 obtain⟨j,rfl⟩:=Int.eq_ofNat_of_zero_le h;have H:j+1<=len:=by omega
 have:(j:Int)*Int.ofNat m+m=(((j+1)*m:Nat):Int):=by simp[Nat.add_mul]
 rw[this];exact_mod_cast AYy m H
theorem AVP[Fx](h:HS w0 Mu M σ L w S ρ γ μ ι)(O:GxOk P G)(hN:blt d N=true){t len m:Nat}{s r:SV}(hl:lk G.ar t=some (len,m))(hx:B2 σ.env x=some s)(hy:B2 σ.env y=some (.int k i))(hi:ixA len i=some j)(H:apS len m j s=some r):
  B7 P N ops ds L w ⟨some d,.indexAddr t x y,ty,pos,af,none⟩ w0 Mu M (apps (some d) [.put r] σ) B X Z:=by
 obtain⟨W,C,rfl⟩:=ARW hi
 obtain⟨e,E,F⟩:=ArOk.at O.ar hl
 obtain⟨vx,V,I⟩:=h.ev hx
 obtain⟨vy,J,D,_⟩:=h.ev hy
 subst D
 have hm:=ARX (m:=m) W
 cases s with
 |rp v o=>
  have H:some (SV.ap (.rp v o) (len*m) (j*Int.ofNat m) m)=some r:=H
  cases H
  have U:=I
  obtain⟨b,o0,u,vs,rfl,_⟩:=I
  exact AM1 V J W C E F hN (h.fin ⟨b,o0+o,U,by rw[hm.1],hm.2,AKK W C⟩)
 |ptr i' o=>
  have H:some (SV.ap (.ptr i' o) (len*m) (j*Int.ofNat m) m)=some r:=H
  cases H
  have U:=I
  obtain⟨b,K,rfl⟩:=I
  exact AM1 V J W C E F hN (h.fin ⟨b,o,U,by rw[hm.1],hm.2,AKK W C⟩)
 |ap s0 n x0 k0=>
  have H:(match beq k0 (len*m) with
   |true=>some (SV.ap s0 n (x0+j*Int.ofNat m) m)
   |false=>none)=some r:=H
  cases hk:beq k0 (len*m) with
  |false=>rw[hk]at H;exact(A2 H).elim
  |true=>
   rw[hk]at H
   have hk:=AX5 hk
   cases H
   obtain⟨b,o,K,rfl,Q,Y⟩:=I
   have T:=AKK (m:=m) W C
   refine AM1 V J W C E F hN (h.fin ⟨b,o,K,?_,by omega,by omega⟩)
   rw[Int.toNat_add Q hm.2,hm.1,AYs]
 |int _ _|bool _|ary _ _ _|str _ _|agg _|fv _ _ _|fn _ _|undef|dead|tup _|dat _ _|own _|nilS|raw _|it _ _|np _ _|ep _ _ _ _ _=>exact(A2 H).elim
variable{R:Nat->Option AR}
theorem ATK{k:IntKind}{n:Nat}{xs:List Int}{u:Value}(h:Ok ρ R M w (.ary k n xs) u):0<n/\xs.length=n/\u.cells=toArray (xs.map (Value.int k))/\∀y∈xs,InK k y:=by
 obtain⟨cs,⟨V,U,J,I⟩,H|H⟩:=h
 . obtain⟨_,rfl⟩:=H;exact⟨V,U,by rw[J];rfl,I⟩
 . cases H.1
theorem AOA{k:IntKind}{n o:Nat}{xs:List Int}{l:List SV}{vs:List Value}(I:P8 l o=some (.ary k n xs))(h:OkL ρ R M w l vs):0<n/\xs.length=n/\(∃r,vs.drop o=xs.map (Value.int k)++r)/\∀y∈xs,InK k y:=by
 obtain⟨u,c,r,D,H,C⟩:=AE9 l o I h;obtain⟨W,V,U,J⟩:=ATK D;rw[U]at H;have H:xs.map (Value.int k)=c:=by simpa using H
 exact⟨W,V,⟨r,by rw[C,H]⟩,J⟩
variable{o:Nat}{s:SV}{n:Nat}{xs:List Int}{t:Nat}{x0:Int}{v:Int}
section
variable{j:Nat}
theorem APY{α:Type}{l a r:List α}(h:l.drop o=a++r){y:α}(hy:a[j]?=some y):l[o+j]?=some y:=by
 have H:(l.drop o)[j]?=some y:=by
  rw[h,AYP]
  . exact hy
  . rcases AYF j a.length with h|h
    . exact h
    . rw[AYC h]at hy;cases hy
 rwa [AYu]at H
theorem APZ[Fx][Sl (P:=P)](h:HS w0 Mu M σ L w S ρ γ μ ι){n b o:Nat}(H:AD9 (A1 σ.res) s=some (k,n,xs))(D:Ok ρ (A1 σ.res) (mm S M) w s (.pointer (some ⟨b,o,none⟩))):
  xs.length=n/\(∀y∈xs,InK k y)/\∀(j:Nat) (y:Int),xs[j]?=some y->w.cell? ⟨b,o+j,none⟩=some (.int k y):=by
 have fin:∀{l:List SV} {vs:List Value} {o0 o1:Nat},(match P8 l o1 with
   |some (.ary k n xs)=>some (k,n,xs)
   |_=>none)=some (k,n,xs)->OkL ρ (A1 σ.res) (mm S M) w l vs->Cells w b o0 vs->o=o0+o1->xs.length=n/\(∀y∈xs,InK k y)/\∀(j:Nat) (y:Int),xs[j]?=some y->w.cell? ⟨b,o+j,none⟩=some (.int k y):=by
  intro l vs o0 o1 V hl Q E
  split at V
  . rename_i k' n' xs' K
    cases V
    obtain⟨_,C,⟨r,J⟩,U⟩:=AOA K hl
    refine⟨C,U,fun j y F=>?_⟩
    have I:=APY J (j:=j) (y:=Value.int k y) (by rw[AYc,F];rfl)
    have:=Q (o1+j) _ I
    rwa [E,AYs]
  . cases V
 cases s with
 |rp v o1=>
  obtain⟨b',o0,u,vs,W,C,J,U⟩:=D
  cases W
  have I:=Ok.cellsOf v J
  rw[U]at I
  exact fin H I C.cells rfl
 |ptr i o1=>
  have H:(match A1 σ.res i with
   |some (.row _ l)=>(match P8 l o1 with
    |some (.ary k n xs)=>some (k,n,xs)
    |_=>none)
   |_=>none)=some (k,n,xs):=H
  cases hi:A1 σ.res i with
  |none=>rw[hi]at H;exact(A2 H).elim
  |some a=>
   rw[hi]at H
   cases a with
   |own _ _ _=>exact(A2 H).elim
   |row e l=>
    obtain⟨b',O,W⟩:=D
    cases W
    obtain⟨b2,J,U,I,_⟩:=h.rowAt hi
    rw[O]at J;cases J
    exact fin H I U.rd.cells (AYQ _).symm
 |int _ _|bool _|ary _ _ _|str _ _|agg _|fv _ _ _|fn _ _|undef|dead|tup _|dat _ _|own _|nilS|raw _|it _ _|np _ _|ep _ _ _ _ _|ap _ _ _ _=>exact(A2 H).elim
theorem ARY[Fx][Sl (P:=P)](h:HS w0 Mu M σ L w S ρ γ μ ι)(U:GxOk P G)(hN:blt d N=true){x0 y:Int}{q:IntKind}(J:lk G.tb.ag t=some 0)(hx:B2 σ.env x=some (.ap s n x0 1))(I:AD9 (A1 σ.res) s=some (q,n,xs))(hy:ixo xs x0=some y):
  B7 P N ops ds L w ⟨some d,.load t x,ty,pos,af,none⟩ w0 Mu M (apps (some d) [.put (.int q y)] σ) B X Z:=by
 obtain⟨v,D,b,o,C,rfl,K,F⟩:=h.ev hx
 obtain⟨E,W,V⟩:=APZ h I C
 have H:=(AAC hy).2.2
 exact V9 D (V _ _ H) (ACR U.ag J) hN (h.fin ⟨rfl,W y (AX1 H)⟩)
theorem AHF:∀(l r:List Value),B8 (l++r) 0 l=l++r
 |[],r=>by cases r<;>rfl
 |x::l,r=>by
  show x::B8 (l++r) 0 l=x::(l++r);rw[AHF l r]
theorem AHG{k:IntKind}{v:Int}{r:List Value}:∀(xs:List Int) (j:Nat),j<xs.length->B8 (xs.map (Value.int k)++r) j [Value.int k v]=B8 (xs.map (Value.int k)++r) 0 ((xs.set j v).map (Value.int k))
 |[],j,h=>by simp at h
 |x::xs,0,_=>by
  show Value.int k v::B8 (xs.map (Value.int k)++r) 0 []=Value.int k v::B8 (xs.map (Value.int k)++r) 0 (xs.map (Value.int k));rw[AHF];cases (xs.map (Value.int k)++r)<;>rfl
 |x::xs,j+1,h=>by
  show Value.int k x::B8 (xs.map (Value.int k)++r) j [Value.int k v]=Value.int k x::B8 (xs.map (Value.int k)++r) 0 ((xs.set j v).map (Value.int k));rw[AHG xs j (by simpa using h)]
theorem AIe{k:IntKind}{xs:List Int}{j:Nat}{v:Int}{r:List Value}(H:j<xs.length):∀(o:Nat) {γ:List Value},γ.drop o=xs.map (Value.int k)++r->B8 γ (o+j) [Value.int k v]=B8 γ o ((xs.set j v).map (Value.int k))
 |0,γ,h=>by
  rw[List.drop_zero]at h;rw[h,AYQ];exact AHG xs j H
 |o+1,[],h=>by
  cases xs with
  |nil=>simp at H
  |cons x xs=>simp at h
 |o+1,c::γ,h=>by
  have h:γ.drop o=xs.map (Value.int k)++r:=h;rw[show o+1+j=(o+j)+1 by omega];have e1:B8 (c::γ) (o+j+1) [Value.int k v]=c::B8 γ (o+j) [Value.int k v]:=rfl;have e2:∀l:List Value,l≠[]->B8 (c::γ) (o+1) l=c::B8 γ o l:=fun l hl=>by
   cases l with
   |nil=>exact absurd rfl hl
   |cons _ _=>rfl
  rw[e1,e2 _ (fun e=>by
   have:((xs.set j v).map (Value.int k)).length=0:=by rw[e];rfl
   simp at this;rw[this]at H;simp at H),AIe H o h]
theorem APa[Fx][Sl (P:=P)](h:HS w0 Mu M σ L w S ρ γ μ ι)(hG:GxOk P G){t i o e n:Nat}{x y:Operand}{l l':List SV}{xs m:List Int}(hy:B2 σ.env y=some s)(q:R9 s=some [.int k v])(hx:B2 σ.env x=some (.ap (.ptr i o) n x0 1))(hi:A1 σ.res i=some (.row e l))(hc:P8 l o=some (.ary k n xs))(hm:ABE xs x0 v=some m)(A:setW l o [.ary k n m]=some l')(H:lk G.sz t=some 1):
  B7 P N ops ds L w ⟨none,.store t x y,ty,pos,af,none⟩ w0 Mu M (apps none [.sto i o [.ary k n m]] σ) B X Z:=by
 have hg:AAO o [.ary k n m] (.row e l)=.row e l':=by simp only[AAO,A]
 obtain⟨vv,h1,h2⟩:=h.ev hy
 obtain⟨⟨u9,c9,r9,g1,⟨rfl,hk⟩,g3,g4⟩,_⟩:=ACe q h2
 have C:vv.cells=toArray [Value.int k v]:=by
  have g4:r9=[]:=g4;have g3:[Value.int k v]=c9:=by simpa[Value.cells] using g3
  have g5:vv.cells.toList=[Value.int k v]:=by rw[g1,g4,<-g3];rfl
  rw[<-g5]
 obtain⟨u,h5,b,o1,⟨b1,T,Q⟩,rfl,h0,hlt⟩:=h.ev hx
 cases Q
 obtain⟨b',f,h8,d,Y⟩:=h.rowAt hi
 rw[T]at f;cases f
 obtain⟨F,hn,⟨r,hr⟩,O⟩:=AOA hc d
 obtain⟨s0,s1,rfl⟩:=AGA hm
 have E:OkL ρ (A1 σ.res) (mm S M) w [.ary k n (xs.set x0.toNat v)] ((xs.set x0.toNat v).map (Value.int k)):=by
  refine⟨.agg (toArray ((xs.set x0.toNat v).map (Value.int k))),_,[],(AYO _).symm,⟨_,⟨F,by simpa using hn,rfl,fun z H=>?_⟩,.inl ⟨rfl,rfl⟩⟩,rfl,rfl⟩;rcases AZE H with H|rfl
  . exact O z H
  . exact hk
 obtain⟨V,U⟩:=ADh l o A d E
 have a:o+xs.length<=(γ i).length:=by simpa using V
 have I:=AIe (v:=v) (show x0.toNat<xs.length by omega) o hr
 refine ABF (ι i) (vs:=[Value.int k v]) h.hp Y h5 h1 C (SzOk.at hG.sz H) rfl (AZe (by simp;omega)) (fun u R=>by simp at R;rw[R];rfl) fun w' D hA=>?_
 rw[I]at D hA
 have J:S.set (ι i) (rowR e b (B8 (γ i) o ((xs.set x0.toNat v).map (Value.int k))))=S.set (ι i) (G9 (ρ i) (B8 (γ i) o ((xs.set x0.toNat v).map (Value.int k))) (μ i) (.row e l')):=by
  show _=S.set (ι i) (rowR e (blk (ρ i)) _);rw[T];rfl
 rw[J]at D hA
 refine Reg.nil ⟨rfl,EnvS.refl _ _,_,_,_,_,_,h.upd (r:=.row e l') (g:=AAO o [.ary k n (xs.set x0.toNat v)]) (c:=APC o [.ary k n (xs.set x0.toNat v)] (A1 σ.res i)) hi hg D hA (fun p e' t' xs W=>by cases W) ⟨⟨b,T⟩,?_⟩⟩
 rw[<-W0 _ _ _ V]at U
 refine OkL.res (fun j p e' t' xs K=>?_) l' (OkL.adv hA l' U)
 rw[AH4]
 by_cases W:j=i
 . subst W;rw[hi]at K;cases K
 . rw[if_neg W,K];rfl
end
end Go.Rx
namespace Go.Rx
open Go Go.Sx Go.RowKit
variable[Trk][Sg][Sf]
def Le(R R':Nat->Option AR):Prop:=∀i a,R i=some a->R' i=some a
theorem bindS{α β:Type}{o:Option α}{f:α->Option β}{z:β}(h:Option.bind o f=some z):∃y,o=some y/\f y=some z:=by
 cases o with
 |none=>cases h
 |some y=>exact⟨y,rfl,h⟩
variable{R R':Nat->Option AR}{G:Gx}
theorem V5(H:Le R R'):∀(t:Ty) (s:SV) {x:den t},AAN R t s=some x->AAN R' t s=some x:=by
 intro t s x h;cases t with
 |sl t=>
  cases s with
  |own i=>
   have h:(match R i with
    |some (.own _ c xs)=>G8 c.ty (.sl t) xs
    |_=>none)=some x:=h
   show(match R' i with
    |some (.own _ c xs)=>G8 c.ty (.sl t) xs
    |_=>none)=some x
   cases hi:R i with
   |none=>rw[hi]at h;exact(A2 h).elim
   |some a=>rw[hi]at h;rw[H i a hi];exact h
  |int _ _|bool _|dat _ _|ary _ _ _|str _ _|agg _|ptr _ _|ep _ _ _ _ _|rp _ _|fv _ _ _|fn _ _|nilS|raw _|it _ _|np _ _|ap _ _ _ _|undef|dead|tup _=>exact h
 |mp m k u=>
  cases s with
  |own i=>
   have h:(match R i with
    |some (.own _ c xs)=>G8 c.ty (.mp m k u) xs
    |_=>none)=some x:=h
   show(match R' i with
    |some (.own _ c xs)=>G8 c.ty (.mp m k u) xs
    |_=>none)=some x
   cases hi:R i with
   |none=>rw[hi]at h;exact(A2 h).elim
   |some a=>rw[hi]at h;rw[H i a hi];exact h
  |int _ _|bool _|dat _ _|ary _ _ _|str _ _|agg _|ptr _ _|ep _ _ _ _ _|rp _ _|fv _ _ _|fn _ _|nilS|raw _|it _ _|np _ _|ap _ _ _ _|undef|dead|tup _=>exact h
 |int _|bool|st _|arr _ _|fno _=>exact h
theorem APb(I:Le R R')(l:List Ty):∀(ss:List SV) {y:P2 l},toL R l ss=some y->toL R' l ss=some y:=by
 induction l with
 |nil=>intro ss y h;rw[ALe]at h;exact(A2 h).elim
 |cons t l ih=>
  intro ss y h
  cases l with
  |nil=>
   obtain⟨s,rfl,H⟩:=ALf h
   exact V5 I t s H
  |cons u l=>
   obtain⟨s,r,x,z,rfl,H,J,rfl⟩:=ALg h
   rw[AQg,V5 I t s H,ih r J]
theorem E8(H:Le R R')(t:Ty)(s:SV){x:den t}(h:B9 R t s=some x):B9 R' t s=some x:=by
 cases t with
 |st n=>
  cases s with
  |agg l=>
   have h:(match toL R (Sf.ft n) l with
    |some y=>some (Sf.mkS n y)
    |none=>none)=some x:=h
   show(match toL R' (Sf.ft n) l with
    |some y=>some (Sf.mkS n y)
    |none=>none)=some x
   generalize hy:toL R (Sf.ft n) l=o at h
   cases o with
   |none=>exact(A2 h).elim
   |some y=>rw[APb H _ l hy];exact h
  |int _ _|bool _|dat _ _|ary _ _ _|own _|str _ _|ptr _ _|ep _ _ _ _ _|rp _ _|fv _ _ _|fn _ _|nilS|raw _|it _ _|np _ _|ap _ _ _ _|undef|dead|tup _=>exact h
 |int k=>exact V5 H (.int k) s h
 |bool=>exact V5 H .bool s h
 |sl t=>exact V5 H (.sl t) s h
 |arr k n=>exact V5 H (.arr k n) s h
 |mp m k u=>exact V5 H (.mp m k u) s h
 |fno i=>exact V5 H (.fno i) s h
theorem AGX(I:Le R R')(t:Ty){l:List SV}{x:den t}(h:toP R t l=some x):toP R' t l=some x:=by
 have key:(∀n,t≠.st n)->toP R' t l=some x:=fun H=>by
  obtain⟨s,rfl,U⟩:=ALi h H;have J:=E8 I t s U;cases t with
  |st n=>exact absurd rfl (H n)
  |int _|bool|sl _|arr _ _|mp _ _ _|fno _=>exact J
 cases t with
 |st n=>exact E8 I (.st n) (.agg l) h
 |int _|bool|sl _|arr _ _|mp _ _ _|fno _=>exact key fun n e=>by cases e
theorem AC8(H:Le R R')(t:Ty)(s:SV){x:den t}(h:Z3 R t s=some x):Z3 R' t s=some x:=by
 cases s with
 |rp v o=>cases o with
  |zero=>exact AGX H t h
  |succ o=>exact(A2 h).elim
 |ptr i o=>cases o with
  |succ o=>exact(A2 h).elim
  |zero=>
   have h:(match R i with
    |some (.row _ c)=>toP R t c
    |_=>none)=some x:=h
   show(match R' i with
    |some (.row _ c)=>toP R' t c
    |_=>none)=some x
   cases hi:R i with
   |none=>rw[hi]at h;exact(A2 h).elim
   |some a=>
    rw[hi]at h;rw[H i a hi]
    cases a with
    |own _ _ _=>exact(A2 h).elim
    |row e c=>exact AGX H t h
 |np t' q=>exact h
 |int _ _|bool _|dat _ _|ary _ _ _|own _|str _ _|agg _|ep _ _ _ _ _|fv _ _ _|fn _ _|nilS|raw _|it _ _|ap _ _ _ _|undef|dead|tup _=>exact(A2 h).elim
theorem AIf(H:Le R R')(s:SV){x:SV}(h:ABl R s=some x):ABl R' s=some x:=by
 cases s with
 |rp v o=>exact h
 |ptr i o=>
  have h:(match (generalizing:=false) o,R i with
   |0,some (.row _ [s])=>some s
   |_,_=>none)=some x:=h
  show(match (generalizing:=false) o,R' i with
   |0,some (.row _ [s])=>some s
   |_,_=>none)=some x
  cases hi:R i with
  |none=>rw[hi]at h;cases o<;>exact(A2 h).elim
  |some a=>rw[hi]at h;rw[H i a hi];exact h
 |np _ _|int _ _|bool _|dat _ _|ary _ _ _|own _|str _ _|agg _|ep _ _ _ _ _|fv _ _ _|fn _ _|nilS|raw _|it _ _|ap _ _ _ _|undef|dead|tup _=>exact(A2 h).elim
theorem AOB(I:Le R R')(t:Ty)(s:SV){x:Option (den t)}(h:AGE R t s=some x):AGE R' t s=some x:=by
 have key:∀s:SV,(match Z3 R t s with
   |some x=>some (some x)
   |none=>none)=some x->(match Z3 R' t s with
   |some x=>some (some x)
   |none=>none)=some x:=fun s h=>by
  cases H:Z3 R t s with
  |none=>rw[H]at h;exact(A2 h).elim
  |some y=>rw[H]at h;rw[AC8 I t s H];exact h
 cases s with
 |rp v o=>exact key (.rp v o) h
 |ptr i o=>exact key (.ptr i o) h
 |np _ _=>exact h
 |int _ _|bool _|dat _ _|ary _ _ _|own _|str _ _|agg _|ep _ _ _ _ _|fv _ _ _|fn _ _|nilS|raw _|it _ _|ap _ _ _ _|undef|dead|tup _=>exact(A2 h).elim
theorem AGY(I:Le R R'):∀(b:Bool) (t:Ty) (s:SV) {x:AEv b t},toB R b t s=some x->toB R' b t s=some x
 |false,t,s,_,h=>AC8 I t s h
 |true,t,s,x,h=>by
  have h:(match ABl R s with
   |some s'=>AGE R t s'
   |none=>none)=some x:=h
  show(match ABl R' s with
   |some s'=>AGE R' t s'
   |none=>none)=some x
  cases H:ABl R s with
  |none=>rw[H]at h;exact(A2 h).elim
  |some s'=>rw[H]at h;rw[AIf I s H];exact AOB I t s' h
theorem AIg(H:Le R R'):∀(cs:List (Bool×Ty)) (ss:List SV) {x:AAW cs},ABm R cs ss=some x->ABm R' cs ss=some x
 |[],ss,x,h=>by cases ss<;>exact h
 |(b,t)::cs,ss,x,h=>by
  cases ss with
  |nil=>exact(A2 h).elim
  |cons s l=>
   have h:(match toB R b t s with
    |some x=>match ABm R cs l with
     |some r=>some (x,r)
     |none=>none
    |none=>none)=some x:=h
   show(match toB R' b t s with
    |some x=>match ABm R' cs l with
     |some r=>some (x,r)
     |none=>none
    |none=>none)=some x
   cases hx:toB R b t s with
   |none=>rw[hx]at h;exact(A2 h).elim
   |some y=>
    rw[hx]at h
    cases hy:ABm R cs l with
    |none=>rw[hy]at h;exact(A2 h).elim
    |some z=>rw[hy]at h;rw[AGY H b t s hx,AIg H cs l hy];exact h
theorem AIh(J:Le R R'){g:Nat}{cs:List (Bool×Ty)}(s:SV){x:AAW cs}(h:AGF R g cs s=some x):AGF R' g cs s=some x:=by
 unfold AGF at h ⊢;cases H:ABl R s with
 |none=>rw[H]at h;exact(A2 h).elim
 |some s'=>
  rw[H]at h;rw[AIf J s H]
  cases s' with
  |fn g' l=>
   simp only at h ⊢
   cases I:beq g' g with
   |false=>rw[I]at h;exact(A2 h).elim
   |true=>rw[I]at h;exact AIg J cs l h
  |np _ _|int _ _|bool _|dat _ _|ary _ _ _|own _|str _ _|agg _|ep _ _ _ _ _|fv _ _ _|nilS|raw _|it _ _|ap _ _ _ _|undef|dead|tup _|rp _ _|ptr _ _=>exact(A2 h).elim
theorem AOC(H:Le R R')(p:Pt)(s:SV){x:p.den}(h:AD4 R p s=some x):AD4 R' p s=some x:=by
 cases p with
 |d _=>exact(A2 h).elim
 |fn _ _=>exact(A2 h).elim
 |nl=>exact(A2 h).elim
 |pt t=>exact AC8 H t s h
 |pp t=>exact AGY H true t s h
 |cl g cs=>exact AIh H s h
theorem AIi(H:Le R R'):∀(ps:List Pt) (ss:List SV) {y:E0 ps},ABn R ps ss=some y->ABn R' ps ss=some y
 |[],ss,y,h=>by cases ss<;>exact h
 |p::ps,ss,y,h=>by
  cases ss with
  |nil=>exact(A2 h).elim
  |cons s l=>
   have h:(match AD4 R p s with
    |some x=>match ABn R ps l with
     |some r=>some (x,r)
     |none=>none
    |none=>none)=some y:=h
   show(match AD4 R' p s with
    |some x=>match ABn R' ps l with
     |some r=>some (x,r)
     |none=>none
    |none=>none)=some y
   cases hx:AD4 R p s with
   |none=>rw[hx]at h;exact(A2 h).elim
   |some x=>
    rw[hx]at h
    cases hy:ABn R ps l with
    |none=>rw[hy]at h;exact(A2 h).elim
    |some z=>rw[hy]at h;rw[AOC H p s hx,AIi H ps l hy];exact h
theorem AM2(I:Le R R'){g:Nat}{caps:List SV}{a:List Ty}{r:Ty}{F:P7 a r}(h:ACx G R g caps a r=some F):ACx G R' g caps a r=some F:=by
 unfold ACx at h ⊢;cases H:A1 G.fs g with
 |none=>rw[H]at h;exact(A2 h).elim
 |some c=>
  rw[H]at h
  simp only at h ⊢
  unfold AHt at h ⊢
  cases hy:ABn R (c.ps.drop a.length) caps with
  |none=>rw[hy]at h;exact(A2 h).elim
  |some y=>rw[hy]at h;rw[AIi I _ _ hy];exact h
theorem AOD(H:Le R R')(p:Pt)(s:SV){x:p.den}(h:AD5 G R p s=some x):AD5 G R' p s=some x:=by
 cases p with
 |d t=>exact E8 H t s h
 |pt t=>exact AC8 H t s h
 |nl=>exact h
 |pp t=>exact AGY H true t s h
 |cl g cs=>exact AIh H s h
 |fn a r=>
  cases s with
  |fn g caps=>
   have h:ACx G R g caps a r=some x:=h
   exact AM2 H h
  |int _ _|bool _|dat _ _|ary _ _ _|own _|str _ _|agg _|ep _ _ _ _ _|rp _ _|fv _ _ _|ptr _ _|nilS|raw _|it _ _|np _ _|ap _ _ _ _|undef|dead|tup _=>exact h
theorem AHH(H:Le R R'):∀(ps:List Pt) (ss:List SV) {y:E0 ps},I7 G R ps ss=some y->I7 G R' ps ss=some y
 |[],ss,y,h=>by cases ss<;>exact h
 |p::ps,ss,y,h=>by
  cases ss with
  |nil=>exact(A2 h).elim
  |cons s l=>
   have h:(match AD5 G R p s with
    |some x=>match I7 G R ps l with
     |some r=>some (x,r)
     |none=>none
    |none=>none)=some y:=h
   show(match AD5 G R' p s with
    |some x=>match I7 G R' ps l with
     |some r=>some (x,r)
     |none=>none
    |none=>none)=some y
   cases hx:AD5 G R p s with
   |none=>rw[hx]at h;exact(A2 h).elim
   |some x=>
    rw[hx]at h
    cases hy:I7 G R ps l with
    |none=>rw[hy]at h;exact(A2 h).elim
    |some z=>rw[hy]at h;rw[AOD H p s hx,AHH H ps l hy];exact h
theorem AOE(H:Le R R'){i:Nat}{as_:List Ac}(h:ACT R i=some as_):ACT R' i=some as_:=by
 unfold ACT at h ⊢;cases hi:R i with
 |none=>rw[hi]at h;exact(A2 h).elim
 |some a=>rw[hi]at h;rw[H i a hi];exact h
theorem Q1(H:Le R R'):∀(I:List Nat) {as_:List Ac},frz R I=some as_->frz R' I=some as_
 |[],as_,h=>h
 |i::I,as_,h=>by
  simp only[frz]at h ⊢;cases V:has I i with
  |true=>rw[V,cond_true]at h;rw[cond_true];exact Q1 H I h
  |false=>
   rw[V,cond_false]at h
   rw[cond_false]
   cases U:ACT R i with
   |none=>rw[U]at h;exact(A2 h).elim
   |some a=>
    rw[U]at h
    cases J:frz R I with
    |none=>rw[J]at h;exact(A2 h).elim
    |some r=>rw[J]at h;rw[AOE H U,Q1 H I J];exact h
theorem AHI(J:Le R R')(u:Ty):∀(ss:List SV) {xs:List (den u)},AAX u R ss=some xs->AAX u R' ss=some xs
 |[],xs,h=>h
 |s::l,xs,h=>by
  simp only[AAX]at h ⊢;cases I:B9 R u s with
  |none=>rw[I]at h;exact(A2 h).elim
  |some x=>
   rw[I]at h
   cases H:AAX u R l with
   |none=>rw[H]at h;exact(A2 h).elim
   |some r=>rw[H]at h;rw[E8 J u s I,AHI J u l H];exact h
theorem AHJ(H:Le R R'){r:Ty}:∀(a:List Ty) (f:P7 a r) (ss:List SV) {o:Option (den r)},Y4 r a f R ss=some o->Y4 r a f R' ss=some o
 |[],f,ss,o,h=>by cases ss<;>exact h
 |t::a,f,ss,o,h=>by
  cases ss with
  |nil=>exact(A2 h).elim
  |cons s l=>
   have h:(match B9 R t s with
    |some x=>Y4 r a (f x) R l
    |none=>none)=some o:=h
   show(match B9 R' t s with
    |some x=>Y4 r a (f x) R' l
    |none=>none)=some o
   cases hx:B9 R t s with
   |none=>rw[hx]at h;exact(A2 h).elim
   |some x=>rw[hx]at h;rw[E8 H t s hx];exact AHJ H a (f x) l h
theorem ACg{E E':Operand->Option SV}(J:∀x s,E x=some s->E' x=some s):∀(xs:List Operand) {ss:List SV},evL E xs=some ss->evL E' xs=some ss
 |[],ss,h=>h
 |x::xs,ss,h=>by
  simp only[evL]at h ⊢;cases I:E x with
  |none=>rw[I]at h;exact(A2 h).elim
  |some s=>
   rw[I]at h
   cases H:evL E xs with
   |none=>rw[H]at h;exact(A2 h).elim
   |some r=>rw[H]at h;rw[J x s I,ACg J xs H];exact h
end Go.Rx
end
