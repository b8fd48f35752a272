/-
  What DisputeBefore stands on, part 4: memory, code, plain reckoning.
-/
import Derived.Test.YtgioiejbphljoaaGreatDoorDcDisputeBefore3
open List (mem_append mem_singleton replicate toArray)
open Nat (beq blt)
set_option linter.unusedVariables false
set_option linter.unusedSectionVars false
noncomputable section
namespace Go.Rx
open Go Go.Sx Go.RowKit
variable[Trk][Sg][Sf]{P:Program}[Se P]
variable[Anch]
section
variable{w0 w w':World}{Mu M:List Nat}{σ:AS}{L:A8}{S:List Res}{ρ:Nat->Value}{γ:Nat->List Value}{μ:Nat->List Nat}{ι:Nat->Nat}
variable{N:Nat}{ops:Array Oper}{ds:List Deferred}{B:A5}{X:Nat->A5}{Z:List PanicEntry->A5}{d:Nat}{ty:TypeId}{pos:String}{af:Array Edge}
section
variable{k:IntKind}{x:Operand}{s:SV}{D:List Nat}{b:Bool}{i:Int}{t:TypeId}{n:Int}
theorem AS7{x:Int}(h:AK5 k x=true):InK k x:=by
 cases k<;>simp only[AK5,Bool.and_eq_true,decide_eq_true_eq]at h<;>first|cases h;done|skip
 all_goals first|exact InK.i64.2 h|exact InK.u8.2 h|exact InK.u16.2 h|exact InK.u32.2 h
theorem HS.ev[Fx](h:HS w0 Mu M σ L w S ρ γ μ ι)(hx:B5 σ.env x=some s):∃v,Sx.ev L x=some v/\Ok ρ (A1 σ.res) (mm S M) w s v:=by
 cases x with
 |tmp t=>exact h.env t s hx
 |const v=>
  refine⟨v,rfl,?_⟩
  have hx:AK6 v=some s:=hx
  cases v with
  |int k x=>
   have hx:(bif AK5 k x then some (SV.int k x) else none)=some s:=hx
   cases hb:AK5 k x with
   |true=>rw[hb,cond_true]at hx;cases hx;exact⟨rfl,AS7 hb⟩
   |false=>rw[hb,cond_false]at hx;exact(A2 hx).elim
  |bool b=>
   have hx:SV.bool b=s:=AaO hx
   subst hx;exact rfl
  |slice a n c=>
   have hq:(match (generalizing:=false) a,n,c with
    |none,0,0=>some SV.nilS
    |_,_,_=>none)=some s:=hx
   clear hx
   split at hq
   . cases hq;exact rfl
   . exact(A2 hq).elim
  |map a=>
   cases a with
   |none=>
    have hx:SV.raw (.map none)=s:=AaO hx
    subst hx;exact⟨rfl,rfl,rfl⟩
   |some _=>exact(A2 hx).elim
  |pointer a=>
   cases a with
   |none=>
    have hx:SV.raw (.pointer none)=s:=AaO hx
    subst hx;exact⟨rfl,rfl,rfl⟩
   |some _=>exact(A2 hx).elim
  |_=>exact(A2 hx).elim
 |global g=>exact⟨_,rfl,h.anch.2 g s hx _ _⟩
 |func f=>
  have hx:SV.fn f []=s:=AaO hx
  subst hx
  exact⟨_,rfl,[],rfl,rfl⟩
def EnvS(D:List Nat)(L L':A8):Prop:=∀t,t∉D->Sx.A6 L' t=Sx.A6 L t
theorem EnvS.refl(D:List Nat)(L:A8):EnvS D L L:=fun _ _=>rfl
theorem EnvS.trans{L1 L2 L3:A8}(h:EnvS D L1 L2)(k:EnvS D L2 L3):EnvS D L1 L3:=fun t ht=>(k t ht).trans (h t ht)
theorem EnvS.mono{D D':List Nat}{L L':A8}(h:EnvS D L L')(hd:∀t∈D,t∈D'):EnvS D' L L':=fun t ht=>h t fun hm=>ht (hd t hm)
theorem EnvS.put(d:Nat)(L:A8)(v:Value):EnvS [d] L ((d,v)::L):=fun t ht=>by
 have hne:beq d t=false:=by
  cases hb:beq d t with
  |false=>rfl
  |true=>exact absurd (AaU hb).symm (fun e=>ht (by rw[e];exact mem_singleton.2 rfl))
 show(bif beq d t then some v else Sx.A6 L t)=Sx.A6 L t
 rw[hne,cond_false]
abbrev C3[Fx](P:Program)[Se P](N:Nat)(ops:Array Oper)(ds:List Deferred)(L:A8)(w:World)(o:Oper)(w0:World)(Mu M:List Nat)(σ':AS)(B:A5)(X:Nat->A5)(Z:List PanicEntry->A5):Prop:=
 Reg P N ops .seq [o] ds L w (fun ds' L' w'=>ds'=ds/\EnvS o.dst.toList L L'/\Holds w0 Mu M σ' L' w') B X Z
theorem HS.fin[Fx](h:HS w0 Mu M σ L w S ρ γ μ ι){v:Value}(hs:Ok ρ (A1 σ.res) (mm S M) w s v):Reg P N ops .seq [] ds ((d,v)::L) w (fun ds' L' w'=>ds'=ds/\EnvS [d] L L'/\Holds w0 Mu M (apps (some d) [.put s] σ) L' w') B X Z:=
 Reg.nil ⟨rfl,EnvS.put _ _ _,S,ρ,γ,μ,ι,h.put hs⟩
theorem AUm[Fx](h:HS w0 Mu M σ L w S ρ γ μ ι)(hN:blt d N=true)(hx:B5 σ.env x=some s):
  C3 P N ops ds L w ⟨some d,.move x,ty,pos,af,none⟩ w0 Mu M (apps (some d) [.put s] σ) B X Z:=by
 obtain⟨v,h1,h2⟩:=h.ev hx
 exact E5 h1 hN (h.fin h2)
theorem AQ4[Fx](h:HS w0 Mu M σ L w S ρ γ μ ι)(hN:blt d N=true)(hx:B5 σ.env x=some s):
  C3 P N ops ds L w ⟨some d,.assign x,ty,pos,af,none⟩ w0 Mu M (apps (some d) [.put s] σ) B X Z:=by
 obtain⟨v,h1,h2⟩:=h.ev hx
 exact C6 h1 hN (h.fin h2)
theorem APj[Fx](h:HS w0 Mu M σ L w S ρ γ μ ι)(hN:blt d N=true){c x y:Operand}(hc:B5 σ.env c=some (.bool b))(hx:B5 σ.env (bif b then x else y)=some s):
  C3 P N ops ds L w ⟨some d,.pick c x y,ty,pos,af,none⟩ w0 Mu M (apps (some d) [.put s] σ) B X Z:=by
 obtain⟨u,h3,h4⟩:=h.ev hc
 have h4:u=Value.bool b:=h4
 subst h4
 obtain⟨v,h1,h2⟩:=h.ev hx
 cases b with
 |true=>exact ANv h3 h1 hN (h.fin h2)
 |false=>exact ANw h3 h1 hN (h.fin h2)
theorem AIJ[Fx](h:HS w0 Mu M σ L w S ρ γ μ ι)(hN:blt d N=true)(hx:B5 σ.env x=some s)(hs:(∃v o,s=.rp v o)\/∃i o,s=.ptr i o):
  C3 P N ops ds L w ⟨some d,.nilCheck x,ty,pos,af,none⟩ w0 Mu M (apps (some d) [.put s] σ) B X Z:=by
 obtain⟨v,h1,h2⟩:=h.ev hx
 rcases hs with⟨u,o,rfl⟩|⟨i,o,rfl⟩
 . have h3:=h2
   obtain⟨b,o0,u',vs,rfl,_⟩:=h3
   exact ADA h1 hN (h.fin h2)
 . have h3:=h2
   obtain⟨b,_,rfl⟩:=h3
   exact ADA h1 hN (h.fin h2)
theorem AUn[Fx][Sl (P:=P)](h:HS w0 Mu M σ L w S ρ γ μ ι)(hN:blt d N=true){t:Ty}{q:Option (den t)}{y:den t}(hx:B5 σ.env x=some (.np t q))(hq:q=some y):
  C3 P N ops ds L w ⟨some d,.nilCheck x,ty,pos,af,none⟩ w0 Mu M (apps (some d) [.put (.rp (F6 t y) 0)] σ) B X Z:=by
 obtain⟨v,h1,h2⟩:=h.ev hx
 subst hq
 rcases h2 with⟨h2,_⟩|⟨y',b,o,vs,h2,rfl,h3,h4⟩
 . cases h2
 . cases h2
   obtain⟨u,h5,h6⟩:=J5 h4
   exact ADA h1 hN (h.fin ⟨b,o,u,vs,rfl,h3,E4 t h5,h6⟩)
theorem HS.int[Fx](h:HS w0 Mu M σ L w S ρ γ μ ι)(hx:B5 σ.env x=some (.int k i)):Sx.ev L x=some (.int k i)/\InK k i:=by
 obtain⟨v,h1,h2,h3⟩:=h.ev hx;subst h2;exact⟨h1,h3⟩
theorem HS.bool[Fx](h:HS w0 Mu M σ L w S ρ γ μ ι)(hx:B5 σ.env x=some (.bool b)):Sx.ev L x=some (.bool b):=by
 obtain⟨v,h1,h2⟩:=h.ev hx;have h2:v=Value.bool b:=h2;subst h2;exact h1
theorem AWt[Fx](h:HS w0 Mu M σ L w S ρ γ μ ι)(hN:blt d N=true)(hx:B5 σ.env x=some (.bool b)):
  C3 P N ops ds L w ⟨some d,.unOp .not t x,ty,pos,af,none⟩ w0 Mu M (apps (some d) [.put (.bool (!b))] σ) B X Z:=
 ASA (h.bool hx) hN (h.fin rfl)
theorem AWu[Fx](h:HS w0 Mu M σ L w S ρ γ μ ι)(hN:blt d N=true)(hx:B5 σ.env x=some (.int k i))(hn:chk k (-i)=some n):
  C3 P N ops ds L w ⟨some d,.unOp .neg t x,ty,pos,af,none⟩ w0 Mu M (apps (some d) [.put (.int k n)] σ) B X Z:=
 AWb (h.int hx).1 hN (I8 hn) (h.fin ⟨rfl,(I8 hn).2⟩)
theorem APk[Fx](h:HS w0 Mu M σ L w S ρ γ μ ι)(hN:blt d N=true){s t:TypeId}{k k':IntKind}{du:TypeDesc}(hs:P.underlying s=some du)(ht:P.underlying t=some (.int k'))(hx:B5 σ.env x=some (.int k i))(hn:chk k' i=some n):
  C3 P N ops ds L w ⟨some d,.convert s t x,ty,pos,af,none⟩ w0 Mu M (apps (some d) [.put (.int k' n)] σ) B X Z:=
 AWc (h.int hx).1 hs ht hN (I8 hn) (h.fin ⟨rfl,(I8 hn).2⟩)
end
section
variable{t t':TypeId}{x y:Operand}{k:IntKind}{i j n:Int}
theorem AWv[Fx](h:HS w0 Mu M σ L w S ρ γ μ ι)(hN:blt d N=true){b:BinOp}{r:Bool}(hx:B5 σ.env x=some (.int k i))(hy:B5 σ.env y=some (.int k j))(hc:cmp b i j=some r):
  C3 P N ops ds L w ⟨some d,.binOp b t x y t',ty,pos,af,none⟩ w0 Mu M (apps (some d) [.put (.bool r)] σ) B X Z:=by
 have h1:=(h.int hx).1
 have h2:=(h.int hy).1
 cases b<;>first|(have hc:=AaO hc;subst hc)|exact(A2 hc).elim
 . exact ANz h1 h2 hN (h.fin rfl)
 . exact AN0 h1 h2 hN (h.fin rfl)
 . exact AEw h1 h2 hN (h.fin rfl)
 . exact ANx h1 h2 hN (h.fin rfl)
 . exact AR9 h1 h2 hN (h.fin rfl)
 . exact ANy h1 h2 hN (h.fin rfl)
theorem AWw[Fx](h:HS w0 Mu M σ L w S ρ γ μ ι)(hN:blt d N=true)(hx:B5 σ.env x=some (.int k i))(hy:B5 σ.env y=some (.int k j))(hn:chk k (i+j)=some n):
  C3 P N ops ds L w ⟨some d,.binOp .add t x y t',ty,pos,af,none⟩ w0 Mu M (apps (some d) [.put (.int k n)] σ) B X Z:=
 ACl (h.int hx).1 (h.int hy).1 hN (I8 hn) (h.fin ⟨rfl,(I8 hn).2⟩)
theorem AWx[Fx](h:HS w0 Mu M σ L w S ρ γ μ ι)(hN:blt d N=true)(hx:B5 σ.env x=some (.int k i))(hy:B5 σ.env y=some (.int k j))(hn:chk k (i-j)=some n):
  C3 P N ops ds L w ⟨some d,.binOp .sub t x y t',ty,pos,af,none⟩ w0 Mu M (apps (some d) [.put (.int k n)] σ) B X Z:=
 ASG (h.int hx).1 (h.int hy).1 hN (I8 hn) (h.fin ⟨rfl,(I8 hn).2⟩)
theorem AWy[Fx](h:HS w0 Mu M σ L w S ρ γ μ ι)(hN:blt d N=true)(hx:B5 σ.env x=some (.int k i))(hy:B5 σ.env y=some (.int k j))(hn:chk k (i*j)=some n):
  C3 P N ops ds L w ⟨some d,.binOp .mul t x y t',ty,pos,af,none⟩ w0 Mu M (apps (some d) [.put (.int k n)] σ) B X Z:=
 AWY (h.int hx).1 (h.int hy).1 hN (I8 hn) (h.fin ⟨rfl,(I8 hn).2⟩)
theorem AWz[Fx](h:HS w0 Mu M σ L w S ρ γ μ ι)(hN:blt d N=true)(hx:B5 σ.env x=some (.int k i))(hy:B5 σ.env y=some (.int k j))(hn:AKm k i j=some n):
  C3 P N ops ds L w ⟨some d,.binOp .quo t x y t',ty,pos,af,none⟩ w0 Mu M (apps (some d) [.put (.int k n)] σ) B X Z:=
 AWZ (h.int hx).1 (h.int hy).1 hN (AKn hn) (h.fin ⟨rfl,ASt hn⟩)
theorem AW0[Fx](h:HS w0 Mu M σ L w S ρ γ μ ι)(hN:blt d N=true)(hx:B5 σ.env x=some (.int k i))(hy:B5 σ.env y=some (.int k j))(hn:AKo i j=some n):
  C3 P N ops ds L w ⟨some d,.binOp .rem t x y t',ty,pos,af,none⟩ w0 Mu M (apps (some d) [.put (.int k n)] σ) B X Z:=
 AWa (h.int hx).1 (h.int hy).1 hN (AKp hn) (h.fin ⟨rfl,ASu hn (h.int hx).2⟩)
theorem AW1[Fx](h:HS w0 Mu M σ L w S ρ γ μ ι)(hN:blt d N=true)(hx:B5 σ.env x=some (.int k i))(hy:B5 σ.env y=some (.int k j)):
  C3 P N ops ds L w ⟨some d,.binOp .and t x y t',ty,pos,af,none⟩ w0 Mu M (apps (some d) [.put (.int k (AKy k i j))] σ) B X Z:=
 AWf (h.int hx).1 (h.int hy).1 hN (h.fin ⟨rfl,andI_in⟩)
theorem AW2[Fx](h:HS w0 Mu M σ L w S ρ γ μ ι)(hN:blt d N=true){k':IntKind}(hx:B5 σ.env x=some (.int k i))(hy:B5 σ.env y=some (.int k' j))(hn:AHI i j k.bits=some n):
  C3 P N ops ds L w ⟨some d,.binOp .shr t x y t',ty,pos,af,none⟩ w0 Mu M (apps (some d) [.put (.int k n)] σ) B X Z:=
 AWd (h.int hx).1 (h.int hy).1 hN hn (h.fin ⟨rfl,ASw hn (h.int hx).2⟩)
theorem AW3[Fx](h:HS w0 Mu M σ L w S ρ γ μ ι)(hN:blt d N=true){k':IntKind}(hx:B5 σ.env x=some (.int k i))(hy:B5 σ.env y=some (.int k' j))(hn:AHJ k i j=some n):
  C3 P N ops ds L w ⟨some d,.binOp .shl t x y t',ty,pos,af,none⟩ w0 Mu M (apps (some d) [.put (.int k n)] σ) B X Z:=
 AWe (h.int hx).1 (h.int hy).1 hN hn (h.fin ⟨rfl,ASv hn⟩)
theorem AW4[Fx](h:HS w0 Mu M σ L w S ρ γ μ ι)(hN:blt d N=true){p q:Bool}(ht:P.underlying t=some .bool)(hx:B5 σ.env x=some (.bool p))(hy:B5 σ.env y=some (.bool q)):
  C3 P N ops ds L w ⟨some d,.binOp .eql t x y t',ty,pos,af,none⟩ w0 Mu M (apps (some d) [.put (.bool (p==q))] σ) B X Z:=
 AWg (h.bool hx) (h.bool hy) hN ht (h.fin rfl)
theorem AW5[Fx](h:HS w0 Mu M σ L w S ρ γ μ ι)(hN:blt d N=true){p q:Bool}(ht:P.underlying t=some .bool)(hx:B5 σ.env x=some (.bool p))(hy:B5 σ.env y=some (.bool q)):
  C3 P N ops ds L w ⟨some d,.binOp .neq t x y t',ty,pos,af,none⟩ w0 Mu M (apps (some d) [.put (.bool (!(p==q)))] σ) B X Z:=
 AWh (h.bool hx) (h.bool hy) hN ht (h.fin rfl)
end
end
end Go.Rx
namespace Go.Rx
open Go Go.Sx Go.RowKit
variable[Trk][Sg][Sf]{P:Program}[Se P]
section
variable{ρ:Nat->Value}{R:Nat->Option AR}{M:List Nat}{w:World}
theorem ADR:∀(s:SV) {u:Value} {n:Nat},wd s=n+1->Ok ρ R M w s u->u.cells.size=n+1:=by
 intro s u n hn h;cases hs:one s with
 |true=>
  rw[Ok.cells1 s hs h]
  cases s<;>first|exact hn|cases hs|cases hn
 |false=>
  cases s<;>first|cases hs;done|cases hn;done|skip
  rename_i k m x
  obtain⟨cs,h1,h2|h2⟩:=h
  . obtain⟨_,rfl⟩:=h2
    obtain⟨_,h3,h4,_⟩:=h1
    have hn:m=n+1:=hn
    show(toArray cs).size=_
    rw[h4];simp[h3,hn]
  . cases h2.1
theorem AF6:∀(l:List SV) (o:Nat) {s:SV} {vs:List Value},Q6 l o=some s->OkL ρ R M w l vs->∃u c r,Ok ρ R M w s u/\u.cells=toArray c/\vs.drop o=c++r
 |[],_,_,_,h,_=>(A2 h).elim
 |s::l,0,s',vs,h,⟨u,c,r,h1,h2,h3,h4⟩=>by
  have h:some s=some s':=h;cases h
  exact⟨u,c,r,h2,h3,by rw[h1];rfl⟩
 |s::l,o+1,s',vs,h,⟨u,c,r,h1,h2,h3,h4⟩=>by
  simp only[Q6]at h;cases hw:wd s with
  |zero=>rw[hw]at h;exact(A2 h).elim
  |succ n=>
   rw[hw]at h
   have hl:=ADR s hw h2
   rw[h3]at hl
   have hl:c.length=n+1:=by simpa using hl
   cases hb:Nat.ble n o with
   |false=>simp only[hb,cond_false]at h;exact(A2 h).elim
   |true=>
    simp only[hb,cond_true]at h
    have hle:=Aat hb
    obtain⟨u',c',r',h5,h6,h7⟩:=AF6 l (o-n) h h4
    refine⟨u',c',r',h5,h6,?_⟩
    rw[h1,Abo,AbO (by omega),Aam,hl,show o+1-(n+1)=o-n by omega,h7]
theorem AAf:∀(l:List SV) {m:Nat} {vs:List Value},Q7 l=some m->OkL ρ R M w l vs->vs.length=m
 |[],m,vs,h,h1=>by
  have h1:vs=[]:=h1;have h:some 0=some m:=h;cases h;rw[h1];rfl
 |s::l,m,vs,h,⟨u,c,r,h1,h2,h3,h4⟩=>by
  simp only[Q7]at h;cases hw:wd s with
  |zero=>rw[hw]at h;exact(A2 h).elim
  |succ n=>
   rw[hw]at h
   have hl:=ADR s hw h2
   rw[h3]at hl
   have hl:c.length=n+1:=by simpa using hl
   cases hx:Q7 l with
   |none=>rw[hx]at h;exact(A2 h).elim
   |some k=>
    rw[hx]at h
    have h:some (n+1+k)=some m:=h
    cases h
    rw[h1,Aaf,hl,AAf l hx h4]
theorem ALR:∀(l:List SV) (o:Nat) {l':List SV} {vs:List Value},AGW l o=some l'->OkL ρ R M w l vs->OkL ρ R M w l' (vs.drop o)
 |l,0,l',vs,h,h1=>by
  have h:some l=some l':=by cases l<;>exact h
  cases h;exact h1
 |[],_+1,_,_,h,_=>(A2 h).elim
 |s::l,o+1,l',vs,h,⟨u,c,r,h1,h2,h3,h4⟩=>by
  simp only[AGW]at h;cases hw:wd s with
  |zero=>rw[hw]at h;exact(A2 h).elim
  |succ n=>
   rw[hw]at h
   have hl:=ADR s hw h2
   rw[h3]at hl
   have hl:c.length=n+1:=by simpa using hl
   cases hb:Nat.ble n o with
   |false=>simp only[hb,cond_false]at h;exact(A2 h).elim
   |true=>
    simp only[hb,cond_true]at h
    have hle:=Aat hb
    have:=ALR l (o-n) h h4
    rw[h1,Abo,AbO (by omega),Aam,hl,show o+1-(n+1)=o-n by omega]
    exact this
theorem ALS:∀(l:List SV) (o:Nat) {l':List SV} {vs:List Value},AEz l o=some l'->OkL ρ R M w l vs->OkL ρ R M w l' (vs.take o)/\o<=vs.length
 |l,0,l',vs,h,h1=>by
  have h:some []=some l':=by cases l<;>exact h
  cases h;exact⟨by rw[List.take_zero];exact rfl,Aas _⟩
 |[],_+1,_,_,h,_=>(A2 h).elim
 |s::l,o+1,l',vs,h,⟨u,c,r,h1,h2,h3,h4⟩=>by
  simp only[AEz]at h;cases hw:wd s with
  |zero=>rw[hw]at h;exact(A2 h).elim
  |succ n=>
   rw[hw]at h
   have hl:=ADR s hw h2
   rw[h3]at hl
   have hl:c.length=n+1:=by simpa using hl
   cases hb:Nat.ble n o with
   |false=>simp only[hb]at h;exact(A2 h).elim
   |true=>
    simp only[hb]at h
    have hle:=Aat hb
    cases hx:AEz l (o-n) with
    |none=>simp only[hx]at h;exact(A2 h).elim
    |some r'=>
     simp only[hx]at h
     have h:=AaO h
     subst h
     obtain⟨h5,h6⟩:=ALS l (o-n) hx h4
     refine⟨⟨u,c,r.take (o-n),?_,h2,h3,h5⟩,?_⟩
     . rw[h1,AcB,Aa7 (by omega),hl,show o+1-(n+1)=o-n by omega]
     . rw[h1,Aaf];omega
theorem AHY:∀(s:SV) {u:Value},AEE s=true->Ok ρ R M w s u->u=.agg u.cells
 |.ary _ _ _,u,_,h=>by
  obtain⟨cs,h1,h2|h2⟩:=h
  . obtain⟨_,rfl⟩:=h2;rfl
  . cases h2.1
 |.str _ _,u,_,h=>by
  obtain⟨cs,h1,h2|h2⟩:=h
  . obtain⟨_,rfl⟩:=h2;rfl
  . cases h2.1
 |.agg _,u,_,h=>by obtain⟨vs,rfl,_⟩:=h;rfl
 |.int _ _,_,h,_|.bool _,_,h,_|.dat _ _,_,h,_|.own _,_,h,_|.ptr _ _,_,h,_|.ep _ _ _ _ _,_,h,_|.rp _ _,_,h,_|.fv _ _ _,_,h,_|.fn _ _,_,h,_|.nilS,_,h,_|.np _ _,_,h,_|.it _ _,_,h,_|.raw _,_,h,_|.ap _ _ _ _,_,h,_|.undef,_,h,_|.dead,_,h,_|.tup _,_,h,_=>by cases h
theorem AFE{G:Gx}[Sl (P:=P)]{t o:Nat}{v s:SV}{u:Value}(hc:U0 G t o v=some s)(h:Ok ρ R M w v u):
  (lk G.tb.ag t=some 0/\∃x,u.cells.toList[o]?=some x/\Ok ρ R M w s x)\/∃n cs,lk G.tb.ag t=some (n+1)/\cs.length=n/\(∀j y,cs[j]?=some y->u.cells.toList[o+j]?=some y)/\Ok ρ R M w s (.agg (toArray cs)):=by
 have hk:=Ok.cellsOf v h
 unfold U0 at hc
 cases ha:lk G.tb.ag t with
 |none=>rw[ha]at hc;exact(A2 hc).elim
 |some a=>
  rw[ha]at hc
  cases a with
  |zero=>
   simp only at hc
   cases hx:Q6 (Rx.cellsOf v) o with
   |none=>rw[hx]at hc;exact(A2 hc).elim
   |some s'=>
    rw[hx]at hc
    simp only at hc
    cases ho:one s' with
    |false=>rw[ho]at hc;exact(A2 hc).elim
    |true=>
     rw[ho]at hc
     have hc:=AaO hc
     subst hc
     obtain⟨x,c,r,h1,h2,h3⟩:=AF6 _ o hx hk
     rw[Ok.cells1 s' ho h1]at h2
     have h2:[x]=c:=by simpa using AaX Array.toList h2
     subst h2
     refine .inl ⟨rfl,x,?_,h1⟩
     have:=AaX (fun l=>l[0]?) h3
     simpa using this
  |succ n=>
   simp only at hc
   cases hw:Q7 (Rx.cellsOf v) with
   |none=>rw[hw]at hc;exact(A2 hc).elim
   |some m=>
    rw[hw]at hc
    simp only at hc
    have hlen:=AAf _ hw hk
    have key:(match AGW (Rx.cellsOf v) o with
     |some l=>match AEz l n with
      |some r=>match lk G.ty t with
       |some (.arr _ _)=>match r with
        |[s]=>match AEE s with
         |true=>some s
         |false=>none
        |_=>none
       |_=>some (.agg r)
      |none=>none
     |none=>none)=some s->∃n' cs,some (n+1)=some (n'+1)/\List.length cs=n'/\(∀j y,cs[j]?=some y->u.cells.toList[o+j]?=some y)/\Ok ρ R M w s (.agg (toArray cs)):=fun hc=>by
     cases hd:AGW (Rx.cellsOf v) o with
     |none=>rw[hd]at hc;exact(A2 hc).elim
     |some l1=>
      rw[hd]at hc
      simp only at hc
      cases ht:AEz l1 n with
      |none=>rw[ht]at hc;exact(A2 hc).elim
      |some l2=>
       rw[ht]at hc
       simp only at hc
       obtain⟨h1,h2⟩:=ALS l1 n ht (ALR _ o hd hk)
       have hcs:∀(j:Nat) (y:Value),((u.cells.toList.drop o).take n)[j]?=some y->u.cells.toList[o+j]?=some y:=fun j y hy=>by
        rw[Aa6]at hy;split at hy
        . rw[AbK]at hy;exact hy
        . cases hy
       have hln:((u.cells.toList.drop o).take n).length=n:=by rw[Aa3];omega
       have fin1:SV.agg l2=s->Ok ρ R M w s (.agg (toArray ((u.cells.toList.drop o).take n))):=fun e=>by subst e;exact⟨_,rfl,h1⟩
       split at hc
       . cases l2 with
         |nil=>exact(A2 hc).elim
         |cons s1 r1=>cases r1 with
          |cons _ _=>exact(A2 hc).elim
          |nil=>
           simp only at hc
           cases hg:AEE s1 with
           |false=>rw[hg]at hc;exact(A2 hc).elim
           |true=>
            rw[hg]at hc
            have hc:=AaO hc
            subst hc
            obtain⟨x,hx,hok⟩:=OkL.one h1
            refine⟨n,_,rfl,hln,hcs,?_⟩
            rw[hx,AcK,<-AHY s1 hg hok];exact hok
       . exact⟨n,_,rfl,hln,hcs,fin1 (AaO hc)⟩
    right
    cases hb:beq m n with
    |false=>simp only[hb]at hc;exact key hc
    |true=>
     cases o with
     |succ o=>simp only[hb]at hc;exact key hc
     |zero=>
      simp only[hb]at hc
      have hm:=AaU hb
      cases hg:AEE v with
      |false=>rw[hg]at hc;exact(A2 hc).elim
      |true=>
       rw[hg]at hc
       have hc:=AaO hc
       subst hc
       exact⟨n,u.cells.toList,rfl,by rw[hlen,hm],fun j y hy=>by rw[Aao];exact hy,by rw[AcK,<-AHY v hg h];exact h⟩
end
end Go.Rx
namespace Go.Rx
open Go Go.Sx Go.RowKit
variable[Trk][Sg][Sf]{P:Program}[Se P]
variable[Anch]
section
variable{w0 w w':World}{Mu M:List Nat}{σ:AS}{L:A8}{S:List Res}{ρ:Nat->Value}{γ:Nat->List Value}{μ:Nat->List Nat}{ι:Nat->Nat}
variable{N:Nat}{ops:Array Oper}{ds:List Deferred}{B:A5}{X:Nat->A5}{Z:List PanicEntry->A5}{d:Nat}{ty:TypeId}{pos:String}{af:Array Edge}{G:Gx}
section
variable{t:Nat}{o:Nat}{x:Operand}{v:SV}{s:SV}{i:Nat}{e:Nat}{p:Bool}{u:Ty}{xs:List (den u)}
theorem AHZ[Fx][Sl (P:=P)](h:HS w0 Mu M σ L w S ρ γ μ ι)(hG:GxOk P G)(hN:blt d N=true){t b o0 o:Nat}{u:Value}{vs:List Value}(hx:Sx.ev L x=some (.pointer (some ⟨b,o0+o,none⟩)))(hC:Cells w b o0 vs)(hu:u.cells=toArray vs)(hv:Ok ρ (A1 σ.res) (mm S M) w v u)(hc:U0 G t o v=some s):
  C3 P N ops ds L w ⟨some d,.load t x,ty,pos,af,none⟩ w0 Mu M (apps (some d) [.put s] σ) B X Z:=by
 have hl:u.cells.toList=vs:=by rw[hu]
 rcases AFE hc hv with⟨ha,y,h1,h2⟩|⟨n,cs,ha,h1,h2,h3⟩
 . rw[hl]at h1
   exact J8 hx (hC o y h1) (AgOk.at0 hG.ag ha) hN (h.fin h2)
 . refine Y0 (cs:=cs) hx (fun j y hy=>?_) (AgOk.at1 hG.ag ha).1 h1 (AgOk.at1 hG.ag ha).2 hN (h.fin h3)
   have:=h2 j y hy
   rw[hl]at this
   have:=hC (o+j) y this
   rwa [<-AbU]at this
theorem AS8[Fx][Sl (P:=P)](h:HS w0 Mu M σ L w S ρ γ μ ι)(hG:GxOk P G)(hN:blt d N=true)(hx:B5 σ.env x=some (.rp v o))(hc:U0 G t o v=some s):
  C3 P N ops ds L w ⟨some d,.load t x,ty,pos,af,none⟩ w0 Mu M (apps (some d) [.put s] σ) B X Z:=by
 obtain⟨u,h1,b,o0,u',vs,rfl,h2,h3,h4⟩:=h.ev hx
 exact AHZ h hG hN h1 h2.cells h4 h3 hc
theorem HS.rowAt[Fx](h:HS w0 Mu M σ L w S ρ γ μ ι){l:List SV}(hi:A1 σ.res i=some (.row e l)):∃b,ρ i=.pointer (some ⟨b,0,none⟩)/\Row e w b (γ i)/\OkL ρ (A1 σ.res) (mm S M) w l (γ i)/\S[ι i]?=some (rowR e b (γ i)):=by
 obtain⟨⟨b,hb⟩,hl⟩:=h.row i _ hi;have h1:=h.res i _ hi;have h1:S[ι i]?=some (rowR e (blk (ρ i)) (γ i)):=h1;rw[hb]at h1;exact⟨b,hb,h.hp.row (ι i) h1,hl,h1⟩
theorem AS9[Fx][Sl (P:=P)](h:HS w0 Mu M σ L w S ρ γ μ ι)(hG:GxOk P G)(hN:blt d N=true){l:List SV}(hx:B5 σ.env x=some (.ptr i o))(hi:A1 σ.res i=some (.row e l))(hc:U0 G t o (.agg l)=some s):
  C3 P N ops ds L w ⟨some d,.load t x,ty,pos,af,none⟩ w0 Mu M (apps (some d) [.put s] σ) B X Z:=by
 obtain⟨u,h1,b,h2,rfl⟩:=h.ev hx
 obtain⟨b',h3,h4,h5,_⟩:=h.rowAt hi
 rw[h2]at h3;cases h3
 exact AHZ (u:=.agg (toArray (γ i))) (v:=.agg l) h hG hN (by rw[h1,Aao]) h4.rd.cells rfl ⟨_,rfl,h5⟩ hc
theorem HS.ownAt[Fx](h:HS w0 Mu M σ L w S ρ γ μ ι){t:Ty}{xs:List (den t)}(hi:A1 σ.res i=some (.own p (.sl e t) xs)):Sx.Own (enc t) e 0 (mm S M) w (ρ i) xs:=h.hp.ownAt (ι i) (h.res i _ hi)
theorem ATA[Fx][Sl (P:=P)](h:HS w0 Mu M σ L w S ρ γ μ ι)(hG:GxOk P G)(hN:blt d N=true){ix:Int}{z:den u}(hx:B5 σ.env x=some (.ep i u ix (some z) o))(hc:U0 G t o (F6 u z)=some s):
  C3 P N ops ds L w ⟨some d,.load t x,ty,pos,af,none⟩ w0 Mu M (apps (some d) [.put s] σ) B X Z:=by
 obtain⟨v,h1,g,n,c,p,e,xs,h2,h3,h4,rfl,h5⟩:=h.ev hx
 have ho:=h.ownAt h3
 have hz:=(AAd (h5 z rfl)).2.2
 obtain⟨g',cap,cur,h6,h7,_⟩:=ho.at_ (by have:=h4.1;have:=h4.2;omega)
 rw[h2]at h6;cases h6
 obtain⟨cs,h8,h9⟩:=ho.cellsAt h7 hz
 obtain⟨y,h10,h11⟩:=J5 h8
 exact AHZ h hG hN h1 h9 h11 (E4 u h10) hc
theorem AEL[Fx](h:HS w0 Mu M σ L w S ρ γ μ ι)(hG:GxOk P G)(hN:blt d N=true){t f k u:Nat}{l:List (Nat×Nat)}{s s':SV}(hl:lk G.tb.st t=some l)(hf:nth l f=some (k,u))(hx:B5 σ.env x=some s)(hs:(∃v o,s=.rp v o/\s'=.rp v (o+k))\/(∃i o,s=.ptr i o/\s'=.ptr i (o+k))\/∃i t ix z o,s=.ep i t ix z o/\s'=.ep i t ix z (o+k)):
  C3 P N ops ds L w ⟨some d,.fieldAddr t x f,ty,pos,af,none⟩ w0 Mu M (apps (some d) [.put s'] σ) B X Z:=by
 obtain⟨fields,hu,hfl⟩:=StOk.at hG.st hl
 obtain⟨fl,m,h1,h2,h3,h4⟩:=hfl.at hf
 rw[Aao]at h1
 obtain⟨v,h5,h6⟩:=h.ev hx
 subst h2;subst h3
 rcases hs with⟨v,o,rfl,rfl⟩|⟨i,o,rfl,rfl⟩|⟨i,t',ix,z,o,rfl,rfl⟩
 . obtain⟨b,o0,u',vs,rfl,h7,h8,h9⟩:=h6
   exact M3 h5 hu h1 h4 hN (h.fin ⟨b,o0,u',vs,by rw[AbU],h7,h8,h9⟩)
 . obtain⟨b,h7,rfl⟩:=h6
   exact M3 h5 hu h1 h4 hN (h.fin ⟨b,h7,rfl⟩)
 . obtain⟨g,n,c,p,e,xs,h7,h8,h9,rfl,h10⟩:=h6
   exact M3 h5 hu h1 h4 hN (h.fin ⟨g,n,c,p,e,xs,h7,h8,h9,by rw[AbU],h10⟩)
theorem OkV.nth:∀(l:List SV) (i:Nat) {s:SV} {vs:List Value},Sx.nth l i=some s->OkV ρ (A1 σ.res) (mm S M) w l vs->∃v,vs[i]?=some v/\Ok ρ (A1 σ.res) (mm S M) w s v
 |[],_,_,_,h,_=>(A2 h).elim
 |s::l,0,s',vs,h,⟨u,r,h1,h2,h3⟩=>by
  have h:some s=some s':=h;cases h
  exact⟨u,by rw[h1];rfl,h2⟩
 |s::l,i+1,s',vs,h,⟨u,r,h1,h2,h3⟩=>by
  obtain⟨v,h4,h5⟩:=OkV.nth l i h h3;exact⟨v,by rw[h1];simpa using h4,h5⟩
theorem APl[Fx](h:HS w0 Mu M σ L w S ρ γ μ ι)(hN:blt d N=true){l:List SV}(hx:B5 σ.env x=some (.tup l))(hs:nth l i=some s):
  C3 P N ops ds L w ⟨some d,.extract x i,ty,pos,af,none⟩ w0 Mu M (apps (some d) [.put s] σ) B X Z:=by
 obtain⟨v,h1,vs,rfl,h2⟩:=h.ev hx
 obtain⟨u,h3,h4⟩:=OkV.nth l i hs h2
 exact AEx h1 h3 hN (h.fin h4)
theorem AUo[Fx](h:HS w0 Mu M σ L w S ρ γ μ ι)(hN:blt d N=true){t e:TypeId}(ht:P.underlying t=some (.slice e))(hx:B5 σ.env x=some (.dat (.sl u) xs)):
  C3 P N ops ds L w ⟨some d,.call ⟨.builtin .len,#[x],#[t]⟩,ty,pos,af,none⟩ w0 Mu M (apps (some d) [.put (.int .i64 xs.length)] σ) B X Z:=by
 obtain⟨v,h1,_,cs,h2,h3|h3⟩:=h.ev hx
 . cases h3.1
 . obtain⟨_,rfl⟩:=h3
   obtain⟨v',h4,h5⟩:=h2
   have h4:v=v':=by simpa using h4
   subst h4
   exact AN2 h1 h5 ht hN (h.fin ⟨rfl,RdS.inK h5⟩)
theorem AUp[Fx](h:HS w0 Mu M σ L w S ρ γ μ ι)(hN:blt d N=true){t e:TypeId}{i e':Nat}(ht:P.underlying t=some (.slice e))(hx:B5 σ.env x=some (.own i))(hi:A1 σ.res i=some (.own p (.sl e' u) xs)):
  C3 P N ops ds L w ⟨some d,.call ⟨.builtin .len,#[x],#[t]⟩,ty,pos,af,none⟩ w0 Mu M (apps (some d) [.put (.int .i64 xs.length)] σ) B X Z:=by
 obtain⟨v,h1,h2,_⟩:=h.ev hx
 subst h2
 exact AFl h1 (h.ownAt hi) ht hN (h.fin ⟨rfl,Own.inK (h.ownAt hi)⟩)
theorem AUq[Fx](h:HS w0 Mu M σ L w S ρ γ μ ι)(hN:blt d N=true){t e:TypeId}(ht:P.underlying t=some (.slice e))(hx:B5 σ.env x=some .nilS):
  C3 P N ops ds L w ⟨some d,.call ⟨.builtin .len,#[x],#[t]⟩,ty,pos,af,none⟩ w0 Mu M (apps (some d) [.put (.int .i64 0)] σ) B X Z:=by
 obtain⟨v,h1,h2⟩:=h.ev hx
 have h2:v=.slice none 0 0:=h2
 subst h2
 exact AFk h1 ht hN (h.fin ⟨rfl,InK.i64.2 (by omega)⟩)
end
end
section
variable{w0 w w':World}{Mu M:List Nat}{σ:AS}{L:A8}{S:List Res}{ρ:Nat->Value}{γ:Nat->List Value}{μ:Nat->List Nat}{ι:Nat->Nat}
variable{N:Nat}{ops:Array Oper}{ds:List Deferred}{B:A5}{X:Nat->A5}{Z:List PanicEntry->A5}{d:Nat}{ty:TypeId}{pos:String}{af:Array Edge}{G:Gx}
section
variable{t:TypeId}{v:Value}{u:Ty}{x:Operand}{y:Operand}{s:SV}{k:IntKind}{i:Int}{xs:List (den u)}{z:den u}{R:Nat->Option AR}
theorem SlT.size{t e:TypeId}{n b:Nat}(T:SlT P t e n b):∀w,(sizeOf e).run P w=.ok n w:=fun w=>by
 obtain⟨i,z,hi,_,hs,_,_⟩:=T.info;simp[sizeOf,typeInfo,hi,hs]
theorem OkD.rds{M:List Nat}{w:World}{t:Ty}{xs:List (den t)}(h:OkD M w (.sl t) xs v):RdS (enc t) M w v xs:=by
 obtain⟨cs,h2,h3|h3⟩:=h
 . cases h3.1
 . obtain⟨_,rfl⟩:=h3;obtain⟨v',h4,h5⟩:=h2;have h4:v=v':=by simpa using h4
   subst h4;exact h5
theorem AW6[Fx][Sl (P:=P)](h:HS w0 Mu M σ L w S ρ γ μ ι)(hG:GxOk P G)(hN:blt d N=true){t e b:Nat}(hl:lk G.sl t=some (e,u,b))(hx:B5 σ.env x=some s)(ho:B3 s=[])(hd:C1 (A1 σ.res) (.sl u) s=some xs)(hy:B5 σ.env y=some (.int k i))(hz:ixo xs i=some z):
  C3 P N ops ds L w ⟨some d,.indexAddr t x y,ty,pos,af,none⟩ w0 Mu M (apps (some d) [.put (.rp (F6 u z) 0)] σ) B X Z:=by
 obtain⟨v,h1,h2⟩:=h.ev hx
 have h3:=(H8 (M':=mm S M) (fun _ hb=>hb) (.sl u) s (fun j hj=>by rw[ho]at hj;cases hj) hd h2).rds
 have hT:=SlOk.at hG.sl hl
 refine AN5 h1 (h.int hy).1 h3 hz hT.und (SlT.size hT) hN fun b' o cs hR hC=>?_
 obtain⟨u',h4,h5⟩:=J5 hR
 exact h.fin ⟨b',o,u',cs,rfl,hC,E4 u h4,h5⟩
theorem AW7[Fx](h:HS w0 Mu M σ L w S ρ γ μ ι)(hG:GxOk P G)(hN:blt d N=true){t e b j e':Nat}{p:Bool}(hl:lk G.sl t=some (e,u,b))(hx:B5 σ.env x=some (.own j))(hj:A1 σ.res j=some (.own p (.sl e' u) xs))(hy:B5 σ.env y=some (.int k i))(hz:ixo xs i=some z):
  C3 P N ops ds L w ⟨some d,.indexAddr t x y,ty,pos,af,none⟩ w0 Mu M (apps (some d) [.put (.ep j u i (some z) 0)] σ) B X Z:=by
 obtain⟨v,h1,h2,_⟩:=h.ev hx
 subst h2
 have hT:=SlOk.at hG.sl hl
 refine AK0 (ι j) h.hp (h.res j _ hj) h1 (h.int hy).1 hz hT.und (SlT.size hT) hN fun g cs hg hR hC=>?_
 obtain⟨hi0,hi1,_⟩:=AAd hz
 obtain⟨g',cap,cur,h6,h7,_⟩:=(h.ownAt hj).at_ (by omega)
 rw[hg]at h7
 have:g=g':=by simpa using h7
 subst this
 exact h.fin ⟨g,_,_,p,e',xs,h6,hj,⟨hi0,hi1⟩,rfl,fun y hy=>by cases hy;exact hz⟩
theorem ADS[Sl (P:=P)]{ns:List SV}(hs:T9 s=some ns)(h:Ok ρ (A1 σ.res) (mm S M) w s v):OkL ρ (A1 σ.res) (mm S M) w ns v.cells.toList/\AGX ns=true:=by
 unfold T9 at hs;cases hb:AGX (Rx.cellsOf s) with
 |false=>rw[hb]at hs;exact(A2 hs).elim
 |true=>
  rw[hb]at hs
  have hs:=AaO hs
  subst hs
  exact⟨Ok.cellsOf s h,hb⟩
theorem AF7:∀(l:List SV) {vs:List Value},AGX l=true->OkL ρ (A1 σ.res) (mm S M) w l vs->∀u∈vs,u.oneCell'=true
 |[],vs,_,h=>by
  have h:vs=[]:=h;rw[h];exact fun _ hu=>by cases hu
 |s::l,vs,hs,⟨u,c,r,h1,h2,h3,h4⟩=>by
  simp only[AGX,Bool.and_eq_true]at hs;rw[h1];intro x hx;rcases mem_append.1 hx with hx|hx
  . exact Ok.oneC s hs.1 h2 x (by rw[h3];simpa using hx)
  . exact AF7 l hs.2 h4 x hx
theorem HS.newRow[Fx](h:HS w0 Mu M σ L w S ρ γ μ ι){i e b:Nat}{l:List SV}{cs:List Value}(hp:Hp w0 Mu M (rowR e b cs::S) w')(hA:Adv (mm S M) (mm (rowR e b cs::S) M) w w')(hl:OkL ρ (A1 σ.res) (mm S M) w l cs):
  HS w0 Mu M ((Ac.new i (.row e (subL i .dead l))).app none σ) L w' (rowR e b cs::S) (upf ρ i (.pointer (some ⟨b,0,none⟩))) (upf γ i cs) (upf μ i []) (fun j=>if j=i then 0 else ι j+1):=by
 refine h.new (r:=.row e (subL i .dead l)) (v:=.pointer (some ⟨b,0,none⟩)) (cs:=cs) (mu:=[]) hp hA ⟨⟨b,rfl⟩,?_⟩
 refine OkL.sub (p:=.dead) hA (fun j hj=>Z2 hj) (fun j hj p e' t xs h1=>?_) trivial l hl
 show A1 ((i,_)::Z8 i (W0 i .dead σ.res)) j=_
 rw[fnd_cons,if_neg (fun e=>hj e.symm),fnd_rdel,if_neg hj,fnd_subR,h1];rfl
theorem AW8[Fx][Sl (P:=P)](h:HS w0 Mu M σ L w S ρ γ μ ι)(hN:blt d N=true){l:List SV}(hx:B5 σ.env x=some s)(hs:T9 s=some l):
  C3 P N ops ds L w ⟨some d,.box t x,ty,pos,af,none⟩ w0 Mu M (apps (some d) [.new d (.row t (subL d .dead l)),.put (.ptr d 0)] σ) B X Z:=by
 obtain⟨v,h1,h2⟩:=h.ev hx
 obtain⟨h3,_⟩:=ADS hs h2
 refine R7 (cs:=v.cells.toList) h.hp h1 (by simp) hN fun b w' hp hA=>?_
 have h4:=h.newRow (i:=d) hp hA h3
 refine Reg.nil ⟨rfl,EnvS.put _ _ _,_,_,_,_,_,h4.put (d:=d) (s:=.ptr d 0) (v:=.pointer (some ⟨b,0,none⟩)) ⟨b,upf_self,rfl⟩⟩
theorem InK.zero(k:IntKind):InK k 0:=by cases k<;>simp[InK,IntKind.min,IntKind.max,IntKind.signed,IntKind.bits]
theorem AQ5{M:List Nat}{w:World}{m:Nat}:Ok ρ R M w (.ary k (m+1) (replicate (m+1) 0)) (.agg (toArray (replicate (m+1) (.int k 0)))):=
 ⟨_,⟨by omega,by simp,by simp,fun y hy=>by rw[(List.mem_replicate.1 hy).2];exact InK.zero k⟩,.inl ⟨rfl,rfl⟩⟩
theorem AHa{M:List Nat}{w:World}:∀(u:Ty) {s:SV},ADs u=some s->Ok ρ R M w s (zv u)
 |.int k,s,h=>by
  have h:SV.int k 0=s:=AaO h;subst h;exact⟨rfl,InK.zero k⟩
 |.bool,s,h=>by
  have h:SV.bool false=s:=AaO h;subst h;exact rfl
 |.sl _,s,h=>by
  have h:SV.nilS=s:=AaO h;subst h;exact rfl
 |.arr k n,s,h=>by
  cases n with
  |zero=>exact(A2 h).elim
  |succ m=>
   have h:SV.ary k (m+1) (replicate (m+1) 0)=s:=AaO h
   subst h;exact AQ5
 |.st _,_,h=>(A2 h).elim
 |.fno _,_,h=>(A2 h).elim
 |.mp _ _ _,s,h=>by
  have h:SV.raw (.map none)=s:=AaO h;subst h;exact⟨rfl,rfl,rfl⟩
theorem AHb{M:List Nat}{w:World}{R:Nat->Option AR}:∀(l:List Ty) {ss:List SV},ACo l=some ss->OkL ρ R M w ss (zv.zvL l)
 |[],ss,h=>by
  have h:[]=ss:=AaO h;subst h;exact rfl
 |t::l,ss,h=>by
  simp only[ACo]at h;cases h1:ADs t with
  |none=>rw[h1]at h;exact(A2 h).elim
  |some s=>
   rw[h1]at h
   cases h2:ACo l with
   |none=>rw[h2]at h;exact(A2 h).elim
   |some r=>
    rw[h2]at h
    have h:s::r=ss:=AaO h
    subst h
    have h3:OkL ρ R M w r (zv.zvL l):=AHb l h2
    have h4:Ok ρ R M w s (zv t):=AHa t h1
    refine⟨zv t,(zv t).cells.toList,_,?_,h4,by simp,h3⟩
    cases t with
    |arr k n=>rfl
    |int _|bool|sl _=>rfl
    |st _=>exact(A2 h1).elim
    |fno _=>exact(A2 h1).elim
    |mp _ _ _=>rfl
theorem ALT(hG:GxOk P G){M:List Nat}{w:World}{t:Nat}(h:AB9 G t=some s):∃z,(∀w,(zeroValue t).run P w=.ok z w)/\Ok ρ R M w s z:=by
 unfold AB9 at h;cases hu:lk G.ty t with
 |none=>
  rw[hu]at h
  simp only at h
  cases hp:lk G.pz t with
  |none=>rw[hp]at h;exact(A2 h).elim
  |some q=>
   rw[hp]at h
   have h:SV.raw (AN9 q)=s:=AaO h
   subst h
   exact⟨_,PzOk.at hG.pz hp,rfl,by cases q<;>rfl,by cases q<;>rfl⟩
 |some u=>
  rw[hu]at h
  refine⟨zv u,(TyOk.at hG.ty hu).2.2,?_⟩
  cases u with
  |st n=>
   simp only at h
   cases hl:ACo (Sf.ft n) with
   |none=>rw[hl]at h;exact(A2 h).elim
   |some l=>
    rw[hl]at h
    have h:SV.agg l=s:=AaO h
    subst h
    exact⟨_,rfl,AHb _ hl⟩
  |int _|bool|sl _|arr _ _|mp _ _ _|fno _=>exact AHa _ h
theorem ATB[Fx][Sl (P:=P)](h:HS w0 Mu M σ L w S ρ γ μ ι)(hG:GxOk P G)(hN:blt d N=true){l:List SV}(hz:AB9 G t=some s)(hs:T9 s=some l):
  C3 P N ops ds L w ⟨some d,.alloc t,ty,pos,af,none⟩ w0 Mu M (apps (some d) [.new d (.row t (subL d .dead l)),.put (.ptr d 0)] σ) B X Z:=by
 obtain⟨z,h1,h2⟩:=ALT (ρ:=ρ) (M:=mm S M) (w:=w) (R:=A1 σ.res) hG hz
 obtain⟨h3,_⟩:=ADS hs h2
 refine P5 (cs:=z.cells.toList) h.hp h1 (by simp) hN fun b w' hp hA=>?_
 have h4:=h.newRow (i:=d) hp hA h3
 refine Reg.nil ⟨rfl,EnvS.put _ _ _,_,_,_,_,_,h4.put (d:=d) (s:=.ptr d 0) (v:=.pointer (some ⟨b,0,none⟩)) ⟨b,upf_self,rfl⟩⟩
theorem ALU{M:List Nat}{w:World}{R:Nat->Option AR}:∀(ns l:List SV) {l':List SV} {cs vs:List Value},overL l ns=some l'->OkL ρ R M w l cs->OkL ρ R M w ns vs->vs.length<=cs.length/\OkL ρ R M w l' (vs++cs.drop vs.length)
 |[],l,l',cs,vs,h,h1,h2=>by
  have h:some l=some l':=by cases l<;>exact h
  cases h
  have h2:vs=[]:=h2;subst h2;exact⟨Aas _,h1⟩
 |_::_,[],_,_,_,h,_,_=>(A2 h).elim
 |n::ns,s::l,l',cs,vs,h,⟨u,c,r,h1,h2,h3,h4⟩,⟨u',c',r',h1',h2',h3',h4'⟩=>by
  simp only[overL]at h;cases hb:beq (wd s) (wd n) with
  |false=>simp only[hb]at h;exact(A2 h).elim
  |true=>
   simp only[hb]at h
   have he:=AaU hb
   cases hw:wd n with
   |zero=>simp only[hw]at h;exact(A2 h).elim
   |succ m=>
    simp only[hw]at h
    cases hx:overL l ns with
    |none=>simp only[hx]at h;exact(A2 h).elim
    |some x=>
     simp only[hx]at h
     have h:=AaO h
     subst h
     have e1:=ADR n hw h2'
     have e2:=ADR s (he.trans hw) h2
     rw[h3']at e1;rw[h3]at e2
     have e1:c'.length=m+1:=by simpa using e1
     have e2:c.length=m+1:=by simpa using e2
     obtain⟨h5,h6⟩:=ALU ns l hx h4 h4'
     subst h1;subst h1'
     refine⟨by simp;omega,u',c',_,?_,h2',h3',h6⟩
     rw[Aax,Aaf,Abo,AbO (by omega),Aam,show c'.length+r'.length-c.length=r'.length by omega]
theorem AEc{M:List Nat}{w:World}{R:Nat->Option AR}:∀(l:List SV) (o:Nat) {ns l':List SV} {cs vs:List Value},setW l o ns=some l'->OkL ρ R M w l cs->OkL ρ R M w ns vs->o+vs.length<=cs.length/\OkL ρ R M w l' (cs.take o++vs++cs.drop (o+vs.length))
 |l,0,ns,l',cs,vs,h,h1,h2=>by
  have h:overL l ns=some l':=by cases l<;>exact h
  obtain⟨h3,h4⟩:=ALU ns l h h1 h2;exact⟨by omega,by simpa using h4⟩
 |[],_+1,_,_,_,_,h,_,_=>(A2 h).elim
 |s::l,o+1,ns,l',cs,vs,h,⟨u,c,r,h1,h2,h3,h4⟩,hv=>by
  simp only[setW]at h;cases hw:wd s with
  |zero=>simp only[hw]at h;exact(A2 h).elim
  |succ n=>
   simp only[hw]at h
   cases hb:Nat.ble n o with
   |false=>simp only[hb]at h;exact(A2 h).elim
   |true=>
    simp only[hb]at h
    have hle:=Aat hb
    cases hx:setW l (o-n) ns with
    |none=>simp only[hx]at h;exact(A2 h).elim
    |some x=>
     simp only[hx]at h
     have h:=AaO h
     subst h
     have e2:=ADR s hw h2
     rw[h3]at e2
     have e2:c.length=n+1:=by simpa using e2
     obtain⟨h5,h6⟩:=AEc l (o-n) hx h4 hv
     subst h1
     refine⟨by simp;omega,u,c,_,?_,h2,h3,h6⟩
     rw[AcB,Aa7 (by omega),Abo,AbO (by omega),Aam,e2,show o+1-(n+1)=o-n by omega,show o+1+vs.length-(n+1)=o-n+vs.length by omega]
     simp
end
end
section
variable{ρ:Nat->Value}{R R':Nat->Option AR}{M:List Nat}{w:World}
mutual
theorem Ok.res(hR:∀j p e t (xs:List (den t)),R j=some (.own p (.sl e t) xs)->R' j=some (.own p (.sl e t) xs)):∀(s:SV) {v:Value},Ok ρ R M w s v->Ok ρ R' M w s v
 |.int _ _,_,h|.bool _,_,h|.dat _ _,_,h|.str _ _,_,h|.ary _ _ _,_,h|.own _,_,h|.ptr _ _,_,h|.fv _ _ _,_,h|.nilS,_,h|.np _ _,_,h|.it _ _,_,h|.raw _,_,h|.undef,_,h|.dead,_,h=>h
 |.agg l,_,⟨vs,h1,h2⟩=>⟨vs,h1,OkL.res hR l h2⟩
 |.ep j t x z o,v,⟨g,n,c,q,e,xs,h1,h2,h3⟩=>⟨g,n,c,q,e,xs,h1,hR _ _ _ _ _ h2,h3⟩
 |.rp s _,_,⟨b,o0,u,vs,h1,h2,h3,h4⟩=>⟨b,o0,u,vs,h1,h2,Ok.res hR s h3,h4⟩
 |.ap s _ _ _,_,⟨b,o,h1,h2⟩=>⟨b,o,Ok.res hR s h1,h2⟩
 |.fn _ l,_,⟨vs,h1,h2⟩=>⟨vs,h1,OkV.res hR l h2⟩
 |.tup l,_,⟨vs,h1,h2⟩=>⟨vs,h1,OkV.res hR l h2⟩
theorem OkL.res(hR:∀j p e t (xs:List (den t)),R j=some (.own p (.sl e t) xs)->R' j=some (.own p (.sl e t) xs)):∀(l:List SV) {vs:List Value},OkL ρ R M w l vs->OkL ρ R' M w l vs
 |[],_,h=>h
 |s::l,_,⟨u,c,r,h1,h2,h3,h4⟩=>⟨u,c,r,h1,Ok.res hR s h2,h3,OkL.res hR l h4⟩
theorem OkV.res(hR:∀j p e t (xs:List (den t)),R j=some (.own p (.sl e t) xs)->R' j=some (.own p (.sl e t) xs)):∀(l:List SV) {vs:List Value},OkV ρ R M w l vs->OkV ρ R' M w l vs
 |[],_,h=>h
 |s::l,_,⟨u,r,h1,h2,h3⟩=>⟨u,r,h1,Ok.res hR s h2,OkV.res hR l h3⟩
end
end
section
variable{w0 w w':World}{Mu M:List Nat}{σ:AS}{L:A8}{S:List Res}{ρ:Nat->Value}{γ:Nat->List Value}{μ:Nat->List Nat}{ι:Nat->Nat}
variable{N:Nat}{ops:Array Oper}{ds:List Deferred}{B:A5}{X:Nat->A5}{Z:List PanicEntry->A5}{d:Nat}{ty:TypeId}{pos:String}{af:Array Edge}{G:Gx}
theorem AJI{i j:Nat}{g:AR->AR}{c:List Nat}:A1 (σ.upd i g c).res j=if j=i then(A1 σ.res j).map g else(A1 σ.res j).map (AR.old i):=by
 show A1 (AE0 i g σ.res) j=_;rw[ADP]
theorem AQ6[Fx][Sl (P:=P)](h:HS w0 Mu M σ L w S ρ γ μ ι)(hG:GxOk P G){t i o e n:Nat}{x y:Operand}{s:SV}{l l' ns:List SV}(hy:B5 σ.env y=some s)(hs:T9 s=some ns)(hx:B5 σ.env x=some (.ptr i o))(hi:A1 σ.res i=some (.row e l))(hw:setW l o ns=some l')(hz:lk G.sz t=some n)(hn:Q7 ns=some n):
  C3 P N ops ds L w ⟨none,.store t x y,ty,pos,af,none⟩ w0 Mu M (apps none [.sto i o ns] σ) B X Z:=by
 have hg:AAt o ns (.row e l)=.row e l':=by simp only[AAt,hw]
 obtain⟨v,h1,h2⟩:=h.ev hy
 obtain⟨h3,h4⟩:=ADS hs h2
 obtain⟨u,h5,b,h6,rfl⟩:=h.ev hx
 obtain⟨b',h7,h8,h9,h10⟩:=h.rowAt hi
 rw[h6]at h7;cases h7
 obtain⟨h11,h12⟩:=AEc l o hw h9 h3
 refine N2 (ι i) (vs:=v.cells.toList) h.hp h10 h5 h1 (by simp) (SzOk.at hG.sz hz) (AAf ns hn h3) (Abx h11) (AF7 ns h4 h3) fun w' hp hA=>?_
 have hres:S.set (ι i) (rowR e b (B6 (γ i) o v.cells.toList))=S.set (ι i) (I4 (ρ i) (B6 (γ i) o v.cells.toList) (μ i) (.row e l')):=by
  show _=S.set (ι i) (rowR e (blk (ρ i)) _);rw[h6];rfl
 rw[hres]at hp hA
 refine Reg.nil ⟨rfl,EnvS.refl _ _,_,_,_,_,_,h.upd (r:=.row e l') (g:=AAt o ns) (c:=AQm o ns (A1 σ.res i)) hi hg hp hA (fun p e' t' xs he=>by cases he) ⟨⟨b,h6⟩,?_⟩⟩
 rw[<-V2 _ _ _ h11]at h12
 refine OkL.res (fun j p e' t' xs hj=>?_) l' (OkL.adv hA l' h12)
 rw[AJI]
 by_cases he:j=i
 . subst he;rw[hi]at hj;cases hj
 . rw[if_neg he,hj];rfl
theorem AM8{R:Nat->Option AR}{t:Ty}{l:List SV}{x:den t}(h:toP R t l=some x)(hs:∀n,t≠.st n):∃s,l=[s]/\C1 R t s=some x:=by
 cases t with
 |st n=>exact absurd rfl (hs n)
 |int _|bool|sl _|arr _ _|mp _ _ _|fno _=>
  cases l with
  |nil=>exact(A2 h).elim
  |cons s r=>cases r with
   |nil=>exact⟨s,rfl,h⟩
   |cons _ _=>exact(A2 h).elim
theorem ALV[Sl (P:=P)]{M M':List Nat}{w:World}{R:Nat->Option AR}(hM:∀b∈M',b∈M)(t:Ty){l:List SV}{x:den t}{cs:List Value}(hr:Rds ρ R M' w (ownsLL l))(hd:toP R t l=some x)(h:OkL ρ R M w l cs):(enc t).R M' w cs x:=by
 by_cases hs:∃n,t=.st n
 . obtain⟨n,rfl⟩:=hs;exact(H8 (v:=.agg (toArray cs)) hM (.st n) (.agg l) hr hd ⟨cs,rfl,h⟩).cells
 . obtain⟨s,rfl,h1⟩:=AM8 hd fun n e=>hs ⟨n,e⟩;obtain⟨u,rfl,h2⟩:=h.one;exact(H8 hM t s (hr.mono (by simp[ownsLL])) h1 h2).cells
end
theorem H0{d:Option Nat}:∀(a b:List Ac) (σ:AS),apps d (a++b) σ=apps d b (apps d a σ)
 |[],_,_=>rfl
 |_::a,b,σ=>H0 a b _
theorem AFF{R:Nat->Option AR}:∀(I:List Nat) {as_:List Ac},frz R I=some as_->∀a∈as_,∃i p,a=.del i p
 |[],as_,h,a,ha=>by cases h;cases ha
 |i::I,as_,h,a,ha=>by
  simp only[frz]at h;cases hh:has I i with
  |true=>rw[hh,cond_true]at h;exact AFF I h a ha
  |false=>
   rw[hh,cond_false]at h
   generalize hg:ADD R i=o at h
   cases o with
   |none=>exact(A2 h).elim
   |some a1=>
    generalize hg2:frz R I=o2 at h
    cases o2 with
    |none=>exact(A2 h).elim
    |some r=>
     have h:a1++r=as_:=AaO h
     subst h
     rcases mem_append.1 ha with ha|ha
     . unfold ADD at hg
       split at hg
       . cases hg;exact⟨_,_,by simpa using ha⟩
       . cases hg
       . split at hg
         . cases hg;exact⟨_,_,by simpa using ha⟩
         . cases hg
       . cases hg
     . exact AFF I hg2 a ha
theorem AHc{d:Option Nat}:∀(as_:List Ac) (σ:AS),(∀a∈as_,∃i p,a=.del i p)->apps d as_ σ=apps none as_ σ
 |[],_,_=>rfl
 |a::as_,σ,h=>by
  obtain⟨i,p,rfl⟩:=h a (AaT ..);exact AHc as_ _ fun b hb=>h b (AaQ _ hb)
section
variable{w0 w w':World}{Mu M:List Nat}{σ:AS}{L:A8}{S:List Res}{ρ:Nat->Value}{γ:Nat->List Value}{μ:Nat->List Nat}{ι:Nat->Nat}
variable{N:Nat}{ops:Array Oper}{ds:List Deferred}{B:A5}{X:Nat->A5}{Z:List PanicEntry->A5}{d:Nat}{ty:TypeId}{pos:String}{af:Array Edge}{G:Gx}
section
variable{R:Nat->Option AR}{I:List Nat}{t:Nat}{e:Nat}{b:Nat}{u:Ty}{x:Operand}{y:Operand}{s:SV}{i:Nat}{p:Bool}
theorem HS.evL[Fx](h:HS w0 Mu M σ L w S ρ γ μ ι):∀{xs:List Operand} {ss:List SV},evL (B5 σ.env) xs=some ss->∃vs,evs L xs=some vs/\OkV ρ (A1 σ.res) (mm S M) w ss vs
 |[],ss,hx=>by cases hx;exact⟨[],rfl,rfl⟩
 |x::xs,ss,hx=>by
  simp only[Rx.evL]at hx;cases h1:B5 σ.env x with
  |none=>rw[h1]at hx;exact(A2 hx).elim
  |some s=>
   rw[h1]at hx
   cases h2:Rx.evL (B5 σ.env) xs with
   |none=>rw[h2]at hx;exact(A2 hx).elim
   |some r=>
    rw[h2]at hx
    have hx:s::r=ss:=AaO hx
    subst hx
    obtain⟨v,h3,h4⟩:=h.ev h1
    obtain⟨vs,h5,h6⟩:=h.evL h2
    exact⟨v::vs,by simp only[evs,h3,h5],v,vs,rfl,h4,h6⟩
theorem AIK:Still R R I:=fun _ _=>⟨fun _ _ _ h=>h,fun _ _ h _=>h⟩
theorem HS.frz[Fx](h:HS w0 Mu M σ L w S ρ γ μ ι){as_:List Ac}(hf:frz (A1 σ.res) I=some as_):
  ∃S1 ι1,HS w0 Mu M (apps (some d) as_ σ) L w S1 ρ γ μ ι1/\RdR ρ γ (A1 σ.res) (mm S1 M) w I/\∀b∈mm S1 M,b∈mm S M:=by
 rw[AHc as_ σ (AFF I hf)]
 exact APi I (A1 σ.res) AIK h hf
theorem AUr[Fx][Sl (P:=P)](h:HS w0 Mu M σ L w S ρ γ μ ι)(hG:GxOk P G)(hN:blt d N=true){ys l:List (den u)}{fz:List Ac}(hl:lk G.sl t=some (e,u,b))(hx:B5 σ.env x=some .nilS)(hy:B5 σ.env y=some s)(hd:C1 (A1 σ.res) (.sl u) s=some ys)(hf:frz (A1 σ.res) (B3 s)=some fz)(hap:appo b ([]:List (den u)) ys=some l):
  C3 P N ops ds L w ⟨some d,.call ⟨.builtin .append,#[x,y],#[t,t]⟩,ty,pos,af,none⟩ w0 Mu M (apps (some d) (fz++[.new d (.own false (.sl e u) l),.put (.own d)]) σ) B X Z:=by
 obtain⟨v,h1,h2⟩:=h.ev hx
 have h2:v=.slice none 0 0:=h2
 subst h2
 obtain⟨v2,h3,h4⟩:=h.ev hy
 obtain⟨S1,ι1,h5,h6,h7⟩:=h.frz (d:=d) hf
 have h8:=(H8 (M':=mm S1 M) h7 (.sl u) s h6.1 hd h4).rds
 obtain⟨hb,he⟩:=ABt hap
 have hp0:=h5.hp.addNil (enc u) e
 refine ADn 0 (SlOk.at hG.sl hl) (mu:=[]) hp0 rfl h1 h3 (h8.adv (ACm (enc u) e)) hb hN fun v' w' hp hA=>?_
 have hset:(ownR [] (enc u) e (.slice none 0 0) ([]:List (den u))::S1).set 0 (ownR [] (enc u) e v' ([]++ys))=ownR [] (enc u) e v' l::S1:=by rw[he];rfl
 rw[hset]at hp hA
 have hA':Adv (mm S1 M) (mm (ownR [] (enc u) e v' l::S1) M) w w':=(ACm (enc u) e).trans hA
 have h9:=h5.new (i:=d) (r:=.own false (.sl e u) l) (v:=v') (cs:=[]) (mu:=[]) hp hA' trivial
 have ho:Sx.Own (enc u) e 0 (mm (ownR [] (enc u) e v' l::S1) M) w' v' l:=hp.ownAt 0 rfl
 refine Reg.nil ⟨rfl,EnvS.put _ _ _,?_⟩
 rw[H0]
 exact⟨_,_,_,_,_,h9.put (d:=d) (s:=.own d) (v:=v') ⟨upf_self.symm,by rw[ho.cells1],ho.oneC⟩⟩
theorem AC3{R:Nat->Option AR}:∀(I:List Nat) {as_:List Ac},frz R I=some as_->∀a∈as_,∃i∈I,∃p,a=.del i p
 |[],as_,h,a,ha=>by cases h;cases ha
 |i::I,as_,h,a,ha=>by
  simp only[Rx.frz]at h;cases hh:has I i with
  |true=>
   rw[hh,cond_true]at h
   obtain⟨j,hj,p,rfl⟩:=AC3 I h a ha
   exact⟨j,AaQ _ hj,p,rfl⟩
  |false=>
   rw[hh,cond_false]at h
   generalize hg:ADD R i=o at h
   cases o with
   |none=>exact(A2 h).elim
   |some a1=>
    generalize hg2:Rx.frz R I=o2 at h
    cases o2 with
    |none=>exact(A2 h).elim
    |some r=>
     have h:a1++r=as_:=AaO h
     subst h
     rcases mem_append.1 ha with ha|ha
     . unfold ADD at hg
       split at hg
       . cases hg;exact⟨i,AaT ..,_,by simpa using ha⟩
       . cases hg
       . split at hg
         . cases hg;exact⟨i,AaT ..,_,by simpa using ha⟩
         . cases hg
       . cases hg
     . obtain⟨j,hj,p,rfl⟩:=AC3 I hg2 a ha
       exact⟨j,AaQ _ hj,p,rfl⟩
theorem AJJ{d:Option Nat}{i:Nat}{p:Bool}{e:Nat}{t:Ty}{xs:List (den t)}:∀(as_:List Ac) (σ:AS),(∀a∈as_,∃j q,a=.del j q/\j≠i)->A1 σ.res i=some (.own p (.sl e t) xs)->A1 (apps d as_ σ).res i=some (.own p (.sl e t) xs)
 |[],_,_,h=>h
 |a::as_,σ,ha,h=>by
  obtain⟨j,q,rfl,hne⟩:=ha a (AaT ..);refine AJJ as_ _ (fun b hb=>ha b (AaQ _ hb)) ?_;show A1 (Z8 j (W0 j q σ.res)) i=_;rw[fnd_rdel,if_neg (fun e=>hne e.symm),fnd_subR,h];rfl
theorem AHd{d:Option Nat}{i:Nat}{p:Bool}{c:Oc}{x:den c.ty}:∀(as_:List Ac) (σ:AS),(∀a∈as_,∃j q,a=.del j q/\j≠i)->A1 σ.res i=some (.own p c x)->A1 (apps d as_ σ).res i=some (.own p c x)
 |[],_,_,h=>h
 |a::as_,σ,ha,h=>by
  obtain⟨j,q,rfl,hne⟩:=ha a (AaT ..);refine AHd as_ _ (fun b hb=>ha b (AaQ _ hb)) ?_;show A1 (Z8 j (W0 j q σ.res)) i=_;rw[fnd_rdel,if_neg (fun e=>hne e.symm),fnd_subR,h];rfl
theorem AUs[Fx][Sl (P:=P)](h:HS w0 Mu M σ L w S ρ γ μ ι)(hG:GxOk P G)(hN:blt d N=true){xs ys l:List (den u)}{fz:List Ac}(hl:lk G.sl t=some (e,u,b))(hx:B5 σ.env x=some (.own i))(hi:A1 σ.res i=some (.own p (.sl e u) xs))(hni:i∉B3 s)(hy:B5 σ.env y=some s)(hd:C1 (A1 σ.res) (.sl u) s=some ys)(hf:frz (A1 σ.res) (B3 s)=some fz)(hap:appo b xs ys=some l):
  C3 P N ops ds L w ⟨some d,.call ⟨.builtin .append,#[x,y],#[t,t]⟩,ty,pos,af,none⟩ w0 Mu M (apps (some d) (fz++[.hnd i (.own p (.sl e u) l),.put (.own i)]) σ) B X Z:=by
 obtain⟨v,h1,h2,_⟩:=h.ev hx
 subst h2
 obtain⟨v2,h3,h4⟩:=h.ev hy
 obtain⟨S1,ι1,h5,h6,h7⟩:=h.frz (d:=d) hf
 have h8:=(H8 (M':=mm S1 M) h7 (.sl u) s h6.1 hd h4).rds
 obtain⟨hb,he⟩:=ABt hap
 have h9:A1 (apps (some d) fz σ).res i=some (.own p (.sl e u) xs):=AJJ fz σ (fun a ha=>by
  obtain⟨j,hj,q,rfl⟩:=AC3 _ hf a ha;exact⟨j,q,rfl,fun e=>hni (e▸hj)⟩) hi
 have h10:=h5.res i _ h9
 refine ADn (ι1 i) (SlOk.at hG.sl hl) (mu:=bif p then μ i else []) h5.hp h10 h1 h3 h8 hb hN fun v' w' hp hA=>?_
 rw[<-he]at hp hA
 have hil:ι1 i<S1.length:=by
  rcases Aag (ι1 i) S1.length with h1|h1
  . exact h1
  . rw[Aaa h1]at h10;cases h10
 have ho:Sx.Own (enc u) e 0 (mm (S1.set (ι1 i) (ownR (bif p then μ i else []) (enc u) e v' l)) M) w' v' l:=hp.ownAt (ι1 i) (mu:=bif p then μ i else []) (by simp[hil])
 have h11:=h5.hnd (r:=.own p (.sl e u) l) (v:=v') (cs:=[]) h9 hp hA trivial
 refine Reg.nil ⟨rfl,EnvS.put _ _ _,?_⟩
 rw[H0]
 exact⟨_,_,_,_,_,h11.put (d:=d) (s:=.own i) (v:=v') ⟨upf_self.symm,by rw[ho.cells1],ho.oneC⟩⟩
end
end
section
variable{w0 w w':World}{Mu M:List Nat}{σ:AS}{L:A8}{S:List Res}{ρ:Nat->Value}{γ:Nat->List Value}{μ:Nat->List Nat}{ι:Nat->Nat}
variable{N:Nat}{ops:Array Oper}{ds:List Deferred}{B:A5}{X:Nat->A5}{Z:List PanicEntry->A5}{d:Nat}{ty:TypeId}{pos:String}{af:Array Edge}{G:Gx}
section
variable{x:Operand}{y:Operand}{k:IntKind}{i:Int}{j:Int}{ts:Array TypeId}{u:Ty}
theorem AW9[Fx](h:HS w0 Mu M σ L w S ρ γ μ ι)(hN:blt d N=true)(hx:B5 σ.env x=some (.int k i))(hy:B5 σ.env y=some (.int k j)):
  C3 P N ops ds L w ⟨some d,.call ⟨.builtin .min,#[x,y],ts⟩,ty,pos,af,none⟩ w0 Mu M (apps (some d) [.put (.int k (min i j))] σ) B X Z:=
 ASB (h.int hx).1 (h.int hy).1 hN (h.fin ⟨rfl,AKu (h.int hx).2 (h.int hy).2⟩)
theorem AXA[Fx](h:HS w0 Mu M σ L w S ρ γ μ ι)(hN:blt d N=true)(hx:B5 σ.env x=some (.int k i))(hy:B5 σ.env y=some (.int k j)):
  C3 P N ops ds L w ⟨some d,.call ⟨.builtin .max,#[x,y],ts⟩,ty,pos,af,none⟩ w0 Mu M (apps (some d) [.put (.int k (max i j))] σ) B X Z:=
 ASC (h.int hx).1 (h.int hy).1 hN (h.fin ⟨rfl,AKv (h.int hx).2 (h.int hy).2⟩)
theorem AOZ[Fx](h:HS w0 Mu M σ L w S ρ γ μ ι)(hN:blt d N=true){g:Nat}{xs:List Operand}{l:List SV}(hx:evL (B5 σ.env) xs=some l):
  C3 P N ops ds L w ⟨some d,.makeFunc (.func g) #[] (toArray xs),ty,pos,af,none⟩ w0 Mu M (apps (some d) [.put (.fn g l)] σ) B X Z:=by
 obtain⟨vs,h1,h2⟩:=h.evL hx
 exact AEB h1 hN (h.fin ⟨vs,rfl,h2⟩)
theorem ATC[Fx][Sl (P:=P)](h:HS w0 Mu M σ L w S ρ γ μ ι)(hG:GxOk P G)(hN:blt d N=true){t f k u:Nat}{l:List (Nat×Nat)}{v r:SV}(hl:lk G.tb.st t=some l)(hf:nth l f=some (k,u))(hx:B5 σ.env x=some v)(hc:U0 G u k v=some r)(hv:AEE v=true):
  C3 P N ops ds L w ⟨some d,.field t x f,ty,pos,af,none⟩ w0 Mu M (apps (some d) [.put r] σ) B X Z:=by
 obtain⟨fields,hu,hfl⟩:=StOk.at hG.st hl
 obtain⟨fl,m,h1,h2,h3,h4⟩:=hfl.at hf
 rw[Aao]at h1
 obtain⟨y,h5,h6⟩:=h.ev hx
 have h7:=AHY v hv h6
 have h8:Sx.ev L x=some (.agg (toArray y.cells.toList)):=by rw[AcK,<-h7];exact h5
 subst h2;subst h3
 rcases AFE hc h6 with⟨ha,z,h9,h10⟩|⟨n,cs,ha,h9,h10,h11⟩
 . exact AQg h8 hu h1 (AgOk.at0 hG.ag ha) h9 hN (h.fin h10)
 . refine AWU h8 hu h1 (AgOk.at1 hG.ag ha).1 (AgOk.at1 hG.ag ha).2 hN ?_
   have:(y.cells.toList.drop fl.offset).take n=cs:=by
    apply Aa9;intro j;rcases Aag j n with hj|hj
    . rw[Aa6,Aac hj,AbK,AaV (l:=cs) (by omega)];exact h10 j _ (AaV (by omega))
    . rw[Aa6,if_neg (by omega),Aaa (by omega)]
   rw[this]
   exact h.fin h11
theorem AM9:∀(l:List (Nat×Operand)) (i:Nat),AHP i l=true->l.map (·.1)=List.range' i l.length
 |[],_,_=>rfl
 |(j,_)::r,i,h=>by
  simp only[AHP,Bool.and_eq_true]at h;have:=AaU h.1;subst this;simp[List.range'_succ,AM9 r (i+1) h.2]
theorem ALW[Sl (P:=P)]{R:Nat->Option AR}{M M':List Nat}{w:World}(hM:∀b∈M',b∈M){u:Ty}:∀(ss:List SV) {xs:List (den u)} {vs:List Value},Rds ρ R M' w (ownsLL ss)->AA6 u R ss=some xs->OkV ρ R M w ss vs->Cls vs (vs.map fun v=>v.cells.toList)/\Chs (enc u) M' w (vs.map fun v=>v.cells.toList) xs
 |[],xs,vs,_,h,hk=>by
  have hk:vs=[]:=hk;have h:[]=xs:=AaO h;subst hk;subst h;exact⟨Cls.nil,Chs.nil⟩
 |s::l,xs,vs,hr,h,⟨v,r,h1,h2,h3⟩=>by
  simp only[AA6]at h;cases hd:C1 R u s with
  |none=>rw[hd]at h;exact(A2 h).elim
  |some x=>
   rw[hd]at h
   cases hl:AA6 u R l with
   |none=>rw[hl]at h;exact(A2 h).elim
   |some y=>
    rw[hl]at h
    have h:x::y=xs:=AaO h
    subst h;subst h1
    have h4:=(H8 hM u s (hr.mono (by simp only[ownsLL];intro i hi;exact AaR _ hi)) hd h2).cells
    obtain⟨h5,h6⟩:=ALW hM l (hr.mono (by simp only[ownsLL];intro i hi;exact AaS _ hi)) hl h3
    exact⟨Cls.cons (by simp) h5,Chs.cons h4 h6⟩
theorem ALX[Fx][Sl (P:=P)](h:HS w0 Mu M σ L w S ρ γ μ ι)(hG:GxOk P G)(hN:blt d N=true){t e b n m:Nat}{ps:List (Nat×Operand)}{ss:List SV}{xs:List (den u)}{fz:List Ac}(hl:lk G.sl t=some (e,u,b))(hm:lk G.sz e=some m)(hv:evL (B5 σ.env) (ps.map (·.2))=some ss)(hd:AA6 u (A1 σ.res) ss=some xs)(hf:frz (A1 σ.res) (ownsLL ss)=some fz)(hs:AHP 0 ps=true)(hn:n=ps.length)(hb:Nat.ble (n*m) 16777216=true):
  C3 P N ops ds L w ⟨some d,.buildSlice t n (toArray ps),ty,pos,af,none⟩ w0 Mu M (apps (some d) (fz++[.new d (.own false (.sl e u) xs),.put (.own d)]) σ) B X Z:=by
 subst hn
 obtain⟨vs,h1,h2⟩:=h.evL hv
 obtain⟨S1,ι1,h5,h6,h7⟩:=h.frz (d:=d) hf
 obtain⟨h8,h9⟩:=ALW (M':=mm S1 M) h7 ss h6.1 hd h2
 have hT:=SlOk.at hG.sl hl
 have hsz:m=(enc u).n:=by
  have e1:=SzOk.at hG.sz hm w;rw[SlT.size hT w]at e1;cases e1;rfl
 subst hsz
 have hi:=AM9 ps 0 hs
 rw[<-List.range_eq_range']at hi
 refine AEC hT h5.hp hi h1 h8 h9 hb hN fun v' w' hp hA=>?_
 have h10:=h5.new (i:=d) (r:=.own false (.sl e u) xs) (v:=v') (cs:=[]) (mu:=[]) hp hA trivial
 have ho:Sx.Own (enc u) e 0 (mm (ownR [] (enc u) e v' xs::S1) M) w' v' xs:=hp.ownAt 0 rfl
 refine Reg.nil ⟨rfl,EnvS.put _ _ _,?_⟩
 rw[H0]
 exact⟨_,_,_,_,_,h10.put (d:=d) (s:=.own d) (v:=v') ⟨upf_self.symm,by rw[ho.cells1],ho.oneC⟩⟩
end
end
section
variable{w0 w w':World}{Mu M:List Nat}{σ:AS}{L:A8}{S:List Res}{ρ:Nat->Value}{γ:Nat->List Value}{μ:Nat->List Nat}{ι:Nat->Nat}
theorem HS.lend[Fx](h:HS w0 Mu M σ L w S ρ γ μ ι)(I:List Nat):RdR ρ γ (A1 σ.res) M w I:=by
 have hr:∀J,Rds ρ (A1 σ.res) M w J:=fun J i _ p c x hR=>AJH h.hp [] (ι i) rfl (h.row i _ hR) (h.res i _ hR);have key:∀(n:Nat) (I:List Nat),RdN ρ γ (A1 σ.res) M w n I:=by
  intro n;induction n with
  |zero=>exact fun I=>hr I
  |succ n ih=>
   refine fun I=>⟨hr I,fun i _ e l hR=>?_⟩
   obtain⟨b,h1,h2,h3,h4⟩:=h.rowAt hR
   exact⟨ih _,b,h1,h.hp.lendC [] (ι i) rfl h4,OkL.adv (Adv.drop fun b hb=>mem_mm.2 (.inr hb)) l h3⟩
 exact key 4 I
theorem AHe:∀(t:Ty) (x:den t),B3 (F6 t x)=[]
 |.int _,_|.bool,_|.sl _,_|.st _,_|.arr _ _,_|.mp _ _ _,_|.fno _,_=>rfl
theorem ALY:∀(l:List Ty) (x:P6 l),ownsLL (ofL l x)=[]
 |[],_=>rfl
 |[t],x=>by show B3 (F6 t x)++[]=[];rw[AHe t x];rfl
 |t::u::l,x=>by show B3 (F6 t x.1)++ownsLL (ofL (u::l) x.2)=[];rw[AHe t x.1,ALY (u::l) x.2];rfl
theorem AFG(s:SV):∀i∈ownsLL (Rx.cellsOf s),i∈B3 s:=by
 cases s with
 |str n x=>intro i hi;rw[show ownsLL (Rx.cellsOf (.str n x))=[] from ALY _ _]at hi;cases hi
 |agg l=>exact fun i hi=>hi
 |int _ _|bool _|dat _ _|ary _ _ _|own _|ptr _ _|ep _ _ _ _ _|rp _ _|fv _ _ _|fn _ _|nilS|raw _|it _ _|np _ _|ap _ _ _ _|undef|dead|tup _=>
  intro i hi
  simp only[Rx.cellsOf,ownsLL,List.append_nil]at hi
  exact hi
theorem AEd[Sl (P:=P)]{R:Nat->Option AR}{M':List Nat}(hM:∀b∈M',b∈M){t:Ty}{s:SV}{x:den t}{v:Value}{n:Nat}(hr:RdN ρ γ R M' w (n+1) (B3 s))(hd:AAR R t s=some x)(h:Ok ρ R M w s v):PtOk M' w (.pt t) x v:=by
 cases s with
 |rp u o=>
  cases o with
  |succ o=>exact(A2 hd).elim
  |zero=>
   have hd:toP R t (Rx.cellsOf u)=some x:=hd
   obtain⟨b,o0,y,vs,h1,h2,h3,h4⟩:=h
   have h5:=Ok.cellsOf u h3
   rw[h4]at h5
   exact⟨b,o0,vs,h1,h2.adv (Adv.drop hM),ALV hM t (hr.1.mono (AFG u)) hd h5⟩
 |ptr i o=>
  cases o with
  |succ o=>exact(A2 hd).elim
  |zero=>
   cases hR:R i with
   |none=>
    have hd:(match R i with
     |some (.row _ c)=>toP R t c
     |_=>none)=some x:=hd
    rw[hR]at hd;exact(A2 hd).elim
   |some a=>
    have hd:(match R i with
     |some (.row _ c)=>toP R t c
     |_=>none)=some x:=hd
    rw[hR]at hd
    cases a with
    |own _ _ _=>exact(A2 hd).elim
    |row e c=>
     obtain⟨h1,b,h2,h3,h4⟩:=hr.2 i (by simp[B3]) e c hR
     obtain⟨b',h5,h6⟩:=h
     rw[h2]at h5;cases h5
     exact⟨b,0,γ i,h6,h3,ALV (fun _ hb=>hb) t h1.rds hd h4⟩
 |np t' q=>
  cases q with
  |none=>exact(A2 hd).elim
  |some y=>
   have hd:I2 t' t y=some x:=hd
   obtain⟨e,hx⟩:=O5 hd
   subst e
   rcases h with⟨h1,_⟩|⟨y',b,o,vs,h1,h2,h3,h4⟩
   . cases h1
   . cases h1
     have hx:y=x:=hx
     subst hx
     exact⟨b,o,vs,h2,h3.adv (Adv.drop hM),(enc t').adv h4 (Adv.drop hM)⟩
 |int _ _|bool _|dat _ _|ary _ _ _|own _|str _ _|agg _|ep _ _ _ _ _|fv _ _ _|fn _ _|nilS|raw _|it _ _|ap _ _ _ _|undef|dead|tup _=>exact(A2 hd).elim
end
def AKZ:(a:List Ty)->(ps:List Pt)->E9 (a.map Pt.d)->E9 ps->E9 (a.map Pt.d++ps)
 |[],_,_,y=>y
 |_::a,ps,x,y=>(x.1,AKZ a ps x.2 y)
theorem AG7{M:List Nat}{w:World}:∀(a:List Ty) (ps:List Pt) {x:E9 (a.map Pt.d)} {y:E9 ps} {vs us:List Value},ArgsOk M w (a.map Pt.d) x vs->ArgsOk M w ps y us->ArgsOk M w (a.map Pt.d++ps) (AKZ a ps x y) (vs++us)
 |[],_,_,_,vs,us,h,h2=>by
  have h:vs=[]:=h;subst h;exact h2
 |t::a,ps,x,y,vs,us,⟨v,r,h1,h3,h4⟩,h2=>by
  subst h1;exact⟨v,r++us,rfl,h3,AG7 a ps h4 h2⟩
theorem ALZ{M1:List Nat}{w1:World}{v:Value}{r:Ty}(ps:List Pt)(y:E9 ps):∀(a:List Ty) (f:E9 (a.map Pt.d++ps)->Option (den r)) (vs:List Value),
  (∀(x:E9 (a.map Pt.d)) (as_:List Value),ArgsOk M1 w1 (a.map Pt.d) x as_->∀q,f (AKZ a ps x y)=some q->CallsV P v (vs++as_) w1 fun e w2=>∃u,e=.returned u/\OkD M1 w2 r q u/\Ext w1 w2) ->
  FnR P M1 w1 v a r (AOA r a ps y f) vs
 |[],f,vs,h=>fun q hq=>by
  have:=h () [] rfl q hq;rwa [Aan]at this
 |t::a,f,vs,h=>fun x u hu=>ALZ ps y a (fun z=>f (x,z)) (vs++[u]) fun xs as_ has q hq=>by
  have:=h (x,xs) (u::as_) ⟨u,as_,rfl,hu,has⟩ q hq;rwa [Aax,AcF]
section
variable{w:World}{M M':List Nat}{ρ:Nat->Value}{γ:Nat->List Value}{R:Nat->Option AR}{G:Gx}
section
variable{s:SV}{v:Value}{n:Nat}{g:Nat}{w':World}
theorem RdR.mono{I J:List Nat}(h:RdR ρ γ R M w J)(hs:∀i∈I,i∈J):RdR ρ γ R M w I:=RdN.mono h hs
theorem ANA[Sl (P:=P)](hM:∀b∈M',b∈M){s s':SV}(hr:RdN ρ γ R M' w (n+1) (B3 s))(hb:ACP R s=some s')(h:Ok ρ R M w s v):∃b o u vs,v=.pointer (some ⟨b,o,none⟩)/\RdC M' w b o vs/\(Ok ρ R M w s' u\/Ok ρ R M' w s' u)/\u.cells=toArray vs/\RdN ρ γ R M' w n (B3 s'):=by
 have dn:∀{n:Nat} {I:List Nat},RdN ρ γ R M' w (n+1) I->RdN ρ γ R M' w n I:=by
  intro n;induction n with
  |zero=>exact fun h=>h.1
  |succ n ih=>exact fun h=>⟨h.1,fun i hi e l hR=>by
   obtain⟨h0,h1⟩:=h.2 i hi e l hR;exact⟨ih h0,h1⟩⟩
 cases s with
 |rp u o=>
  have hb:(match (generalizing:=false) o,Rx.cellsOf u with
   |0,[s]=>some s
   |_,_=>none)=some s':=hb
  cases o with
  |succ o=>exact(A2 hb).elim
  |zero=>
   cases hc:Rx.cellsOf u with
   |nil=>rw[hc]at hb;exact(A2 hb).elim
   |cons s1 r=>cases r with
    |cons _ _=>rw[hc]at hb;exact(A2 hb).elim
    |nil=>
     rw[hc]at hb
     have hb:s1=s':=AaO hb
     subst hb
     obtain⟨b,o0,y,vs,h1,h2,h3,h4⟩:=h
     have h5:=Ok.cellsOf u h3
     rw[hc,h4]at h5
     obtain⟨y',h6,h7⟩:=OkL.one h5
     refine⟨b,o0,y',vs,h1,h2.adv (Adv.drop hM),.inl h7,?_,(dn hr).mono fun i hi=>?_⟩
     . rw[show vs=y'.cells.toList by simpa using h6]
     . exact AFG u i (by rw[hc];show i∈B3 s1++[];rw[Aan];exact hi)
 |ptr i o=>
  have hb:(match (generalizing:=false) o,R i with
   |0,some (.row _ [s])=>some s
   |_,_=>none)=some s':=hb
  cases o with
  |succ o=>exact(A2 hb).elim
  |zero=>
   cases hR:R i with
   |none=>rw[hR]at hb;exact(A2 hb).elim
   |some a=>
    rw[hR]at hb
    cases a with
    |own _ _ _=>exact(A2 hb).elim
    |row e c=>
     cases c with
     |nil=>exact(A2 hb).elim
     |cons s1 r=>cases r with
      |cons _ _=>exact(A2 hb).elim
      |nil=>
       have hb:s1=s':=AaO hb
       subst hb
       obtain⟨h1,b,h2,h3,h4⟩:=hr.2 i (by simp[B3]) e _ hR
       obtain⟨b',h5,h6⟩:=h
       rw[h2]at h5;cases h5
       obtain⟨y',h7,h8⟩:=OkL.one h4
       exact⟨b,0,y',γ i,h6,h3,.inr h8,by rw[h7],h1.mono fun j hj=>by show j∈B3 s1++[];rw[Aan];exact hj⟩
 |np _ _|int _ _|bool _|dat _ _|ary _ _ _|own _|str _ _|agg _|ep _ _ _ _ _|fv _ _ _|fn _ _|nilS|raw _|it _ _|ap _ _ _ _|undef|dead|tup _=>exact(A2 hb).elim
theorem ANB[Sl (P:=P)](hM:∀b∈M',b∈M){t:Ty}{x:Option (den t)}(hr:RdN ρ γ R M' w (n+1) (B3 s))(hd:AHM R t s=some x)(h:Ok ρ R M w s v):NpOk M' w t x v:=by
 have key:∀{s:SV} {x:Option (den t)},RdN ρ γ R M' w (n+1) (B3 s)->(match AAR R t s with
   |some x=>some (some x)
   |none=>none)=some x->Ok ρ R M w s v->NpOk M' w t x v:=fun {s x} hr hd h=>by
  cases hp:AAR R t s with
  |none=>rw[hp]at hd;exact(A2 hd).elim
  |some y=>
   rw[hp]at hd
   have hd:some y=x:=AaO hd
   subst hd
   obtain⟨b,o,vs,h1,h2,h3⟩:=AEd hM hr hp h
   exact .inr ⟨y,b,o,vs,rfl,h1,h2,h3⟩
 cases s with
 |np t' q=>
  have hd:(if h:t'=t then some (h▸q) else none)=some x:=hd
  split at hd
  . rename_i e
    subst e
    have hd:q=x:=AaO hd
    subst hd
    exact NpOk.mon hM h
  . exact(A2 hd).elim
 |rp u o=>exact key hr hd h
 |ptr i o=>exact key hr hd h
 |int _ _|bool _|dat _ _|ary _ _ _|own _|str _ _|agg _|ep _ _ _ _ _|fv _ _ _|fn _ _|nilS|raw _|it _ _|ap _ _ _ _|undef|dead|tup _=>exact(A2 hd).elim
theorem ALa[Sl (P:=P)](hM:∀b∈M',b∈M):∀(b:Bool) {t:Ty} {s:SV} {x:AFq b t} {v:Value} {n:Nat},RdN ρ γ R M' w (n+2) (B3 s)->toB R b t s=some x->Ok ρ R M w s v->BOk M' w b t x v
 |false,t,s,x,v,n,hr,hd,h=>AEd hM hr hd h
 |true,t,s,x,v,n,hr,hd,h=>by
  have hd:(match ACP R s with
   |some s'=>AHM R t s'
   |none=>none)=some x:=hd
  cases hb:ACP R s with
  |none=>rw[hb]at hd;exact(A2 hd).elim
  |some s'=>
   rw[hb]at hd
   obtain⟨b,o,u,vs,h1,h2,h3,h4,h5⟩:=ANA hM hr hb h
   have h6:NpOk M' w t x u:=h3.elim (fun h3=>ANB hM h5 hd h3) fun h3=>ANB (fun _ hb=>hb) h5 hd h3
   have h7:vs=[u]:=by
    have:=h4.symm.trans (NpOk.one h6).1;simpa using this
   exact⟨b,o,u,h1,h7▸h2,h6⟩
theorem AJK[Sl (P:=P)](hM:∀b∈M',b∈M){n:Nat}:∀(cs:List (Bool×Ty)) (ss:List SV) {x:AA5 cs} {vs:List Value},RdN ρ γ R M' w (n+2) (ownsLL ss)->ACQ R cs ss=some x->OkV ρ R M w ss vs->BsOk M' w cs x vs
 |[],ss,x,vs,_,h,hk=>by
  cases ss with
  |nil=>exact hk
  |cons _ _=>exact(A2 h).elim
 |(b,t)::cs,ss,x,vs,hr,h,hk=>by
  cases ss with
  |nil=>exact(A2 h).elim
  |cons s l=>
   obtain⟨v,r,h1,h2,h3⟩:=hk
   have h:(match toB R b t s with
    |some x=>match ACQ R cs l with
     |some r=>some (x,r)
     |none=>none
    |none=>none)=some x:=h
   cases hx:toB R b t s with
   |none=>rw[hx]at h;exact(A2 h).elim
   |some y=>
    rw[hx]at h
    cases hy:ACQ R cs l with
    |none=>rw[hy]at h;exact(A2 h).elim
    |some z=>
     rw[hy]at h
     have h:(y,z)=x:=AaO h
     subst h
     exact⟨v,r,h1,ALa hM b (hr.mono fun i hi=>AaR _ hi) hx h2,AJK hM cs l (hr.mono fun i hi=>AaS _ hi) hy h3⟩
theorem ANC[Sl (P:=P)](hM:∀b∈M',b∈M){cs:List (Bool×Ty)}{x:AA5 cs}(hr:RdN ρ γ R M' w (n+3) (B3 s))(hd:AHN R g cs s=some x)(h:Ok ρ R M w s v):PtOk M' w (.cl g cs) x v:=by
 unfold AHN at hd;cases hb:ACP R s with
 |none=>rw[hb]at hd;exact(A2 hd).elim
 |some s'=>
  rw[hb]at hd
  obtain⟨b,o,u,vs,h1,h2,h3,h4,h5⟩:=ANA hM hr hb h
  cases s' with
  |fn g' l=>
   have hd:(match (generalizing:=false) beq g' g with
    |true=>ACQ R cs l
    |false=>none)=some x:=hd
   cases hg:beq g' g with
   |false=>rw[hg]at hd;exact(A2 hd).elim
   |true=>
    rw[hg]at hd
    have hd9:ACQ R cs l=some x:=hd
    clear hd
    have e:=AaU hg
    subst e
    have h6:∃caps,u=.func (.func g') #[] (toArray caps)/\BsOk M' w cs x caps:=by
     rcases h3 with⟨caps,h6,h7⟩|⟨caps,h6,h7⟩
     . exact⟨caps,h6,AJK hM cs l h5 hd9 h7⟩
     . exact⟨caps,h6,AJK (fun _ hb=>hb) cs l h5 hd9 h7⟩
    obtain⟨caps,rfl,h7⟩:=h6
    have h8:vs=[.func (.func g') #[] (toArray caps)]:=by
     have:(#[Value.func (.func g') #[] (toArray caps)]:Array Value)=toArray vs:=h4;simpa using (AaX Array.toList this).symm
    exact⟨b,o,caps,h1,h8▸h2,h7⟩
  |np _ _|int _ _|bool _|dat _ _|ary _ _ _|own _|str _ _|agg _|ep _ _ _ _ _|fv _ _ _|nilS|raw _|it _ _|ap _ _ _ _|undef|dead|tup _|rp _ _|ptr _ _=>exact(A2 hd).elim
theorem ATD[Sl (P:=P)](hM:∀b∈M',b∈M)(p:Pt)(s:SV){x:p.den}(hr:RdR ρ γ R M' w (B3 s))(hx:AE1 R p s=some x)(h:Ok ρ R M w s v):PtOk M' w p x v:=by
 cases p with
 |d _=>exact(A2 hx).elim
 |fn _ _=>exact(A2 hx).elim
 |nl=>exact(A2 hx).elim
 |pt t=>exact AEd hM hr hx h
 |pp t=>exact ALa hM true hr hx h
 |cl g cs=>exact ANC hM hr hx h
theorem AND[Sl (P:=P)](hM:∀b∈M',b∈M):∀(ps:List Pt) (ss:List SV) {y:E9 ps} {vs:List Value},RdR ρ γ R M' w (ownsLL ss)->ACR R ps ss=some y->OkV ρ R M w ss vs->ArgsOk M' w ps y vs
 |[],ss,y,vs,_,h,hk=>by
  cases ss with
  |nil=>exact hk
  |cons _ _=>exact(A2 h).elim
 |p::ps,ss,y,vs,hr,h,hk=>by
  cases ss with
  |nil=>exact(A2 h).elim
  |cons s l=>
   obtain⟨v,r,h1,h2,h3⟩:=hk
   have h:(match AE1 R p s with
    |some x=>match ACR R ps l with
     |some r=>some (x,r)
     |none=>none
    |none=>none)=some y:=h
   cases hx:AE1 R p s with
   |none=>rw[hx]at h;exact(A2 h).elim
   |some x=>
    rw[hx]at h
    cases hy:ACR R ps l with
    |none=>rw[hy]at h;exact(A2 h).elim
    |some z=>
     rw[hy]at h
     have h:(x,z)=y:=AaO h
     subst h
     exact⟨v,r,h1,ATD hM p s (hr.mono fun i hi=>AaR _ hi) hx h2,AND hM ps l (hr.mono fun i hi=>AaS _ hi) hy h3⟩
theorem BOk.adv(ha:Adv M M' w w'):∀{b:Bool} {t:Ty} {x:AFq b t} {v:Value},BOk M w b t x v->BOk M' w' b t x v
 |false,t,_,_,⟨b,o,vs,h1,h2,h3⟩=>⟨b,o,vs,h1,h2.adv ha,(enc t).adv h3 ha⟩
 |true,_,_,_,⟨b,o,u,h1,h2,h3⟩=>⟨b,o,u,h1,h2.adv ha,h3.adv ha⟩
theorem BsOk.adv(ha:Adv M M' w w'):∀{cs:List (Bool×Ty)} {x:AA5 cs} {vs:List Value},BsOk M w cs x vs->BsOk M' w' cs x vs
 |[],_,_,h=>h
 |(_,_)::_,_,_,⟨v,r,h1,h2,h3⟩=>⟨v,r,h1,h2.adv ha,BsOk.adv ha h3⟩
theorem PtOk.adv(ha:Adv M M' w w'):∀{p:Pt} {x:p.den} {v:Value},PtOk M w p x v->PtOk M' w' p x v
 |.d _,_,_,h=>OkD.adv h ha
 |.pt t,_,_,⟨b,o,vs,h1,h2,h3⟩=>⟨b,o,vs,h1,h2.adv ha,(enc t).adv h3 ha⟩
 |.fn _ _,_,_,h=>⟨FnOk.adv h.1 ha,h.2⟩
 |.pp t,x,v,h=>BOk.adv (b:=true) ha h
 |.nl,_,_,h=>h
 |.cl _ _,_,_,⟨b,o,caps,h1,h2,h3⟩=>⟨b,o,caps,h1,h2.adv ha,h3.adv ha⟩
theorem ArgsOk.adv(ha:Adv M M' w w'):∀{ps:List Pt} {x:E9 ps} {vs:List Value},ArgsOk M w ps x vs->ArgsOk M' w' ps x vs
 |[],_,_,h=>h
 |_::_,_,_,⟨v,r,h1,h2,h3⟩=>⟨v,r,h1,h2.adv ha,ArgsOk.adv ha h3⟩
theorem Y1[Sl (P:=P)](hG:GxOk P G)(hg:GlOk (P:=P) M' w)(hM:∀b∈M',b∈M){caps:List SV}{a:List Ty}{r:Ty}{F:Q5 a r}{vs:List Value}(hr:RdR ρ γ R M' w (ownsLL caps))(hc:ADp G R g caps a r=some F)(h:OkV ρ R M w caps vs):FnOk M' w (.func (.func g) #[] (toArray vs)) a r F:=by
 unfold ADp at hc;cases hf:A1 G.fs g with
 |none=>rw[hf]at hc;exact(A2 hc).elim
 |some c=>
  rw[hf]at hc
  obtain⟨hok,hen⟩:=FsOk.at hG.fs hf
  obtain⟨ps,rs,f⟩:=c
  simp only at hc
  generalize ps.drop a.length=cps at hc
  unfold AI6 at hc
  cases hy:ACR R cps caps with
  |none=>rw[hy]at hc;exact(A2 hc).elim
  |some y=>
   rw[hy]at hc
   simp only[APP]at hc
   split at hc
   . rename_i he
     obtain⟨h1,h2⟩:=he
     subst h1;subst h2
     have hc:=AaO hc
     subst hc
     have hcap:=AND hM cps caps hr hy h
     intro M1 w1 hA hL
     refine ALZ cps y a _ [] fun xs as_ has q hq=>?_
     have hcall:=hok.2 M1 w1 (AKZ a cps xs y) (as_++vs) q hL (hg.adv hA) (AG7 a cps has (hcap.adv hA)) hq
     refine CallsV.go hen rfl hcall ?_
     rintro e w2 ⟨us,rfl,hk,hx⟩
     obtain⟨u,rfl,hu⟩:=hk
     exact⟨u,rfl,hu,hx⟩
   . exact(A2 hc).elim
end
end
end Go.Rx
namespace Go.Rx
open Go Go.Sx Go.RowKit
variable[Trk][Sg][Sf]{P:Program}[Se P]
section
variable{w:World}{M M':List Nat}{ρ:Nat->Value}{γ:Nat->List Value}{R:Nat->Option AR}{G:Gx}
theorem AOa{a a':List Ty}{r r':Ty}{f:Q5 a r}{g:Q5 a' r'}(h:AKU a a' r r' f=some g):∃(e1:a=a') (e2:r=r'),e1▸e2▸f=g:=by
 unfold AKU at h;split at h
 . rename_i e;exact⟨e.1,e.2,AaO h⟩
 . cases h
theorem ATE[Sl (P:=P)](hG:GxOk P G)(hg:GlOk (P:=P) M w)(hM:∀b∈M',b∈M)(p:Pt)(s:SV){x:p.den}{v:Value}(hr:RdR ρ γ R M' w (B3 s))(hx:AE2 G R p s=some x)(h:Ok ρ R M w s v):PtOk M' w p x v:=by
 cases p with
 |d t=>exact H8 hM t s hr.1 hx h
 |pt t=>exact AEd hM hr hx h
 |pp t=>exact ALa hM true hr hx h
 |cl g cs=>exact ANC hM hr hx h
 |nl=>
  cases s with
  |nilS=>exact h
  |int _ _|bool _|dat _ _|ary _ _ _|own _|str _ _|agg _|ep _ _ _ _ _|rp _ _|ptr _ _|fv _ _ _|fn _ _|raw _|it _ _|np _ _|ap _ _ _ _|undef|dead|tup _=>exact(A2 hx).elim
 |fn a r=>
  cases s with
  |fv a' r' f=>
   have hx:AKU a' a r' r f=some x:=hx
   obtain⟨e1,e2,hx⟩:=AOa hx
   subst e1;subst e2
   have hx:f=x:=hx
   subst hx
   exact⟨FnOk.adv h.1 (Adv.drop hM),h.2⟩
  |fn g caps=>
   have hx:ADp G R g caps a r=some x:=hx
   obtain⟨vs,rfl,h1⟩:=h
   exact⟨Y1 hG (hg.adv (Adv.drop hM)) hM hr hx h1,rfl,rfl⟩
  |int _ _|bool _|dat _ _|ary _ _ _|own _|str _ _|agg _|ep _ _ _ _ _|rp _ _|ptr _ _|nilS|raw _|it _ _|np _ _|ap _ _ _ _|undef|dead|tup _=>exact(A2 hx).elim
theorem ADT[Sl (P:=P)](hG:GxOk P G)(hg:GlOk (P:=P) M w)(hM:∀b∈M',b∈M):∀(ps:List Pt) (ss:List SV) {y:E9 ps} {vs:List Value},RdR ρ γ R M' w (ownsLL ss)->M5 G R ps ss=some y->OkV ρ R M w ss vs->ArgsOk M' w ps y vs
 |[],ss,y,vs,_,h,hk=>by
  cases ss with
  |nil=>exact hk
  |cons _ _=>exact(A2 h).elim
 |p::ps,ss,y,vs,hr,h,hk=>by
  cases ss with
  |nil=>exact(A2 h).elim
  |cons s l=>
   obtain⟨v,r,h1,h2,h3⟩:=hk
   have h:(match AE2 G R p s with
    |some x=>match M5 G R ps l with
     |some r=>some (x,r)
     |none=>none
    |none=>none)=some y:=h
   cases hx:AE2 G R p s with
   |none=>rw[hx]at h;exact(A2 h).elim
   |some x=>
    rw[hx]at h
    cases hy:M5 G R ps l with
    |none=>rw[hy]at h;exact(A2 h).elim
    |some z=>
     rw[hy]at h
     have h:(x,z)=y:=AaO h
     subst h
     exact⟨v,r,h1,ATE hG hg hM p s (hr.mono fun i hi=>AaR _ hi) hx h2,ADT hG hg hM ps l (hr.mono fun i hi=>AaS _ hi) hy h3⟩
theorem OkV.app:∀{ss tt:List SV} {vs us:List Value},OkV ρ R M w ss vs->OkV ρ R M w tt us->OkV ρ R M w (ss++tt) (vs++us)
 |[],_,vs,_,h,h2=>by
  have h:vs=[]:=h;subst h;exact h2
 |_::_,_,_,_,⟨u,r,h1,h2,h3⟩,h4=>⟨u,r++_,by rw[h1];rfl,h2,OkV.app h3 h4⟩
theorem ALb:∀{ss:List SV} {vs:List Value},OkV ρ R M w ss vs->Ok ρ R M w (AFs ss) (ACW vs)
 |[],vs,h=>by
  have h:vs=[]:=h;subst h;exact⟨[],rfl,rfl⟩
 |[s],vs,⟨u,r,h1,h2,h3⟩=>by
  have h3:r=[]:=h3;subst h3;subst h1;exact h2
 |s::t::l,vs,⟨u,r,h1,h2,u',r',h3,h4,h5⟩=>by
  subst h3;subst h1;exact⟨u::u'::r',rfl,u,_,rfl,h2,u',r',rfl,h4,h5⟩
end
section
variable{w w':World}{Mm Mo:List Nat}
theorem AEe{id:Nat}{c e:Ck}{l:List Ck}{x:H9 (c::e::l)}:P7 id (c::e::l) x=((AK7 id c x.1).1::(P7 (id+100000) (e::l) x.2).1,(AK7 id c x.1).2++(P7 (id+100000) (e::l) x.2).2):=rfl
theorem AIL:∀(rs:List Ck) {r:H9 rs} {vs:List Value} (id:Nat),AEK rs=0->KsOk (P:=P) Mm Mo w w' rs r vs->(P7 id rs r).2=[]/\obK rs vs=[]/\∀(ρ:Nat->Value) R M',(∀b∈M',b∈Mo)->OkV (P:=P) ρ R M' w' (P7 id rs r).1 vs
 |[],r,vs,id,_,h=>by
  have h:vs=[]:=h;subst h;exact⟨rfl,rfl,fun _ _ _ _=>rfl⟩
 |[c],r,vs,id,h0,h=>by
  obtain⟨v,rfl,h⟩:=h;cases c with
  |d t=>exact⟨rfl,rfl,fun ρ R M' hM=>⟨v,[],rfl,E4 t (OkD.mon hM h),rfl⟩⟩
  |own _=>cases h0
  |undef=>exact h.elim
  |it ts=>exact⟨rfl,rfl,fun ρ R M' hM=>⟨v,[],rfl,⟨ItV.mon hM h.1,h.2⟩,rfl⟩⟩
  |np t=>exact⟨rfl,rfl,fun ρ R M' hM=>⟨v,[],rfl,NpOk.mon hM h,rfl⟩⟩
 |c::e::l,r,vs,id,h0,h=>by
  obtain⟨v,q,rfl,h,h1⟩:=h;cases c with
  |d t=>
   obtain⟨h2,h3,h4⟩:=AIL (e::l) (id+100000) h0 h1
   rw[AEe]
   exact⟨by show []++_=[];rw[h2];rfl,h3,fun ρ R M' hM=>⟨v,q,rfl,E4 t (OkD.mon hM h),h4 ρ R M' hM⟩⟩
  |own _=>cases h0
  |undef=>exact h.elim
  |it ts=>
   obtain⟨h2,h3,h4⟩:=AIL (e::l) (id+100000) h0 h1
   rw[AEe]
   exact⟨by show []++_=[];rw[h2];rfl,h3,fun ρ R M' hM=>⟨v,q,rfl,⟨ItV.mon hM h.1,h.2⟩,h4 ρ R M' hM⟩⟩
  |np t=>
   obtain⟨h2,h3,h4⟩:=AIL (e::l) (id+100000) h0 h1
   rw[AEe]
   exact⟨by show []++_=[];rw[h2];rfl,h3,fun ρ R M' hM=>⟨v,q,rfl,NpOk.mon hM h,h4 ρ R M' hM⟩⟩
theorem AF8:∀(rs:List Ck) {r:H9 rs} {vs:List Value} (id:Nat),AAy rs=true->KsOk (P:=P) Mm Mo w w' rs r vs->(P7 id rs r).2=[]/\∀(ρ:Nat->Value) R M',OkV (P:=P) ρ R M' w' (P7 id rs r).1 vs
 |[],r,vs,id,_,h=>by
  have h:vs=[]:=h;subst h;exact⟨rfl,fun _ _ _=>rfl⟩
 |[c],r,vs,id,h0,h=>by
  obtain⟨v,rfl,h⟩:=h;cases c with
  |d t=>
   cases t with
   |int k=>exact⟨rfl,fun ρ R M'=>⟨v,[],rfl,E4 (ρ:=ρ) (R:=R) (.int k) h,rfl⟩⟩
   |bool=>exact⟨rfl,fun ρ R M'=>⟨v,[],rfl,E4 (ρ:=ρ) (R:=R) .bool h,rfl⟩⟩
   |_=>cases h0
  |own _=>cases h0
  |undef=>exact h.elim
  |it _=>cases h0
  |np _=>cases h0
 |c::e::l,r,vs,id,h0,h=>by
  obtain⟨v,q,rfl,h,h1⟩:=h;cases c with
  |d t=>
   cases t with
   |int k=>
    obtain⟨h2,h4⟩:=AF8 (e::l) (id+100000) h0 h1
    rw[AEe]
    exact⟨by show []++_=[];rw[h2];rfl,fun ρ R M'=>⟨v,q,rfl,E4 (ρ:=ρ) (R:=R) (.int k) h,h4 ρ R M'⟩⟩
   |bool=>
    obtain⟨h2,h4⟩:=AF8 (e::l) (id+100000) h0 h1
    rw[AEe]
    exact⟨by show []++_=[];rw[h2];rfl,fun ρ R M'=>⟨v,q,rfl,E4 (ρ:=ρ) (R:=R) .bool h,h4 ρ R M'⟩⟩
   |_=>cases h0
  |own _=>cases h0
  |undef=>exact h.elim
  |it _=>cases h0
  |np _=>cases h0
end
section
variable[Anch]
variable{w0 w w':World}{Mu M Mo:List Nat}{σ:AS}{L:A8}{S:List Res}{ρ:Nat->Value}{γ:Nat->List Value}{μ:Nat->List Nat}{ι:Nat->Nat}{d:Option Nat}
theorem ALc{M Mo:List Nat}{w w':World}{t:Nat}{u:Ty}{x:List (den u)}{v:Value}(h:Sx.Own (enc (P:=P) u) t 0 M w' v x/\∀b∈ob v,w.heap.size<=b):CkOk (P:=P) M Mo w w' (.own (.sl t u)) x v:=
 ⟨trivial,h.1.mon (fun _ hb=>mem_append.1 hb),h.2⟩
theorem AJL[Fx](h:HS w0 Mu M σ L w S ρ γ μ ι)(e:Ext w w'){i:Nat}{c:Oc}{x:den c.ty}{v:Value}(hv:Hnd v c/\(G1 (P:=P) [] v c x).holds (Q9 c v++mm S M) w'/\∀b∈Q9 c v,w.heap.size<=b):
  HS w0 Mu M (apps d [.new i (.own false c x)] σ) L w' (G1 [] v c x::S) (upf ρ i v) (upf γ i []) (upf μ i []) (fun j=>if j=i then 0 else ι j+1)/\∀R,Ok (upf ρ i v) R (mm (G1 (P:=P) [] v c x::S) M) w' (.own i) v:=by
 obtain⟨hv1,hv2,hv3⟩:=hv
 have hn:∀b∈(G1 (P:=P) [] v c x).fp,w.heap.size<=b/\b<w'.heap.size:=fun b hb=>⟨hv3 b (by rw[AAU]at hb;exact hb),(G1 (P:=P) [] v c x).lt hv2 b hb⟩
 have hh:(G1 (P:=P) [] v c x).holds (mm (G1 (P:=P) [] v c x::S) M) w':=by
  show(G1 (P:=P) [] v c x).holds ((G1 (P:=P) [] v c x).fp++mm S M) w';rw[AAU];exact hv2
 have hp:=h.hp.add e hn AII hh
 have h9:=h.new (i:=i) (r:=.own false c x) (v:=v) (cs:=[]) (mu:=[]) hp (h.hp.addA e hn) hv1
 obtain⟨g1,g2⟩:=APh hv1 hh
 exact⟨h9,fun R=>⟨upf_self.symm,g1,g2⟩⟩
theorem AIM[Fx](h:HS w0 Mu M σ L w S ρ γ μ ι)(e:Ext w w'):∀(rs:List Ck) {r:H9 rs} {vs:List Value} (id:Nat),AEK rs<=1->KsOk (mm S M) Mo w w' rs r vs->(∀b∈obK rs vs++mm S M,b∈Mo) ->
  ∃S' ρ' γ' μ' ι',HS w0 Mu M (apps d (P7 id rs r).2 σ) L w' S' ρ' γ' μ' ι'/\(∀b∈mm S' M,b∈Mo)/\OkV ρ' (A1 (apps d (P7 id rs r).2 σ).res) (mm S' M) w' (P7 id rs r).1 vs
 |[],r,vs,id,_,hk,hM=>⟨S,ρ,γ,μ,ι,h.ext e,hM,hk⟩
 |[c],r,vs,id,_,hk,hM=>by
  obtain⟨v,rfl,hk⟩:=hk;cases c with
  |d t=>exact⟨S,ρ,γ,μ,ι,h.ext e,hM,v,[],rfl,E4 t (OkD.mon hM hk),rfl⟩
  |own et=>
   obtain⟨h1,h2⟩:=AJL (d:=d) h e (i:=id) hk
   refine⟨_,_,_,_,_,h1,fun b hb=>hM b ?_,v,[],rfl,h2 _,rfl⟩
   rcases mem_append.1 (show b∈(G1 (P:=P) [] v et r).fp++mm S M from hb) with hb|hb
   . exact AaR _ (AaR _ (AM7 hb))
   . exact AaS _ hb
  |undef=>exact hk.elim
  |it ts=>exact⟨S,ρ,γ,μ,ι,h.ext e,hM,v,[],rfl,⟨ItV.mon hM hk.1,hk.2⟩,rfl⟩
  |np t=>exact⟨S,ρ,γ,μ,ι,h.ext e,hM,v,[],rfl,NpOk.mon hM hk,rfl⟩
 |c::c2::l,r,vs,id,h0,hk,hM=>by
  obtain⟨v,q,rfl,hk,hk2⟩:=hk;rw[AEe];cases c with
  |d t=>
   obtain⟨S',ρ',γ',μ',ι',h1,h2,h3⟩:=AIM h e (c2::l) (id+100000) h0 hk2 hM
   exact⟨S',ρ',γ',μ',ι',h1,h2,v,q,rfl,E4 t (OkD.mon h2 hk),h3⟩
  |own et=>
   have h0:AEK (c2::l)=0:=by
    have:AEK (c2::l)+1<=1:=h0;omega
   obtain⟨h2,h3,h4⟩:=AIL (c2::l) (id+100000) h0 hk2
   obtain⟨h5,h6⟩:=AJL (d:=d) h e (i:=id) hk
   have hs:∀b∈mm (G1 (P:=P) [] v et r.1::S) M,b∈Mo:=fun b hb=>hM b (by
    rcases mem_append.1 (show b∈(G1 (P:=P) [] v et r.1).fp++mm S M from hb) with hb|hb
    . exact AaR _ (AaR _ (AM7 hb))
    . exact AaS _ hb)
   have he:(AK7 id (.own et) r.1).2++(P7 (id+100000) (c2::l) r.2).2=[.new id (.own false et r.1)]:=by rw[h2];rfl
   simp only[he]
   exact⟨_,_,_,_,_,h5,hs,v,q,rfl,h6 _,h4 _ _ _ hs⟩
  |undef=>exact hk.elim
  |it ts=>
   obtain⟨S',ρ',γ',μ',ι',h1,h2,h3⟩:=AIM h e (c2::l) (id+100000) h0 hk2 hM
   exact⟨S',ρ',γ',μ',ι',h1,h2,v,q,rfl,⟨ItV.mon h2 hk.1,hk.2⟩,h3⟩
  |np t=>
   obtain⟨S',ρ',γ',μ',ι',h1,h2,h3⟩:=AIM h e (c2::l) (id+100000) h0 hk2 hM
   exact⟨S',ρ',γ',μ',ι',h1,h2,v,q,rfl,NpOk.mon h2 hk,h3⟩
variable{N:Nat}{ops:Array Oper}{ds:List Deferred}{B:A5}{X:Nat->A5}{Z:List PanicEntry->A5}{ty:TypeId}{pos:String}{af:Array Edge}{G:Gx}
section
variable{f:Operand}{g:Nat}{id:Nat}{caps:List SV}{ss:List SV}{ss':List SV}{c:Ctr}{a:E9 c.ps}{xs:Array Operand}{ts:Array TypeId}
theorem HS.frzO[Fx](h:HS w0 Mu M σ L w S ρ γ μ ι){I:List Nat}{as_:List Ac}(hf:Rx.frz (A1 σ.res) I=some as_):
  ∃S1 ι1,HS w0 Mu M (apps d as_ σ) L w S1 ρ γ μ ι1/\RdR ρ γ (A1 σ.res) (mm S1 M) w I/\∀b∈mm S1 M,b∈mm S M:=by
 rw[AHc as_ σ (AFF I hf)]
 exact APi I (A1 σ.res) AIK h hf
theorem APm[Fx][Sl (P:=P)](h:HS w0 Mu M σ L w S ρ γ μ ι)(hG:GxOk P G){xs:List Operand}{fz:List Ac}{r:H9 c.rs}(hop:∀ρ R M w vs,OkV (P:=P) ρ R M w (ss++caps) vs->OkV (P:=P) ρ R M w ss' vs)(hf:B5 σ.env f=some (.fn g caps))(ha:evL (B5 σ.env) xs=some ss)(hc:A1 G.fs g=some c)(hd:M5 G (A1 σ.res) c.ps ss'=some a)(hz:(bif AAy c.rs then some [] else frz (A1 σ.res) (ownsLL ss'))=some fz)(hF:c.F a=some r):
  ∃vf vs,Sx.ev L f=some vf/\evs L xs=some vs/\CallsV P vf vs w fun e w'=>∃v,e=.returned v/\∃S' ρ' γ' μ' ι',HS w0 Mu M (apps d (fz++(P7 id c.rs r).2) σ) L w' S' ρ' γ' μ' ι'/\Ok ρ' (A1 (apps d (fz++(P7 id c.rs r).2) σ).res) (mm S' M) w' (AFs (P7 id c.rs r).1) v:=by
 obtain⟨vf,h1,cv,rfl,h2⟩:=h.ev hf
 obtain⟨av,h3,h4⟩:=h.evL ha
 obtain⟨hok,hen⟩:=FsOk.at hG.fs hc
 refine⟨_,_,h1,h3,?_⟩
 cases hp:AAy c.rs with
 |true=>
  rw[hp,cond_true]at hz
  cases hz
  have hargs:=ADT hG h.anch.2 (M':=M) (fun b hb=>mem_mm.2 (.inr hb)) c.ps _ (h.lend _) hd (hop _ _ _ _ _ (OkV.app h4 h2))
  refine CallsV.go hen rfl (hok.2 M w a _ r (fun b hb=>h.hp.mlt b (mem_mm.2 (.inr hb))) (h.anch.2.adv (Adv.drop fun b hb=>mem_mm.2 (.inr hb))) hargs hF) ?_
  rintro e w2 ⟨vs,rfl,hk,hx⟩
  obtain⟨h5,h6⟩:=AF8 c.rs id hp hk
  rw[h5]
  exact⟨_,rfl,S,ρ,γ,μ,ι,h.ext hx,ALb (h6 _ _ _)⟩
 |false=>
  rw[hp,cond_false]at hz
  obtain⟨S1,ι1,h5,h6,h7⟩:=h.frzO (d:=d) hz
  have hargs:=ADT hG h.anch.2 (M':=mm S1 M) h7 c.ps _ h6 hd (hop _ _ _ _ _ (OkV.app h4 h2))
  refine CallsV.go hen rfl (hok.2 (mm S1 M) w a _ r h5.hp.mlt h5.anch.2 hargs hF) ?_
  rintro e w2 ⟨vs,rfl,hk,hx⟩
  obtain⟨S',ρ',γ',μ',ι',h8,_,h9⟩:=AIM (d:=d) h5 hx c.rs id hok.1 hk (fun b hb=>hb)
  rw[H0]
  exact⟨_,rfl,S',ρ',γ',μ',ι',h8,ALb h9⟩
theorem AUt[Fx][Sl (P:=P)](h:HS w0 Mu M σ L w S ρ γ μ ι)(hG:GxOk P G)(hN:(match d with|some d=>blt d N|none=>true)=true){fz:List Ac}{r:H9 c.rs}(hop:∀ρ R M w vs,OkV (P:=P) ρ R M w (ss++caps) vs->OkV (P:=P) ρ R M w ss' vs)(hf:B5 σ.env f=some (.fn g caps))(ha:evL (B5 σ.env) xs.toList=some ss)(hc:A1 G.fs g=some c)(hd:M5 G (A1 σ.res) c.ps ss'=some a)(hz:(bif AAy c.rs then some [] else frz (A1 σ.res) (ownsLL ss'))=some fz)(hF:c.F a=some r):
  C3 P N ops ds L w ⟨d,.call ⟨.value f,xs,ts⟩,ty,pos,af,none⟩ w0 Mu M (apps d (fz++(P7 id c.rs r).2++[.put (AFs (P7 id c.rs r).1)]) σ) B X Z:=by
 obtain⟨vf,vs,h1,h2,h3⟩:=APm (d:=d) (id:=id) h hG hop hf ha hc hd hz hF
 obtain⟨xs⟩:=xs
 cases d with
 |some d=>
  refine ABO h1 h2 hN (h3.mono ?_)
  rintro e w2 ⟨v,rfl,S',ρ',γ',μ',ι',h4,h5⟩
  rw[H0]
  exact⟨v,rfl,h4.fin h5⟩
 |none=>
  refine AHE h1 h2 (h3.mono ?_)
  rintro e w2 ⟨v,rfl,S',ρ',γ',μ',ι',h4,h5⟩
  rw[H0]
  exact⟨v,rfl,Reg.nil ⟨rfl,EnvS.refl _ _,S',ρ',γ',μ',ι',h4⟩⟩
theorem ALd[Sl (P:=P)]{M':List Nat}(hM:∀b∈M',b∈M){R:Nat->Option AR}{v:Value}{r:Ty}:∀(a:List Ty) (f:Q5 a r) (ss:List SV) {vs vs0:List Value} {o:Option (den r)},FnR P M' w v a r f vs0->AAH r a f R ss=some o->OkV ρ R M w ss vs->Rds ρ R M' w (ownsLL ss) ->
  ∀y,o=some y->CallsV P v (vs0++vs) w fun e w2=>∃u,e=.returned u/\OkD M' w2 r y u/\Ext w w2
 |[],f,ss,vs,vs0,o,hf,hc,hk,_=>by
  cases ss with
  |cons _ _=>exact(A2 hc).elim
  |nil=>
   have hc:some f=some o:=hc
   cases hc
   have hk:vs=[]:=hk
   subst hk
   intro y hy
   rw[Aan]
   exact hf y hy
 |t::a,f,ss,vs,vs0,o,hf,hc,hk,hr=>by
  cases ss with
  |nil=>exact(A2 hc).elim
  |cons s l=>
   obtain⟨u,q,rfl,h1,h2⟩:=hk
   have hc:(match C1 R t s with
    |some x=>AAH r a (f x) R l
    |none=>none)=some o:=hc
   cases hx:C1 R t s with
   |none=>rw[hx]at hc;exact(A2 hc).elim
   |some x=>
    rw[hx]at hc
    intro y hy
    have h3:=H8 hM t s (hr.mono fun i hi=>AaR _ hi) hx h1
    have:=ALd hM a (f x) l (hf x u h3) hc h2 (hr.mono fun i hi=>AaS _ hi) y hy
    rwa [Aax,AcF]at this
theorem ATF[Fx][Sl (P:=P)](h:HS w0 Mu M σ L w S ρ γ μ ι)(hN:(match d with|some d=>blt d N|none=>true)=true){a:List Ty}{r:Ty}{F:Q5 a r}{o:Option (den r)}{y:den r}{fz:List Ac}(hf:∃v,Sx.ev L f=some v/\FnOk (P:=P) (mm S M) w v a r F)(ha:evL (B5 σ.env) xs.toList=some ss)(hc:AAH r a F (A1 σ.res) ss=some o)(hz:frz (A1 σ.res) (ownsLL ss)=some fz)(ho:o=some y):
  C3 P N ops ds L w ⟨d,.call ⟨.value f,xs,ts⟩,ty,pos,af,none⟩ w0 Mu M (apps d (fz++[.put (F6 r y)]) σ) B X Z:=by
 obtain⟨vf,h1,h2⟩:=hf
 obtain⟨vs,h3,h4⟩:=h.evL ha
 obtain⟨S1,ι1,h5,h6,h7⟩:=h.frzO (d:=d) hz
 have h8:=ALd h7 a F ss (h2 (mm S1 M) w (Adv.drop h7) h5.hp.mlt) hc h4 h6.1 y ho
 obtain⟨xs⟩:=xs
 rcases d with _|d
 case some=>
  refine ABO h1 h3 hN (h8.mono ?_)
  rintro e w2 ⟨v,rfl,h9,hx⟩
  rw[H0]
  exact⟨v,rfl,(h5.ext hx).fin (E4 r h9)⟩
 case none=>
  refine AHE h1 h3 (h8.mono ?_)
  rintro e w2 ⟨v,rfl,h9,hx⟩
  rw[H0]
  exact⟨v,rfl,Reg.nil ⟨rfl,EnvS.refl _ _,S1,ρ,γ,μ,ι1,h5.ext hx⟩⟩
end
end
end Go.Rx
namespace Go.Rx
open Go Go.Sx Go.RowKit
variable[Trk][Sg][Sf]{P:Program}[Se P]
variable[Anch]
theorem AQ7{G:Gx}{t:Nat}{ns:List SV}(h:szB G t ns=true):∃n,lk G.sz t=some n/\Q7 ns=some n:=by
 unfold szB at h;cases h1:lk G.sz t with
 |none=>rw[h1]at h;cases h
 |some n=>
  rw[h1]at h
  cases h2:Q7 ns with
  |none=>simp only[h2]at h;cases h
  |some m=>
   simp only[h2]at h
   have:=AaU h
   subst this;exact⟨_,rfl,rfl⟩
theorem AJp{ns:List SV}{n:Nat}(h:AOF ns n=true):Q7 ns=some n:=by
 unfold AOF at h;cases h2:Q7 ns with
 |none=>rw[h2]at h;cases h
 |some m=>
  rw[h2]at h
  have:=AaU h
  subst this;rfl
theorem AIN:∀(ns l:List SV) {l':List SV},overL l ns=some l'->∀i∈ownsLL l',i∈ownsLL l\/i∈ownsLL ns
 |[],l,l',h,i,hi=>by
  have h:some l=some l':=by cases l<;>exact h
  cases h;exact .inl hi
 |_::_,[],_,h,_,_=>(A2 h).elim
 |n::ns,s::l,l',h,i,hi=>by
  simp only[overL]at h;cases hb:beq (wd s) (wd n) with
  |false=>simp only[hb]at h;exact(A2 h).elim
  |true=>
   simp only[hb]at h
   cases hw:wd n with
   |zero=>simp only[hw]at h;exact(A2 h).elim
   |succ m=>
    simp only[hw]at h
    cases hx:overL l ns with
    |none=>simp only[hx]at h;exact(A2 h).elim
    |some x=>
     simp only[hx]at h
     have h:=AaO h
     subst h
     rcases mem_append.1 (show i∈B3 n++ownsLL x from hi) with hi|hi
     . exact .inr (AaR _ hi)
     . exact(AIN ns l hx i hi).imp (AaS _) (AaS _)
theorem AJq:∀(l:List SV) (o:Nat) {ns l':List SV},setW l o ns=some l'->∀i∈ownsLL l',i∈ownsLL l\/i∈ownsLL ns
 |l,0,ns,l',h,i,hi=>by
  have h:overL l ns=some l':=by cases l<;>exact h
  exact AIN ns l h i hi
 |[],_+1,_,_,h,_,_=>(A2 h).elim
 |s::l,o+1,ns,l',h,i,hi=>by
  simp only[setW]at h;cases hw:wd s with
  |zero=>simp only[hw]at h;exact(A2 h).elim
  |succ n=>
   simp only[hw]at h
   cases hb:Nat.ble n o with
   |false=>simp only[hb]at h;exact(A2 h).elim
   |true=>
    simp only[hb]at h
    cases hx:setW l (o-n) ns with
    |none=>simp only[hx]at h;exact(A2 h).elim
    |some x=>
     simp only[hx]at h
     have h:=AaO h
     subst h
     rcases mem_append.1 (show i∈B3 s++ownsLL x from hi) with hi|hi
     . exact .inl (AaR _ hi)
     . exact(AJq l (o-n) hx i hi).imp (AaS _) id
theorem AJr:∀(ns l:List SV) {l':List SV},overL l ns=some l'->∀i∈P2 l',i∈P2 l\/i∈P2 ns
 |[],l,l',h,i,hi=>by
  have h:some l=some l':=by cases l<;>exact h
  cases h;exact .inl hi
 |_::_,[],_,h,_,_=>(A2 h).elim
 |n::ns,s::l,l',h,i,hi=>by
  simp only[overL]at h;cases hb:beq (wd s) (wd n) with
  |false=>simp only[hb]at h;exact(A2 h).elim
  |true=>
   simp only[hb]at h
   cases hw:wd n with
   |zero=>simp only[hw]at h;exact(A2 h).elim
   |succ m=>
    simp only[hw]at h
    cases hx:overL l ns with
    |none=>simp only[hx]at h;exact(A2 h).elim
    |some x=>
     simp only[hx]at h
     have h:=AaO h
     subst h
     rcases mem_append.1 (show i∈U2 n++P2 x from hi) with hi|hi
     . exact .inr (AaR _ hi)
     . exact(AJr ns l hx i hi).imp (AaS _) (AaS _)
theorem ALe:∀(l:List SV) (o:Nat) {ns l':List SV},setW l o ns=some l'->∀i∈P2 l',i∈P2 l\/i∈P2 ns
 |l,0,ns,l',h,i,hi=>by
  have h:overL l ns=some l':=by cases l<;>exact h
  exact AJr ns l h i hi
 |[],_+1,_,_,h,_,_=>(A2 h).elim
 |s::l,o+1,ns,l',h,i,hi=>by
  simp only[setW]at h;cases hw:wd s with
  |zero=>simp only[hw]at h;exact(A2 h).elim
  |succ n=>
   simp only[hw]at h
   cases hb:Nat.ble n o with
   |false=>simp only[hb]at h;exact(A2 h).elim
   |true=>
    simp only[hb]at h
    cases hx:setW l (o-n) ns with
    |none=>simp only[hx]at h;exact(A2 h).elim
    |some x=>
     simp only[hx]at h
     have h:=AaO h
     subst h
     rcases mem_append.1 (show i∈U2 s++P2 x from hi) with hi|hi
     . exact .inl (AaR _ hi)
     . exact(ALe l (o-n) hx i hi).imp (AaS _) id
section
variable{w0 w w':World}{Mu M:List Nat}{σ:AS}{L:A8}{S:List Res}{ρ:Nat->Value}{γ:Nat->List Value}{μ:Nat->List Nat}{ι:Nat->Nat}
variable{N:Nat}{ops:Array Oper}{ds:List Deferred}{B:A5}{X:Nat->A5}{Z:List PanicEntry->A5}{d:Nat}{ty:TypeId}{pos:String}{af:Array Edge}{G:Gx}
theorem AQ8[Fx][Sl (P:=P)](h:HS w0 Mu M σ L w S ρ γ μ ι)(hG:GxOk P G){t i o e n:Nat}{p:Bool}{u:Ty}{ix:Int}{z z2:den u}{xs m:List (den u)}{x y:Operand}{s:SV}{l' ns:List SV}{fz:List Ac}(hy:B5 σ.env y=some s)(hs:T9 s=some ns)(hx:B5 σ.env x=some (.ep i u ix (some z) o))(hi:A1 σ.res i=some (.own p (.sl e u) xs))(hw:setW (Rx.cellsOf (F6 u z)) o ns=some l')(hd:toP (A1 σ.res) u l'=some z2)(hf:frz (A1 σ.res) (ownsLL ns)=some fz)(hni:has (ownsLL ns) i=false)(hm:seto xs ix z2=some m)(hz:lk G.sz t=some n)(hn:Q7 ns=some n):
  C3 P N ops ds L w ⟨none,.store t x y,ty,pos,af,none⟩ w0 Mu M (apps none (fz++[.cnt i (.sl e u) m]) σ) B X Z:=by
 obtain⟨v,h1,h2⟩:=h.ev hy
 obtain⟨h3,h4⟩:=ADS hs h2
 obtain⟨av,h5,g,nn,cc,p',e',xs',h6,h7,h8,rfl,h9⟩:=h.ev hx
 rw[hi]at h7;cases h7
 have hz1:=h9 z rfl
 obtain⟨S1,ι1,k1,k2,k3⟩:=h.frzO (d:=none) hf
 have k4:A1 (apps none fz σ).res i=some (.own p (.sl e u) xs):=AJJ fz σ (fun a ha=>by
  obtain⟨j,hj,q,rfl⟩:=AC3 _ hf a ha;exact⟨j,q,rfl,fun e=>by subst e;rw[has_iff.2 hj]at hni;cases hni⟩) hi
 have k5:=k1.res i _ k4
 have ho0:=h.ownAt hi
 have ho:=k1.ownAt k4
 obtain⟨g',cap,cur,k6,k7,_⟩:=ho.at_ (by have:=h8.1;have:=h8.2;omega)
 rw[h6]at k6;cases k6
 obtain⟨cs,k8,k9⟩:=ho.cellsAt k7 (AAd hz1).2.2
 obtain⟨cs0,j8,j9⟩:=ho0.cellsAt k7 (AAd hz1).2.2
 have hcs:cs0=cs:=by
  have e1:=(enc u).len j8;have e2:=(enc u).len k8;refine Aa9 fun q=>?_;rcases Aag q cs.length with hq|hq
  . obtain⟨a,ha⟩:∃a,cs[q]?=some a:=⟨cs[q],by simp[hq]⟩;obtain⟨b,hb⟩:∃b,cs0[q]?=some b:=⟨cs0[q]'(by omega),by rw[AaV]⟩;have f1:=k9 q a ha;have f2:=j9 q b hb;rw[f1]at f2;rw[ha,hb];cases f2;rfl
  . rw[Aaa hq,Aaa (by omega)]
 subst hcs
 obtain⟨y0,q1,q2⟩:=J5 j8
 have q3:=Ok.cellsOf (ρ:=ρ) (R:=A1 σ.res) (F6 u z) (E4 u q1)
 rw[q2]at q3
 obtain⟨q4,q5⟩:=AEc _ o hw q3 h3
 rw[<-V2 _ _ _ q4]at q5
 have how:∀j∈ownsLL l',j∈ownsLL ns:=fun j hj=>(AJq _ o hw j hj).elim (fun h=>by
  have hce:=AFG (F6 u z) j h;rw[AHe]at hce;cases hce) id
 have q6:=ALV k3 u (k2.1.mono how) hd q5
 refine ASH (ι1 i) (vs:=v.cells.toList) k1.hp k5 h5 h1 (by simp) k7 hm k8 k9 q6 (Abx q4) (SzOk.at hG.sz hz) (AAf ns hn h3) (AF7 ns h4 h3) fun w' hp hA=>?_
 refine Reg.nil ⟨rfl,EnvS.refl _ _,?_⟩
 rw[H0]
 have hgg:Z9 (.sl e u) m (.own p (.sl e u) xs)=.own p (.sl e u) m:=by simp only[Z9,castO,dif_pos]
 exact⟨_,_,_,_,_,k1.upd (r:=.own p (.sl e u) m) (cs:=γ i) (g:=Z9 (.sl e u) m) (c:=[0]) k4 hgg hp hA (fun p' e' t' ys he=>by
  cases he
  obtain⟨_,_,rfl⟩:=AHF hm;exact⟨_,rfl,by simp⟩) trivial⟩
theorem ALf[Sl (P:=P)]{M:List Nat}{R:Nat->Option AR}{E:Operand->Option SV}(hE:∀x s,E x=some s->∃v,Sx.ev L x=some v/\Ok ρ R M w s v)(pl:List (Nat×Nat)):∀(ps:List (Nat×Operand)) {l l':List SV} {cs:List Value},AE4 pl E ps l=some l'->OkL ρ R M w l cs ->
  ∃vs css out,evs L (ps.map (·.2))=some vs/\Cls vs css/\fillL pl cs ((ps.map (·.1)).zip css)=some out/\OkL ρ R M w l' out
 |[],l,l',cs,h,h1=>by
  have h:some l=some l':=h;cases h
  exact⟨[],[],cs,rfl,trivial,rfl,h1⟩
 |(i,x)::r,l,l',cs,h,h1=>by
  simp only[AE4]at h;cases h2:nth pl i with
  |none=>rw[h2]at h;exact(A2 h).elim
  |some q=>
   obtain⟨o,n⟩:=q
   rw[h2]at h
   cases h3:E x with
   |none=>simp only[h3]at h;exact(A2 h).elim
   |some s=>
    simp only[h3]at h
    cases h4:AOF (Rx.cellsOf s) n with
    |false=>simp only[h4]at h;exact(A2 h).elim
    |true=>
     simp only[h4]at h
     cases h5:setW l o (Rx.cellsOf s) with
     |none=>simp only[h5]at h;exact(A2 h).elim
     |some l1=>
      simp only[h5]at h
      obtain⟨v,h6,h7⟩:=hE x s h3
      have h8:=Ok.cellsOf s h7
      obtain⟨h9,h10⟩:=AEc l o h5 h1 h8
      rw[<-V2 _ _ _ h9]at h10
      obtain⟨vs,css,out,h11,h12,h13,h14⟩:=ALf hE pl r h h10
      refine⟨v::vs,v.cells.toList::css,out,by simp only[List.map_cons,evs,h6,h11],⟨by simp,h12⟩,?_,h14⟩
      rw[Y9]at h2
      simp only[List.map_cons,List.zip_cons_cons,fillL,h2,AAf _ (AJp h4) h8,true_and]
      rw[Aac (by rw[<-AAf _ (AJp h4) h8];exact h9)]
      exact h13
theorem ATG[Fx][Sl (P:=P)](h:HS w0 Mu M σ L w S ρ γ μ ι)(hG:GxOk P G)(hN:blt d N=true){t:Nat}{pl:List (Nat×Nat)}{ps:Array (Nat×Operand)}{l l':List SV}{E:Operand->Option SV}(hE:∀x s,E x=some s->B5 σ.env x=some s)(hp:lk G.bd t=some pl)(hz:AB9 G t=some (.agg l))(hf:AE4 pl E ps.toList l=some l'):
  C3 P N ops ds L w ⟨some d,.build t ps,ty,pos,af,none⟩ w0 Mu M (apps (some d) [.put (.agg l')] σ) B X Z:=by
 obtain⟨z,h1,zc,rfl,h2⟩:=ALT (ρ:=ρ) (M:=mm S M) (w:=w) (R:=A1 σ.res) hG hz
 obtain⟨fields,h3,h4⟩:=BdOk.at hG.bd hp
 obtain⟨vs,css,out,h5,h6,h7,h8⟩:=ALf (fun x s hx=>h.ev (hE x s hx)) pl ps.toList hf h2
 obtain⟨ps⟩:=ps
 exact AEy pl h1 rfl h3 h4 h5 h6 h7 hN (h.fin ⟨out,rfl,h8⟩)
end
theorem AUu{x y:Operand}(h:opB x y=true):x=y:=by
 cases x with
 |tmp t=>cases y with
  |tmp u=>rw[AaU (show beq t u=true from h)]
  |const _=>cases h
  |func _=>cases h
  |global _=>cases h
 |const v=>cases y with
  |tmp u=>cases v<;>cases h
  |const u=>cases v with
   |int k n=>cases u with
    |int k' n'=>
     have h:(match kEq k k' with
      |true=>decide (n=n')
      |false=>false)=true:=h
     cases hk:kEq k k' with
     |true=>
      rw[hk]at h
      rw[ADC hk,AaW (show decide (n=n')=true from h)]
     |false=>
      rw[hk]at h
      cases h
    |_=>cases h
   |_=>cases u<;>cases h
  |func _=>cases v<;>cases h
  |global _=>cases v<;>cases h
 |func _=>cases h
 |global _=>cases h
section
variable{w0 w w':World}{Mu M:List Nat}{σ:AS}{L:A8}{S:List Res}{ρ:Nat->Value}{γ:Nat->List Value}{μ:Nat->List Nat}{ι:Nat->Nat}
variable{N:Nat}{ops:Array Oper}{ds:List Deferred}{B:A5}{X:Nat->A5}{Z:List PanicEntry->A5}{d:Nat}{ty:TypeId}{pos:String}{af:Array Edge}{G:Gx}
section
variable{e:Nat}{u:Ty}{z0:den u}{t:Nat}{b:Nat}{x:Operand}{k:IntKind}{xs:List (den u)}{s:SV}{y:Operand}{i:Int}
theorem AQ9(hG:GxOk P G)(hu:lk G.ty e=some u)(hz:AID u=some z0)(hi:∃z,(P.info? e).bind (·.zero)=some z):∃z:Value,(P.info? e).bind (·.zero)=some z/\z.cells=#[z]/\∀M w,(enc (P:=P) u).R M w [z] z0:=by
 obtain⟨z,hz'⟩:=hi;have h1:=(TyOk.at hG.ty hu).2.2;have hzv:z=zv u:=by
  cases hin:P.info? e with
  |none=>rw[hin]at hz';cases hz'
  |some i=>
   rw[hin]at hz'
   have hz':i.zero=some z:=hz'
   have:=h1 default
   simp[zeroValue,typeInfo,hin,hz']at this
   exact this
 subst hzv;refine⟨zv u,hz',?_⟩;cases u with
 |int k=>
  have hz:some (0:Int)=some z0:=hz
  cases hz
  exact⟨rfl,fun _ _=>⟨rfl,InK.zero k⟩⟩
 |bool=>
  have hz:some false=some z0:=hz
  cases hz
  exact⟨rfl,fun _ _=>rfl⟩
 |sl t=>
  have hz:some ([]:List (den t))=some z0:=hz
  cases hz
  exact⟨rfl,fun _ _=>⟨_,rfl,RdS.nil _ _ _⟩⟩
 |st _=>exact(A2 hz).elim
 |arr _ _=>exact(A2 hz).elim
 |mp _ _ _=>exact(A2 hz).elim
 |fno _=>exact(A2 hz).elim
theorem AMp[Fx](h:HS w0 Mu M σ L w S ρ γ μ ι)(hG:GxOk P G)(hN:blt d N=true){m:Int}(hl:lk G.sl t=some (e,u,b))(hu:lk G.ty e=some u)(hz:AID u=some z0)(hx:B5 σ.env x=some (.int k m))(hm:mko b z0 m=some xs):
  C3 P N ops ds L w ⟨some d,.makeSlice t x x,ty,pos,af,none⟩ w0 Mu M (apps (some d) [.new d (.own false (.sl e u) xs),.put (.own d)] σ) B X Z:=by
 have hT:=SlOk.at hG.sl hl
 obtain⟨i,z',hi0,hz',_⟩:=hT.info
 obtain⟨z,h1,h2,h3⟩:=AQ9 hG hu hz ⟨z',by rw[hi0];exact hz'⟩
 refine AYk hT h1 h2 h3 h.hp (h.int hx).1 (h.int hx).1 hm hN fun v' w' hp hA=>?_
 have h10:=h.new (i:=d) (r:=.own false (.sl e u) xs) (v:=v') (cs:=[]) (mu:=[]) hp hA trivial
 have ho:Sx.Own (enc u) e 0 (mm (ownR [] (enc u) e v' xs::S) M) w' v' xs:=hp.ownAt 0 rfl
 refine Reg.nil ⟨rfl,EnvS.put _ _ _,?_⟩
 exact⟨_,_,_,_,_,h10.put (d:=d) (s:=.own d) (v:=v') ⟨upf_self.symm,by rw[ho.cells1],ho.oneC⟩⟩
theorem HS.rdF[Fx][Sl (P:=P)](h:HS w0 Mu M σ L w S ρ γ μ ι){fz:List Ac}(hx:B5 σ.env x=some s)(hd:C1 (A1 σ.res) (.sl u) s=some xs)(hf:Rx.frz (A1 σ.res) (B3 s)=some fz):
  ∃v S1 ι1,Sx.ev L x=some v/\HS w0 Mu M (apps (some d) fz σ) L w S1 ρ γ μ ι1/\RdS (enc u) (mm S1 M) w v xs:=by
 obtain⟨v,h1,h2⟩:=h.ev hx
 obtain⟨S1,ι1,h5,h6,h7⟩:=h.frz (d:=d) hf
 exact⟨v,S1,ι1,h1,h5,(H8 (M':=mm S1 M) h7 (.sl u) s h6.1 hd h2).rds⟩
theorem APn{M:List Nat}{w:World}{R:Nat->Option AR}{v:Value}(h:RdS (enc u) M w v xs):Ok ρ R M w (.dat (.sl u) xs) v:=⟨rfl,[v],⟨v,rfl,h⟩,.inr ⟨rfl,rfl⟩⟩
theorem AUv[Fx][Sl (P:=P)](h:HS w0 Mu M σ L w S ρ γ μ ι)(hG:GxOk P G)(hN:blt d N=true){xs l:List (den u)}{fz:List Ac}(hl:lk G.sl t=some (e,u,b))(hx:B5 σ.env x=some s)(hd:C1 (A1 σ.res) (.sl u) s=some xs)(hf:Rx.frz (A1 σ.res) (B3 s)=some fz)(hy:B5 σ.env y=some (.int k i))(hc:AA4 xs i=some l):
  C3 P N ops ds L w ⟨some d,.slice t x (some y) none none,ty,pos,af,none⟩ w0 Mu M (apps (some d) (fz++[.put (.dat (.sl u) l)]) σ) B X Z:=by
 obtain⟨v,S1,ι1,h1,h2,h3⟩:=h.rdF (d:=d) hx hd hf
 have hT:=SlOk.at hG.sl hl
 obtain⟨hb,rfl⟩:=AFn hc
 rw[H0]
 exact AWW h1 (h.int hy).1 h3 hb hT.und (SlT.size hT) hN fun v' hv=>h2.fin (APn hv)
theorem AUw[Fx][Sl (P:=P)](h:HS w0 Mu M σ L w S ρ γ μ ι)(hG:GxOk P G)(hN:blt d N=true){xs l:List (den u)}{fz:List Ac}(hl:lk G.sl t=some (e,u,b))(hx:B5 σ.env x=some s)(hd:C1 (A1 σ.res) (.sl u) s=some xs)(hf:Rx.frz (A1 σ.res) (B3 s)=some fz)(hy:B5 σ.env y=some (.int k i))(hc:AAG xs i=some l):
  C3 P N ops ds L w ⟨some d,.slice t x none (some y) none,ty,pos,af,none⟩ w0 Mu M (apps (some d) (fz++[.put (.dat (.sl u) l)]) σ) B X Z:=by
 obtain⟨v,S1,ι1,h1,h2,h3⟩:=h.rdF (d:=d) hx hd hf
 have hT:=SlOk.at hG.sl hl
 obtain⟨hb,rfl⟩:=AJl hc
 rw[H0]
 exact AWV h1 (h.int hy).1 h3 hb hT.und (SlT.size hT) hN fun v' hv _=>h2.fin (APn hv)
theorem AUx[Fx][Sl (P:=P)](h:HS w0 Mu M σ L w S ρ γ μ ι)(hG:GxOk P G)(hN:blt d N=true){k k':IntKind}(hl:lk G.sl t=some (e,u,b))(hx:B5 σ.env x=some s)(hd:C1 (A1 σ.res) (.sl u) s=some xs)(ho:B3 s=[]):
  C3 P N ops ds L w ⟨some d,.slice t x none (some (.const (.int k 0))) (some (.const (.int k' 0))),ty,pos,af,none⟩ w0 Mu M (apps (some d) [.new d (.own false (.sl e u) []),.put (.own d)] σ) B X Z:=by
 obtain⟨v,h1,h2⟩:=h.ev hx
 have h3:=(H8 (M':=mm S M) (fun _ hb=>hb) (.sl u) s (fun j hj=>by rw[ho]at hj;cases hj) hd h2).rds
 obtain⟨a,c,rfl,_⟩:=h3.shape
 have hT:=SlOk.at hG.sl hl
 refine AUK h1 hT.und (SlT.size hT) hN fun v' hk=>?_
 have hp:=h.hp.addLit (enc (P:=P) u) e hk
 have h10:=h.new (i:=d) (r:=.own false (.sl e u) []) (v:=v') (cs:=[]) (mu:=[]) hp (AN6 _ _ hk) trivial
 have ho:Sx.Own (enc u) e 0 (mm (ownR [] (enc u) e v' []::S) M) w v' []:=hp.ownAt 0 rfl
 refine Reg.nil ⟨rfl,EnvS.put _ _ _,?_⟩
 exact⟨_,_,_,_,_,h10.put (d:=d) (s:=.own d) (v:=v') ⟨upf_self.symm,by rw[ho.cells1],ho.oneC⟩⟩
theorem ASW[Fx][Sl (P:=P)](h:HS w0 Mu M σ L w S ρ γ μ ι)(hG:GxOk P G)(hN:blt d N=true){b:BinOp}{t t' n:Nat}{s s':SV}{p q:Sg.S n}(hl:lk G.eq t=some n)(hb:b=.eql\/b=.neq)(hx:B5 σ.env x=some s)(hy:B5 σ.env y=some s')(ho:B3 s=[])(ho':B3 s'=[])(hp:C1 (A1 σ.res) (.st n) s=some p)(hq:C1 (A1 σ.res) (.st n) s'=some q):
  C3 P N ops ds L w ⟨some d,.binOp b t x y t',ty,pos,af,none⟩ w0 Mu M (apps (some d) [.put (.bool (match b with|.eql=>Sf.eq n p q|_=>!Sf.eq n p q))] σ) B X Z:=by
 obtain⟨v,h1,h2⟩:=h.ev hx
 obtain⟨v',h3,h4⟩:=h.ev hy
 have h5:=H8 (M':=mm S M) (fun _ hb=>hb) (.st n) s (fun j hj=>by rw[ho]at hj;cases hj) hp h2
 have h6:=H8 (M':=mm S M) (fun _ hb=>hb) (.st n) s' (fun j hj=>by rw[ho']at hj;cases hj) hq h4
 obtain⟨cs,h7,⟨_,rfl⟩|⟨h8,_⟩⟩:=h5
 . obtain⟨cs',h9,⟨_,rfl⟩|⟨h8,_⟩⟩:=h6
   . obtain⟨hg,he⟩:=EqOk.at hG.eq hl
     have he:=he (mm S M) w cs cs' p q h7 h9
     rcases hb with rfl|rfl
     . exact AWS he hg h1 h3 hN (h.fin rfl)
     . exact AWT he hg h1 h3 hN (h.fin rfl)
   . cases h8
 . cases h8
end
end
theorem AUy[Sl (P:=P)]{M:List Nat}{w:World}{t:Ty}{x:den t}(h:zdM t=some x):OkD (P:=P) M w t x (zv t):=by
 unfold zdM at h;cases hs:zdS t with
 |none=>rw[hs]at h;exact(A2 h).elim
 |some s=>
  rw[hs]at h
  have key:Ok (P:=P) (fun _=>undef) (fun _=>none) M w s (zv t):=by
   cases t with
   |st n=>
    have hs:(match ACo (Sf.ft n) with
     |some l=>some (.agg l)
     |none=>none)=some s:=hs
    cases hl:ACo (Sf.ft n) with
    |none=>rw[hl]at hs;exact(A2 hs).elim
    |some l=>
     rw[hl]at hs
     have hs:SV.agg l=s:=AaO hs
     subst hs
     exact⟨_,rfl,AHb _ hl⟩
   |mp _ _ _=>exact(A2 hs).elim
   |fno _=>exact(A2 hs).elim
   |int _|bool|sl _|arr _ _=>exact AHa _ hs
  exact H8 (M':=M) (fun _ hb=>hb) t s (fun i _ p c x h=>by cases h) h key
section
variable{w0 w w':World}{Mu M:List Nat}{σ:AS}{L:A8}{S:List Res}{ρ:Nat->Value}{γ:Nat->List Value}{μ:Nat->List Nat}{ι:Nat->Nat}
variable{N:Nat}{ops:Array Oper}{ds:List Deferred}{B:A5}{X:Nat->A5}{Z:List PanicEntry->A5}{d:Nat}{ty:TypeId}{pos:String}{af:Array Edge}{G:Gx}
section
variable{mu:List Nat}{k:Ty}{v:Ty}{f:A4 (den k) (den v)}{y:Operand}{sy:SV}{a:den k}{cm:Bool}{z0:den v}{x:Operand}{sx:SV}
theorem ADy{m b:Nat}{K:Ky P m (den k)}(hK:Se.ky (P:=P) m k=some K):mapRes (P:=P) mu m k v b f={ mapO K (enc v) v.agg b f with mu:=mu }:=by
 unfold mapRes;rw[hK]
theorem ALg{m b:Nat}{K:Ky P m (den k)}(hK:Se.ky (P:=P) m k=some K)(h:(mapRes (P:=P) mu m k v b f).holds M w):MapH K (enc (P:=P) v) v.agg M w b f:=by
 rw[ADy hK]at h;exact h
theorem HS.mapAt[Fx](h:HS w0 Mu M σ L w S ρ γ μ ι){m:Nat}{s:SV}{u:Value}{K:Ky P m (den k)}(hK:Se.ky (P:=P) m k=some K)(hd:C1 (A1 σ.res) (.mp m k v) s=some f)(hu:Ok ρ (A1 σ.res) (mm S M) w s u):
  ∃b,u=.map (some b)/\MapH K (enc (P:=P) v) v.agg (mm S M) w b f:=by
 cases s with
 |own i=>
  have hd:(match A1 σ.res i with
   |some (.own _ c x)=>I2 c.ty (.mp m k v) x
   |_=>none)=some f:=hd
  cases hi:A1 σ.res i with
  |none=>rw[hi]at hd;exact(A2 hd).elim
  |some a=>
   rw[hi]at hd
   cases a with
   |row _ _=>exact(A2 hd).elim
   |own p c x=>
    obtain⟨he,hd⟩:=O5 (show I2 c.ty (.mp m k v) x=some f from hd)
    cases c with
    |sl _ _=>cases he
    |mp m' k' v'=>
     cases he
     have hd:x=f:=hd
     subst hd
     obtain⟨b,hb⟩:=h.row i _ hi
     have h1:=h.hp.get _ (h.res i _ hi)
     have h2:(mapRes (P:=P) (bif p then μ i else []) m k v (blk (ρ i)) x).holds (mm S M) w:=h1
     have h3:=ALg hK h2
     have hb2:blk (ρ i)=b:=by rw[hb];rfl
     rw[hb2]at h3
     exact⟨b,hu.1.trans hb,h3⟩
 |dat t' x=>
  obtain⟨he,hd⟩:=O5 (show I2 t' (.mp m k v) x=some f from hd)
  cases he
  have hd:x=f:=hd
  subst hd
  obtain⟨_,cs,⟨u',K',rfl,hK',b,rfl,_,hH⟩,⟨h2,_⟩|⟨_,h2⟩⟩:=hu
  . cases h2
  . have:u=.map (some b):=(List.singleton_inj.1 h2).symm
    rw[hK]at hK';cases hK'
    exact⟨b,this,hH⟩
 |int _ _|bool _|ary _ _ _|str _ _|agg _|fv _ _ _|fn _ _|raw _|it _ _|np _ _|ap _ _ _ _|undef|dead|tup _|rp _ _|ptr _ _|ep _ _ _ _ _|nilS=>exact(A2 hd).elim
theorem HS.key[Fx][Sl (P:=P)](h:HS w0 Mu M σ L w S ρ γ μ ι)(hy:B5 σ.env y=some sy)(ho:B3 sy=[])(ha:C1 (A1 σ.res) k sy=some a):∃u,Sx.ev L y=some u/\OkD (P:=P) (mm S M) w k a u:=by
 obtain⟨u,h1,h2⟩:=h.ev hy;exact⟨u,h1,H8 (M':=mm S M) (fun _ hb=>hb) k sy (fun i hi=>by rw[ho]at hi;cases hi) ha h2⟩
theorem APo[Fx](h:HS w0 Mu M σ L w S ρ γ μ ι)(hG:GxOk P G)(hN:blt d N=true){t m e:Nat}(hl:lk G.mp t=some (m,e,k,v)):
  C3 P N ops ds L w ⟨some d,.makeMap t none,ty,pos,af,none⟩ w0 Mu M (apps (some d) [.new d (.own false (.mp m k v) (show A4 (den k) (den v) from fnone)),.put (.own d)] σ) B X Z:=by
 obtain⟨K,hK,_,_,_⟩:=MpOk.at hG.mp hl
 refine AKQ K (enc (P:=P) v) v.agg h.hp hN fun b w' hp hA=>?_
 have he:G1 (P:=P) [] (.map (some b)) (.mp m k v) (show A4 (den k) (den v) from fnone)=mapO K (enc v) v.agg b fnone:=ADy hK
 rw[<-he]at hp hA
 have h9:=h.new (i:=d) (r:=.own false (.mp m k v) (show A4 (den k) (den v) from fnone)) (v:=.map (some b)) (cs:=[]) (mu:=[]) hp hA ⟨b,rfl⟩
 refine Reg.nil ⟨rfl,EnvS.put _ _ _,?_⟩
 exact⟨_,_,_,_,_,h9.put (d:=d) (s:=.own d) (v:=.map (some b)) ⟨upf_self.symm,rfl,rfl⟩⟩
theorem AUz{M:List Nat}{R:Nat->Option AR}{o:Option (den v)}{r:Value}(hr:OkD (P:=P) M w v (o.getD z0) r):Ok ρ R M w (lkR cm v o z0) (if cm then .tuple #[r,.bool o.isSome] else r):=by
 cases cm with
 |true=>exact⟨[r,.bool o.isSome],rfl,r,_,rfl,E4 v hr,_,_,rfl,rfl,rfl⟩
 |false=>exact E4 v hr
theorem ARA[Fx][Sl (P:=P)](h:HS w0 Mu M σ L w S ρ γ μ ι)(hG:GxOk P G)(hN:blt d N=true){t m e:Nat}(hl:lk G.mp t=some (m,e,k,v))(hx:B5 σ.env x=some sx)(hd:C1 (A1 σ.res) (.mp m k v) sx=some f)(hy:B5 σ.env y=some sy)(ho:B3 sy=[])(ha:C1 (A1 σ.res) k sy=some a)(hz:zdM v=some z0):
  C3 P N ops ds L w ⟨some d,.lookup t x y cm,ty,pos,af,none⟩ w0 Mu M (apps (some d) [.put (lkR cm v (f a) z0)] σ) B X Z:=by
 obtain⟨K,hK,hKv,hu,hzv⟩:=MpOk.at hG.mp hl
 obtain⟨vx,h1,h2⟩:=h.ev hx
 obtain⟨vy,h3,h4⟩:=h.key hy ho ha
 obtain⟨hv,hok⟩:=hKv _ _ _ _ h4
 subst hv
 obtain⟨b,rfl,hH⟩:=h.mapAt hK hd h2
 obtain⟨r,h5,h6⟩:=hH.lookup hok hu hzv (AUy hz)
 refine N0 _ w rfl rfl hN (fun A hA=>?_) (h.fin (AUz (cm:=cm) h6))
 simp[execOp,hA.eval h1,hA.eval h3,h5 cm w rfl]
theorem AJs{R:Nat->Option AR}{m:Nat}{k v:Ty}{s:SV}{i:Nat}{f:A4 (den k) (den v)}(h:ALI R m k v s=some (i,f)):s=.own i/\R i=some (.own false (.mp m k v) f):=by
 cases s with
 |own j=>
  have h:(match R j with
   |some (.own false c f)=>match castO c (.mp m k v) f with
    |some f=>some (j,f)
    |none=>none
   |_=>none)=some (i,f):=h
  cases hj:R j with
  |none=>rw[hj]at h;exact(A2 h).elim
  |some a=>
   rw[hj]at h
   cases a with
   |row _ _=>exact(A2 h).elim
   |own p c g=>
    cases p with
    |true=>exact(A2 h).elim
    |false=>
     simp only at h
     cases hc:castO c (.mp m k v) g with
     |none=>rw[hc]at h;exact(A2 h).elim
     |some g'=>
      rw[hc]at h
      have h:(j,g')=(i,f):=AaO h
      cases h
      obtain⟨he,hc⟩:=ABh hc
      subst he
      have hc:g=f:=hc
      subst hc
      exact⟨rfl,hj⟩
 |int _ _|bool _|dat _ _|ary _ _ _|str _ _|agg _|fv _ _ _|fn _ _|raw _|it _ _|np _ _|ap _ _ _ _|undef|dead|tup _|rp _ _|ptr _ _|ep _ _ _ _ _|nilS=>exact(A2 h).elim
theorem HS.mapO[Fx](h:HS w0 Mu M σ L w S ρ γ μ ι){i m:Nat}{K:Ky P m (den k)}(hK:Se.ky (P:=P) m k=some K)(hi:A1 σ.res i=some (.own false (.mp m k v) f)):∃b,ρ i=.map (some b)/\S[ι i]?=some (Sx.mapO K (enc (P:=P) v) v.agg b f):=by
 obtain⟨b,hb⟩:=h.row i _ hi;have h1:=h.res i _ hi;have h2:S[ι i]?=some (mapRes (P:=P) [] m k v (blk (ρ i)) f):=h1;rw[ADy hK,hb]at h2;exact⟨b,hb,h2⟩
theorem HS.mapUp[Fx](h:HS w0 Mu M σ L w S ρ γ μ ι){i m b:Nat}{f f':A4 (den k) (den v)}{K:Ky P m (den k)}(hK:Se.ky (P:=P) m k=some K)(hi:A1 σ.res i=some (.own false (.mp m k v) f))(hb:ρ i=.map (some b))(hp:Hp w0 Mu M (S.set (ι i) (Sx.mapO K (enc (P:=P) v) v.agg b f')) w')(hA:Adv (mm S M) (mm (S.set (ι i) (Sx.mapO K (enc (P:=P) v) v.agg b f')) M) w w')(dd:Option Nat):Holds w0 Mu M (apps dd [.cnt i (.mp m k v) f'] σ) L w':=by
 have he:I4 (P:=P) (ρ i) (γ i) (μ i) (.own false (.mp m k v) f')=Sx.mapO K (enc (P:=P) v) v.agg b f':=by
  rw[hb];exact ADy hK
 rw[<-he]at hp hA;have hgg:Z9 (.mp m k v) f' (.own false (.mp m k v) f)=.own false (.mp m k v) f':=by simp only[Z9,castO,dif_pos]
 exact⟨_,_,_,_,_,h.upd (r:=.own false (.mp m k v) f') (cs:=γ i) (g:=Z9 (.mp m k v) f') (c:=[0]) hi hgg hp hA (fun p' e' t' ys he=>by cases he) ⟨b,hb⟩⟩
theorem AMq[Fx][Sl (P:=P)](h:HS w0 Mu M σ L w S ρ γ μ ι)(hG:GxOk P G){t m e i:Nat}{x y u:Operand}{sy su:SV}{z:den v}{fz:List Ac}(hl:lk G.mp t=some (m,e,k,v))(hx:B5 σ.env x=some (.own i))(hi:A1 σ.res i=some (.own false (.mp m k v) f))(hy:B5 σ.env y=some sy)(ho:B3 sy=[])(ha:C1 (A1 σ.res) k sy=some a)(hu:B5 σ.env u=some su)(hni:has (B3 su) i=false)(hz:C1 (A1 σ.res) v su=some z)(hf:Rx.frz (A1 σ.res) (B3 su)=some fz):
  C3 P N ops ds L w ⟨none,.mapUpdate t x y u,ty,pos,af,none⟩ w0 Mu M (apps none (fz++[.cnt i (.mp m k v) (@B4 _ _ (AEU k) f a z)]) σ) B X Z:=by
 obtain⟨K,hK,hKv,hut,hzv⟩:=MpOk.at hG.mp hl
 obtain⟨vx,h1,h2,_⟩:=h.ev hx
 subst h2
 obtain⟨vy,h3,h4⟩:=h.key hy ho ha
 obtain⟨hv,hok⟩:=hKv _ _ _ _ h4
 subst hv
 obtain⟨vu,h5,h6⟩:=h.ev hu
 obtain⟨S1,ι1,k1,k2,k3⟩:=h.frzO (d:=none) hf
 have k4:A1 (apps none fz σ).res i=some (.own false (.mp m k v) f):=AHd fz σ (fun a ha=>by
  obtain⟨j,hj,q,rfl⟩:=AC3 _ hf a ha;exact⟨j,q,rfl,fun e=>by subst e;rw[has_iff.2 hj]at hni;cases hni⟩) hi
 obtain⟨b,hb,hS⟩:=k1.mapO hK k4
 rw[hb]at h1
 have h7:=H8 (M':=mm S1 M) k3 v su k2.1 hz h6
 letI:DecidableEq (den k):=AEU k
 refine AKR (ι1 i) k1.hp hS h1 h3 hok h5 h7 hut fun w' hp hA=>?_
 refine Reg.nil ⟨rfl,EnvS.refl _ _,?_⟩
 rw[H0]
 exact k1.mapUp hK k4 hb hp hA none
theorem ARB[Fx][Sl (P:=P)](h:HS w0 Mu M σ L w S ρ γ μ ι)(hG:GxOk P G){t t' m e i:Nat}(hl:lk G.mp t=some (m,e,k,v))(hx:B5 σ.env x=some (.own i))(hi:A1 σ.res i=some (.own false (.mp m k v) f))(hy:B5 σ.env y=some sy)(ho:B3 sy=[])(ha:C1 (A1 σ.res) k sy=some a):
  C3 P N ops ds L w ⟨none,.call ⟨.builtin .delete,#[x,y],#[t,t']⟩,ty,pos,af,none⟩ w0 Mu M (apps none [.cnt i (.mp m k v) (@Z7 _ _ (AEU k) f a)] σ) B X Z:=by
 obtain⟨K,hK,hKv,hut,hzv⟩:=MpOk.at hG.mp hl
 obtain⟨vx,h1,h2,_⟩:=h.ev hx
 subst h2
 obtain⟨vy,h3,h4⟩:=h.key hy ho ha
 obtain⟨hv,hok⟩:=hKv _ _ _ _ h4
 subst hv
 obtain⟨b,hb,hS⟩:=h.mapO hK hi
 rw[hb]at h1
 letI:DecidableEq (den k):=AEU k
 refine AWj (ι i) h.hp hS h1 h3 hok hut fun w' hp hA=>?_
 exact Reg.nil ⟨rfl,EnvS.refl _ _,h.mapUp hK hi hb hp hA none⟩
theorem AU0[Fx][Sl (P:=P)](h:HS w0 Mu M σ L w S ρ γ μ ι)(hG:GxOk P G)(hN:blt d N=true){t m e:Nat}(hl:lk G.mp t=some (m,e,k,v)){n:Int}(hx:B5 σ.env x=some sx)(hd:C1 (A1 σ.res) (.mp m k v) sx=some f)(hn:chk .i64 (ALB f)=some n):
  C3 P N ops ds L w ⟨some d,.call ⟨.builtin .len,#[x],#[t]⟩,ty,pos,af,none⟩ w0 Mu M (apps (some d) [.put (.int .i64 n)] σ) B X Z:=by
 obtain⟨K,hK,hKv,hut,hzv⟩:=MpOk.at hG.mp hl
 obtain⟨vx,h1,h2⟩:=h.ev hx
 obtain⟨b,rfl,hH⟩:=h.mapAt hK hd h2
 obtain⟨es,c,xs,g1,g2,g3,g4⟩:=hH
 have hl:(es.size:Int)=ALB f:=by rw[AS4 g4,<-g3.len];simp
 obtain⟨he,hok⟩:=I8 hn
 subst he
 refine N0 _ w rfl rfl hN (fun a ha=>?_) (h.fin ⟨rfl,hok⟩)
 simp[execOp,resolve,invoke,builtin,Builtin.len_,ha.eval h1,run_underlying hut,MapKept.run_getObj_map g1,goInt,hl]
end
end
section
variable{w0 w w':World}{Mu M:List Nat}{σ:AS}{L:A8}{S:List Res}{ρ:Nat->Value}{γ:Nat->List Value}{μ:Nat->List Nat}{ι:Nat->Nat}
variable{N:Nat}{ops:Array Oper}{ds:List Deferred}{A B:A5}{X:Nat->A5}{Z:List PanicEntry->A5}{d:Nat}{ty:TypeId}{pos:String}{af:Array Edge}{G:Gx}{q:Md}{rest:List Oper}
section
variable{x:Operand}{y:Operand}{k:IntKind}{i:Int}{j:Int}
theorem AOb{t e len m b o:Nat}(hx:Sx.ev L x=some (.pointer (some ⟨b,o,none⟩)))(hy:Sx.ev L y=some (.int k i))(h0:0<=i)(h1:i<len)(ht:P.underlying t=some (.array len e))(hs:∀w,(sizeOf e).run P w=.ok m w)(hN:blt d N=true)(h:Reg P N ops q rest ds ((d,.pointer (some ⟨b,o+i.toNat*m,none⟩))::L) w A B X Z):Reg P N ops q (⟨some d,.indexAddr t x y,ty,pos,af,none⟩::rest) ds L w A B X Z:=by
 refine Reg.val (.pointer (some ⟨b,o+i.toNat*m,none⟩)) rfl rfl hN (fun a ha w' _=>?_) h;have h1':i.toNat<len:=by omega
 simp[execOp,ha.eval hx,ha.eval hy,Instr.indexAt,asIntOf,run_underlying ht,Instr.sureAddr,h0,h1,hs,add_none]
theorem ATH{n i j:Int}(h:ixA n i=some j):0<=i/\i<n/\j=i:=by
 unfold ixA at h;split at h
 . rename_i hi;cases h;exact⟨hi.1,hi.2,rfl⟩
 . cases h
theorem ATI{m:Nat}(h:0<=i):(i*Int.ofNat m).toNat=i.toNat*m/\0<=i*Int.ofNat m:=by
 obtain⟨j,rfl⟩:=Int.eq_ofNat_of_zero_le h;have:(j:Int)*Int.ofNat m=((j*m:Nat):Int):=by simp
 rw[this];exact⟨by rw[Int.toNat_natCast];simp,Int.natCast_nonneg _⟩
theorem ALh{m len:Nat}(h:0<=i)(h1:i<len):i*Int.ofNat m+m<=((len*m:Nat):Int):=by
 obtain⟨j,rfl⟩:=Int.eq_ofNat_of_zero_le h;have hj:j+1<=len:=by omega
 have:(j:Int)*Int.ofNat m+m=(((j+1)*m:Nat):Int):=by simp[Nat.add_mul]
 rw[this];exact_mod_cast AbF m hj
theorem AXB[Fx](h:HS w0 Mu M σ L w S ρ γ μ ι)(hG:GxOk P G)(hN:blt d N=true){t len m:Nat}{s r:SV}(hl:lk G.ar t=some (len,m))(hx:B5 σ.env x=some s)(hy:B5 σ.env y=some (.int k i))(hi:ixA len i=some j)(hr:apS len m j s=some r):
  C3 P N ops ds L w ⟨some d,.indexAddr t x y,ty,pos,af,none⟩ w0 Mu M (apps (some d) [.put r] σ) B X Z:=by
 obtain⟨h0,h1,rfl⟩:=ATH hi
 obtain⟨e,ht,hs⟩:=ArOk.at hG.ar hl
 obtain⟨vx,hx1,hx2⟩:=h.ev hx
 obtain⟨vy,hy1,hy2,_⟩:=h.ev hy
 subst hy2
 have hm:=ATI (m:=m) h0
 cases s with
 |rp v o=>
  have hr:some (SV.ap (.rp v o) (len*m) (j*Int.ofNat m) m)=some r:=hr
  cases hr
  have hx3:=hx2
  obtain⟨b,o0,u,vs,rfl,_⟩:=hx2
  exact AOb hx1 hy1 h0 h1 ht hs hN (h.fin ⟨b,o0+o,hx3,by rw[hm.1],hm.2,ALh h0 h1⟩)
 |ptr i' o=>
  have hr:some (SV.ap (.ptr i' o) (len*m) (j*Int.ofNat m) m)=some r:=hr
  cases hr
  have hx3:=hx2
  obtain⟨b,hb,rfl⟩:=hx2
  exact AOb hx1 hy1 h0 h1 ht hs hN (h.fin ⟨b,o,hx3,by rw[hm.1],hm.2,ALh h0 h1⟩)
 |ap s0 n x0 k0=>
  have hr:(match beq k0 (len*m) with
   |true=>some (SV.ap s0 n (x0+j*Int.ofNat m) m)
   |false=>none)=some r:=hr
  cases hk:beq k0 (len*m) with
  |false=>rw[hk]at hr;exact(A2 hr).elim
  |true=>
   rw[hk]at hr
   have hk:=AaU hk
   cases hr
   obtain⟨b,o,hb,rfl,h2,h3⟩:=hx2
   have h4:=ALh (m:=m) h0 h1
   refine AOb hx1 hy1 h0 h1 ht hs hN (h.fin ⟨b,o,hb,?_,by omega,by omega⟩)
   rw[Int.toNat_add h2 hm.2,hm.1,AbU]
 |int _ _|bool _|ary _ _ _|str _ _|agg _|fv _ _ _|fn _ _|undef|dead|tup _|dat _ _|own _|nilS|raw _|it _ _|np _ _|ep _ _ _ _ _=>exact(A2 hr).elim
end
section
variable{R:Nat->Option AR}
theorem AU1{k:IntKind}{n:Nat}{xs:List Int}{u:Value}(h:Ok ρ R M w (.ary k n xs) u):0<n/\xs.length=n/\u.cells=toArray (xs.map (Value.int k))/\∀y∈xs,InK k y:=by
 obtain⟨cs,⟨h0,h1,h2,h3⟩,h4|h4⟩:=h
 . obtain⟨_,rfl⟩:=h4;exact⟨h0,h1,by rw[h2];rfl,h3⟩
 . cases h4.1
theorem APp{k:IntKind}{n o:Nat}{xs:List Int}{l:List SV}{vs:List Value}(hc:Q6 l o=some (.ary k n xs))(h:OkL ρ R M w l vs):0<n/\xs.length=n/\(∃r,vs.drop o=xs.map (Value.int k)++r)/\∀y∈xs,InK k y:=by
 obtain⟨u,c,r,h1,h2,h3⟩:=AF6 l o hc h;obtain⟨h4,h5,h6,h7⟩:=AU1 h1;rw[h6]at h2;have h2:xs.map (Value.int k)=c:=by simpa using h2
 exact⟨h4,h5,⟨r,by rw[h3,h2]⟩,h7⟩
end
section
variable{o:Nat}{j:Nat}{s:SV}{k:IntKind}{n:Nat}{xs:List Int}{t:Nat}{x:Operand}{x0:Int}{v:Int}
theorem ARC{α:Type}{l a r:List α}(h:l.drop o=a++r){y:α}(hy:a[j]?=some y):l[o+j]?=some y:=by
 have h1:(l.drop o)[j]?=some y:=by
  rw[h,Aaw]
  . exact hy
  . rcases Aag j a.length with h|h
    . exact h
    . rw[Aaa h]at hy;cases hy
 rwa [AbK]at h1
theorem ARD[Fx][Sl (P:=P)](h:HS w0 Mu M σ L w S ρ γ μ ι){n b o:Nat}(ha:AE5 (A1 σ.res) s=some (k,n,xs))(hs:Ok ρ (A1 σ.res) (mm S M) w s (.pointer (some ⟨b,o,none⟩))):
  xs.length=n/\(∀y∈xs,InK k y)/\∀(j:Nat) (y:Int),xs[j]?=some y->w.cell? ⟨b,o+j,none⟩=some (.int k y):=by
 have fin:∀{l:List SV} {vs:List Value} {o0 o1:Nat},(match Q6 l o1 with
   |some (.ary k n xs)=>some (k,n,xs)
   |_=>none)=some (k,n,xs)->OkL ρ (A1 σ.res) (mm S M) w l vs->Cells w b o0 vs->o=o0+o1->xs.length=n/\(∀y∈xs,InK k y)/\∀(j:Nat) (y:Int),xs[j]?=some y->w.cell? ⟨b,o+j,none⟩=some (.int k y):=by
  intro l vs o0 o1 hq hl hC ho
  split at hq
  . rename_i k' n' xs' hc
    cases hq
    obtain⟨_,h2,⟨r,h3⟩,h4⟩:=APp hc hl
    refine⟨h2,h4,fun j y hj=>?_⟩
    have h5:=ARC h3 (j:=j) (y:=Value.int k y) (by rw[Aa4,hj];rfl)
    have:=hC (o1+j) _ h5
    rwa [ho,AbU]
  . cases hq
 cases s with
 |rp v o1=>
  obtain⟨b',o0,u,vs,he,h2,h3,h4⟩:=hs
  cases he
  have h5:=Ok.cellsOf v h3
  rw[h4]at h5
  exact fin ha h5 h2.cells rfl
 |ptr i o1=>
  have ha:(match A1 σ.res i with
   |some (.row _ l)=>(match Q6 l o1 with
    |some (.ary k n xs)=>some (k,n,xs)
    |_=>none)
   |_=>none)=some (k,n,xs):=ha
  cases hi:A1 σ.res i with
  |none=>rw[hi]at ha;exact(A2 ha).elim
  |some a=>
   rw[hi]at ha
   cases a with
   |own _ _ _=>exact(A2 ha).elim
   |row e l=>
    obtain⟨b',hb,he⟩:=hs
    cases he
    obtain⟨b2,h3,h4,h5,_⟩:=h.rowAt hi
    rw[hb]at h3;cases h3
    exact fin ha h5 h4.rd.cells (Aao _).symm
 |int _ _|bool _|ary _ _ _|str _ _|agg _|fv _ _ _|fn _ _|undef|dead|tup _|dat _ _|own _|nilS|raw _|it _ _|np _ _|ep _ _ _ _ _|ap _ _ _ _=>exact(A2 ha).elim
theorem ATJ[Fx][Sl (P:=P)](h:HS w0 Mu M σ L w S ρ γ μ ι)(hG:GxOk P G)(hN:blt d N=true){x0 y:Int}{q:IntKind}(ha:lk G.tb.ag t=some 0)(hx:B5 σ.env x=some (.ap s n x0 1))(hs:AE5 (A1 σ.res) s=some (q,n,xs))(hy:ixo xs x0=some y):
  C3 P N ops ds L w ⟨some d,.load t x,ty,pos,af,none⟩ w0 Mu M (apps (some d) [.put (.int q y)] σ) B X Z:=by
 obtain⟨v,h1,b,o,h2,rfl,h3,h4⟩:=h.ev hx
 obtain⟨h5,h6,h7⟩:=ARD h hs h2
 have hz:=(AAd hy).2.2
 exact J8 h1 (h7 _ _ hz) (AgOk.at0 hG.ag ha) hN (h.fin ⟨rfl,h6 y (AaP hz)⟩)
theorem AIO:∀(l r:List Value),B6 (l++r) 0 l=l++r
 |[],r=>by cases r<;>rfl
 |x::l,r=>by
  show x::B6 (l++r) 0 l=x::(l++r);rw[AIO l r]
theorem AIP{k:IntKind}{v:Int}{r:List Value}:∀(xs:List Int) (j:Nat),j<xs.length->B6 (xs.map (Value.int k)++r) j [Value.int k v]=B6 (xs.map (Value.int k)++r) 0 ((xs.set j v).map (Value.int k))
 |[],j,h=>by simp at h
 |x::xs,0,_=>by
  show Value.int k v::B6 (xs.map (Value.int k)++r) 0 []=Value.int k v::B6 (xs.map (Value.int k)++r) 0 (xs.map (Value.int k));rw[AIO];cases (xs.map (Value.int k)++r)<;>rfl
 |x::xs,j+1,h=>by
  show Value.int k x::B6 (xs.map (Value.int k)++r) j [Value.int k v]=Value.int k x::B6 (xs.map (Value.int k)++r) 0 ((xs.set j v).map (Value.int k));rw[AIP xs j (by simpa using h)]
theorem AJt{k:IntKind}{xs:List Int}{j:Nat}{v:Int}{r:List Value}(hj:j<xs.length):∀(o:Nat) {γ:List Value},γ.drop o=xs.map (Value.int k)++r->B6 γ (o+j) [Value.int k v]=B6 γ o ((xs.set j v).map (Value.int k))
 |0,γ,h=>by
  rw[List.drop_zero]at h;rw[h,Aao];exact AIP xs j hj
 |o+1,[],h=>by
  cases xs with
  |nil=>simp at hj
  |cons x xs=>simp at h
 |o+1,c::γ,h=>by
  have h:γ.drop o=xs.map (Value.int k)++r:=h;rw[show o+1+j=(o+j)+1 by omega];have e1:B6 (c::γ) (o+j+1) [Value.int k v]=c::B6 γ (o+j) [Value.int k v]:=rfl;have e2:∀l:List Value,l≠[]->B6 (c::γ) (o+1) l=c::B6 γ o l:=fun l hl=>by
   cases l with
   |nil=>exact absurd rfl hl
   |cons _ _=>rfl
  rw[e1,e2 _ (fun e=>by
   have:((xs.set j v).map (Value.int k)).length=0:=by rw[e];rfl
   simp at this;rw[this]at hj;simp at hj),AJt hj o h]
theorem ARE[Fx][Sl (P:=P)](h:HS w0 Mu M σ L w S ρ γ μ ι)(hG:GxOk P G){t i o e n:Nat}{x y:Operand}{l l':List SV}{xs m:List Int}(hy:B5 σ.env y=some s)(hs:T9 s=some [.int k v])(hx:B5 σ.env x=some (.ap (.ptr i o) n x0 1))(hi:A1 σ.res i=some (.row e l))(hc:Q6 l o=some (.ary k n xs))(hm:seto xs x0 v=some m)(hw:setW l o [.ary k n m]=some l')(hz:lk G.sz t=some 1):
  C3 P N ops ds L w ⟨none,.store t x y,ty,pos,af,none⟩ w0 Mu M (apps none [.sto i o [.ary k n m]] σ) B X Z:=by
 have hg:AAt o [.ary k n m] (.row e l)=.row e l':=by simp only[AAt,hw]
 obtain⟨vv,h1,h2⟩:=h.ev hy
 obtain⟨⟨u9,c9,r9,g1,⟨rfl,hk⟩,g3,g4⟩,_⟩:=ADS hs h2
 have hvv:vv.cells=toArray [Value.int k v]:=by
  have g4:r9=[]:=g4;have g3:[Value.int k v]=c9:=by simpa[Value.cells] using g3
  have g5:vv.cells.toList=[Value.int k v]:=by rw[g1,g4,<-g3];rfl
  rw[<-g5]
 obtain⟨u,h5,b,o1,⟨b1,h6,h6'⟩,rfl,h0,hlt⟩:=h.ev hx
 cases h6'
 obtain⟨b',h7,h8,h9,h10⟩:=h.rowAt hi
 rw[h6]at h7;cases h7
 obtain⟨hn0,hn,⟨r,hr⟩,hin⟩:=APp hc h9
 obtain⟨s0,s1,rfl⟩:=AHF hm
 have hok:OkL ρ (A1 σ.res) (mm S M) w [.ary k n (xs.set x0.toNat v)] ((xs.set x0.toNat v).map (Value.int k)):=by
  refine⟨.agg (toArray ((xs.set x0.toNat v).map (Value.int k))),_,[],(Aan _).symm,⟨_,⟨hn0,by simpa using hn,rfl,fun z hz=>?_⟩,.inl ⟨rfl,rfl⟩⟩,rfl,rfl⟩;rcases Abk hz with hz|rfl
  . exact hin z hz
  . exact hk
 obtain⟨h11,h12⟩:=AEc l o hw h9 hok
 have hlen:o+xs.length<=(γ i).length:=by simpa using h11
 have hset:=AJt (v:=v) (show x0.toNat<xs.length by omega) o hr
 refine N2 (ι i) (vs:=[Value.int k v]) h.hp h10 h5 h1 hvv (SzOk.at hG.sz hz) rfl (Abx (by simp;omega)) (fun u hu=>by simp at hu;rw[hu];rfl) fun w' hp hA=>?_
 rw[hset]at hp hA
 have hres:S.set (ι i) (rowR e b (B6 (γ i) o ((xs.set x0.toNat v).map (Value.int k))))=S.set (ι i) (I4 (ρ i) (B6 (γ i) o ((xs.set x0.toNat v).map (Value.int k))) (μ i) (.row e l')):=by
  show _=S.set (ι i) (rowR e (blk (ρ i)) _);rw[h6];rfl
 rw[hres]at hp hA
 refine Reg.nil ⟨rfl,EnvS.refl _ _,_,_,_,_,_,h.upd (r:=.row e l') (g:=AAt o [.ary k n (xs.set x0.toNat v)]) (c:=AQm o [.ary k n (xs.set x0.toNat v)] (A1 σ.res i)) hi hg hp hA (fun p e' t' xs he=>by cases he) ⟨⟨b,h6⟩,?_⟩⟩
 rw[<-V2 _ _ _ h11]at h12
 refine OkL.res (fun j p e' t' xs hj=>?_) l' (OkL.adv hA l' h12)
 rw[AJI]
 by_cases he:j=i
 . subst he;rw[hi]at hj;cases hj
 . rw[if_neg he,hj];rfl
end
end
end Go.Rx
namespace Go.Rx
open Go Go.Sx Go.RowKit
variable[Trk][Sg][Sf]
def Le(R R':Nat->Option AR):Prop:=∀i a,R i=some a->R' i=some a
theorem bindS{α β:Type}{o:Option α}{f:α->Option β}{z:β}(h:Option.bind o f=some z):∃y,o=some y/\f y=some z:=by
 cases o with
 |none=>cases h
 |some y=>exact⟨y,rfl,h⟩
section
variable{R R':Nat->Option AR}{G:Gx}
theorem X7(hR:Le R R'):∀(t:Ty) (s:SV) {x:den t},AAs R t s=some x->AAs R' t s=some x:=by
 intro t s x h;cases t with
 |sl t=>
  cases s with
  |own i=>
   have h:(match R i with
    |some (.own _ c xs)=>I2 c.ty (.sl t) xs
    |_=>none)=some x:=h
   show(match R' i with
    |some (.own _ c xs)=>I2 c.ty (.sl t) xs
    |_=>none)=some x
   cases hi:R i with
   |none=>rw[hi]at h;exact(A2 h).elim
   |some a=>rw[hi]at h;rw[hR i a hi];exact h
  |int _ _|bool _|dat _ _|ary _ _ _|str _ _|agg _|ptr _ _|ep _ _ _ _ _|rp _ _|fv _ _ _|fn _ _|nilS|raw _|it _ _|np _ _|ap _ _ _ _|undef|dead|tup _=>exact h
 |mp m k u=>
  cases s with
  |own i=>
   have h:(match R i with
    |some (.own _ c xs)=>I2 c.ty (.mp m k u) xs
    |_=>none)=some x:=h
   show(match R' i with
    |some (.own _ c xs)=>I2 c.ty (.mp m k u) xs
    |_=>none)=some x
   cases hi:R i with
   |none=>rw[hi]at h;exact(A2 h).elim
   |some a=>rw[hi]at h;rw[hR i a hi];exact h
  |int _ _|bool _|dat _ _|ary _ _ _|str _ _|agg _|ptr _ _|ep _ _ _ _ _|rp _ _|fv _ _ _|fn _ _|nilS|raw _|it _ _|np _ _|ap _ _ _ _|undef|dead|tup _=>exact h
 |int _|bool|st _|arr _ _|fno _=>exact h
theorem ARF(hR:Le R R')(l:List Ty):∀(ss:List SV) {y:P6 l},toL R l ss=some y->toL R' l ss=some y:=by
 induction l with
 |nil=>intro ss y h;rw[AM4]at h;exact(A2 h).elim
 |cons t l ih=>
  intro ss y h
  cases l with
  |nil=>
   obtain⟨s,rfl,h1⟩:=AM5 h
   exact X7 hR t s h1
  |cons u l=>
   obtain⟨s,r,x,z,rfl,h1,h2,rfl⟩:=AM6 h
   rw[ASU,X7 hR t s h1,ih r h2]
theorem E8(hR:Le R R')(t:Ty)(s:SV){x:den t}(h:C1 R t s=some x):C1 R' t s=some x:=by
 cases t with
 |st n=>
  cases s with
  |agg l=>
   have h:(match toL R (Sf.ft n) l with
    |some y=>some (Sf.mkS n y)
    |none=>none)=some x:=h
   show(match toL R' (Sf.ft n) l with
    |some y=>some (Sf.mkS n y)
    |none=>none)=some x
   generalize hy:toL R (Sf.ft n) l=o at h
   cases o with
   |none=>exact(A2 h).elim
   |some y=>rw[ARF hR _ l hy];exact h
  |int _ _|bool _|dat _ _|ary _ _ _|own _|str _ _|ptr _ _|ep _ _ _ _ _|rp _ _|fv _ _ _|fn _ _|nilS|raw _|it _ _|np _ _|ap _ _ _ _|undef|dead|tup _=>exact h
 |int k=>exact X7 hR (.int k) s h
 |bool=>exact X7 hR .bool s h
 |sl t=>exact X7 hR (.sl t) s h
 |arr k n=>exact X7 hR (.arr k n) s h
 |mp m k u=>exact X7 hR (.mp m k u) s h
 |fno i=>exact X7 hR (.fno i) s h
theorem AHf(hR:Le R R')(t:Ty){l:List SV}{x:den t}(h:toP R t l=some x):toP R' t l=some x:=by
 have key:(∀n,t≠.st n)->toP R' t l=some x:=fun hs=>by
  obtain⟨s,rfl,h1⟩:=AM8 h hs;have h2:=E8 hR t s h1;cases t with
  |st n=>exact absurd rfl (hs n)
  |int _|bool|sl _|arr _ _|mp _ _ _|fno _=>exact h2
 cases t with
 |st n=>exact E8 hR (.st n) (.agg l) h
 |int _|bool|sl _|arr _ _|mp _ _ _|fno _=>exact key fun n e=>by cases e
theorem ADz(hR:Le R R')(t:Ty)(s:SV){x:den t}(h:AAR R t s=some x):AAR R' t s=some x:=by
 cases s with
 |rp v o=>cases o with
  |zero=>exact AHf hR t h
  |succ o=>exact(A2 h).elim
 |ptr i o=>cases o with
  |succ o=>exact(A2 h).elim
  |zero=>
   have h:(match R i with
    |some (.row _ c)=>toP R t c
    |_=>none)=some x:=h
   show(match R' i with
    |some (.row _ c)=>toP R' t c
    |_=>none)=some x
   cases hi:R i with
   |none=>rw[hi]at h;exact(A2 h).elim
   |some a=>
    rw[hi]at h;rw[hR i a hi]
    cases a with
    |own _ _ _=>exact(A2 h).elim
    |row e c=>exact AHf hR t h
 |np t' q=>exact h
 |int _ _|bool _|dat _ _|ary _ _ _|own _|str _ _|agg _|ep _ _ _ _ _|fv _ _ _|fn _ _|nilS|raw _|it _ _|ap _ _ _ _|undef|dead|tup _=>exact(A2 h).elim
theorem AJu(hR:Le R R')(s:SV){x:SV}(h:ACP R s=some x):ACP R' s=some x:=by
 cases s with
 |rp v o=>exact h
 |ptr i o=>
  have h:(match (generalizing:=false) o,R i with
   |0,some (.row _ [s])=>some s
   |_,_=>none)=some x:=h
  show(match (generalizing:=false) o,R' i with
   |0,some (.row _ [s])=>some s
   |_,_=>none)=some x
  cases hi:R i with
  |none=>rw[hi]at h;cases o<;>exact(A2 h).elim
  |some a=>rw[hi]at h;rw[hR i a hi];exact h
 |np _ _|int _ _|bool _|dat _ _|ary _ _ _|own _|str _ _|agg _|ep _ _ _ _ _|fv _ _ _|fn _ _|nilS|raw _|it _ _|ap _ _ _ _|undef|dead|tup _=>exact(A2 h).elim
theorem APq(hR:Le R R')(t:Ty)(s:SV){x:Option (den t)}(h:AHM R t s=some x):AHM R' t s=some x:=by
 have key:∀s:SV,(match AAR R t s with
   |some x=>some (some x)
   |none=>none)=some x->(match AAR R' t s with
   |some x=>some (some x)
   |none=>none)=some x:=fun s h=>by
  cases hp:AAR R t s with
  |none=>rw[hp]at h;exact(A2 h).elim
  |some y=>rw[hp]at h;rw[ADz hR t s hp];exact h
 cases s with
 |rp v o=>exact key (.rp v o) h
 |ptr i o=>exact key (.ptr i o) h
 |np _ _=>exact h
 |int _ _|bool _|dat _ _|ary _ _ _|own _|str _ _|agg _|ep _ _ _ _ _|fv _ _ _|fn _ _|nilS|raw _|it _ _|ap _ _ _ _|undef|dead|tup _=>exact(A2 h).elim
theorem AHg(hR:Le R R'):∀(b:Bool) (t:Ty) (s:SV) {x:AFq b t},toB R b t s=some x->toB R' b t s=some x
 |false,t,s,_,h=>ADz hR t s h
 |true,t,s,x,h=>by
  have h:(match ACP R s with
   |some s'=>AHM R t s'
   |none=>none)=some x:=h
  show(match ACP R' s with
   |some s'=>AHM R' t s'
   |none=>none)=some x
  cases hb:ACP R s with
  |none=>rw[hb]at h;exact(A2 h).elim
  |some s'=>rw[hb]at h;rw[AJu hR s hb];exact APq hR t s' h
theorem AJv(hR:Le R R'):∀(cs:List (Bool×Ty)) (ss:List SV) {x:AA5 cs},ACQ R cs ss=some x->ACQ R' cs ss=some x
 |[],ss,x,h=>by cases ss<;>exact h
 |(b,t)::cs,ss,x,h=>by
  cases ss with
  |nil=>exact(A2 h).elim
  |cons s l=>
   have h:(match toB R b t s with
    |some x=>match ACQ R cs l with
     |some r=>some (x,r)
     |none=>none
    |none=>none)=some x:=h
   show(match toB R' b t s with
    |some x=>match ACQ R' cs l with
     |some r=>some (x,r)
     |none=>none
    |none=>none)=some x
   cases hx:toB R b t s with
   |none=>rw[hx]at h;exact(A2 h).elim
   |some y=>
    rw[hx]at h
    cases hy:ACQ R cs l with
    |none=>rw[hy]at h;exact(A2 h).elim
    |some z=>rw[hy]at h;rw[AHg hR b t s hx,AJv hR cs l hy];exact h
theorem AJw(hR:Le R R'){g:Nat}{cs:List (Bool×Ty)}(s:SV){x:AA5 cs}(h:AHN R g cs s=some x):AHN R' g cs s=some x:=by
 unfold AHN at h ⊢;cases hb:ACP R s with
 |none=>rw[hb]at h;exact(A2 h).elim
 |some s'=>
  rw[hb]at h;rw[AJu hR s hb]
  cases s' with
  |fn g' l=>
   simp only at h ⊢
   cases hg:beq g' g with
   |false=>rw[hg]at h;exact(A2 h).elim
   |true=>rw[hg]at h;exact AJv hR cs l h
  |np _ _|int _ _|bool _|dat _ _|ary _ _ _|own _|str _ _|agg _|ep _ _ _ _ _|fv _ _ _|nilS|raw _|it _ _|ap _ _ _ _|undef|dead|tup _|rp _ _|ptr _ _=>exact(A2 h).elim
theorem APr(hR:Le R R')(p:Pt)(s:SV){x:p.den}(h:AE1 R p s=some x):AE1 R' p s=some x:=by
 cases p with
 |d _=>exact(A2 h).elim
 |fn _ _=>exact(A2 h).elim
 |nl=>exact(A2 h).elim
 |pt t=>exact ADz hR t s h
 |pp t=>exact AHg hR true t s h
 |cl g cs=>exact AJw hR s h
theorem AJx(hR:Le R R'):∀(ps:List Pt) (ss:List SV) {y:E9 ps},ACR R ps ss=some y->ACR R' ps ss=some y
 |[],ss,y,h=>by cases ss<;>exact h
 |p::ps,ss,y,h=>by
  cases ss with
  |nil=>exact(A2 h).elim
  |cons s l=>
   have h:(match AE1 R p s with
    |some x=>match ACR R ps l with
     |some r=>some (x,r)
     |none=>none
    |none=>none)=some y:=h
   show(match AE1 R' p s with
    |some x=>match ACR R' ps l with
     |some r=>some (x,r)
     |none=>none
    |none=>none)=some y
   cases hx:AE1 R p s with
   |none=>rw[hx]at h;exact(A2 h).elim
   |some x=>
    rw[hx]at h
    cases hy:ACR R ps l with
    |none=>rw[hy]at h;exact(A2 h).elim
    |some z=>rw[hy]at h;rw[APr hR p s hx,AJx hR ps l hy];exact h
theorem AOc(hR:Le R R'){g:Nat}{caps:List SV}{a:List Ty}{r:Ty}{F:Q5 a r}(h:ADp G R g caps a r=some F):ADp G R' g caps a r=some F:=by
 unfold ADp at h ⊢;cases hf:A1 G.fs g with
 |none=>rw[hf]at h;exact(A2 h).elim
 |some c=>
  rw[hf]at h
  simp only at h ⊢
  unfold AI6 at h ⊢
  cases hy:ACR R (c.ps.drop a.length) caps with
  |none=>rw[hy]at h;exact(A2 h).elim
  |some y=>rw[hy]at h;rw[AJx hR _ _ hy];exact h
theorem APs(hR:Le R R')(p:Pt)(s:SV){x:p.den}(h:AE2 G R p s=some x):AE2 G R' p s=some x:=by
 cases p with
 |d t=>exact E8 hR t s h
 |pt t=>exact ADz hR t s h
 |nl=>exact h
 |pp t=>exact AHg hR true t s h
 |cl g cs=>exact AJw hR s h
 |fn a r=>
  cases s with
  |fn g caps=>
   have h:ADp G R g caps a r=some x:=h
   exact AOc hR h
  |int _ _|bool _|dat _ _|ary _ _ _|own _|str _ _|agg _|ep _ _ _ _ _|rp _ _|fv _ _ _|ptr _ _|nilS|raw _|it _ _|np _ _|ap _ _ _ _|undef|dead|tup _=>exact h
theorem AIQ(hR:Le R R'):∀(ps:List Pt) (ss:List SV) {y:E9 ps},M5 G R ps ss=some y->M5 G R' ps ss=some y
 |[],ss,y,h=>by cases ss<;>exact h
 |p::ps,ss,y,h=>by
  cases ss with
  |nil=>exact(A2 h).elim
  |cons s l=>
   have h:(match AE2 G R p s with
    |some x=>match M5 G R ps l with
     |some r=>some (x,r)
     |none=>none
    |none=>none)=some y:=h
   show(match AE2 G R' p s with
    |some x=>match M5 G R' ps l with
     |some r=>some (x,r)
     |none=>none
    |none=>none)=some y
   cases hx:AE2 G R p s with
   |none=>rw[hx]at h;exact(A2 h).elim
   |some x=>
    rw[hx]at h
    cases hy:M5 G R ps l with
    |none=>rw[hy]at h;exact(A2 h).elim
    |some z=>rw[hy]at h;rw[APs hR p s hx,AIQ hR ps l hy];exact h
theorem APt(hR:Le R R'){i:Nat}{as_:List Ac}(h:ADD R i=some as_):ADD R' i=some as_:=by
 unfold ADD at h ⊢;cases hi:R i with
 |none=>rw[hi]at h;exact(A2 h).elim
 |some a=>rw[hi]at h;rw[hR i a hi];exact h
theorem R0(hR:Le R R'):∀(I:List Nat) {as_:List Ac},frz R I=some as_->frz R' I=some as_
 |[],as_,h=>h
 |i::I,as_,h=>by
  simp only[frz]at h ⊢;cases hh:has I i with
  |true=>rw[hh,cond_true]at h;rw[cond_true];exact R0 hR I h
  |false=>
   rw[hh,cond_false]at h
   rw[cond_false]
   cases h1:ADD R i with
   |none=>rw[h1]at h;exact(A2 h).elim
   |some a=>
    rw[h1]at h
    cases h2:frz R I with
    |none=>rw[h2]at h;exact(A2 h).elim
    |some r=>rw[h2]at h;rw[APt hR h1,R0 hR I h2];exact h
theorem AIR(hR:Le R R')(u:Ty):∀(ss:List SV) {xs:List (den u)},AA6 u R ss=some xs->AA6 u R' ss=some xs
 |[],xs,h=>h
 |s::l,xs,h=>by
  simp only[AA6]at h ⊢;cases h1:C1 R u s with
  |none=>rw[h1]at h;exact(A2 h).elim
  |some x=>
   rw[h1]at h
   cases h2:AA6 u R l with
   |none=>rw[h2]at h;exact(A2 h).elim
   |some r=>rw[h2]at h;rw[E8 hR u s h1,AIR hR u l h2];exact h
theorem AIS(hR:Le R R'){r:Ty}:∀(a:List Ty) (f:Q5 a r) (ss:List SV) {o:Option (den r)},AAH r a f R ss=some o->AAH r a f R' ss=some o
 |[],f,ss,o,h=>by cases ss<;>exact h
 |t::a,f,ss,o,h=>by
  cases ss with
  |nil=>exact(A2 h).elim
  |cons s l=>
   have h:(match C1 R t s with
    |some x=>AAH r a (f x) R l
    |none=>none)=some o:=h
   show(match C1 R' t s with
    |some x=>AAH r a (f x) R' l
    |none=>none)=some o
   cases hx:C1 R t s with
   |none=>rw[hx]at h;exact(A2 h).elim
   |some x=>rw[hx]at h;rw[E8 hR t s hx];exact AIS hR a (f x) l h
theorem ADU{E E':Operand->Option SV}(hE:∀x s,E x=some s->E' x=some s):∀(xs:List Operand) {ss:List SV},evL E xs=some ss->evL E' xs=some ss
 |[],ss,h=>h
 |x::xs,ss,h=>by
  simp only[evL]at h ⊢;cases h1:E x with
  |none=>rw[h1]at h;exact(A2 h).elim
  |some s=>
   rw[h1]at h
   cases h2:evL E xs with
   |none=>rw[h2]at h;exact(A2 h).elim
   |some r=>rw[h2]at h;rw[hE x s h1,ADU hE xs h2];exact h
end
end Go.Rx
end
