/-
  Part DisputeExamples 5 of the texts that the statement's proof stands on: what memory holds, how code is walked, what the functions reckon. In the order in which they build.
-/
import Derived.Test.YtgioiejbphljoaaGreatDoorEbDisputeExamples4
open List (mem_append mem_cons mem_map mem_singleton toArray)
open Nat (beq blt)
set_option linter.unusedVariables false
set_option linter.unusedSectionVars false
noncomputable section
namespace Go.Rx
open Go Go.Sx Go.RowKit
variable[Trk][Sg][Sf]{P:Program}[Se P][Anch]
abbrev Does[Fx](P:Program)[Se P](N:Nat)(d:Option Nat)(op:Op)(E:Operand->Option SV)(R:Nat->Option AR)(as_:List Ac):Prop:=
 ∀{w0 w:World} {Mu M:List Nat} {σ:AS} {L:A7} {S:List Res} {ρ:Nat->Value} {γ:Nat->List Value} {μ:Nat->List Nat} {ι:Nat->Nat} {ops:Array Oper} {ds:List Deferred} {B:A3} {X:Nat->A3} {Z:List PanicEntry->A3} {ty:TypeId} {pos:String} {af:Array Edge},
  (∀x s,E x=some s->B2 σ.env x=some s)->Le R (A1 σ.res)->HS w0 Mu M σ L w S ρ γ μ ι->B7 P N ops ds L w ⟨d,op,ty,pos,af,none⟩ w0 Mu M (apps d as_ σ) B X Z
variable{N:Nat}{G:Gx}{E:Operand->Option SV}{R:Nat->Option AR}{Y:Type}{K:List Ac->Option Y}{z:Y}{d:Nat}{b:BinOp}{t:Nat}{t':Nat}{x:Operand}{y:Operand}{k:IntKind}{i:Int}{s:SV}{s':SV}{e:Nat}{u:Ty}{v:SV}{fz:List Ac}{sx:SV}{sy:SV}{xs:Array Operand}{ts:Array TypeId}{ss:List SV}{f:Operand}{g:Nat}{a:List Ty}
theorem ATL[Fx](hN:blt d N=true){i j:Int}(hx:E x=some (.int k i))(hy:E y=some (.int k j))(I:arS K b k i j=some z):∃as_,K as_=some z/\Does P N (some d) (.binOp b t x y t') E R as_:=by
 unfold arS at I;cases V:cmp b i j with
 |some r=>
  rw[V]at I
  exact⟨_,I,fun H _ h=>AU9 h hN (H _ _ hx) (H _ _ hy) V⟩
 |none=>
  rw[V]at I
  cases b with
  |add=>obtain⟨n,U,J⟩:=bindS I;exact⟨_,J,fun H _ h=>AVA h hN (H _ _ hx) (H _ _ hy) U⟩
  |sub=>obtain⟨n,U,J⟩:=bindS I;exact⟨_,J,fun H _ h=>AVB h hN (H _ _ hx) (H _ _ hy) U⟩
  |mul=>obtain⟨n,U,J⟩:=bindS I;exact⟨_,J,fun H _ h=>AVC h hN (H _ _ hx) (H _ _ hy) U⟩
  |quo=>obtain⟨n,U,J⟩:=bindS I;exact⟨_,J,fun H _ h=>AVD h hN (H _ _ hx) (H _ _ hy) U⟩
  |rem=>obtain⟨n,U,J⟩:=bindS I;exact⟨_,J,fun H _ h=>AVE h hN (H _ _ hx) (H _ _ hy) U⟩
  |and=>exact⟨_,I,fun H _ h=>AVF h hN (H _ _ hx) (H _ _ hy)⟩
  |or|xor|shl|shr|andNot|eql|neq|lss|leq|gtr|geq=>exact(A2 I).elim
theorem ALp[Fx][Sl (P:=P)](D:GxOk P G)(hN:blt d N=true)(hx:E x=some s)(hy:E y=some s')(H:AMg G R K b t s s'=some z):∃as_,K as_=some z/\Does P N (some d) (.binOp b t x y t') E R as_:=by
 unfold AMg at H;cases hl:lk G.eq t with
 |none=>rw[hl]at H;exact(A2 H).elim
 |some n=>
  rw[hl]at H
  simp only at H
  cases J:A9 s with
  |cons _ _=>rw[J]at H;exact(A2 H).elim
  |nil=>
   cases I:A9 s' with
   |cons _ _=>rw[J,I]at H;exact(A2 H).elim
   |nil=>
    rw[J,I]at H
    simp only at H
    cases C:B9 R (.st n) s with
    |none=>rw[C]at H;exact(A2 H).elim
    |some p=>
     rw[C]at H
     simp only at H
     cases W:B9 R (.st n) s' with
     |none=>rw[W]at H;exact(A2 H).elim
     |some q=>
      rw[W]at H
      cases b with
      |eql=>exact⟨_,H,fun V U h=>AQi (b:=.eql) h D hN hl (.inl rfl) (V _ _ hx) (V _ _ hy) J I (E8 U _ _ C) (E8 U _ _ W)⟩
      |neq=>exact⟨_,H,fun V U h=>AQi (b:=.neq) h D hN hl (.inr rfl) (V _ _ hx) (V _ _ hy) J I (E8 U _ _ C) (E8 U _ _ W)⟩
      |add|sub|mul|quo|rem|and|or|xor|andNot|lss|leq|gtr|geq|shl|shr=>exact(A2 H).elim
theorem ARZ[Fx][Sl (P:=P)](V:GxOk P G)(hN:blt d N=true)(hx:E x=some s)(hy:E y=some s')(H:AMh G R K b t s s'=some z):∃as_,K as_=some z/\Does P N (some d) (.binOp b t x y t') E R as_:=by
 cases s with
 |int k i=>
  cases s' with
  |int k' j=>
   have key:(match kEq k k' with
    |true=>arS K b k i j
    |false=>none)=some z->∃as_,K as_=some z/\Does P N (some d) (.binOp b t x y t') E R as_:=fun J=>by
    cases hk:kEq k k' with
    |false=>rw[hk]at J;exact(A2 J).elim
    |true=>
     rw[hk]at J
     have:=ADX hk
     subst this
     exact ATL hN hx hy J
   cases b with
   |shr=>
    have H:(AGC i j k.bits).bind (fun n=>K [.put (.int k n)])=some z:=H
    obtain⟨n,C,W⟩:=bindS H;exact⟨_,W,fun I _ h=>AVG h hN (I _ _ hx) (I _ _ hy) C⟩
   |shl=>
    have H:(AGD k i j).bind (fun n=>K [.put (.int k n)])=some z:=H
    obtain⟨n,C,W⟩:=bindS H;exact⟨_,W,fun I _ h=>AVH h hN (I _ _ hx) (I _ _ hy) C⟩
   |add|sub|mul|quo|rem|and|or|xor|andNot|eql|neq|lss|leq|gtr|geq=>exact key H
  |bool _|dat _ _|ary _ _ _|own _|str _ _|agg _|ep _ _ _ _ _|fv _ _ _|fn _ _|nilS|raw _|it _ _|np _ _|ap _ _ _ _|undef|dead|tup _|rp _ _|ptr _ _=>exact(A2 H).elim
 |bool p=>
  cases s' with
  |bool q=>
   simp only[AMh]at H
   cases U:lk G.ty t with
   |none=>rw[U]at H;exact(A2 H).elim
   |some u=>
    rw[U]at H
    cases u with
    |bool=>
     have D:=(TyOk.at V.ty U).2.1 rfl
     cases b with
     |eql=>exact⟨_,H,fun I _ h=>AVI h hN D (I _ _ hx) (I _ _ hy)⟩
     |neq=>exact⟨_,H,fun I _ h=>AVJ h hN D (I _ _ hx) (I _ _ hy)⟩
     |add|sub|mul|quo|rem|and|or|xor|andNot|lss|leq|gtr|geq|shl|shr=>exact(A2 H).elim
    |int _|sl _|st _|arr _ _|mp _ _ _|fno _=>exact(A2 H).elim
  |int _ _|dat _ _|ary _ _ _|own _|str _ _|agg _|ep _ _ _ _ _|fv _ _ _|fn _ _|nilS|raw _|it _ _|np _ _|ap _ _ _ _|undef|dead|tup _|rp _ _|ptr _ _=>exact(A2 H).elim
 |agg l=>exact ALp V hN hx hy H
 |str n q=>exact ALp V hN hx hy H
 |dat _ _|ary _ _ _|own _|ep _ _ _ _ _|fv _ _ _|fn _ _|nilS|raw _|it _ _|np _ _|ap _ _ _ _|undef|dead|tup _|rp _ _|ptr _ _=>exact(A2 H).elim
theorem ARa{e:Ty}{j:Nat}{xs:List (den e)}(h:B9 R (.sl e) (.own j)=some xs):∃p e',R j=some (.own p (.sl e' e) xs):=by
 have h:(match R j with
  |some (.own _ c xs)=>G8 c.ty (.sl e) xs
  |_=>none)=some xs:=h
 cases I:R j with
 |none=>rw[I]at h;exact(A2 h).elim
 |some a=>
  rw[I]at h
  cases a with
  |row _ _=>exact(A2 h).elim
  |own p c ys=>
   obtain⟨H,h⟩:=O1 h
   rcases c with⟨e',t'⟩|⟨m9,k9,v9⟩
   rotate_left
   . cases H
   cases H
   have h:ys=xs:=h
   subst h;exact⟨p,e',rfl⟩
theorem ATM[Fx][Sl (P:=P)](W:GxOk P G)(hN:blt d N=true){t e b:Nat}(hl:lk G.sl t=some (e,u,b))(hx:E x=some s)(hy:E y=some (.int k i))(H:iaS R K u i s=some z):∃as_,K as_=some z/\Does P N (some d) (.indexAddr t x y) E R as_:=by
 have key:A9 s=[]->(match B9 R (.sl u) s with
  |some xs=>(ixo (show List (den u) from xs) i).bind fun z=>K [.put (.rp (G0 u z) 0)]
  |none=>none)=some z->∃as_,K as_=some z/\Does P N (some d) (.indexAddr t x y) E R as_:=fun C H=>by
  cases hd:B9 R (.sl u) s with
  |none=>rw[hd]at H;exact(A2 H).elim
  |some xs=>
   rw[hd]at H
   obtain⟨q,V,U⟩:=bindS H
   exact⟨_,U,fun I J h=>AVK h W hN hl (I _ _ hx) C (E8 J _ _ hd) (I _ _ hy) V⟩
 cases s with
 |own j=>
  have H:(match B9 R (.sl u) (.own j) with
   |some xs=>(ixo (show List (den u) from xs) i).bind fun z=>K [.put (.ep j u i (some z) 0)]
   |none=>none)=some z:=H
  cases hd:B9 R (.sl u) (.own j) with
  |none=>rw[hd]at H;exact(A2 H).elim
  |some xs=>
   rw[hd]at H
   obtain⟨q,V,U⟩:=bindS H
   obtain⟨p,e',D⟩:=ARa hd
   exact⟨_,U,fun I J h=>AVL h W hN hl (I _ _ hx) (J _ _ D) (I _ _ hy) V⟩
 |dat _ _=>exact key rfl H
 |nilS=>exact key rfl H
 |int _ _|bool _|ary _ _ _|str _ _|agg _|ep _ _ _ _ _|fv _ _ _|fn _ _|raw _|it _ _|np _ _|ap _ _ _ _|undef|dead|tup _|rp _ _|ptr _ _=>exact(A2 H).elim
theorem APc[Fx][Sl (P:=P)](J:GxOk P G)(hN:blt d N=true)(hx:E x=some v)(H:AFU G R t v=some s):Does P N (some d) (.load t x) E R [.put s]:=by
 cases v with
 |rp v o=>exact fun I _ h=>ARL h J hN (I _ _ hx) H
 |ptr i o=>
  have H:(match R i with
   |some (.row _ l)=>S6 G t o (.agg l)
   |_=>none)=some s:=H
  cases hi:R i with
  |none=>rw[hi]at H;exact(A2 H).elim
  |some a=>
   rw[hi]at H
   cases a with
   |own _ _ _=>exact(A2 H).elim
   |row e l=>
    have H:S6 G t o (.agg l)=some s:=H
    intro w0 w Mu M σ L S ρ γ μ ι ops ds B X Z ty pos af I U h
    exact ARM h J hN (I _ _ hx) (U _ _ hi) H
 |ep i u ix q o=>
  cases q with
  |none=>exact(A2 H).elim
  |some q=>exact fun I _ h=>ARN h J hN (I _ _ hx) H
 |int _ _|bool _|ary _ _ _|str _ _|agg _|fv _ _ _|fn _ _|raw _|it _ _|np _ _|ap _ _ _ _|undef|dead|tup _|dat _ _|own _|nilS=>exact(A2 H).elim
theorem ARb[Fx][Sl (P:=P)](S:GxOk P G){t n:Nat}{ns:List SV}(hy:E y=some s)(Q:R9 s=some ns)(O:lk G.sz t=some n)(F:P9 ns=some n)(hx:E x=some v)(H:APF R K ns v=some z):∃as_,K as_=some z/\Does P N none (.store t x y) E R as_:=by
 cases v with
 |ptr i o=>
  have H:(match R i with
   |some (.row e l)=>match setW l o ns with
    |some _=>K [.sto i o ns]
    |none=>none
   |_=>none)=some z:=H
  cases hi:R i with
  |none=>rw[hi]at H;exact(A2 H).elim
  |some a=>
   rw[hi]at H
   cases a with
   |own _ _ _=>exact(A2 H).elim
   |row e l=>
    simp only at H
    cases U:setW l o ns with
    |none=>rw[U]at H;exact(A2 H).elim
    |some l'=>
     rw[U]at H
     exact⟨_,H,fun V C h=>APS h S (V _ _ hy) Q (V _ _ hx) (C _ _ hi) U O F⟩
 |ep i u ix q o=>
  cases q with
  |none=>exact(A2 H).elim
  |some q=>
   have H:(match R i with
    |some (.own p (.sl e u') xs)=>match G8 (.sl u') (.sl u) xs with
     |some xs=>match setW (Rx.cellsOf (G0 u q)) o ns with
      |some l'=>match toP R u l' with
       |some z2=>match frz R (ownsLL ns) with
        |some fz=>match has (ownsLL ns) i with
         |true=>none
         |false=>(ABE (show List (den u) from xs) ix z2).bind fun m=>K (fz++[.cnt i (.sl e u) m])
        |none=>none
       |none=>none
      |none=>none
     |none=>none
    |_=>none)=some z:=H
   cases hi:R i with
   |none=>rw[hi]at H;exact(A2 H).elim
   |some a=>
    rw[hi]at H
    cases a with
    |row _ _=>exact(A2 H).elim
    |own p c xs=>
     rcases c with⟨e,u'⟩|⟨m9,k9,v9⟩
     rotate_left
     . exact(A2 H).elim
     simp only at H
     cases I:G8 (.sl u') (.sl u) xs with
     |none=>rw[I]at H;exact(A2 H).elim
     |some xs'=>
      rw[I]at H
      obtain⟨M,I⟩:=O1 I
      cases M
      have I:xs=xs':=I
      subst I
      simp only at H
      cases U:setW (Rx.cellsOf (G0 u q)) o ns with
      |none=>rw[U]at H;exact(A2 H).elim
      |some l'=>
       rw[U]at H
       simp only at H
       cases hd:toP R u l' with
       |none=>rw[hd]at H;exact(A2 H).elim
       |some z2=>
        rw[hd]at H
        simp only at H
        cases X:frz R (ownsLL ns) with
        |none=>rw[X]at H;exact(A2 H).elim
        |some fz=>
         rw[X]at H
         simp only at H
         cases B:has (ownsLL ns) i with
         |true=>rw[B]at H;exact(A2 H).elim
         |false=>
          rw[B]at H
          obtain⟨m,L,D⟩:=bindS H
          exact⟨_,D,fun V C h=>APU h S (V _ _ hy) Q (V _ _ hx) (C _ _ hi) U (AGX C u hd) (Q1 C _ X) B L O F⟩
 |ap s0 n0 x0 k=>
  have T:stA R K ns n0 x0 k s0=some z:=H
  clear H
  cases s0 with
  |ptr i o=>
   have J:(match (generalizing:=false) R i with
    |some (.row _ l)=>(match (generalizing:=false) P8 l o with
     |some (.ary q n' xs)=>(match (generalizing:=false) beq n' n0,beq k 1,ns with
      |true,true,[.int q' v]=>(match kEq q' q with
       |true=>(ABE xs x0 v).bind fun m=>(match setW l o [.ary q n0 m] with
        |some _=>K [.sto i o [.ary q n0 m]]
        |none=>none)
       |false=>none)
      |_,_,_=>none)
     |_=>none)
    |_=>none)=some z:=T
   clear T
   cases hi:R i with
   |none=>rw[hi]at J;exact(A2 J).elim
   |some a=>
    rw[hi]at J
    cases a with
    |own _ _ _=>exact(A2 J).elim
    |row e l=>
     simp only at J
     split at J
     . rename_i q n' xs hcell
       split at J
       . rename_i q' v Z hk
         have Z:=AX5 Z
         have hk:=AX5 hk
         subst Z;subst hk
         cases W:kEq q' q with
         |false=>rw[W]at J;exact(A2 J).elim
         |true=>
          rw[W]at J
          have A:=ADX W
          subst A
          obtain⟨m,L,D⟩:=bindS J
          cases U:setW l o [.ary q' n' m] with
          |none=>simp only[U]at D;exact(A2 D).elim
          |some l'=>
           simp only[U]at D
           have Y:n=1:=by
            have F:some 1=some n:=F;exact(AXz F).symm
           subst Y
           exact⟨_,D,fun V C h=>APa h S (V _ _ hy) Q (V _ _ hx) (C _ _ hi) hcell L U O⟩
       . exact(A2 J).elim
     . exact(A2 J).elim
  |int _ _|bool _|ary _ _ _|str _ _|agg _|fv _ _ _|fn _ _|undef|dead|tup _|dat _ _|own _|nilS|raw _|it _ _|np _ _|ep _ _ _ _ _|rp _ _|ap _ _ _ _=>exact(A2 T).elim
 |int _ _|bool _|ary _ _ _|str _ _|agg _|fv _ _ _|fn _ _|raw _|it _ _|np _ _|undef|dead|tup _|dat _ _|own _|nilS|rp _ _=>exact(A2 H).elim
theorem ARc[Fx](hN:blt d N=true)(J:P.underlying t=some (.slice e))(hx:E x=some s)(H:ASq R K s=some z):∃as_,K as_=some z/\Does P N (some d) (.call ⟨.builtin .len,#[x],#[t]⟩) E R as_:=by
 cases s with
 |dat u xs=>
  cases u with
  |sl u=>exact⟨_,H,fun I _ h=>AS7 h hN J (I _ _ hx)⟩
  |int _|bool|st _|arr _ _|mp _ _ _|fno _=>exact(A2 H).elim
 |own i=>
  have H:(match R i with
   |some (.own _ (.sl _ t) xs)=>K [.put (.int .i64 (show List (den t) from xs).length)]
   |_=>none)=some z:=H
  cases hi:R i with
  |none=>rw[hi]at H;exact(A2 H).elim
  |some a=>
   rw[hi]at H
   cases a with
   |row _ _=>exact(A2 H).elim
   |own p c xs=>
    rcases c with⟨e,u⟩|⟨m9,k9,v9⟩
    rotate_left
    . exact(A2 H).elim
    exact⟨_,H,fun I U h=>AS8 h hN J (I _ _ hx) (U _ _ hi)⟩
 |nilS=>exact⟨_,H,fun I _ h=>AS9 h hN J (I _ _ hx)⟩
 |int _ _|bool _|ary _ _ _|str _ _|agg _|fv _ _ _|fn _ _|raw _|it _ _|np _ _|ap _ _ _ _|undef|dead|tup _|rp _ _|ptr _ _|ep _ _ _ _ _=>exact(A2 H).elim
theorem ARd[Fx][Sl (P:=P)](O:GxOk P G)(hN:blt d N=true){t e b:Nat}{ys:List (den u)}(hl:lk G.sl t=some (e,u,b))(hx:E x=some v)(hy:E y=some s)(hd:B9 R (.sl u) s=some ys)(F:frz R (A9 s)=some fz)(H:AMi d R K e u b fz (A9 s) ys v=some z):
  ∃as_,K as_=some z/\Does P N (some d) (.call ⟨.builtin .append,#[x,y],#[t,t]⟩) E R as_:=by
 cases v with
 |nilS=>
  have H:(appo b ([]:List (den u)) ys).bind (fun l=>K (fz++[.new d (.own false (.sl e u) l),.put (.own d)]))=some z:=H
  obtain⟨l,D,C⟩:=bindS H
  exact⟨_,C,fun U J h=>ATA h O hN hl (U _ _ hx) (U _ _ hy) (E8 J _ _ hd) (Q1 J _ F) D⟩
 |own i=>
  have H:(match R i with
   |some (.own p (.sl e' u') xs)=>match G8 (.sl u') (.sl u) xs with
    |some xs=>match has (A9 s) i with
     |true=>none
     |false=>match beq e' e with
      |true=>(appo b (show List (den u) from xs) ys).bind fun l=>K (fz++[.hnd i (.own p (.sl e u) l),.put (.own i)])
      |false=>none
    |none=>none
   |_=>none)=some z:=H
  cases hi:R i with
  |none=>rw[hi]at H;exact(A2 H).elim
  |some a=>
   rw[hi]at H
   cases a with
   |row _ _=>exact(A2 H).elim
   |own p c xs=>
    rcases c with⟨e',u'⟩|⟨m9,k9,v9⟩
    rotate_left
    . exact(A2 H).elim
    simp only at H
    cases I:G8 (.sl u') (.sl u) xs with
    |none=>rw[I]at H;exact(A2 H).elim
    |some xs'=>
     rw[I]at H
     obtain⟨Q,I⟩:=O1 I
     cases Q
     have I:xs=xs':=I
     subst I
     simp only at H
     cases V:has (A9 s) i with
     |true=>rw[V]at H;exact(A2 H).elim
     |false=>
      rw[V]at H
      simp only at H
      cases W:beq e' e with
      |false=>rw[W]at H;exact(A2 H).elim
      |true=>
       rw[W]at H
       have:=AX5 W
       subst this
       obtain⟨l,D,C⟩:=bindS H
       exact⟨_,C,fun U J h=>ATB h O hN hl (U _ _ hx) (J _ _ hi) (fun hm=>by rw[has_iff.2 hm]at V;cases V) (U _ _ hy) (E8 J _ _ hd) (Q1 J _ F) D⟩
 |int _ _|bool _|ary _ _ _|str _ _|agg _|fv _ _ _|fn _ _|raw _|it _ _|np _ _|ap _ _ _ _|undef|dead|tup _|rp _ _|ptr _ _|ep _ _ _ _ _|dat _ _=>exact(A2 H).elim
theorem AQj:∀{xs:List Operand} {s:SV},evL E xs=some [s]->∃x,xs=[x]/\E x=some s
 |[],_,h=>by cases h
 |x::xs,s,h=>by
  simp only[evL]at h;cases H:E x with
  |none=>rw[H]at h;exact(A2 h).elim
  |some a=>
   rw[H]at h
   cases xs with
   |nil=>
    have h:[a]=[s]:=AXz h
    cases h;exact⟨x,rfl,H⟩
   |cons y r=>
    simp only[evL]at h
    cases J:E y with
    |none=>rw[J]at h;exact(A2 h).elim
    |some c=>
     rw[J]at h
     cases I:evL E r with
     |none=>rw[I]at h;exact(A2 h).elim
     |some q=>rw[I]at h;cases h
theorem AJI:∀{xs:List Operand} {s s':SV},evL E xs=some [s,s']->∃x y,xs=[x,y]/\E x=some s/\E y=some s'
 |[],_,_,h=>by cases h
 |x::xs,s,s',h=>by
  simp only[evL]at h;cases I:E x with
  |none=>rw[I]at h;exact(A2 h).elim
  |some a=>
   rw[I]at h
   cases H:evL E xs with
   |none=>rw[H]at h;exact(A2 h).elim
   |some r=>
    rw[H]at h
    have h:a::r=[s,s']:=AXz h
    cases h
    obtain⟨y,rfl,J⟩:=AQj H
    exact⟨x,y,rfl,I,J⟩
theorem ALq{f:Int->Int->Int}(I:mmS K f s s'=some z):∃k i j,s=.int k i/\s'=.int k j/\K [.put (.int k (f i j))]=some z:=by
 cases s with
 |int k i=>
  cases s' with
  |int k' j=>
   have H:(match kEq k k' with
    |true=>K [.put (.int k (f i j))]
    |false=>none)=some z:=I
   cases hk:kEq k k' with
   |false=>rw[hk]at H;exact(A2 H).elim
   |true=>
    rw[hk]at H
    have:=ADX hk
    subst this
    exact⟨k,i,j,rfl,rfl,H⟩
  |bool _|ary _ _ _|str _ _|agg _|fv _ _ _|fn _ _|raw _|it _ _|np _ _|ap _ _ _ _|undef|dead|tup _|rp _ _|ptr _ _|ep _ _ _ _ _|dat _ _|own _|nilS=>exact(A2 I).elim
 |bool _|ary _ _ _|str _ _|agg _|fv _ _ _|fn _ _|raw _|it _ _|np _ _|ap _ _ _ _|undef|dead|tup _|rp _ _|ptr _ _|ep _ _ _ _ _|dat _ _|own _|nilS=>exact(A2 I).elim
theorem ATN[Fx](V:GxOk P G)(hN:blt d N=true){t:TypeId}(hx:E x=some s)(hy:E y=some (.int k i))(H:iaA G K t i s=some z):∃as_,K as_=some z/\Does P N (some d) (.indexAddr t x y) E R as_:=by
 unfold iaA at H;cases hl:lk G.ar t with
 |none=>rw[hl]at H;exact(A2 H).elim
 |some q=>
  obtain⟨len,m⟩:=q
  rw[hl]at H
  obtain⟨j,W,I⟩:=bindS H
  cases J:apS len m j s with
  |none=>simp only[J]at I;exact(A2 I).elim
  |some r=>simp only[J]at I;exact⟨_,I,fun U _ h=>AVP h V hN hl (U _ _ hx) (U _ _ hy) W J⟩
theorem AM3{R':Nat->Option AR}(H:∀i a,R i=some a->R' i=some a){q:IntKind×Nat×List Int}(h:AD9 R s=some q):AD9 R' s=some q:=by
 cases s with
 |rp v o=>exact h
 |ptr i o=>
  have h:(match R i with
   |some (.row _ l)=>(match P8 l o with
    |some (.ary k n l)=>some (k,n,l)
    |_=>none)
   |_=>none)=some q:=h
  show(match R' i with
   |some (.row _ l)=>(match P8 l o with
    |some (.ary k n l)=>some (k,n,l)
    |_=>none)
   |_=>none)=some q
  cases hi:R i with
  |none=>rw[hi]at h;exact(A2 h).elim
  |some a=>rw[hi]at h;rw[H i a hi];exact h
 |int _ _|bool _|ary _ _ _|str _ _|agg _|fv _ _ _|fn _ _|undef|dead|tup _|dat _ _|own _|nilS|raw _|it _ _|np _ _|ep _ _ _ _ _|ap _ _ _ _=>exact(A2 h).elim
theorem ATO[Fx][Sl (P:=P)](D:GxOk P G)(hN:blt d N=true){t:TypeId}(hx:E x=some v)(J:ldA G R K t v=some z):∃as_,K as_=some z/\Does P N (some d) (.load t x) E R as_:=by
 cases v with
 |ap s n x0 k=>
  have H:(match (generalizing:=false) lk G.tb.ag t,beq k 1 with
   |some 0,true=>(match AD9 R s with
    |some (q,n',l)=>(match beq n' n with
     |true=>(ixo l x0).bind fun y=>K [.put (.int q y)]
     |false=>none)
    |none=>none)
   |_,_=>none)=some z:=J
  clear J
  split at H
  . rename_i W hk
    have hk:=AX5 hk
    subst hk
    cases I:AD9 R s with
    |none=>rw[I]at H;exact(A2 H).elim
    |some q=>
     obtain⟨q,n',l⟩:=q
     rw[I]at H
     simp only at H
     cases V:beq n' n with
     |false=>rw[V]at H;exact(A2 H).elim
     |true=>
      have U:=AX5 V
      rw[V]at H
      subst U
      obtain⟨y,Q,O⟩:=bindS H
      exact⟨_,O,fun F C h=>ARY h D hN W (F _ _ hx) (AM3 C I) Q⟩
  . exact(A2 H).elim
 |int _ _|bool _|ary _ _ _|str _ _|agg _|fv _ _ _|fn _ _|undef|dead|tup _|dat _ _|own _|nilS|raw _|it _ _|np _ _|ep _ _ _ _ _|rp _ _|ptr _ _=>exact(A2 J).elim
theorem ARe[Fx][Sl (P:=P)](J:GxOk P G)(hN:blt d N=true){t:TypeId}(hx:E x=some s)(H:API G R K t s=some z):∃as_,K as_=some z/\Does P N (some d) (.call ⟨.builtin .len,#[x],#[t]⟩) E R as_:=by
 unfold API at H;cases hl:lk G.mp t with
 |none=>rw[hl]at H;exact(A2 H).elim
 |some q=>
  obtain⟨m,e,k,v⟩:=q
  rw[hl]at H
  simp only at H
  cases hd:B9 R (.mp m k v) s with
  |none=>rw[hd]at H;exact(A2 H).elim
  |some f=>
   rw[hd]at H
   obtain⟨n,W,V⟩:=bindS H
   exact⟨_,V,fun U I h=>ATJ h J hN hl (U _ _ hx) (E8 I _ _ hd) W⟩
theorem ARf[Fx](I:GxOk P G)(hN:blt d N=true){t:TypeId}(H:APG G d K t=some z):∃as_,K as_=some z/\Does P N (some d) (.makeMap t none) E R as_:=by
 unfold APG at H;cases hl:lk G.mp t with
 |none=>rw[hl]at H;exact(A2 H).elim
 |some q=>
  obtain⟨m,e,k,v⟩:=q
  rw[hl]at H
  exact⟨_,H,fun _ _ h=>AN9 h I hN hl⟩
theorem ARg[Fx][Sl (P:=P)](C:GxOk P G)(hN:blt d N=true){t:TypeId}{cm:Bool}(hx:E x=some sx)(hy:E y=some sy)(H:AMj G R K t cm sx sy=some z):∃as_,K as_=some z/\Does P N (some d) (.lookup t x y cm) E R as_:=by
 unfold AMj at H;cases hl:lk G.mp t with
 |none=>rw[hl]at H;exact(A2 H).elim
 |some q=>
  obtain⟨m,e,k,v⟩:=q
  rw[hl]at H
  simp only at H
  cases hd:B9 R (.mp m k v) sx with
  |none=>rw[hd]at H;exact(A2 H).elim
  |some f=>
   rw[hd]at H
   simp only at H
   cases J:A9 sy with
   |cons _ _=>rw[J]at H;exact(A2 H).elim
   |nil=>
    rw[J]at H
    simp only at H
    cases U:B9 R k sy with
    |none=>rw[U]at H;exact(A2 H).elim
    |some a=>
     rw[U]at H
     simp only at H
     cases I:zdM v with
     |none=>rw[I]at H;exact(A2 H).elim
     |some z0=>
      rw[I]at H
      exact⟨_,H,fun W V h=>APW h C hN hl (W _ _ hx) (E8 V _ _ hd) (W _ _ hy) J (E8 V _ _ U) I⟩
theorem ALr[Fx][Sl (P:=P)](Q:GxOk P G){t:TypeId}{x y u:Operand}{sx sy su:SV}(hx:E x=some sx)(hy:E y=some sy)(F:E u=some su)(H:AHz G R K t sx sy su=some z):∃as_,K as_=some z/\Does P N none (.mapUpdate t x y u) E R as_:=by
 unfold AHz at H;cases hl:lk G.mp t with
 |none=>rw[hl]at H;exact(A2 H).elim
 |some q=>
  obtain⟨m,e,k,v⟩:=q
  rw[hl]at H
  simp only at H
  cases hd:AJv R m k v sx with
  |none=>rw[hd]at H;exact(A2 H).elim
  |some q=>
   obtain⟨i,f⟩:=q
   rw[hd]at H
   simp only at H
   cases U:A9 sy with
   |cons _ _=>rw[U]at H;exact(A2 H).elim
   |nil=>
    rw[U]at H
    simp only at H
    cases C:B9 R k sy with
    |none=>rw[C]at H;exact(A2 H).elim
    |some a=>
     rw[C]at H
     simp only at H
     cases V:has (A9 su) i with
     |true=>rw[V]at H;exact(A2 H).elim
     |false=>
      rw[V]at H
      simp only at H
      cases J:B9 R v su with
      |none=>rw[J]at H;exact(A2 H).elim
      |some z0=>
       rw[J]at H
       simp only at H
       cases W:frz R (A9 su) with
       |none=>rw[W]at H;exact(A2 H).elim
       |some fz=>
        rw[W]at H
        obtain⟨O,hi⟩:=AId hd
        subst O
        exact⟨_,H,fun D I h=>ALS h Q hl (D _ _ hx) (I _ _ hi) (D _ _ hy) U (E8 I _ _ C) (D _ _ F) V (E8 I _ _ J) (Q1 I _ W)⟩
theorem Does.ins[Fx]{t:TypeId}{x y u:Operand}{as_:List Ac}(h:Does P N none (.mapUpdate t x y u) E R as_):Does P N none (.insert t x y u) E R as_:=fun {w0 w Mu M σ L S ρ γ μ ι ops ds B X Z ty pos af} U J I=>by
 have V:=h (ops:=ops) (ds:=ds) (B:=B) (X:=X) (Z:=Z) (ty:=ty) (pos:=pos) (af:=af) U J I;intro a H;exact V a H
theorem ARh[Fx][Sl (P:=P)](C:GxOk P G){t t':TypeId}(hx:E x=some sx)(hy:E y=some sy)(H:APH G R K t sx sy=some z):∃as_,K as_=some z/\Does P N none (.call ⟨.builtin .delete,#[x,y],#[t,t']⟩) E R as_:=by
 unfold APH at H;cases hl:lk G.mp t with
 |none=>rw[hl]at H;exact(A2 H).elim
 |some q=>
  obtain⟨m,e,k,v⟩:=q
  rw[hl]at H
  simp only at H
  cases hd:AJv R m k v sx with
  |none=>rw[hd]at H;exact(A2 H).elim
  |some q=>
   obtain⟨i,f⟩:=q
   rw[hd]at H
   simp only at H
   cases I:A9 sy with
   |cons _ _=>rw[I]at H;exact(A2 H).elim
   |nil=>
    rw[I]at H
    simp only at H
    cases J:B9 R k sy with
    |none=>rw[J]at H;exact(A2 H).elim
    |some a=>
     rw[J]at H
     obtain⟨W,hi⟩:=AId hd
     subst W
     exact⟨_,H,fun V U h=>APX h C hl (V _ _ hx) (U _ _ hi) (V _ _ hy) I (E8 U _ _ J)⟩
theorem ARi[Fx][Sl (P:=P)](D:GxOk P G)(hN:blt d N=true){b:Builtin}(C:b≠.delete)(hx:evL E xs.toList=some ss)(H:AEA G d R K b ss ts.toList=some z):∃as_,K as_=some z/\Does P N (some d) (.call ⟨.builtin b,xs,ts⟩) E R as_:=by
 obtain⟨xs⟩:=xs;obtain⟨ts⟩:=ts;simp only at hx H;unfold AEA at H;split at H
 . rename_i s t;obtain⟨x,rfl,I⟩:=AQj hx;cases hl:lk G.sl t with
   |none=>rw[hl]at H;exact ARe D hN I H
   |some q=>
    obtain⟨e,u,n⟩:=q
    rw[hl]at H
    exact ARc hN (SlOk.at D.sl hl).und I H
 . exact absurd rfl C
 . obtain⟨x,y,rfl,I,J⟩:=AJI hx;obtain⟨k,i,j,e1,e2,V⟩:=ALq H;subst e1;subst e2;exact⟨_,V,fun U _ h=>AVN h hN (U _ _ I) (U _ _ J)⟩
 . obtain⟨x,y,rfl,I,J⟩:=AJI hx;obtain⟨k,i,j,e1,e2,V⟩:=ALq H;subst e1;subst e2;exact⟨_,V,fun U _ h=>AVO h hN (U _ _ I) (U _ _ J)⟩
 . rename_i v s t t';obtain⟨x,y,rfl,I,J⟩:=AJI hx;split at H
   . rename_i e u n F hl;have:=AX5 F;subst this;cases hd:B9 R (.sl u) s with
     |none=>rw[hd]at H;exact(A2 H).elim
     |some ys=>
      rw[hd]at H
      simp only at H
      cases W:frz R (A9 s) with
      |none=>rw[W]at H;exact(A2 H).elim
      |some fz=>
       rw[W]at H
       exact ARd D hN hl I J hd W H
   . exact(A2 H).elim
 . exact(A2 H).elim
theorem AAl[Sl (P:=P)]{Z:Type}{z:Z}:∀{ss:List SV} {K:List SV->Option Z},S7 ss K=some z->∃ss',K ss'=some z/\∀ρ R M w vs,OkV (P:=P) ρ R M w ss vs->OkV (P:=P) ρ R M w ss' vs
 |[],K,h=>⟨[],h,fun _ _ _ _ _ h=>h⟩
 |s::l,K,h=>by
  have key:S7 l (fun r=>K (s::r))=some z->∃ss',K ss'=some z/\∀ρ R M w vs,OkV (P:=P) ρ R M w (s::l) vs->OkV (P:=P) ρ R M w ss' vs:=fun h=>by
   obtain⟨ss',U,J⟩:=AAl h;refine⟨_,U,fun ρ R M w vs hk=>?_⟩;obtain⟨u,r,rfl,H,I⟩:=hk;exact⟨u,r,rfl,H,J _ _ _ _ _ I⟩
  cases s with
  |np t x=>
   have h:Option.bind x (fun y=>S7 l fun r=>K (.rp (G0 t y) 0::r))=some z:=h
   obtain⟨y,rfl,h⟩:=bindS h
   obtain⟨ss',U,J⟩:=AAl h
   refine⟨_,U,fun ρ R M w vs hk=>?_⟩
   obtain⟨u,r,rfl,H,I⟩:=hk
   refine⟨u,r,rfl,?_,J _ _ _ _ _ I⟩
   rcases H with⟨H,_⟩|⟨y',b,o,vs,H,rfl,D,C⟩
   . cases H
   . cases H
     obtain⟨u,W,V⟩:=J6 C
     exact⟨b,o,u,vs,rfl,D,E1 t W,V⟩
  |_=>exact key h
theorem AKL[Fx][Sl (P:=P)](O:GxOk P G){d:Option Nat}{id:Nat}(hN:(match d with|some d=>blt d N|none=>true)=true){caps ss ss':List SV}(J:∀ρ R M w vs,OkV (P:=P) ρ R M w (ss++caps) vs->OkV (P:=P) ρ R M w ss' vs)(F:E f=some (.fn g caps))(hx:evL E xs.toList=some ss)(H:AG1 G id R K g ss'=some z):∃as_,K as_=some z/\Does P N d (.call ⟨.value f,xs,ts⟩) E R as_:=by
 unfold AG1 at H;cases V:A1 G.fs g with
 |none=>rw[V]at H;exact(A2 H).elim
 |some c=>
  rw[V]at H
  simp only at H
  cases U:I7 G R c.ps ss' with
  |none=>rw[U]at H;exact(A2 H).elim
  |some a=>
   rw[U]at H
   simp only at H
   cases I:(bif AAR c.rs then some [] else frz R (ownsLL ss')) with
   |none=>rw[I]at H;exact(A2 H).elim
   |some fz=>
    rw[I]at H
    obtain⟨r,Y,T⟩:=bindS H
    refine⟨_,T,?_⟩
    intro w0 w Mu M σ L S ρ γ μ ι ops ds B X Z ty pos af D C h
    have Q:(bif AAR c.rs then some [] else frz (A1 σ.res) (ownsLL ss'))=some fz:=by
     cases W:AAR c.rs with
     |true=>rw[W,cond_true]at I;rw[cond_true];exact I
     |false=>rw[W,cond_false]at I;rw[cond_false];exact Q1 C _ I
    exact ATC h O hN J (D _ _ F) (ACg D _ hx) V (AHH C _ _ U) Q Y
theorem AOF{o:Option SV}{l:List SV}(h:fvN G o=some (.fn g l)):o=some (.fn g l):=by
 unfold fvN at h;split at h
 . split at h
   . split at h
     . cases h
     . cases h
   . cases h
 . exact h
theorem ATP[Fx](D:GxOk P G){w0 w:World}{Mu M:List Nat}{σ:AS}{L:A7}{S:List Res}{ρ:Nat->Value}{γ:Nat->List Value}{μ:Nat->List Nat}{ι:Nat->Nat}(h:HS w0 Mu M σ L w S ρ γ μ ι)(V:∀x s,E x=some s->B2 σ.env x=some s){r:Ty}{F:P7 a r}(H:fvN G (E f)=some (.fv a r F)):∃v,Sx.ev L f=some v/\FnOk (P:=P) (mm S M) w v a r F:=by
 unfold fvN at H;split at H
 . rename_i t n C;split at H
   . split at H
     . rename_i q W;cases H
       obtain⟨v,U,_,cs,I,J|J⟩:=h.ev (V _ _ C)
       . cases J.1
       . have I:cs=[.func (.func _) #[] #[]]:=I;rw[I]at J;have:=(List.singleton_inj.1 J.2).symm;exact⟨v,U,this▸FdOk.at D.fd W _ _ _ h.anch.2⟩
     . cases H
   . cases H
 . obtain⟨v,U,I⟩:=h.ev (V _ _ H);exact⟨v,U,I.1⟩
theorem AKM[Fx][Sl (P:=P)]{d:Option Nat}(hN:(match d with|some d=>blt d N|none=>true)=true){r:Ty}{F:P7 a r}{o:Option (den r)}(V:GxOk P G)(J:fvN G (E f)=some (.fv a r F))(hx:evL E xs.toList=some ss)(O:Y4 r a F R ss=some o)(D:frz R (ownsLL ss)=some fz)(U:Option.bind o (fun y=>K (fz++[.put (G0 r y)]))=some z):∃as_,K as_=some z/\Does P N d (.call ⟨.value f,xs,ts⟩) E R as_:=by
 obtain⟨y,C,W⟩:=bindS U;exact⟨_,W,fun I H h=>ARS h hN (ATP V h I J) (ACg I _ hx) (AHJ H _ _ _ O) (Q1 H _ D) C⟩
theorem APd[Fx][Sl (P:=P)](W:GxOk P G)(hN:blt d N=true){op:Op}(hst:∀t x y,op≠.store t x y)(X:∀t x y u,op≠.mapUpdate t x y u/\op≠.insert t x y u)(hdl:∀xs ts,op≠.call ⟨.builtin .delete,xs,ts⟩)(H:AE4 G d E R K op=some z):∃as_,K as_=some z/\Does P N (some d) op E R as_:=by
 cases op with
 |move x=>
  have H:(match E x with
   |some s=>K [.put s]
   |none=>none)=some z:=H
  cases hx:E x with
  |none=>rw[hx]at H;exact(A2 H).elim
  |some s=>rw[hx]at H;exact⟨_,H,fun U _ h=>AS5 h hN (U _ _ hx)⟩
 |assign x=>
  have H:(match E x with
   |some s=>K [.put s]
   |none=>none)=some z:=H
  cases hx:E x with
  |none=>rw[hx]at H;exact(A2 H).elim
  |some s=>rw[hx]at H;exact⟨_,H,fun U _ h=>APQ h hN (U _ _ hx)⟩
 |pick c a b=>
  have H:(match E c with
   |some (.bool t)=>cond t (match E a with
    |some x=>K [.put x]
    |none=>none) (match E b with
    |some y=>K [.put y]
    |none=>none)
   |_=>none)=some z:=H
  cases hx:E c with
  |none=>rw[hx]at H;exact(A2 H).elim
  |some s=>
   rw[hx]at H
   cases s with
   |bool t=>
    cases t with
    |true=>
     simp only[cond_true]at H
     cases A:E a with
     |none=>rw[A]at H;exact(A2 H).elim
     |some s=>rw[A]at H;exact⟨_,H,fun U _ h=>AN3 h hN (U _ _ hx) (U _ _ A)⟩
    |false=>
     simp only[cond_false]at H
     cases A:E b with
     |none=>rw[A]at H;exact(A2 H).elim
     |some s=>rw[A]at H;exact⟨_,H,fun U _ h=>AN3 h hN (U _ _ hx) (U _ _ A)⟩
   |int _ _|ary _ _ _|str _ _|agg _|fv _ _ _|fn _ _|raw _|it _ _|np _ _|ap _ _ _ _|undef|dead|tup _|rp _ _|ptr _ _|ep _ _ _ _ _|dat _ _|own _|nilS=>exact(A2 H).elim
 |nilCheck x=>
  have H:(match E x with
   |some (.rp v o)=>K [.put (.rp v o)]
   |some (.ptr i o)=>K [.put (.ptr i o)]
   |some (.np t x)=>Option.bind x fun y=>K [.put (.rp (G0 t y) 0)]
   |_=>none)=some z:=H
  cases hx:E x with
  |none=>rw[hx]at H;exact(A2 H).elim
  |some s=>
   rw[hx]at H
   cases s with
   |rp v o=>exact⟨_,H,fun U _ h=>AHA h hN (U _ _ hx) (.inl ⟨v,o,rfl⟩)⟩
   |ptr i o=>exact⟨_,H,fun U _ h=>AHA h hN (U _ _ hx) (.inr ⟨i,o,rfl⟩)⟩
   |np t q=>
    obtain⟨y,V,J⟩:=bindS H
    exact⟨_,J,fun U _ h=>AS6 h hN (U _ _ hx) V⟩
   |int _ _|bool _|ary _ _ _|str _ _|agg _|fv _ _ _|fn _ _|raw _|it _ _|ap _ _ _ _|undef|dead|tup _|ep _ _ _ _ _|dat _ _|own _|nilS=>exact(A2 H).elim
 |unOp u t x=>
  cases u with
  |not=>
   have H:(match E x with
    |some (.bool b)=>K [.put (.bool (!b))]
    |_=>none)=some z:=H
   cases hx:E x with
   |none=>rw[hx]at H;exact(A2 H).elim
   |some s=>
    rw[hx]at H
    cases s with
    |bool b=>exact⟨_,H,fun U _ h=>AU7 h hN (U _ _ hx)⟩
    |int _ _|ary _ _ _|str _ _|agg _|fv _ _ _|fn _ _|raw _|it _ _|np _ _|ap _ _ _ _|undef|dead|tup _|rp _ _|ptr _ _|ep _ _ _ _ _|dat _ _|own _|nilS=>exact(A2 H).elim
  |neg=>
   have H:(match E x with
    |some (.int k i)=>(chk k (-i)).bind fun n=>K [.put (.int k n)]
    |_=>none)=some z:=H
   cases hx:E x with
   |none=>rw[hx]at H;exact(A2 H).elim
   |some s=>
    rw[hx]at H
    cases s with
    |int k i=>
     obtain⟨n,V,J⟩:=bindS H
     exact⟨_,J,fun U _ h=>AU8 h hN (U _ _ hx) V⟩
    |bool _|ary _ _ _|str _ _|agg _|fv _ _ _|fn _ _|raw _|it _ _|np _ _|ap _ _ _ _|undef|dead|tup _|rp _ _|ptr _ _|ep _ _ _ _ _|dat _ _|own _|nilS=>exact(A2 H).elim
  |xor|plus=>exact(A2 H).elim
 |convert s t x=>
  have H:(match lk G.ty s with
   |some (.int _)=>match lk G.ty t with
    |some (.int k)=>match E x with
     |some (.int _ i)=>(chk k i).bind fun n=>K [.put (.int k n)]
     |_=>none
    |_=>none
   |_=>none)=some z:=H
  cases V:lk G.ty s with
  |none=>rw[V]at H;exact(A2 H).elim
  |some u=>
   rw[V]at H
   cases u with
   |int k0=>
    simp only at H
    cases J:lk G.ty t with
    |none=>rw[J]at H;exact(A2 H).elim
    |some u=>
     rw[J]at H
     cases u with
     |int k=>
      simp only at H
      cases hx:E x with
      |none=>rw[hx]at H;exact(A2 H).elim
      |some s=>
       rw[hx]at H
       cases s with
       |int k' i=>
        obtain⟨n,C,Q⟩:=bindS H
        exact⟨_,Q,fun U _ h=>AN4 h hN ((TyOk.at W.ty V).1 _ rfl) ((TyOk.at W.ty J).1 _ rfl) (U _ _ hx) C⟩
       |bool _|ary _ _ _|str _ _|agg _|fv _ _ _|fn _ _|raw _|it _ _|np _ _|ap _ _ _ _|undef|dead|tup _|rp _ _|ptr _ _|ep _ _ _ _ _|dat _ _|own _|nilS=>exact(A2 H).elim
     |bool|sl _|st _|arr _ _|mp _ _ _|fno _=>exact(A2 H).elim
   |bool|sl _|st _|arr _ _|mp _ _ _|fno _=>exact(A2 H).elim
 |binOp b t x y t'=>
  have H:(match E x with
   |some s=>match E y with
    |some s'=>AMh G R K b t s s'
    |none=>none
   |none=>none)=some z:=H
  cases hx:E x with
  |none=>rw[hx]at H;exact(A2 H).elim
  |some s=>
   rw[hx]at H
   simp only at H
   cases hy:E y with
   |none=>rw[hy]at H;exact(A2 H).elim
   |some s'=>rw[hy]at H;exact ARZ W hN hx hy H
 |indexAddr t x y=>
  have H:(match lk G.sl t with
   |some (_,e,_)=>match E y with
    |some (.int _ i)=>match E x with
     |some s=>iaS R K e i s
     |none=>none
    |_=>none
   |none=>match E y with
    |some (.int _ i)=>match E x with
     |some s=>iaA G K t i s
     |none=>none
    |_=>none)=some z:=H
  cases hl:lk G.sl t with
  |none=>
   rw[hl]at H
   simp only at H
   cases hy:E y with
   |none=>rw[hy]at H;exact(A2 H).elim
   |some s=>
    rw[hy]at H
    cases s with
    |int k i=>
     simp only at H
     cases hx:E x with
     |none=>rw[hx]at H;exact(A2 H).elim
     |some s=>rw[hx]at H;exact ATN W hN hx hy H
    |bool _|ary _ _ _|str _ _|agg _|fv _ _ _|fn _ _|raw _|it _ _|np _ _|ap _ _ _ _|undef|dead|tup _|rp _ _|ptr _ _|ep _ _ _ _ _|dat _ _|own _|nilS=>exact(A2 H).elim
  |some q=>
   obtain⟨e,u,b⟩:=q
   rw[hl]at H
   simp only at H
   cases hy:E y with
   |none=>rw[hy]at H;exact(A2 H).elim
   |some s=>
    rw[hy]at H
    cases s with
    |int k i=>
     simp only at H
     cases hx:E x with
     |none=>rw[hx]at H;exact(A2 H).elim
     |some s=>rw[hx]at H;exact ATM W hN hl hx hy H
    |bool _|ary _ _ _|str _ _|agg _|fv _ _ _|fn _ _|raw _|it _ _|np _ _|ap _ _ _ _|undef|dead|tup _|rp _ _|ptr _ _|ep _ _ _ _ _|dat _ _|own _|nilS=>exact(A2 H).elim
 |fieldAddr s x f=>
  have H:(match lk G.tb.st s with
   |some l=>match nth l f with
    |some (k,_)=>match E x with
     |some v=>match ASn k v with
      |some r=>K [.put r]
      |none=>none
     |none=>none
    |none=>none
   |none=>none)=some z:=H
  cases V:lk G.tb.st s with
  |none=>rw[V]at H;exact(A2 H).elim
  |some l=>
   rw[V]at H
   simp only at H
   cases J:nth l f with
   |none=>rw[J]at H;exact(A2 H).elim
   |some q=>
    obtain⟨k,u⟩:=q
    rw[J]at H
    simp only at H
    cases hx:E x with
    |none=>rw[hx]at H;exact(A2 H).elim
    |some v=>
     rw[hx]at H
     simp only at H
     cases v with
     |rp v o=>exact⟨_,H,fun U _ h=>ADO h W hN V J (U _ _ hx) (.inl ⟨v,o,rfl,rfl⟩)⟩
     |ptr i o=>exact⟨_,H,fun U _ h=>ADO h W hN V J (U _ _ hx) (.inr (.inl ⟨i,o,rfl,rfl⟩))⟩
     |ep i t ix q o=>exact⟨_,H,fun U _ h=>ADO h W hN V J (U _ _ hx) (.inr (.inr ⟨i,t,ix,q,o,rfl,rfl⟩))⟩
     |int _ _|bool _|ary _ _ _|str _ _|agg _|fv _ _ _|fn _ _|raw _|it _ _|np _ _|ap _ _ _ _|undef|dead|tup _|dat _ _|own _|nilS=>exact(A2 H).elim
 |field s x f=>
  have H:(match lk G.tb.st s with
   |some l=>match nth l f with
    |some (k,u)=>match E x with
     |some v=>match S6 G u k v with
      |some r=>match ADJ v with
       |true=>K [.put r]
       |false=>none
      |none=>none
     |none=>none
    |none=>none
   |none=>none)=some z:=H
  cases V:lk G.tb.st s with
  |none=>rw[V]at H;exact(A2 H).elim
  |some l=>
   rw[V]at H
   simp only at H
   cases J:nth l f with
   |none=>rw[J]at H;exact(A2 H).elim
   |some q=>
    obtain⟨k,u⟩:=q
    rw[J]at H
    simp only at H
    cases hx:E x with
    |none=>rw[hx]at H;exact(A2 H).elim
    |some v=>
     rw[hx]at H
     simp only at H
     cases C:S6 G u k v with
     |none=>rw[C]at H;exact(A2 H).elim
     |some r=>
      rw[C]at H
      simp only at H
      cases Q:ADJ v with
      |false=>rw[Q]at H;exact(A2 H).elim
      |true=>rw[Q]at H;exact⟨_,H,fun U _ h=>ARP h W hN V J (U _ _ hx) C Q⟩
 |extract x i=>
  have H:(match E x with
   |some (.tup l)=>match nth l i with
    |some s=>K [.put s]
    |none=>none
   |_=>none)=some z:=H
  cases hx:E x with
  |none=>rw[hx]at H;exact(A2 H).elim
  |some v=>
   rw[hx]at H
   cases v with
   |tup l=>
    simp only at H
    cases J:nth l i with
    |none=>rw[J]at H;exact(A2 H).elim
    |some s=>rw[J]at H;exact⟨_,H,fun U _ h=>AN5 h hN (U _ _ hx) J⟩
   |int _ _|bool _|ary _ _ _|str _ _|agg _|fv _ _ _|fn _ _|raw _|it _ _|np _ _|ap _ _ _ _|undef|dead|rp _ _|ptr _ _|ep _ _ _ _ _|dat _ _|own _|nilS=>exact(A2 H).elim
 |load t x=>
  have H:(match E x with
   |some v=>match AFU G R t v with
    |some s=>K [.put s]
    |none=>ldA G R K t v
   |none=>none)=some z:=H
  cases hx:E x with
  |none=>rw[hx]at H;exact(A2 H).elim
  |some v=>
   rw[hx]at H
   simp only at H
   cases J:AFU G R t v with
   |none=>rw[J]at H;exact ATO W hN hx H
   |some s=>rw[J]at H;exact⟨_,H,APc W hN hx J⟩
 |box t x=>
  have H:(match E x with
   |some s=>match R9 s with
    |some l=>K [.new d (.row t (subL d .dead l)),.put (.ptr d 0)]
    |none=>none
   |none=>none)=some z:=H
  cases hx:E x with
  |none=>rw[hx]at H;exact(A2 H).elim
  |some s=>
   rw[hx]at H
   simp only at H
   cases J:R9 s with
   |none=>rw[J]at H;exact(A2 H).elim
   |some l=>rw[J]at H;exact⟨_,H,fun U _ h=>AVM h hN (U _ _ hx) J⟩
 |alloc t=>
  have H:(match ABU G t with
   |some s=>match R9 s with
    |some l=>K [.new d (.row t (subL d .dead l)),.put (.ptr d 0)]
    |none=>none
   |none=>none)=some z:=H
  cases hx:ABU G t with
  |none=>rw[hx]at H;exact(A2 H).elim
  |some s=>
   rw[hx]at H
   simp only at H
   cases J:R9 s with
   |none=>rw[J]at H;exact(A2 H).elim
   |some l=>rw[J]at H;exact⟨_,H,fun _ _ h=>ARO h W hN hx J⟩
 |store t x y=>exact absurd rfl (hst t x y)
 |mapUpdate t x y u=>exact absurd rfl (X t x y u).1
 |insert t x y u=>exact absurd rfl (X t x y u).2
 |makeMap t r=>
  cases r with
  |some _=>exact(A2 H).elim
  |none=>exact ARf W hN H
 |lookup t x y cm=>
  have H:(match E x with
   |some sx=>match E y with
    |some sy=>AMj G R K t cm sx sy
    |none=>none
   |none=>none)=some z:=H
  cases hx:E x with
  |none=>rw[hx]at H;exact(A2 H).elim
  |some sx=>
   rw[hx]at H
   simp only at H
   cases hy:E y with
   |none=>rw[hy]at H;exact(A2 H).elim
   |some sy=>rw[hy]at H;exact ARg W hN hx hy H
 |build t ps=>
  have H:(match lk G.bd t with
   |some pl=>match ABU G t with
    |some (.agg l)=>match AD8 pl E ps.toList l with
     |some l'=>K [.put (.agg l')]
     |none=>none
    |_=>none
   |none=>none)=some z:=H
  cases V:lk G.bd t with
  |none=>rw[V]at H;exact(A2 H).elim
  |some pl=>
   rw[V]at H
   simp only at H
   cases J:ABU G t with
   |none=>rw[J]at H;exact(A2 H).elim
   |some s=>
    rw[J]at H
    cases s with
    |agg l=>
     simp only at H
     cases C:AD8 pl E ps.toList l with
     |none=>rw[C]at H;exact(A2 H).elim
     |some l'=>rw[C]at H;exact⟨_,H,fun U _ h=>ART h W hN U V J C⟩
    |int _ _|bool _|ary _ _ _|str _ _|tup _|fv _ _ _|fn _ _|raw _|it _ _|np _ _|ap _ _ _ _|undef|dead|rp _ _|ptr _ _|ep _ _ _ _ _|dat _ _|own _|nilS=>exact(A2 H).elim
 |buildSlice t n ps=>
  have I:(match lk G.sl t with
   |some (e,u,_)=>match lk G.sz e with
    |some m=>match evL E (ps.toList.map (·.2)) with
     |some ss=>match AAX u R ss with
      |some xs=>match frz R (ownsLL ss) with
       |some fz=>match AGH 0 ps.toList&&beq n ps.toList.length&&Nat.ble (n*m) 16777216 with
        |true=>K (fz++[.new d (.own false (.sl e u) xs),.put (.own d)])
        |false=>none
       |none=>none
      |none=>none
     |none=>none
    |none=>none
   |none=>none)=some z:=H
  cases hl:lk G.sl t with
  |none=>rw[hl]at I;exact(A2 I).elim
  |some q=>
   obtain⟨e,u,b⟩:=q
   rw[hl]at I
   simp only at I
   cases V:lk G.sz e with
   |none=>rw[V]at I;exact(A2 I).elim
   |some m=>
    rw[V]at I
    simp only at I
    cases J:evL E (ps.toList.map (·.2)) with
    |none=>rw[J]at I;exact(A2 I).elim
    |some ss=>
     rw[J]at I
     simp only at I
     cases C:AAX u R ss with
     |none=>rw[C]at I;exact(A2 I).elim
     |some xs=>
      rw[C]at I
      simp only at I
      cases Q:frz R (ownsLL ss) with
      |none=>rw[Q]at I;exact(A2 I).elim
      |some fz=>
       rw[Q]at I
       simp only at I
       cases B:(AGH 0 ps.toList&&beq n ps.toList.length&&Nat.ble (n*m) 16777216) with
       |false=>rw[B]at I;exact(A2 I).elim
       |true=>
        rw[B]at I
        simp only[Bool.and_eq_true]at B
        obtain⟨ps⟩:=ps
        exact⟨_,I,fun U D h=>AKB h W hN hl V (ACg U _ J) (AHI D u _ C) (Q1 D _ Q) B.1.1 (AX5 B.1.2) B.2⟩
 |makeSlice t x y=>
  have I:(match opB x y with
   |true=>match lk G.sl t with
    |some (e,u,b)=>match lk G.ty e with
     |some u'=>match decide (u'=u),AG4 u with
      |true,some z0=>match E x with
       |some (.int _ m)=>(mko b z0 m).bind fun xs=>K [.new d (.own false (.sl e u) xs),.put (.own d)]
       |_=>none
      |_,_=>none
     |none=>none
    |none=>none
   |false=>none)=some z:=H
  cases Y:opB x y with
  |false=>rw[Y]at I;exact(A2 I).elim
  |true=>
   rw[Y]at I
   simp only at I
   have L:=ATD Y
   cases hl:lk G.sl t with
   |none=>rw[hl]at I;exact(A2 I).elim
   |some q=>
    obtain⟨e,u,b⟩:=q
    rw[hl]at I
    simp only at I
    cases M:lk G.ty e with
    |none=>rw[M]at I;exact(A2 I).elim
    |some u'=>
     rw[M]at I
     simp only at I
     cases he:decide (u'=u) with
     |false=>rw[he]at I;exact(A2 I).elim
     |true=>
      have he':=AX6 he
      rw[he]at I
      cases S:AG4 u with
      |none=>rw[S]at I;exact(A2 I).elim
      |some z0=>
       rw[S]at I
       simp only at I
       cases hx:E x with
       |none=>rw[hx]at I;exact(A2 I).elim
       |some s=>
        rw[hx]at I
        cases s with
        |int k m=>
         obtain⟨xs,V,J⟩:=bindS I
         subst he';subst L
         exact⟨_,J,fun U _ h=>ALR h W hN hl M S (U _ _ hx) V⟩
        |bool _|ary _ _ _|str _ _|agg _|fv _ _ _|fn _ _|raw _|it _ _|np _ _|ap _ _ _ _|undef|dead|tup _|rp _ _|ptr _ _|ep _ _ _ _ _|dat _ _|own _|nilS=>exact(A2 I).elim
 |slice t x lo hi mx=>
  have I:(match lk G.sl t with
   |some (e,u,_)=>match E x with
    |some s=>match B9 R (.sl u) s with
     |some xs=>match (generalizing:=false) mx with
      |some m=>match (generalizing:=false) lo with
       |none=>match A9 s with
        |[]=>match (generalizing:=false) hi,m with
         |some (.const (.int _ i)),.const (.int _ j)=>match decide (i=0),decide (j=0) with
          |true,true=>K [.new d (.own false (.sl e u) []),.put (.own d)]
          |_,_=>none
         |_,_=>none
        |_=>none
       |some _=>none
      |none=>match frz R (A9 s) with
       |some fz=>match (generalizing:=false) lo with
        |some y=>match (generalizing:=false) hi with
         |none=>match E y with
          |some (.int _ i)=>(AGx (show List (den u) from xs) i).bind fun l=>K (fz++[.put (.dat (.sl u) l)])
          |_=>none
         |some _=>none
        |none=>match (generalizing:=false) hi with
         |some y=>match E y with
          |some (.int _ i)=>(ABR (show List (den u) from xs) i).bind fun l=>match tkQ G.ct d R e u s with
           |some (j,p)=>K [.hnd j (.own p (.sl e u) l),.put (.own j)]
           |none=>K (fz++[.put (.dat (.sl u) l)])
          |_=>none
         |none=>none
       |none=>none
     |none=>none
    |none=>none
   |none=>none)=some z:=H
  cases hl:lk G.sl t with
  |none=>rw[hl]at I;exact(A2 I).elim
  |some q=>
   obtain⟨e,u,b⟩:=q
   rw[hl]at I
   simp only at I
   cases hx:E x with
   |none=>rw[hx]at I;exact(A2 I).elim
   |some s=>
    rw[hx]at I
    simp only at I
    cases hd:B9 R (.sl u) s with
    |none=>rw[hd]at I;exact(A2 I).elim
    |some xs=>
     rw[hd]at I
     simp only at I
     cases mx with
     |some m=>
      cases lo with
      |some _=>exact(A2 I).elim
      |none=>
       simp only at I
       cases Y:A9 s with
       |cons _ _=>rw[Y]at I;exact(A2 I).elim
       |nil=>
        rw[Y]at I
        simp only at I
        split at I
        . rename_i k i k' j
          split at I
          . rename_i hi Z
            have hi:=AX6 hi
            have Z:=AX6 Z
            subst hi;subst Z
            exact⟨_,I,fun U D h=>ATG h W hN hl (U _ _ hx) (E8 D _ _ hd) Y⟩
          . exact(A2 I).elim
        . exact(A2 I).elim
     |none=>
      simp only at I
      cases O:frz R (A9 s) with
      |none=>rw[O]at I;exact(A2 I).elim
      |some fz=>
       rw[O]at I
       simp only at I
       cases lo with
       |some y=>
        cases hi with
        |some _=>exact(A2 I).elim
        |none=>
         simp only at I
         cases hy:E y with
         |none=>rw[hy]at I;exact(A2 I).elim
         |some s'=>
          rw[hy]at I
          cases s' with
          |int k i=>
           obtain⟨l,V,J⟩:=bindS I
           exact⟨_,J,fun U D h=>ATE h W hN hl (U _ _ hx) (E8 D _ _ hd) (Q1 D _ O) (U _ _ hy) V⟩
          |bool _|ary _ _ _|str _ _|agg _|fv _ _ _|fn _ _|raw _|it _ _|np _ _|ap _ _ _ _|undef|dead|tup _|rp _ _|ptr _ _|ep _ _ _ _ _|dat _ _|own _|nilS=>exact(A2 I).elim
       |none=>
        cases hi with
        |none=>exact(A2 I).elim
        |some y=>
         simp only at I
         cases hy:E y with
         |none=>rw[hy]at I;exact(A2 I).elim
         |some s'=>
          rw[hy]at I
          cases s' with
          |int k i=>
           obtain⟨l,V,J⟩:=bindS I
           cases T:tkQ G.ct d R e u s with
           |none=>
            rw[T]at J
            exact⟨_,J,fun U D h=>ATF h W hN hl (U _ _ hx) (E8 D _ _ hd) (Q1 D _ O) (U _ _ hy) V⟩
           |some jp=>
            obtain⟨j,p⟩:=jp
            rw[T]at J
            obtain⟨rfl,Z⟩:=ARU T hd
            exact⟨_,J,fun U D h=>ARV h W hN hl (U _ _ hx) (D _ _ Z) (U _ _ hy) V⟩
          |bool _|ary _ _ _|str _ _|agg _|fv _ _ _|fn _ _|raw _|it _ _|np _ _|ap _ _ _ _|undef|dead|tup _|rp _ _|ptr _ _|ep _ _ _ _ _|dat _ _|own _|nilS=>exact(A2 I).elim
 |makeFunc f fs cs=>
  cases f with
  |func g=>
   have H:(match fs.toList with
    |[]=>match evL E cs.toList with
     |some l=>K [.put (.fn g l)]
     |none=>none
    |_=>none)=some z:=H
   obtain⟨fs⟩:=fs
   obtain⟨cs⟩:=cs
   simp only at H
   cases fs with
   |cons _ _=>exact(A2 H).elim
   |nil=>
    simp only at H
    cases J:evL E cs with
    |none=>rw[J]at H;exact(A2 H).elim
    |some l=>rw[J]at H;exact⟨_,H,fun U _ h=>AMz h hN (ACg U _ J)⟩
  |_=>exact(A2 H).elim
 |call c=>
  obtain⟨c,args,ts⟩:=c
  cases c with
  |builtin b=>
   have H:(match evL E args.toList with
    |some ss=>AEA G d R K b ss ts.toList
    |none=>none)=some z:=H
   cases V:evL E args.toList with
   |none=>rw[V]at H;exact(A2 H).elim
   |some ss=>rw[V]at H;exact ARi W hN (fun e=>by subst e;exact hdl args ts rfl) V H
  |invoke _ _=>exact(A2 H).elim
  |value f=>
   have H:(match fvN G (E f) with
    |some (.fn g caps)=>match evL E args.toList with
     |some ss=>S7 (ss++caps) fun ss'=>AG1 G d R K g ss'
     |none=>none
    |some (.fv a r f)=>match evL E args.toList with
     |some ss=>match Y4 r a f R ss with
      |some o=>match frz R (ownsLL ss) with
       |some fz=>Option.bind o fun y=>K (fz++[.put (G0 r y)])
       |none=>none
      |none=>none
     |none=>none
    |_=>none)=some z:=H
   cases O:fvN G (E f) with
   |none=>rw[O]at H;exact(A2 H).elim
   |some s=>
    rw[O]at H
    cases s with
    |fn g caps=>
     simp only at H
     cases V:evL E args.toList with
     |none=>rw[V]at H;exact(A2 H).elim
     |some ss=>
      rw[V]at H
      obtain⟨ss',hc',hop⟩:=AAl (P:=P) H
      exact AKL W (d:=some d) hN hop (AOF O) V hc'
    |fv a r F=>
     simp only at H
     cases V:evL E args.toList with
     |none=>rw[V]at H;exact(A2 H).elim
     |some ss=>
      rw[V]at H
      simp only at H
      cases J:Y4 r a F R ss with
      |none=>rw[J]at H;exact(A2 H).elim
      |some o=>
       rw[J]at H
       simp only at H
       cases C:frz R (ownsLL ss) with
       |none=>rw[C]at H;exact(A2 H).elim
       |some fz=>rw[C]at H;exact AKM (d:=some d) hN W O V J C H
    |int _ _|bool _|ary _ _ _|str _ _|agg _|raw _|it _ _|np _ _|ap _ _ _ _|undef|dead|tup _|rp _ _|ptr _ _|ep _ _ _ _ _|dat _ _|own _|nilS=>exact(A2 H).elim
 |_=>exact(A2 H).elim
theorem AIj{op:Op}(h:ACU N op (some d)=true):blt d N=true/\(∀t x y,op≠.store t x y)/\(∀t x y u,op≠.mapUpdate t x y u/\op≠.insert t x y u)/\(∀xs ts,op≠.call ⟨.builtin .delete,xs,ts⟩):=by
 have H:∀t x y,op≠.store t x y:=fun t x y e=>by subst e;cases h
 have hm:∀t x y u,op≠.mapUpdate t x y u/\op≠.insert t x y u:=fun t x y u=>⟨fun e=>(by subst e;cases h),fun e=>(by subst e;cases h)⟩;have hd:∀xs ts,op≠.call ⟨.builtin .delete,xs,ts⟩:=fun xs ts e=>by subst e;cases h
 refine⟨?_,H,hm,hd⟩;cases op with
 |store t x y=>exact absurd rfl (H _ _ _)
 |mapUpdate t x y u=>exact absurd rfl (hm _ _ _ _).1
 |insert t x y u=>exact absurd rfl (hm _ _ _ _).2
 |call c=>
  obtain⟨c,a,t⟩:=c
  cases c with
  |builtin b=>
   cases b with
   |delete=>exact absurd rfl (hd _ _)
   |_=>exact h
  |_=>exact h
 |_=>exact h
theorem AH8[Fx][Sl (P:=P)](W:GxOk P G){d:Option Nat}{op:Op}(hN:ACU N op d=true)(H:AE4 G (AAx d) E R K op=some z):∃as_,K as_=some z/\Does P N d op E R as_:=by
 cases d with
 |some d=>
  obtain⟨I,J,C,B⟩:=AIj hN
  exact APd W (d:=d) I J C B H
 |none=>
  cases op with
  |store t x y=>
   have H:(match E y with
    |some s=>match R9 s with
     |some ns=>match szB G t ns with
      |true=>match E x with
       |some a=>APF R K ns a
       |none=>none
      |false=>none
     |none=>none
    |none=>none)=some z:=H
   cases hy:E y with
   |none=>rw[hy]at H;exact(A2 H).elim
   |some s=>
    rw[hy]at H
    simp only at H
    cases I:R9 s with
    |none=>rw[I]at H;exact(A2 H).elim
    |some ns=>
     rw[I]at H
     simp only at H
     cases J:szB G t ns with
     |false=>rw[J]at H;exact(A2 H).elim
     |true=>
      rw[J]at H
      simp only at H
      cases hx:E x with
      |none=>rw[hx]at H;exact(A2 H).elim
      |some a=>
       rw[hx]at H
       obtain⟨n,C,B⟩:=APT J
       exact ARb W hy I C B hx H
  |call c=>
   obtain⟨c,args,ts⟩:=c
   cases c with
   |builtin b=>
    cases b with
    |delete=>
     have D:(match evL E args.toList with
      |some ss=>AEA G 0 R K .delete ss ts.toList
      |none=>none)=some z:=H
     cases I:evL E args.toList with
     |none=>rw[I]at D;exact(A2 D).elim
     |some ss=>
      rw[I]at D
      clear H
      obtain⟨xs⟩:=args
      obtain⟨ts⟩:=ts
      have X:evL E xs=some ss:=I
      have U:AEA G 0 R K .delete ss ts=some z:=D
      unfold AEA at U
      split at U
      . rename_i e;cases e
      . obtain⟨x,y,rfl,T,Q⟩:=AJI X
        exact ARh W T Q U
      . rename_i e;cases e
      . rename_i e;cases e
      . rename_i e;cases e
      . exact(A2 U).elim
    |_=>cases hN
   |invoke _ _=>cases hN
   |value f=>
    have H:(match fvN G (E f) with
     |some (.fn g caps)=>match evL E args.toList with
      |some ss=>S7 (ss++caps) fun ss'=>AG1 G 0 R K g ss'
      |none=>none
     |some (.fv a r f)=>match evL E args.toList with
      |some ss=>match Y4 r a f R ss with
       |some o=>match frz R (ownsLL ss) with
        |some fz=>Option.bind o fun y=>K (fz++[.put (G0 r y)])
        |none=>none
       |none=>none
      |none=>none
     |_=>none)=some z:=H
    cases O:fvN G (E f) with
    |none=>rw[O]at H;exact(A2 H).elim
    |some s=>
     rw[O]at H
     cases s with
     |fn g caps=>
      simp only at H
      cases I:evL E args.toList with
      |none=>rw[I]at H;exact(A2 H).elim
      |some ss=>
       rw[I]at H
       obtain⟨ss',A,Y⟩:=AAl (P:=P) H
       exact AKL W (d:=none) rfl Y (AOF O) I A
     |fv a r F=>
      simp only at H
      cases I:evL E args.toList with
      |none=>rw[I]at H;exact(A2 H).elim
      |some ss=>
       rw[I]at H
       simp only at H
       cases J:Y4 r a F R ss with
       |none=>rw[J]at H;exact(A2 H).elim
       |some o=>
        rw[J]at H
        simp only at H
        cases C:frz R (ownsLL ss) with
        |none=>rw[C]at H;exact(A2 H).elim
        |some fz=>rw[C]at H;exact AKM (d:=none) rfl W O I J C H
     |int _ _|bool _|ary _ _ _|str _ _|agg _|raw _|it _ _|np _ _|ap _ _ _ _|undef|dead|tup _|rp _ _|ptr _ _|ep _ _ _ _ _|dat _ _|own _|nilS=>exact(A2 H).elim
  |mapUpdate t x y u=>
   have H:(match E x with
    |some sx=>match E y with
     |some sy=>match E u with
      |some su=>AHz G R K t sx sy su
      |none=>none
     |none=>none
    |none=>none)=some z:=H
   cases hx:E x with
   |none=>rw[hx]at H;exact(A2 H).elim
   |some sx=>
    rw[hx]at H
    simp only at H
    cases hy:E y with
    |none=>rw[hy]at H;exact(A2 H).elim
    |some sy=>
     rw[hy]at H
     simp only at H
     cases V:E u with
     |none=>rw[V]at H;exact(A2 H).elim
     |some su=>rw[V]at H;exact ALr W hx hy V H
  |insert t x y u=>
   have H:(match E x with
    |some sx=>match E y with
     |some sy=>match E u with
      |some su=>AHz G R K t sx sy su
      |none=>none
     |none=>none
    |none=>none)=some z:=H
   cases hx:E x with
   |none=>rw[hx]at H;exact(A2 H).elim
   |some sx=>
    rw[hx]at H
    simp only at H
    cases hy:E y with
    |none=>rw[hy]at H;exact(A2 H).elim
    |some sy=>
     rw[hy]at H
     simp only at H
     cases V:E u with
     |none=>rw[V]at H;exact(A2 H).elim
     |some su=>rw[V]at H;obtain⟨as_,I,J⟩:=ALr W hx hy V H;exact⟨as_,I,J.ins⟩
  |_=>cases hN
def AH9(σ:AS)(kp:List Nat):Prop:=∀i∈kp,i∉σ.kl/\∃a,A1 σ.res i=some a
def Wk(P:Program)[Se P](σ:AS)(s s':SV):Prop:=∀kp,AH9 σ kp->∀(ρ:Nat->Value) R M w v,Ok (P:=P) ρ R M w (J9 kp s') v->Ok (P:=P) ρ R M w (J9 kp s) v
def RelA(P:Program)[Se P](σ:AS)(i:Nat):AR->AR->Prop
 |.own p c x,a=>∃y:den c.ty,a=.own p c y/\((i,0)∉σ.ch->y=x)
 |.row e l,a=>∃l',a=.row e l'/\l'.length=l.length/\∀n s',l'[n]?=some s'->(i,n+1)∉σ.ch->∃s,l[n]?=some s/\Wk P σ s s'
structure Rel(P:Program)[Se P](W:List Nat)(σ σ':AS):Prop where
 kl:∀i∈σ.kl,i∈σ'.kl
 ch:∀c∈σ.ch,c∈σ'.ch
 dom:∀i a',A1 σ'.res i=some a'->i∉σ'.kl->∃a,A1 σ.res i=some a/\RelA P σ' i a a'
 env:∀t,t∉W->∀s,A1 σ.env t=some s->∃s',A1 σ'.env t=some s'/\Wk P σ' s s'
variable{σ:AS}{i:Nat}{W:List Nat}{σ':AS}{s:SV}{p:Rp}{j:Nat}
theorem Wk.refl(s:SV):Wk P σ s s:=fun _ _ _ _ _ _ _ h=>h
theorem RelA.refl:∀a:AR,RelA P σ i a a
 |.own _ _ xs=>⟨xs,rfl,fun _=>rfl⟩
 |.row _ l=>⟨l,rfl,rfl,fun _ s' h _=>⟨s',h,Wk.refl s'⟩⟩
theorem Rel.refl(σ:AS):Rel P W σ σ:=⟨fun _ h=>h,fun _ h=>h,fun _ a h _=>⟨a,h,RelA.refl a⟩,fun _ _ s h=>⟨s,h,Wk.refl s⟩⟩
theorem Rel.live(h:Rel P W σ σ'){kp:List Nat}(hk:AH9 σ' kp):AH9 σ kp:=fun i hi=>by
 obtain⟨H,a,J⟩:=hk i hi;obtain⟨b,I,_⟩:=h.dom i a J H;exact⟨fun hk=>H (h.kl i hk),b,I⟩
theorem Wk.trans(h:Rel P W σ σ'){s s1 s2:SV}(I:Wk P σ s s1)(H:Wk P σ' s1 s2):Wk P σ' s s2:=fun kp hk ρ R M w v hv=>I kp (h.live hk) ρ R M w v (H kp hk ρ R M w v hv)
theorem Rel.mono{W W':List Nat}(h:Rel P W σ σ')(H:∀t∈W,t∈W'):Rel P W' σ σ':=⟨h.kl,h.ch,h.dom,fun t I=>h.env t fun hm=>I (H t hm)⟩
theorem Rel.trans{σ σ1 σ2:AS}(h:Rel P W σ σ1)(k:Rel P W σ1 σ2):Rel P W σ σ2:=by
 refine⟨fun i hi=>k.kl i (h.kl i hi),fun c H=>k.ch c (h.ch c H),fun i a' hi T=>?_,fun t Q s Y=>?_⟩
 . obtain⟨a1,O,J⟩:=k.dom i a' hi T;obtain⟨a,D,I⟩:=h.dom i a1 O fun hm=>T (k.kl i hm);refine⟨a,D,?_⟩;cases a with
   |own p c xs=>
    obtain⟨ys,rfl,C⟩:=I
    obtain⟨zs,rfl,V⟩:=J
    exact⟨zs,rfl,fun H=>(V H).trans (C fun hm=>H (k.ch _ hm))⟩
   |row e l=>
    obtain⟨l1,rfl,C,V⟩:=I
    obtain⟨l2,rfl,G,B⟩:=J
    refine⟨l2,rfl,G.trans C,fun n s' U H=>?_⟩
    obtain⟨s1,A,K⟩:=B n s' U H
    obtain⟨s,F,E⟩:=V n s1 A fun hm=>H (k.ch _ hm)
    exact⟨s,F,Wk.trans k E K⟩
 . obtain⟨s1,O,J⟩:=h.env t Q s Y;obtain⟨s2,D,I⟩:=k.env t Q s1 O;exact⟨s2,D,Wk.trans k J I⟩
theorem APe{kp:List Nat}(h:AH9 σ kp)(hi:i∈σ.kl):has kp i=false:=by
 cases H:has kp i with
 |false=>rfl
 |true=>exact absurd hi (h i (has_iff.1 H)).1
theorem Wk.sub(hi:i∈σ.kl)(s:SV):Wk P σ s (subS i p s):=fun _ hk _ _ _ _ _ h=>Ok.kexSub (APe hk hi) s h
theorem Wk.old(s:SV):Wk P σ s (oldS i s):=fun _ _ _ _ _ _ _ h=>by rwa [AFZ]at h
theorem AKN{i:Nat}{p:Rp}:∀{l:List SV} {n:Nat},(subL i p l)[n]?=(l[n]?).map (subS i p)
 |[],_=>rfl
 |s::l,0=>rfl
 |s::l,n+1=>by simpa[subL] using AKN (l:=l)
theorem AKO{i:Nat}:∀{l:List SV} {n:Nat},(oldL i l)[n]?=(l[n]?).map (oldS i)
 |[],_=>rfl
 |s::l,0=>rfl
 |s::l,n+1=>by simpa[oldL] using AKO (l:=l)
theorem subL_len{i:Nat}{p:Rp}:∀{l:List SV},(subL i p l).length=l.length
 |[]=>rfl
 |s::l=>by simp[subL,subL_len (l:=l)]
theorem oldL_len{i:Nat}:∀{l:List SV},(oldL i l).length=l.length
 |[]=>rfl
 |s::l=>by simp[oldL,oldL_len (l:=l)]
theorem RelA.sub(hi:i∈σ.kl):∀a:AR,RelA P σ j a (a.sub i p)
 |.own _ _ xs=>⟨xs,rfl,fun _=>rfl⟩
 |.row _ l=>⟨subL i p l,rfl,subL_len,fun n s' h _=>by
  rw[AKN]at h;cases H:l[n]? with
  |none=>rw[H]at h;cases h
  |some s=>
   rw[H]at h
   have h:subS i p s=s':=AXz h
   subst h
   exact⟨s,rfl,Wk.sub hi s⟩⟩
theorem RelA.old:∀a:AR,RelA P σ j a (a.old i)
 |.own _ _ xs=>⟨xs,rfl,fun _=>rfl⟩
 |.row _ l=>⟨oldL i l,rfl,oldL_len,fun n s' h _=>by
  rw[AKO]at h;cases H:l[n]? with
  |none=>rw[H]at h;cases h
  |some s=>
   rw[H]at h
   have h:oldS i s=s':=AXz h
   subst h
   exact⟨s,rfl,Wk.old s⟩⟩
theorem AIA{l:List (Nat×SV)}{i t:Nat}(hi:i∈σ.kl)(h:A1 l t=some s):∃s',A1 (AAu i p l) t=some s'/\Wk P σ s s':=⟨subS i p s,by rw[W6,h];rfl,Wk.sub hi s⟩
theorem AIB{l:List (Nat×AR)}{a':AR}(hi:i∈σ.kl)(h:A1 (R3 i p l) j=some a'):∃a,A1 l j=some a/\RelA P σ j a a':=by
 rw[fnd_subR]at h;cases H:A1 l j with
 |none=>rw[H]at h;cases h
 |some a=>
  rw[H]at h
  have h:a.sub i p=a':=AXz h
  subst h
  exact⟨a,rfl,RelA.sub hi a⟩
theorem logC_mem{i:Nat}{l:List (Nat×Nat)}:∀{c:List Nat} {x:Nat×Nat},x∈AJk i c l↔(x.1=i/\x.2∈c)\/x∈l
 |[],x=>by simp[AJk]
 |n::r,x=>by
  simp only[AJk,mem_cons,logC_mem (c:=r),Prod.ext_iff];constructor
  . rintro (⟨I,H⟩|⟨I,H⟩|h)
    . exact .inl ⟨I,.inl H⟩
    . exact .inl ⟨I,.inr H⟩
    . exact .inr h
  . rintro (⟨I,H|H⟩|h)
    . exact .inl ⟨I,H⟩
    . exact .inr (.inl ⟨I,H⟩)
    . exact .inr (.inr h)
theorem AIk:∀(ns l:List SV) {l':List SV},overL l ns=some l'->l'.length=l.length/\∀n,ns.length<=n->l'[n]?=l[n]?
 |[],l,l',h=>by
  have h:some l=some l':=by cases l<;>exact h
  cases h;exact⟨rfl,fun _ _=>rfl⟩
 |_::_,[],_,h=>(A2 h).elim
 |n::ns,s::l,l',h=>by
  simp only[overL]at h;cases I:beq (wd s) (wd n) with
  |false=>simp only[I]at h;exact(A2 h).elim
  |true=>
   simp only[I]at h
   cases H:wd n with
   |zero=>simp only[H]at h;exact(A2 h).elim
   |succ m=>
    simp only[H]at h
    cases hx:overL l ns with
    |none=>simp only[hx]at h;exact(A2 h).elim
    |some x=>
     simp only[hx]at h
     have h:=AXz h
     subst h
     obtain⟨U,J⟩:=AIk ns l hx
     refine⟨by simp[U],fun k hk=>?_⟩
     cases k with
     |zero=>simp at hk
     |succ k=>simpa using J k (by simpa using hk)
theorem AKP:∀(l:List SV) (o:Nat) {ns l':List SV},setW l o ns=some l'->l'.length=l.length/\∀n,n<entry l o\/entry l o+ns.length<=n->l'[n]?=l[n]?
 |l,0,ns,l',h=>by
  have h:overL l ns=some l':=by cases l<;>exact h
  obtain⟨U,J⟩:=AIk ns l h;refine⟨U,fun n V=>J n ?_⟩;have:entry l 0=0:=by cases l<;>rfl
  rw[this]at V;omega
 |[],_+1,_,_,h=>(A2 h).elim
 |s::l,o+1,ns,l',h=>by
  simp only[setW]at h;cases H:wd s with
  |zero=>simp only[H]at h;exact(A2 h).elim
  |succ n=>
   simp only[H]at h
   cases I:Nat.ble n o with
   |false=>simp only[I]at h;exact(A2 h).elim
   |true=>
    simp only[I]at h
    cases hx:setW l (o-n) ns with
    |none=>simp only[hx]at h;exact(A2 h).elim
    |some x=>
     simp only[hx]at h
     have h:=AXz h
     subst h
     obtain⟨U,J⟩:=AKP l (o-n) hx
     refine⟨by simp[U],fun k hk=>?_⟩
     simp only[entry,H,I,cond_true]at hk
     cases k with
     |zero=>rfl
     |succ k=>simpa using J k (by omega)
theorem Rel.upd{g:AR->AR}{c:List Nat}(h:∀a,A1 σ.res i=some a->RelA P (σ.upd i g c) i a (g a)):Rel P W σ (σ.upd i g c):=by
 refine⟨fun _ hk=>hk,fun x hx=>logC_mem.2 (.inr hx),fun j a' H _=>?_,fun t _ s J=>?_⟩
 . rw[AH4]at H;by_cases e:j=i
   . subst e;rw[AYB rfl]at H;cases I:A1 σ.res j with
     |none=>rw[I]at H;cases H
     |some a=>
      rw[I]at H
      have H:g a=a':=AXz H
      subst H
      exact⟨a,rfl,h a I⟩
   . rw[if_neg e]at H;cases I:A1 σ.res j with
     |none=>rw[I]at H;cases H
     |some a=>
      rw[I]at H
      have H:a.old i=a':=AXz H
      subst H
      exact⟨a,rfl,RelA.old a⟩
 . exact⟨oldS i s,by show A1 (AEu i σ.env) t=_;rw[ACa,J];rfl,Wk.old s⟩
theorem Rel.act(d:Option Nat)(σ:AS)(a:Ac)(hd:∀t,d=some t->t∈W):Rel P W σ (a.app d σ):=by
 cases a with
 |put s=>
  cases d with
  |none=>exact Rel.refl σ
  |some d=>
   refine⟨fun _ h=>h,fun _ h=>h,fun _ a h _=>⟨a,h,RelA.refl a⟩,fun t F s' J=>⟨s',?_,Wk.refl s'⟩⟩
   show A1 ((d,s)::σ.env) t=_
   rw[fnd_cons,if_neg (show ¬d=t from fun e=>F (e▸hd d rfl))]
   exact J
 |new i r=>
  have hi:i∈((Ac.new i r).app d σ).kl:=AX4 ..
  refine⟨fun _ h=>AX0 _ h,fun _ h=>h,fun j a' H V=>?_,fun t _ s J=>AIA hi J⟩
  have H:A1 ((i,r)::U6 i (R3 i .dead σ.res)) j=some a':=H
  have I:j≠i:=fun e=>V (e▸hi)
  rw[fnd_cons,if_neg (fun e=>I e.symm),fnd_rdel,if_neg I]at H
  exact AIB hi H
 |sto i o ns=>
  refine Rel.upd fun a D=>?_
  cases a with
  |own p c xs=>exact RelA.refl _
  |row e l=>
   cases U:setW l o ns with
   |none=>simp only[AAO,U];exact RelA.refl _
   |some l'=>
    obtain⟨O,K⟩:=AKP l o U
    simp only[AAO,U]
    refine⟨l',rfl,O,fun n s' J C=>⟨s',?_,Wk.refl s'⟩⟩
    rw[<-K n ?_];exact J
    rcases AYF n (entry l o) with h|h
    . exact .inl h
    . right
      rcases AYF n (entry l o+ns.length) with E|E
      . exact absurd (logC_mem.2 (.inl ⟨rfl,by rw[D];exact List.mem_range'.2 ⟨n-entry l o,by omega,by omega⟩⟩)) C
      . exact E
 |cnt i c xs=>
  refine Rel.upd fun a D=>?_
  cases a with
  |row _ _=>exact RelA.refl _
  |own p c' zs=>
   cases U:castO c c' xs with
   |none=>simp only[Y2,U];exact RelA.refl _
   |some ys=>
    simp only[Y2,U]
    exact⟨ys,rfl,fun C=>absurd (logC_mem.2 (.inl ⟨rfl,by simp⟩)) C⟩
 |hnd i r=>
  have hi:i∈((Ac.hnd i r).app d σ).kl:=AX4 ..
  refine⟨fun _ h=>AX0 _ h,fun _ h=>h,fun j a' H V=>?_,fun t _ s J=>AIA hi J⟩
  have H:A1 (ADI i r (R3 i .dead σ.res)) j=some a':=H
  have I:j≠i:=fun e=>V (e▸hi)
  rw[ACb,if_neg I]at H
  exact AIB hi H
 |del i p=>
  have hi:i∈((Ac.del i p).app d σ).kl:=AX4 ..
  refine⟨fun _ h=>AX0 _ h,fun _ h=>h,fun j a' H V=>?_,fun t _ s J=>AIA hi J⟩
  have H:A1 (U6 i (R3 i p σ.res)) j=some a':=H
  have I:j≠i:=fun e=>V (e▸hi)
  rw[fnd_rdel,if_neg I]at H
  exact AIB hi H
theorem Z5(d:Option Nat){W:List Nat}(hd:∀t,d=some t->t∈W):∀(as_:List Ac) (σ:AS),Rel P W σ (apps d as_ σ)
 |[],σ=>Rel.refl σ
 |a::as_,σ=>(Rel.act d σ a hd).trans (Z5 d hd as_ _)
theorem ABV{N:Nat}{A B:A3}{X:Nat->A3}{Z:List PanicEntry->A3}:¬LetsOut (R1 N A B X Z):=fun⟨_,_,h⟩=>h
theorem ACh{o:Oper}{a:Act}{w:World}{next next':Act->World->Prop}{Q Q':Exit->Act->World->Prop}(h:o.wp P a w next Q)(hn:∀a w,next a w->next' a w)(hq:∀c a w,Q (.panic c) a w->Q' (.panic c) a w)(hl:¬LetsOut Q):o.wp P a w next' Q':=by
 unfold Oper.wp at h ⊢;generalize (execOp a.eval o).run P w=r at h;cases r with
 |ok n w2=>
  cases n<;>simp only[Oper.upon]at h ⊢
  case value u=>exact hn _ _ h
  case skip=>exact hn _ _ h
  case defer d=>exact hn _ _ h
  case enter f args=>
   refine Calls.mono h fun e w3 he=>?_
   cases e with
   |returned u=>exact hn _ _ he
   |panicked c=>exact hq _ _ _ he
   |outgrown=>exact absurd he hl
  case row row args=>exact Rows.mono h fun u w3 he=>hn _ _ he
 |halt x w2=>
  cases x<;>simp only[Oper.upon]at h ⊢
  case panic u=>exact hq _ _ _ h
variable{ops:Array Oper}{ds:List Deferred}{L:A7}{w:World}{A B:A3}{X:Nat->A3}{Z:List PanicEntry->A3}{rest:List Oper}
theorem APf{o:Oper}(W:o.guard=none)(h:Reg P N ops .seq [o] ds L w (fun ds' L' w'=>Reg P N ops .seq rest ds' L' w' A B X Z) B X Z):Reg P N ops .seq (o::rest) ds L w A B X Z:=fun a C=>by
 have H:=h a C;simp only[wpList]at H ⊢;have J:Region.wanted o (yielded ops a.tmps)=true:=by simp[Region.wanted,W]
 rw[AYB J]at H ⊢;refine .inl (ACh (H.resolve_right fun V=>ABV V.2) ?_ ?_ ABV)
 . rintro a' w' ⟨ds',L',hk,U⟩;exact U a' hk
 . exact fun c a w I=>I
theorem Reg.skip{o:Oper}(hN:∀d,o.dst=some d->blt d N=true)(I:∀a,Knows N ds L a->Region.wanted o (yielded ops a.tmps)=false)(h:Reg P N ops .seq rest ds (match o.dst with|some d=>(d,undef)::L|none=>L) w A B X Z):Reg P N ops .seq (o::rest) ds L w A B X Z:=fun a H=>by
 simp only[wpList,I a H,Bool.false_eq_true,if_false];cases hd:o.dst with
 |none=>rw[hd]at h;exact h a H
 |some d=>rw[hd]at h;exact h _ (H.put (hN d hd) _)
variable{w0:World}{Mu M:List Nat}{S:List Res}{ρ:Nat->Value}{γ:Nat->List Value}{μ:Nat->List Nat}{ι:Nat->Nat}
theorem AKQ{l:List (Nat×SV)}{t:Nat}{s:SV}(h:A1 l t=some s)(u:Nat):A1 ((t,s)::l) u=A1 l u:=by
 rw[fnd_cons];split
 . rename_i e;subst e;exact h.symm
 . rfl
theorem HS.same[Fx](h:HS w0 Mu M σ L w S ρ γ μ ι){l:List (Nat×SV)}(hl:∀t,A1 l t=A1 σ.env t):HS w0 Mu M { σ with env:=l } L w S ρ γ μ ι:=
 ⟨h.hp,h.res,h.inj,h.row,fun t s H=>h.env t s (by rw[<-hl];exact H),h.anch⟩
theorem Rel.same{W:List Nat}{l:List (Nat×SV)}(hl:∀t,A1 l t=A1 σ.env t):Rel P W σ { σ with env:=l }:=
 ⟨fun _ h=>h,fun _ h=>h,fun _ a h _=>⟨a,h,RelA.refl a⟩,fun t _ s H=>⟨s,(hl t).trans H,Wk.refl s⟩⟩
theorem ALs{N:Nat}{op:Op}{d:Option Nat}(h:ACU N op d=true):∀t,d=some t->blt t N=true:=fun t H=>by
 subst H;exact(AIj h).1
theorem AC9{ops:List Oper}{j t:Nat}(h:AB5 ops j=some t):((toArray ops)[j]?).bind (·.dst)=some t:=by
 unfold AB5 at h;rw[AAt]at h;simp only[List.getElem?_toArray];cases H:ops[j]? with
 |none=>rw[H]at h;exact(A2 h).elim
 |some o=>rw[H]at h;exact h
theorem S9[Fx][Sl (P:=P)]{G:Gx}(hG:GxOk P G){N:Nat}{ops:List Oper}{Y:Type}{K:AS->Option Y}{z:Y}{ds:List Deferred}{A B:A3}{X:Nat->A3}{Z:List PanicEntry->A3}{W:List Nat}:
  ∀(l:List Oper) (σ:AS) (L:A7) (w:World),C6 G N ops K l σ=some z->(∀t∈C1 l,t∈W)->Holds w0 Mu M σ L w ->
   (∀σ' L' w',K σ'=some z->Rel P W σ σ'->EnvS W L L'->Holds w0 Mu M σ' L' w'->A ds L' w')->Reg P N (toArray ops) .seq l ds L w A B X Z
 |[],σ,L,w,h,_,k,hA=>Reg.nil (hA σ L w h (Rel.refl σ) (EnvS.refl _ _) k)
 |o::r,σ,L,w,h,q,k,hA=>by
  simp only[C6]at h;have e:∀t∈C1 r,t∈W:=fun t H=>q t (by
   simp only[C1];cases o.dst with
   |none=>exact H
   |some d=>exact AX0 _ H)
  have p:∀t∈o.dst.toList,t∈W:=fun t H=>q t (by
   cases hd:o.dst with
   |none=>rw[hd]at H;cases H
   |some d=>
    rw[hd]at H
    have H:t∈[d]:=H
    rw[mem_singleton.1 H]
    simp only[C1,hd];exact AX4 ..)
  have E:∀t,o.dst=some t->t∈W:=fun t H=>q t (by simp only[C1,H];exact AX4 ..);cases j:ACU N o.op o.dst with
  |false=>rw[j]at h;exact(A2 h).elim
  |true=>
   rw[j]at h
   simp only at h
   have take:∀(σ1:AS) (L1:A7) (w1:World),Rel P W σ σ1->EnvS W L L1->Holds w0 Mu M σ1 L1 w1->AE4 G (AAx o.dst) (B2 σ1.env) (A1 σ1.res) (fun as_=>C6 G N ops K r (apps o.dst as_ σ1)) o.op=some z ->
     Reg P N (toArray ops) .seq (⟨o.dst,o.op,o.type,o.pos,o.after,none⟩::r) ds L1 w1 A B X Z:=fun σ1 L1 w1 m Q J D=>by
    obtain⟨as_,h1,h2⟩:=AH8 (P:=P) hG j D
    obtain⟨S,ρ,γ,μ,ι,V⟩:=J
    refine APf rfl ?_
    have h3:=h2 (ops:=toArray ops) (ds:=ds) (B:=B) (X:=X) (Z:=Z) (ty:=o.type) (pos:=o.pos) (af:=o.after) (fun _ _ h=>h) (fun _ _ h=>h) V
    refine fun a R=>?_
    have h4:=h3 a R
    simp only[wpList]at h4 ⊢
    rw[AYB (by simp[Region.wanted])]at h4 ⊢
    refine .inl (ACh (h4.resolve_right fun hh=>ABV hh.2) ?_ (fun c a w hz=>hz) ABV)
    rintro a' w' ⟨ds',L',hk,rfl,hE2,y⟩
    exact⟨_,L',hk,S9 hG r _ L' w' h1 e y fun σ' L'' w'' hK x O F=>hA σ' L'' w'' hK (m.trans ((Z5 o.dst E as_ σ1).trans x)) (Q.trans ((hE2.mono p).trans O)) F⟩
   have pass:∀(σ1:AS) (L1:A7) (w1:World),Rel P W σ σ1->EnvS W L L1->Holds w0 Mu M σ1 L1 w1->C6 G N ops K r (apps o.dst [.put .undef] σ1)=some z->(∀a,Knows N ds L1 a->Region.wanted o (yielded (toArray ops) a.tmps)=false) ->
     Reg P N (toArray ops) .seq (o::r) ds L1 w1 A B X Z:=fun σ1 L1 w1 m Q J D hw=>by
    obtain⟨S,ρ,γ,μ,ι,V⟩:=J
    refine Reg.skip (ALs j) hw ?_
    refine S9 hG r _ _ w1 D e ?_ fun σ' L'' w'' hK x O F=>hA σ' L'' w'' hK (m.trans ((Z5 o.dst E _ σ1).trans x)) (Q.trans (EnvS.trans ?_ O)) F
    rotate_left
    . cases hd:o.dst with
      |none=>exact EnvS.refl _ _
      |some d=>exact(EnvS.put d L1 _).mono fun t H=>by rw[mem_singleton.1 H];exact E d hd
    cases hd:o.dst with
    |none=>exact⟨S,ρ,γ,μ,ι,V⟩
    |some d=>exact⟨S,ρ,γ,μ,ι,V.put (s:=.undef) rfl⟩
   cases T:o.guard with
   |none=>
    rw[T]at h
    have:=take σ L w (Rel.refl σ) (EnvS.refl _ _) k h
    rw[<-T]at this
    exact this
   |some gb=>
    obtain⟨g,b⟩:=gb
    rw[T]at h
    simp only at h
    cases C:AB5 ops g with
    |none=>rw[C]at h;exact(A2 h).elim
    |some t=>
     rw[C]at h
     simp only at h
     have n:=AC9 C
     obtain⟨S,ρ,γ,μ,ι,V⟩:=k
     cases i:A1 σ.env t with
     |none=>rw[i]at h;exact(A2 h).elim
     |some s=>
      rw[i]at h
      obtain⟨v,hv,I⟩:=V.env t s i
      cases s with
      |bool c=>
       simp only at h
       have I:v=Value.bool c:=I
       subst I
       have same:∀u,A1 ((t,.bool c)::σ.env) u=A1 σ.env u:=AKQ i
       have J:Holds w0 Mu M { σ with env:=(t,.bool c)::σ.env } L w:=⟨S,ρ,γ,μ,ι,V.same same⟩
       have f:Rel P W σ { σ with env:=(t,.bool c)::σ.env }:=Rel.same same
       by_cases U:c=b
       . have D:AE4 G (AAx o.dst) (B2 ((t,.bool c)::σ.env)) (A1 σ.res) (fun as_=>C6 G N ops K r (apps o.dst as_ { σ with env:=(t,.bool c)::σ.env })) o.op=some z:=by
          subst U;cases c<;>exact h
         have:=take { σ with env:=(t,.bool c)::σ.env } L w f (EnvS.refl _ _) J D
         subst U
         have h5:=Reg.take (b:=c) n hv this
         rw[<-T]at h5
         exact h5
       . have D:C6 G N ops K r (apps o.dst [.put .undef] { σ with env:=(t,.bool c)::σ.env })=some z:=by
          cases c<;>cases b<;>first|exact absurd rfl U|exact h
         refine pass { σ with env:=(t,.bool c)::σ.env } L w f (EnvS.refl _ _) J D fun a R=>?_
         simp only[Region.wanted,T,V8 R n hv]
         simpa using U
      |undef=>
       have I:v=Go.undef:=I
       subst I
       refine pass σ L w (Rel.refl σ) (EnvS.refl _ _) ⟨S,ρ,γ,μ,ι,V⟩ h fun a R=>?_
       have hy:yielded (toArray ops) a.tmps g=none:=by simp only[yielded,n,Option.bind_some,R.val t _ hv];rfl
       simp only[Region.wanted,T,hy];rfl
      |int _ _|ary _ _ _|str _ _|agg _|fv _ _ _|fn _ _|dead|tup _|rp _ _|ptr _ _|ep _ _ _ _ _|dat _ _|own _|nilS|raw _|it _ _|np _ _|ap _ _ _ _=>exact(A2 h).elim
end Go.Rx
namespace Go.Rx
open Go Go.Sx Go.RowKit
variable[Trk][Sg][Sf]{P:Program}[Se P]{t:Nat}{i:Nat}{c:Ck}{n:Nat}{x:c.den}{a:At}{s:SV}{cs:List Cm}
theorem fnd_app{α:Type}{t:Nat}:∀{l1 l2:List (Nat×α)},A1 (l1++l2) t=match A1 l1 t with|some x=>some x|none=>A1 l2 t
 |[],l2=>rfl
 |(k,v)::r,l2=>by
  rw[AYx,fnd_cons,fnd_cons,fnd_app (l1:=r)];split<;>rfl
theorem ABL{α:Type}{t:Nat}{x:α}:∀{l:List (Nat×α)},A1 l t=some x->(t,x)∈l
 |(k,v)::r,h=>by
  rw[fnd_cons]at h;split at h
  . rename_i e;subst e;cases h;exact AX4 ..
  . exact AX0 _ (ABL h)
theorem fnd_none{α:Type}{t:Nat}:∀{l:List (Nat×α)},(∀x,(t,x)∉l)->A1 l t=none
 |[],_=>rfl
 |(k,v)::r,h=>by
  rw[fnd_cons,if_neg (show ¬k=t from fun e=>h v (by subst e;exact AX4 ..))];exact fnd_none fun x hx=>h x (AX0 _ hx)
theorem fnd_keepE{wr kp:List Nat}{t:Nat}:∀{l:List (Nat×SV)},A1 (AB8 wr kp l) t=if t∈wr then none else(A1 l t).map (J9 kp)
 |[]=>by simp[AB8,A1]
 |(k,s)::r=>by
  simp only[AB8];cases H:has wr k with
  |true=>
   rw[cond_true,fnd_keepE (l:=r),fnd_cons]
   by_cases e:k=t
   . subst e;rw[AYB (has_iff.1 H),AYB (has_iff.1 H)]
   . rw[if_neg e]
  |false=>
   rw[cond_false,fnd_cons,fnd_cons,fnd_keepE (l:=r)]
   by_cases e:k=t
   . subst e
     rw[AYB rfl,AYB rfl,if_neg (fun hm=>by rw[has_iff.2 hm]at H;cases H)];rfl
   . rw[if_neg e,if_neg e]
theorem ABd{q:List Cv}{kp:List Nat}{i:Nat}:∀{l:List (Nat×AR)},A1 (AB9 q kp l) i=if i∈kp then(A1 l i).map (ADN q kp i) else none
 |[]=>by simp[AB9,A1]
 |(k,a)::r=>by
  simp only[AB9];cases H:has kp k with
  |true=>
   rw[cond_true,fnd_cons,fnd_cons,ABd (l:=r)]
   by_cases e:k=i
   . subst e;rw[AYB rfl,AYB rfl,AYB (has_iff.1 H)];rfl
   . rw[if_neg e,if_neg e]
  |false=>
   rw[cond_false,ABd (l:=r),fnd_cons]
   by_cases e:k=i
   . subst e
     rw[if_neg (fun hm=>by rw[has_iff.2 hm]at H;cases H),if_neg (fun hm=>by rw[has_iff.2 hm]at H;cases H)]
   . rw[if_neg e]
theorem AFb:∀(l:List Cm) (x:O2 l),(U7 l x).map (·.1)=l
 |[],_=>rfl
 |[_],_=>rfl
 |c::d::l,x=>by
  show c::(U7 (d::l) x.2).map (·.1)=_;rw[AFb (d::l) x.2]
theorem allV_mem{α:Type}{f:(c:Ck)->c.den->At->List α}{y:α}:∀{q:List Cv},y∈allV f q↔∃p∈q,y∈f p.1.2 p.2 p.1.1
 |[]=>by simp[allV]
 |p::l=>by simp[allV,allV_mem (q:=l)]
theorem ABe{α:Type}{f:(c:Ck)->c.den->At->Option α}{y:α}:∀{q:List Cv},ABr f q=some y->∃p∈q,f p.1.2 p.2 p.1.1=some y
 |[],h=>by cases h
 |p::l,h=>by
  simp only[ABr]at h;cases H:f p.1.2 p.2 p.1.1 with
  |some z=>rw[H]at h;cases h;exact⟨p,AX4 ..,H⟩
  |none=>
   rw[H]at h
   obtain⟨r,J,I⟩:=ABe h
   exact⟨r,AX0 _ J,I⟩
theorem AFC{α:Type}{f:(c:Ck)->c.den->At->Option α}:∀{q:List Cv},ABr f q=none->∀p∈q,f p.1.2 p.2 p.1.1=none
 |[],_,p,J=>by cases J
 |p::l,h,r,H=>by
  simp only[ABr]at h;cases I:f p.1.2 p.2 p.1.1 with
  |some z=>rw[I]at h;cases h
  |none=>
   rw[I]at h
   rcases mem_cons.1 H with rfl|H
   . exact I
   . exact AFC h r H
theorem AGZ{f:Nat->Option SV}{kp:List Nat}:∀{l:List SV} {k n:Nat},(AH1 f kp k l)[n]?=(l[n]?).map fun s=>match f (k+n) with|some s'=>s'|none=>J9 kp s
 |[],_,_=>rfl
 |s::l,k,0=>rfl
 |s::l,k,n+1=>by
  simp only[AH1,List.getElem?_cons_succ];rw[AGZ (l:=l),show k+1+n=k+(n+1) by omega]
theorem putN_len{f:Nat->Option SV}{kp:List Nat}:∀{l:List SV} {k:Nat},(AH1 f kp k l).length=l.length
 |[],_=>rfl
 |s::l,k=>by simp[AH1,putN_len (l:=l)]
theorem AHK(h:AC2 i n c x a=some s):a=.cell i n:=by
 have key:∀(j m:Nat) (r:SV),(match beq i j&&beq n m with
   |true=>some r
   |false=>none)=some s->At.cell j m=.cell i n:=fun j m r I=>by
  cases H:beq i j&&beq n m with
  |false=>rw[H]at I;cases I
  |true=>
   simp only[Bool.and_eq_true]at H
   rw[AX5 H.1,AX5 H.2]
 cases c with
 |d t=>cases a with
  |cell j m=>exact key j m _ h
  |slot _=>cases h
  |cont _=>cases h
 |own _=>cases a with
  |cell j m=>exact key j m _ h
  |slot _=>cases h
  |cont _=>cases h
 |undef|it _|np _=>cases h
theorem AM4{o:Oc}{ys:den o.ty}(h:AFW i o c x a=some ys):a=.cont i:=by
 cases c with
 |d t=>cases h
 |undef|it _|np _=>cases h
 |own o'=>cases a with
  |slot _=>cases h
  |cell _ _=>cases h
  |cont j=>
   have H:(match beq i j with
    |true=>castO o' o x
    |false=>none)=some ys:=h
   cases I:beq i j with
   |false=>rw[I]at H;cases H
   |true=>rw[AX5 I]
theorem AFc{x:O2 cs}{p:Cv}(h:p∈U7 cs x):p.1∈cs:=by
 rw[<-AFb cs x];exact AYi h
theorem AOG{x:O2 cs}{c:Cm}(h:c∈cs):∃p∈U7 cs x,p.1=c:=by
 rw[<-AFb cs x]at h;obtain⟨p,I,H⟩:=mem_map.1 h;exact⟨p,I,H⟩
theorem AEL{i n:Nat}{c:Ck}:∀{cs:List Cm},(At.cell i n,c)∈cs->(i,n+1)∈chV cs
 |(.cell j m,d)::l,h=>by
  rcases mem_cons.1 h with h|h
  . cases h;exact AX4 ..
  . exact AX0 _ (AEL h)
 |(.cont j,d)::l,h=>by
  rcases mem_cons.1 h with h|h
  . cases h
  . exact AX0 _ (AEL h)
 |(.slot j,d)::l,h=>by
  rcases mem_cons.1 h with h|h
  . cases h
  . exact AEL (cs:=l) h
theorem AEM{i:Nat}{c:Ck}:∀{cs:List Cm},(At.cont i,c)∈cs->(i,0)∈chV cs
 |(.cell j m,d)::l,h=>by
  rcases mem_cons.1 h with h|h
  . cases h
  . exact AX0 _ (AEM h)
 |(.cont j,d)::l,h=>by
  rcases mem_cons.1 h with h|h
  . cases h;exact AX4 ..
  . exact AX0 _ (AEM h)
 |(.slot j,d)::l,h=>by
  rcases mem_cons.1 h with h|h
  . cases h
  . exact AEM (cs:=l) h
theorem AA0{s:Nat}{c:Ck}:∀{cs:List Cm},(At.slot s,c)∈cs->s∈J5 cs
 |(.cell j m,d)::l,h=>by
  rcases mem_cons.1 h with h|h
  . cases h
  . exact AA0 (cs:=l) h
 |(.cont j,d)::l,h=>by
  rcases mem_cons.1 h with h|h
  . cases h
  . exact AA0 (cs:=l) h
 |(.slot j,d)::l,h=>by
  rcases mem_cons.1 h with h|h
  . cases h;exact AX4 ..
  . exact AX0 _ (AA0 h)
theorem AFD(h:(t,s)∈AAy c x a):a=.slot t:=by
 cases c<;>cases a<;>simp only[AAy,mem_cons,List.not_mem_nil,or_false,Prod.mk.injEq]at h<;>first|exact h.elim|(rw[h.1])
theorem AGa{i:Nat}{a:AR}:∀{l:List (Nat×AR)},(i,a)∈l->i∈APN l
 |(j,b)::l,h=>by
  rcases mem_cons.1 h with h|h
  . cases h;exact AX4 ..
  . exact AX0 _ (AGa h)
variable{σ:AS}{sh:Sh}{W:List Nat}
section
variable{x:O2 sh.cs}
theorem APg{kp:List Nat}(h:AH9 (B6 W sh σ x) kp):∀i∈kp,i∈sh.keep:=fun i hi=>by
 obtain⟨J,a,H⟩:=h i hi;have H:A1 (allV ownV (U7 sh.cs x)++AB9 (U7 sh.cs x) sh.keep σ.res) i=some a:=H;rw[fnd_app]at H;cases I:A1 (allV ownV (U7 sh.cs x)) i with
 |some b=>exact absurd (AX2 _ (AX2 _ (AGa (ABL I)))) J
 |none=>
  rw[I]at H
  simp only at H
  rw[ABd]at H
  split at H
  . assumption
  . cases H
theorem Wk.kex(s:SV):Wk P (B6 W sh σ x) s (J9 sh.keep s):=fun kp hk ρ R M w v h=>by rwa [AFa (APg hk)]at h
theorem ACA{W':List Nat}(T:∀t∈J5 sh.cs,t∈W')(I:∀t∈W,t∈W'):Rel P W' σ (B6 W sh σ x):=by
 refine⟨fun i hi=>AX3 _ hi,fun c J=>AX3 _ J,fun i a' hi Q=>?_,fun t K s D=>⟨J9 sh.keep s,?_,Wk.kex s⟩⟩
 . have H:A1 (allV ownV (U7 sh.cs x)++AB9 (U7 sh.cs x) sh.keep σ.res) i=some a':=hi;rw[fnd_app]at H;cases C:A1 (allV ownV (U7 sh.cs x)) i with
   |some b=>exact absurd (AX2 _ (AX2 _ (AGa (ABL C)))) Q
   |none=>
    rw[C]at H
    simp only at H
    rw[ABd]at H
    split at H
    . cases O:A1 σ.res i with
      |none=>rw[O]at H;cases H
      |some a=>
       rw[O]at H
       have H:ADN (U7 sh.cs x) sh.keep i a=a':=AXz H
       subst H
       refine⟨a,rfl,?_⟩
       cases a with
       |own p c xs=>
        simp only[ADN]
        cases V:ABr (AFW i c) (U7 sh.cs x) with
        |none=>exact⟨xs,rfl,fun _=>rfl⟩
        |some ys=>
         refine⟨ys,rfl,fun J=>?_⟩
         obtain⟨p,U,F⟩:=ABe V
         have E:=AM4 F
         have:=AFc U
         exact absurd (AX2 _ (AEM (i:=i) (c:=p.1.2) (by rw[<-E];exact this))) J
       |row e l=>
        refine⟨_,rfl,putN_len,fun n s' I J=>?_⟩
        rw[AGZ,AYQ]at I
        cases V:l[n]? with
        |none=>rw[V]at I;cases I
        |some s=>
         rw[V]at I
         refine⟨s,rfl,?_⟩
         cases U:ABr (AC2 i n) (U7 sh.cs x) with
         |none=>
          simp only[U]at I
          have I:J9 sh.keep s=s':=AXz I
          subst I
          exact Wk.kex s
         |some r=>
          obtain⟨p,F,E⟩:=ABe U
          have Y:=AHK E
          have:=AFc F
          exact absurd (AX2 _ (AEL (i:=i) (n:=n) (c:=p.1.2) (by rw[<-Y];exact this))) J
    . cases H
 . show A1 (allV AAy (U7 sh.cs x)++AB8 W sh.keep σ.env) t=_;rw[fnd_app,fnd_none,fnd_keepE,if_neg (fun hm=>K (I t hm)),D]
   . rfl
   . intro y hy;obtain⟨p,A,H⟩:=allV_mem.1 hy;have C:=AFD H;have:=AFc A;exact K (T t (AA0 (c:=p.1.2) (by rw[<-C];exact this)))
end
variable{w0 w:World}{Mu M:List Nat}
theorem AIC{S S':List Res}(J:S.Perm S'){b:Nat}(H:b∈mm S' M):b∈mm S M:=by
 rw[mem_mm]at H ⊢;exact H.imp (fun⟨r,I,h⟩=>⟨r,J.mem_iff.2 I,h⟩) id
theorem Hp.perm[Fx]{S S':List Res}(h:Hp w0 Mu M S w)(H:S.Perm S'):Hp w0 Mu M S' w:=by
 refine⟨h.kp,fun b I=>h.mlt b (AIC H I),h.adv.trans (Adv.drop fun b I=>AIC H I),h.base,fun r J=>h.sepM r (H.mem_iff.2 J),fun r J=>h.own r (H.mem_iff.2 J),?_,(fun r J=>r.adv (Adv.drop fun b I=>AIC H I) (fun _ _=>rfl) (h.all r (H.mem_iff.2 J))),h.fx⟩;have V:=pair_iff.1 h.dis;refine pair_iff.2 ((H.pairwise_iff ?_).1 V);intro r r' hd b I U;exact hd b U I
theorem AFd{S:List Res}:∀(l1 l2:List Nat),sel S (l1++l2)=sel S l1++sel S l2
 |[],_=>rfl
 |i::l,l2=>by
  simp only[List.cons_append,sel];cases AJd S i with
  |none=>exact AFd l l2
  |some r=>simp only[AFd l l2,List.cons_append]
theorem AGb{S:List Res}{i:Nat}{l:List Nat}{r:Res}(h:S[i]?=some r):sel S (i::l)=r::sel S l:=by
 simp only[sel,nthR_eq,h]
def pos:List Nat->Nat->Nat
 |[],_=>0
 |x::r,i=>if x=i then 0 else pos r i+1
theorem AFe:∀{l:List Nat} {i:Nat},i∈l->l[pos l i]?=some i
 |x::r,i,h=>by
  simp only[pos];split
  . rename_i e;subst e;rfl
  . rename_i e;rcases mem_cons.1 h with rfl|h
    . exact absurd rfl e
    . simpa using AFe h
theorem ALt{l:List Nat}{i j:Nat}(hi:i∈l)(I:j∈l)(h:pos l i=pos l j):i=j:=by
 have H:=AFe hi;rw[h,AFe I]at H;exact(AXz H).symm
theorem AOH{l:List Nat}{i:Nat}(hi:i∈l):pos l i<l.length:=by
 have H:=AFe hi;rcases AYF (pos l i) l.length with h|h
 . exact h
 . rw[AYC h]at H;cases H
theorem AID{S:List Res}{ι:Nat->Nat}:∀{l:List Nat} {i:Nat},(∀j∈l,∃r,S[ι j]?=some r)->i∈l->(sel S (l.map ι))[pos l i]?=S[ι i]?
 |x::r,i,I,h=>by
  obtain⟨q,H⟩:=I x (AX4 ..);rw[AYM,AGb H];simp only[pos];split
  . rename_i e;subst e;rw[H];rfl
  . rename_i e;rcases mem_cons.1 h with rfl|h
    . exact absurd rfl e
    . simpa using AID (fun j J=>I j (AX0 _ J)) h
theorem ABW:∀{l:List Nat},AFX l=true->l.Nodup
 |[],_=>AZD
 |x::r,h=>by
  simp only[AFX]at h;cases H:has r x with
  |true=>rw[H,cond_true]at h;cases h
  |false=>
   rw[H,cond_false]at h
   exact List.nodup_cons.2 ⟨(fun hm=>by rw[has_iff.2 hm]at H;cases H),ABW h⟩
theorem AIl:∀{l:List Nat},l.Nodup->ABY l=true
 |[],_=>rfl
 |x::r,h=>by
  obtain⟨I,H⟩:=List.nodup_cons.1 h;simp[ABY,AIl H,I]
theorem AAH{kp:List Nat}:∀{l:List Nat},okK kp l=true->∀i∈l,i∉kp
 |[],_,i,hi=>by cases hi
 |x::r,h,i,hi=>by
  simp only[okK]at h;cases H:has kp x with
  |true=>rw[H,cond_true]at h;cases h
  |false=>
   rw[H,cond_false]at h
   rcases mem_cons.1 hi with rfl|hi
   . exact fun hm=>by rw[has_iff.2 hm]at H;cases H
   . exact AAH h i hi
theorem AKR{R:Nat->Option AR}:∀{l:List Nat},AMr R l=true->∀i∈l,∃a,R i=some a
 |[],_,i,hi=>by cases hi
 |x::r,h,i,hi=>by
  simp only[AMr]at h;cases H:R x with
  |none=>rw[H]at h;cases h
  |some a=>
   rw[H]at h
   rcases mem_cons.1 hi with rfl|hi
   . exact⟨a,H⟩
   . exact AKR h i hi
theorem AA1{i n:Nat}:∀{cs:List Cm},AAS i n cs=true->(∃c,(At.cont i,c)∈cs/\n=0)\/∃m c,(At.cell i m,c)∈cs/\n=m+1
 |[],h=>by cases h
 |(.cell j m,d)::l,h=>by
  simp only[AAS]at h;cases J:beq i j&&beq n (m+1) with
  |true=>
   simp only[Bool.and_eq_true]at J
   have e1:=AX5 J.1
   have e2:=AX5 J.2
   subst e1;subst e2
   exact .inr ⟨m,d,AX4 ..,rfl⟩
  |false=>
   rw[J,cond_false]at h
   exact(AA1 h).imp (fun⟨c,I,H⟩=>⟨c,AX0 _ I,H⟩) (fun⟨m,c,I,H⟩=>⟨m,c,AX0 _ I,H⟩)
 |(.cont j,d)::l,h=>by
  simp only[AAS]at h;cases J:beq i j&&beq n 0 with
  |true=>
   simp only[Bool.and_eq_true]at J
   have e1:=AX5 J.1
   have e2:=AX5 J.2
   subst e1
   exact .inl ⟨d,AX4 ..,e2⟩
  |false=>
   rw[J,cond_false]at h
   exact(AA1 h).imp (fun⟨c,I,H⟩=>⟨c,AX0 _ I,H⟩) (fun⟨m,c,I,H⟩=>⟨m,c,AX0 _ I,H⟩)
 |(.slot j,d)::l,h=>by
  simp only[AAS]at h;exact(AA1 h).imp (fun⟨c,I,H⟩=>⟨c,AX0 _ I,H⟩) (fun⟨m,c,I,H⟩=>⟨m,c,AX0 _ I,H⟩)
theorem AFf{kp:List Nat}{cs:List Cm}:∀{l:List (Nat×Nat)},okC kp cs l=true->∀i n,(i,n)∈l->i∈kp->AAS i n cs=true
 |[],_,i,n,hm,_=>by cases hm
 |(j,m)::r,h,i,n,hm,hk=>by
  simp only[okC]at h;cases H:has kp j with
  |true=>
   rw[H,cond_true]at h
   cases I:AAS j m cs with
   |false=>rw[I,cond_false]at h;cases h
   |true=>
    rw[I,cond_true]at h
    rcases mem_cons.1 hm with hm|hm
    . cases hm;exact I
    . exact AFf h i n hm hk
  |false=>
   rw[H,cond_false]at h
   rcases mem_cons.1 hm with hm|hm
   . cases hm;rw[has_iff.2 hk]at H;cases H
   . exact AFf h i n hm hk
variable{σ1:AS}
section
variable{c:Oc}{x:den c.ty}
theorem AKS:∀(cs:List Cm) {x:O2 cs},AH0 σ1 cs=some x->∀p∈U7 cs x,AAE σ1 p.1.2 p.1.1=some p.2
 |[],_,_,p,H=>by cases H
 |[c],x,h,p,H=>by
  have H:p=⟨c,x⟩:=by simpa[U7] using H
  subst H;exact h
 |c::d::l,x,h,p,H=>by
  have h:(match AAE σ1 c.2 c.1 with
   |some y=>match AH0 σ1 (d::l) with
    |some r=>some (y,r)
    |none=>none
   |none=>none)=some x:=h
  cases J:AAE σ1 c.2 c.1 with
  |none=>rw[J]at h;exact(A2 h).elim
  |some y=>
   rw[J]at h
   cases I:AH0 σ1 (d::l) with
   |none=>rw[I]at h;exact(A2 h).elim
   |some r=>
    rw[I]at h
    have h:(y,r)=x:=AXz h
    subst h
    rcases mem_cons.1 H with rfl|H
    . exact J
    . exact AKS (d::l) I p H
theorem ALu{t:Ty}{x:den t}(h:AAE σ1 (.d t) a=some x):∃s,U8 σ1 a=some s/\B9 (A1 σ1.res) t s=some x:=by
 cases a with
 |slot s=>
  have h:(match A1 σ1.env s with
   |some v=>B9 (A1 σ1.res) t v
   |none=>none)=some x:=h
  cases H:A1 σ1.env s with
  |none=>rw[H]at h;exact(A2 h).elim
  |some v=>rw[H]at h;exact⟨v,H,h⟩
 |cell i n=>
  have h:(match AB7 σ1 i n with
   |some v=>B9 (A1 σ1.res) t v
   |none=>none)=some x:=h
  cases H:AB7 σ1 i n with
  |none=>rw[H]at h;exact(A2 h).elim
  |some v=>rw[H]at h;exact⟨v,H,h⟩
 |cont i=>exact(A2 h).elim
theorem AAd{R:Nat->Option AR}(h:AEE R c s=some x):(∃i,s=.own i/\R i=some (.own false c x))\/(s=.nilS/\nilO c=some x):=by
 cases s with
 |own i=>
  have H:(match R i with
   |some (.own false c' xs)=>castO c' c xs
   |_=>none)=some x:=h
  cases I:R i with
  |none=>rw[I]at H;exact(A2 H).elim
  |some a=>
   rw[I]at H
   cases a with
   |row _ _=>exact(A2 H).elim
   |own p c' xs=>
    cases p with
    |true=>exact(A2 H).elim
    |false=>
     obtain⟨J,H⟩:=AAF (show castO c' c xs=some x from H)
     subst J
     have H:xs=x:=H
     subst H
     exact .inl ⟨i,rfl,I⟩
 |nilS=>exact .inr ⟨rfl,h⟩
 |int _ _|bool _|ary _ _ _|str _ _|agg _|fv _ _ _|fn _ _|dead|tup _|rp _ _|ptr _ _|ep _ _ _ _ _|dat _ _|undef|raw _|it _ _|np _ _|ap _ _ _ _=>exact(A2 h).elim
theorem V6(h:AAE σ1 (.own c) a=some x):(∃i p,a=.cont i/\A1 σ1.res i=some (.own p c x))\/((∀i,a≠.cont i)/\∃s,U8 σ1 a=some s/\AEE (A1 σ1.res) c s=some x):=by
 cases a with
 |slot s=>
  have h:(match A1 σ1.env s with
   |some v=>AEE (A1 σ1.res) c v
   |none=>none)=some x:=h
  cases H:A1 σ1.env s with
  |none=>rw[H]at h;exact(A2 h).elim
  |some v=>rw[H]at h;exact .inr ⟨(fun i hi=>by cases hi),v,H,h⟩
 |cell i n=>
  have h:(match AB7 σ1 i n with
   |some v=>AEE (A1 σ1.res) c v
   |none=>none)=some x:=h
  cases H:AB7 σ1 i n with
  |none=>rw[H]at h;exact(A2 h).elim
  |some v=>rw[H]at h;exact .inr ⟨(fun i hi=>by cases hi),v,H,h⟩
 |cont i=>
  have I:(match A1 σ1.res i with
   |some (.own _ c' xs)=>castO c' c xs
   |_=>none)=some x:=h
  cases H:A1 σ1.res i with
  |none=>rw[H]at I;exact(A2 I).elim
  |some a=>
   rw[H]at I
   cases a with
   |row _ _=>exact(A2 I).elim
   |own p c' xs=>
    obtain⟨J,I⟩:=AAF (show castO c' c xs=some x from I)
    subst J
    have I:xs=x:=I
    subst I
    exact .inl ⟨i,p,rfl,H⟩
theorem ALT{x:Ck.undef.den}(h:AAE σ1 .undef a=some x):∃s,a=.slot s/\A1 σ1.env s=some .undef:=by
 cases a with
 |slot s=>
  have h:(match A1 σ1.env s with
   |some .undef=>some ()
   |_=>none)=some x:=h
  cases H:A1 σ1.env s with
  |none=>rw[H]at h;exact(A2 h).elim
  |some v=>
   rw[H]at h
   cases v with
   |undef=>exact⟨s,rfl,H⟩
   |int _ _|bool _|ary _ _ _|str _ _|agg _|fv _ _ _|fn _ _|dead|tup _|rp _ _|ptr _ _|ep _ _ _ _ _|dat _ _|own _|nilS|raw _|it _ _|np _ _|ap _ _ _ _=>exact(A2 h).elim
 |cell i n=>exact(A2 h).elim
 |cont i=>exact(A2 h).elim
theorem AAe{i:Nat}{s:SV}(hi:i∈A9 s):∀{cs:List Cm} {a:At} {t:Ty},(a,Ck.d t)∈cs->U8 σ1 a=some s->i∈lent σ1 cs
 |(b,.d u)::l,a,t,h,hv=>by
  simp only[lent];rcases mem_cons.1 h with h|h
  . cases h;rw[hv];exact AX2 _ hi
  . cases U8 σ1 b with
    |none=>exact AAe hi h hv
    |some s'=>exact AX3 _ (AAe hi h hv)
 |(b,.own _)::l,a,t,h,hv=>by
  rcases mem_cons.1 h with h|h
  . cases h
  . exact AAe (cs:=l) hi h hv
 |(b,.undef)::l,a,t,h,hv=>by
  rcases mem_cons.1 h with h|h
  . cases h
  . exact AAe (cs:=l) hi h hv
 |(b,.it _)::l,a,t,h,hv=>by
  rcases mem_cons.1 h with h|h
  . cases h
  . exact AAe (cs:=l) hi h hv
 |(b,.np _)::l,a,t,h,hv=>by
  rcases mem_cons.1 h with h|h
  . cases h
  . exact AAe (cs:=l) hi h hv
def hvO(ρ:Nat->Value):Option SV->Value
 |some (.own i)=>ρ i
 |_=>.slice none 0 0
def W8(σ1:AS)(ρ:Nat->Value):List Cv->List (Nat×AR×Value)
 |[]=>[]
 |p::l=>(ownV p.1.2 p.2 p.1.1).map (fun o=>(o.1,o.2,hvO ρ (U8 σ1 p.1.1)))++W8 σ1 ρ l
def rsO(l:List (Nat×AR×Value)):List Res:=l.map fun o=>G9 o.2.2 [] [] o.2.1
theorem AKU{ρ:Nat->Value}:∀q:List Cv,(W8 σ1 ρ q).map (fun o=>(o.1,o.2.1))=allV ownV q
 |[]=>rfl
 |p::l=>by
  simp only[W8,allV,List.map_append,List.map_map,AKU l];congr 1;exact(List.map_congr_left fun o _=>rfl).trans (List.map_id _)
theorem ownO_ids{ρ:Nat->Value}:∀q:List Cv,(W8 σ1 ρ q).map (·.1)=AGM (q.map (·.1))
 |[]=>rfl
 |⟨(a,c),x⟩::l=>by
  simp only[W8,List.map_append,List.map_map,List.map_cons];rw[ownO_ids l];cases c<;>cases a<;>rfl
theorem AGc{c:Ck}{x:c.den}{r:AR}(h:(i,r)∈ownV c x a):∃o,∃H:c=.own o,r=.own false o (show den o.ty from(H▸x:(Ck.own o).den))/\((a=.slot i)\/∃j n,a=.cell j n/\i=ACY j n):=by
 cases c with
 |d t=>cases a<;>cases h
 |undef|it _|np _=>cases a<;>cases h
 |own o=>
  cases a with
  |slot s=>
   have h:(i,r)=(s,.own false o x):=by simpa[ownV] using h
   cases h;exact⟨o,rfl,rfl,.inl rfl⟩
  |cell j n=>
   have h:(i,r)=(ACY j n,.own false o x):=by simpa[ownV] using h
   cases h;exact⟨o,rfl,rfl,.inr ⟨j,n,rfl,rfl⟩⟩
  |cont j=>cases h
theorem ownO_mem{ρ:Nat->Value}{i:Nat}{r:AR}{v:Value}:∀{q:List Cv},(i,r,v)∈W8 σ1 ρ q↔∃p∈q,(i,r)∈ownV p.1.2 p.2 p.1.1/\v=hvO ρ (U8 σ1 p.1.1)
 |[]=>by simp[W8]
 |p::l=>by
  simp only[W8,mem_append,mem_map,ownO_mem (q:=l),mem_cons,Prod.mk.injEq];constructor
  . rintro (⟨o,H,I,J,U⟩|⟨p',H,I⟩)
    . exact⟨p,.inl rfl,by rw[<-I,<-J];exact H,U.symm⟩
    . exact⟨p',.inr H,I⟩
  . rintro⟨p',H|H,I,J⟩
    . subst H;exact .inl ⟨(i,r),I,rfl,rfl,J.symm⟩
    . exact .inr ⟨p',H,I,J⟩
theorem AHL{α:Type}{i:Nat}{v:α}:∀{l:List (Nat×α)},(l.map (·.1)).Nodup->(i,v)∈l->A1 l i=some v
 |(k,u)::r,H,h=>by
  obtain⟨J,I⟩:=List.nodup_cons.1 H;rw[fnd_cons];rcases mem_cons.1 h with h|h
  . cases h;rw[AYB rfl]
  . rw[if_neg (show ¬k=i from fun e=>J (by subst e;exact AYi (f:=(·.1)) h))];exact AHL I h
theorem AFg:∀{O:List (Nat×AR×Value)} {i:Nat} {a:AR},A1 (O.map fun o=>(o.1,o.2.1)) i=some a->∃v,A1 (O.map fun o=>(o.1,o.2.2)) i=some v/\O[pos (O.map (·.1)) i]?=some (i,a,v)
 |(k,b,v)::r,i,a,h=>by
  simp only[List.map_cons]at h ⊢;rw[fnd_cons]at h;rw[fnd_cons];simp only[pos];split at h
  . rename_i e;subst e;cases h;exact⟨v,by rw[AYB rfl],by rw[AYB rfl];rfl⟩
  . rename_i e;obtain⟨u,I,H⟩:=AFg h;exact⟨u,by rw[if_neg e];exact I,by rw[if_neg e];simpa using H⟩
end
end Go.Rx
namespace Go.Rx
open Go Go.Sx Go.RowKit
variable[Trk][Sg][Sf]{P:Program}[Se P][Anch]{w0 w:World}{Mu M:List Nat}{σ1:AS}{L:A7}{S:List Res}{ρ:Nat->Value}{γ:Nat->List Value}{μ:Nat->List Nat}{ι:Nat->Nat}
theorem moved_cons{p:Cm}{l:List Cm}:H2 σ1 (p::l)=(match p.2 with
  |.own _=>match U8 σ1 p.1 with
   |some (.own i)=>i::H2 σ1 l
   |_=>H2 σ1 l
  |_=>H2 σ1 l):=by
 obtain⟨a,c⟩:=p
 cases c<;>rfl
theorem AKV[Fx]{Mu M:List Nat}{S:List Res}{w0 w:World}(h:Hp w0 Mu M S w){c:Oc}{x:den c.ty}(hx:nilO c=some x):Hp w0 Mu M (E9 (P:=P) [] (.slice none 0 0) c x::S) w:=by
 cases c with
 |mp m k u=>cases hx
 |sl e t=>
  have hx:some ([]:List (den t))=some x:=hx
  cases hx
  exact h.addNil (enc (P:=P) t) e
theorem ALv{c:Oc}{x:den c.ty}(hx:nilO c=some x){b:Nat}(H:b∈(E9 (P:=P) [] (.slice none 0 0) c x).fp):False:=by
 cases c with
 |mp m k u=>cases hx
 |sl e t=>
  have H:b∈ob (.slice none 0 0):=H
  cases H
theorem hpO[Fx](h:HS w0 Mu M σ1 L w S ρ γ μ ι){K0:List Res}:∀(q:List Cv) (base:List Res),(∀p∈q,AAE σ1 p.1.2 p.1.1=some p.2)->Hp w0 Mu M (base++sel S ((H2 σ1 (q.map (·.1))).map ι)++K0) w->Hp w0 Mu M (base++rsO (P:=P) (W8 σ1 ρ q)++K0) w
 |[],base,_,H=>H
 |⟨(a,c),x⟩::l,base,K,H=>by
  have C:=K _ (AX4 ..);have J:∀p∈l,AAE σ1 p.1.2 p.1.1=some p.2:=fun p H=>K p (AX0 _ H);have pass:ownV c x a=[]->H2 σ1 ((⟨(a,c),x⟩::l:List Cv).map (·.1))=H2 σ1 (l.map (·.1))->Hp w0 Mu M (base++rsO (P:=P) (W8 σ1 ρ (⟨(a,c),x⟩::l))++K0) w:=fun V F=>by
   rw[F]at H;have:=hpO h l base J H;simp only[W8,V,List.map_nil,List.nil_append];exact this
  cases c with
  |d t=>exact pass (by cases a<;>rfl) rfl
  |undef|it _|np _=>exact pass (by cases a<;>rfl) rfl
  |own e=>
   have U:∀s,U8 σ1 a=s->H2 σ1 ((⟨(a,.own e),x⟩::l:List Cv).map (·.1))=(match s with
     |some (.own i)=>i::H2 σ1 (l.map (·.1))
     |_=>H2 σ1 (l.map (·.1))):=fun s I=>by
    rw[AYM,moved_cons,I]
   rcases V6 C with⟨i,p,E,_⟩|⟨D,s,I,O⟩
   . have E:a=.cont i:=E
     subst E
     exact pass rfl (U none rfl)
   . have I:U8 σ1 a=some s:=I
     have W:rsO (P:=P) (W8 σ1 ρ (⟨(a,.own e),x⟩::l))=G9 (hvO ρ (some s)) [] [] (.own false e x)::rsO (P:=P) (W8 σ1 ρ l):=by
      cases a with
      |slot _=>simp only[W8,ownV,List.map_cons,List.map_nil,rsO,I,List.cons_append,List.nil_append]
      |cell _ _=>simp only[W8,ownV,List.map_cons,List.map_nil,rsO,I,List.cons_append,List.nil_append]
      |cont i=>exact absurd rfl (D i)
     rw[W]
     rw[U _ I]at H
     rcases AAd O with⟨i,rfl,hi⟩|⟨rfl,hx⟩
     . simp only at H
       have V:=h.res i _ hi
       rw[AYM,AGb V]at H
       have:=hpO h l (base++[G9 (ρ i) (γ i) (μ i) (.own false e x)]) J (by simpa using H)
       have Q:G9 (P:=P) (hvO ρ (some (.own i))) [] [] (.own false e x)=G9 (ρ i) (γ i) (μ i) (.own false e x):=rfl
       rw[Q]
       simpa using this
     . simp only at H
       have V:=hpO h l base J H
       have F:=AKV V hx
       refine Hp.perm F ?_
       show(_::(base++rsO (P:=P) (W8 σ1 ρ l)++K0)).Perm _
       rw[AYU,AYU,AYx]
       exact List.perm_middle.symm
theorem AOI[Fx](h:HS w0 Mu M σ1 L w S ρ γ μ ι):∀(q:List Cv),(∀p∈q,AAE σ1 p.1.2 p.1.1=some p.2)->∀r∈rsO (P:=P) (W8 σ1 ρ q),∀b∈r.fp,b∈mm (sel S ((H2 σ1 (q.map (·.1))).map ι)) M
 |[],_,r,D,_,_=>by cases D
 |⟨(a,c),x⟩::l,T,r,D,b,H=>by
  have F:=T _ (AX4 ..);have E:∀p∈l,AAE σ1 p.1.2 p.1.1=some p.2:=fun p J=>T p (AX0 _ J);have V:∀b,b∈mm (sel S ((H2 σ1 (l.map (·.1))).map ι)) M->b∈mm (sel S ((H2 σ1 ((⟨(a,c),x⟩::l:List Cv).map (·.1))).map ι)) M:=fun b H=>by
   rw[AYM,moved_cons];split
   . split
     . rename_i i _;rw[AYM];simp only[sel];cases AJd S (ι i) with
       |none=>exact H
       |some r=>exact AX3 _ H
     . exact H
   . exact H
  obtain⟨o,A,rfl⟩:=mem_map.1 D;obtain⟨i,r0,v⟩:=o;obtain⟨p,J,Y,C⟩:=ownO_mem.1 A;rcases mem_cons.1 J with J|J
  . subst J;obtain⟨e,O,I,Q⟩:=AGc Y;have O:c=.own e:=O;subst O;have I:r0=.own false e x:=I;subst I;rcases V6 F with⟨j,p,U,_⟩|⟨B,s,W,K⟩
    . have U:a=.cont j:=U;subst U;rcases Q with U|⟨_,_,U,_⟩<;>cases U
    . have W:U8 σ1 a=some s:=W;have C:v=hvO ρ (some s):=by rw[<-W];exact C
      subst C;rcases AAd K with⟨j,rfl,G⟩|⟨rfl,hx⟩
      . rw[AYM,moved_cons];simp only[W];rw[AYM,AGb (h.res j _ G)];exact AX2 _ H
      . exact(ALv hx H).elim
  . refine V b (AOI h l E _ (AYi (ownO_mem.2 ⟨p,J,Y,C⟩)) b H)
theorem OkL.map{ρ ρ2:Nat->Value}{R R2:Nat->Option AR}{M M2:List Nat}{w w2:World}:∀(l l2:List SV) {vs:List Value},l2.length=l.length->OkL ρ R M w l vs->(∀(n:Nat) (s:SV) (u:Value),l[n]?=some s->Ok ρ R M w s u->∃s2,l2[n]?=some s2/\Ok ρ2 R2 M2 w2 s2 u)->OkL ρ2 R2 M2 w2 l2 vs
 |[],[],vs,_,h,_=>h
 |[],_::_,_,h,_,_=>by cases h
 |_::_,[],_,h,_,_=>by cases h
 |s::l,s2::l2,vs,hl,⟨u,c,r,D,C,W,V⟩,hm=>by
  obtain⟨s3,H,U⟩:=hm 0 s u rfl C;have H:s2=s3:=AXz H;subst H;exact⟨u,c,r,D,U,W,OkL.map l l2 (by simpa using hl) V fun n s u I J=>hm (n+1) s u I J⟩
theorem AOJ{i:Nat}{e e2:Oc}{y:den e2.ty}{a:At}{ys:den e.ty}(h:AFW i e (.own e2) y a=some ys):a=.cont i/\castO e2 e y=some ys:=by
 cases a with
 |slot _=>cases h
 |cell _ _=>cases h
 |cont j=>
  have H:(match beq i j with
   |true=>castO e2 e y
   |false=>none)=some ys:=h
  cases I:beq i j with
  |false=>rw[I]at H;cases H
  |true=>
   rw[I]at H
   rw[AX5 I]
   exact⟨rfl,H⟩
variable{σ:AS}{W:List Nat}{sh:Sh}{x:O2 sh.cs}
theorem AOK(h:I8 sh σ1=some x):AJG sh σ1=true/\AH0 σ1 sh.cs=some x:=by
 unfold I8 at h;cases H:AJG sh σ1 with
 |false=>rw[H]at h;exact(A2 h).elim
 |true=>rw[H]at h;exact⟨rfl,h⟩
theorem T2[Fx][Sl (P:=P)](h:HS w0 Mu M σ1 L w S ρ γ μ ι)(hR:Rel P W σ σ1)(hp:I8 sh σ1=some x):Holds w0 Mu M (B6 W sh σ x) L w:=by
 obtain⟨hB,hp⟩:=AOK hp;simp only[AJG,Bool.and_eq_true]at hB;obtain⟨⟨⟨⟨⟨⟨⟨⟨⟨b1,b2⟩,b3⟩,b4⟩,b5⟩,b6⟩,b7⟩,b8⟩,b9⟩,b10⟩:=hB;have D:=AKS sh.cs hp;generalize hq:U7 sh.cs x=q at D;have hqc:q.map (·.1)=sh.cs:=by rw[<-hq];exact AFb _ _
 have hmem:∀p∈q,p.1∈sh.cs:=fun p hp=>by rw[<-hqc];exact AYi hp
 have hof:∀c∈sh.cs,∃p∈q,p.1=c:=fun c z=>by rw[<-hq];exact AOG z
 have hkeep:=AKR b8;have hlive:AH9 σ1 sh.keep:=fun i hi=>⟨fun hk=>AAH b1 i hk hi,hkeep i hi⟩;have hmv:∀i∈H2 σ1 sh.cs,∃a,A1 σ1.res i=some a:=by
  have key:∀(q:List Cv),(∀p∈q,AAE σ1 p.1.2 p.1.1=some p.2)->∀i∈H2 σ1 (q.map (·.1)),∃a,A1 σ1.res i=some a:=by
   intro q;induction q with
   |nil=>intro _ i hi;cases hi
   |cons p l ih=>
    intro hq i hi
    obtain⟨⟨a,c⟩,y⟩:=p
    have hq1:=hq _ (AX4 ..)
    have hl:=ih fun p hp=>hq p (AX0 _ hp)
    rw[AYM,moved_cons]at hi
    cases c with
    |d t=>exact hl i hi
    |undef|it _|np _=>exact hl i hi
    |own e=>
     simp only at hi
     rcases V6 hq1 with⟨j,p,H,_⟩|⟨_,s,N,hod⟩
     . have H:a=.cont j:=H
       subst H
       exact hl i hi
     . have N:U8 σ1 a=some s:=N
       rw[N]at hi
       rcases AAd hod with⟨j,rfl,U⟩|⟨rfl,_⟩
       . rcases mem_cons.1 hi with rfl|hi
         . exact⟨_,U⟩
         . exact hl i hi
       . exact hl i hi
  intro i hi;rw[<-hqc]at hi;exact key q D i hi
 have hdom:∀i∈H2 σ1 sh.cs++sh.keep,∃a,A1 σ1.res i=some a:=fun i hi=>(mem_append.1 hi).elim (hmv i) (hkeep i);have hnd0:(H2 σ1 sh.cs++sh.keep).Nodup:=List.nodup_append.2 ⟨ABW b4,ABW b7,fun a H b E e=>AAH b3 a H (e▸E)⟩;have hnd:ABY ((H2 σ1 sh.cs++sh.keep).map ι)=true:=by
  refine AIl ?_;have key:∀l:List Nat,l.Nodup->(∀i∈l,∃a,A1 σ1.res i=some a)->(l.map ι).Nodup:=by
   intro l;induction l with
   |nil=>intro _ _;exact AZD
   |cons i l ih=>
    intro hn hd
    obtain⟨C,V⟩:=List.nodup_cons.1 hn
    refine List.nodup_cons.2 ⟨fun hm=>?_,ih V fun j U=>hd j (AX0 _ U)⟩
    obtain⟨j,U,F⟩:=mem_map.1 hm
    obtain⟨a,H⟩:=hd i (AX4 ..)
    obtain⟨b,E⟩:=hd j (AX0 _ U)
    exact C (h.inj j i b a E H F▸U)
  exact key _ hnd0 hdom
 have hsel:=h.hp.sel _ hnd;rw[AYI,AFd]at hsel;have hkr:∀j∈sh.keep,∃r,S[ι j]?=some r:=fun j U=>by
  obtain⟨a,H⟩:=hkeep j U;exact⟨_,h.res j a H⟩
 have hHp:Hp w0 Mu M (rsO (P:=P) (W8 σ1 ρ q)++sel S (sh.keep.map ι)) w:=by
  have:=hpO (P:=P) h (K0:=sel S (sh.keep.map ι)) q [] D (by rw[hqc];simpa using hsel);simpa using this
 generalize hO:W8 σ1 ρ q=O at hHp;have hOi:O.map (·.1)=AGM sh.cs:=by rw[<-hO,ownO_ids,hqc]
 have hOv:O.map (fun o=>(o.1,o.2.1))=allV ownV q:=by rw[<-hO,AKU]
 have hOn:(O.map (·.1)).Nodup:=by rw[hOi];exact ABW b9
 have G:∀i∈sh.keep,i∉O.map (·.1):=fun i hi hm=>by rw[hOi]at hm;exact AAH b10 i hm hi
 have hM1:∀b,b∈mm (rsO (P:=P) O++sel S (sh.keep.map ι)) M->b∈mm (sel S ((H2 σ1 sh.cs++sh.keep).map ι)) M:=fun b E=>by
  rw[AYI,AFd];rcases mem_mm.1 E with⟨r,g,E⟩|E
  . rcases mem_append.1 g with g|g
    . have:=AOI (P:=P) h q D r (by rw[hO];exact g) b E;rw[hqc]at this;rcases mem_mm.1 this with⟨r,g,E⟩|E
      . exact mem_mm.2 (.inl ⟨r,AX2 _ g,E⟩)
      . exact mem_mm.2 (.inr E)
    . exact mem_mm.2 (.inl ⟨r,AX3 _ g,E⟩)
  . exact mem_mm.2 (.inr E)
 have hM2:∀b,b∈mm (rsO (P:=P) O++sel S (sh.keep.map ι)) M->b∈mm S M:=fun b E=>ADW (hM1 b E);have hread:∀I:List Nat,(∀i∈I,i∉H2 σ1 sh.cs/\i∉sh.keep)->Rds ρ (A1 σ1.res) (mm (rsO (P:=P) O++sel S (sh.keep.map ι)) M) w I:=fun I hI i hi p c0 xs H=>by
  have z:((H2 σ1 sh.cs++sh.keep).map ι).contains (ι i)=false:=by
   cases E:((H2 σ1 sh.cs++sh.keep).map ι).contains (ι i) with
   |false=>rfl
   |true=>
    simp only[List.contains_eq_mem,decide_eq_true_eq]at E
    obtain⟨j,U,F⟩:=mem_map.1 E
    obtain⟨b,E⟩:=hdom j U
    have:=h.inj j i b _ E H F
    subst this
    rcases mem_append.1 U with U|U
    . exact absurd U (hI j hi).1
    . exact absurd U (hI j hi).2
  exact(AH3 h.hp _ (ι i) z (h.row i _ H) (h.res i _ H)).adv (Adv.drop hM1)
 let ρ2:Nat->Value:=fun i=>match A1 (O.map fun o=>(o.1,o.2.2)) i with
  |some v=>v
  |none=>ρ i
 let ι2:Nat->Nat:=fun i=>if i∈O.map (·.1) then pos (O.map (·.1)) i else O.length+pos sh.keep i
 have hρ:∀i,i∉O.map (·.1)->ρ2 i=ρ i:=fun i hi=>by
  have:A1 (O.map fun o=>(o.1,o.2.2)) i=none:=fnd_none fun v hv=>by
   obtain⟨o,ho,F⟩:=mem_map.1 hv;cases F
   exact hi (AYi (f:=(·.1)) ho)
  simp only[ρ2,this]
 have hρO:∀i a v,(i,a,v)∈O->ρ2 i=v:=fun i a v ho=>by
  have:A1 (O.map fun o=>(o.1,o.2.2)) i=some v:=AHL (by rw[AYe];exact hOn) (mem_map.2 ⟨(i,a,v),ho,rfl⟩);simp only[ρ2,this]
 have hkept:∀i∈sh.keep,∃a1 a0,A1 σ1.res i=some a1/\A1 σ.res i=some a0/\RelA P σ1 i a0 a1:=fun i hi=>by
  obtain⟨a1,C⟩:=hkeep i hi;obtain⟨a0,V,R⟩:=hR.dom i a1 C (hlive i hi).1;exact⟨a1,a0,C,V,R⟩
 have hτ:∀i,A1 (B6 W sh σ x).res i=match A1 (allV ownV q) i with|some a=>some a|none=>if i∈sh.keep then(A1 σ.res i).map (ADN q sh.keep i) else none:=fun i=>by
  show A1 (allV ownV (U7 sh.cs x)++AB9 (U7 sh.cs x) sh.keep σ.res) i=_;rw[hq,fnd_app,ABd];cases A1 (allV ownV q) i<;>rfl
 have hOvn:∀i∈sh.keep,A1 (allV ownV q) i=none:=fun i hi=>fnd_none fun a H=>by
  rw[<-hOv]at H;obtain⟨o,ho,F⟩:=mem_map.1 H;cases F
  exact G _ hi (AYi (f:=(·.1)) ho)
 have hτk:∀i∈sh.keep,∀a0,A1 σ.res i=some a0->A1 (B6 W sh σ x).res i=some (ADN q sh.keep i a0):=fun i hi a0 H=>by
  rw[hτ,hOvn i hi,H];simp[hi]
 have hown:∀i∈sh.keep,∀p e (xs:den e.ty),A1 σ1.res i=some (.own p e xs)->A1 (B6 W sh σ x).res i=some (.own p e xs):=fun i hi p e xs C=>by
  obtain⟨a1,a0,V,R,Y⟩:=hkept i hi;rw[C]at V;cases V;rw[hτk i hi a0 R];cases a0 with
  |row e l=>obtain⟨l',Q,_⟩:=Y;cases Q
  |own p' e' zs=>
   obtain⟨ys,Q,X⟩:=Y
   cases Q
   simp only[ADN]
   cases h7:ABr (AFW i e) q with
   |some ys=>
    obtain⟨cp,K,k⟩:=ABe h7
    obtain⟨⟨a,c⟩,y⟩:=cp
    cases c with
    |d _=>cases k
    |undef|it _|np _=>cases k
    |own e2=>
     obtain⟨h10,h11⟩:=AOJ k
     subst h10
     rcases V6 (D _ K) with⟨j,p'',H,U⟩|⟨T,_⟩
     . cases H
       rw[C]at U;cases U
       obtain⟨F,h11⟩:=AAF h11
       have h11:y=ys:=h11
       subst h11;rfl
     . exact absurd rfl (T i)
   |none=>
    have:xs=zs:=X fun z=>by
     rcases AA1 (AFf b2 i 0 z hi) with⟨c,hm,_⟩|⟨m,c,_,hm⟩
     . obtain⟨cp,J,F⟩:=hof _ hm;obtain⟨⟨a,c'⟩,y⟩:=cp;cases F
       have K:=AFC h7 _ J;have k:=D _ J;cases c with
       |d t=>exact(A2 k).elim
       |undef|it _|np _=>exact(A2 k).elim
       |own e2=>
        rcases V6 k with⟨j,p'',H,U⟩|⟨T,_⟩
        . cases H
          rw[C]at U;cases U
          have K:(match beq i i with
           |true=>castO e e y
           |false=>none)=none:=K
          simp only[beq_self,castO,dif_pos]at K
          cases K
        . exact absurd rfl (T i)
     . omega
    rw[this]
 have hkex:∀s v,Ok ρ (A1 σ1.res) (mm S M) w s v->Ok ρ2 (A1 (B6 W sh σ x).res) (mm (rsO (P:=P) O++sel S (sh.keep.map ι)) M) w (J9 sh.keep s) v:=fun s v N=>
  Ok.kex (fun j U=>hρ j (G j U)) (fun j U p e t xs C=>⟨xs,hown j U p (.sl e t) xs C,rfl⟩) s (Ok.adv (Adv.drop hM2) s N)
 have hdat:∀(cp:Cv) (t:Ty) (y:den t) (a:At),cp=⟨(a,.d t),y⟩->cp∈q->∀s u,U8 σ1 a=some s->Ok ρ (A1 σ1.res) (mm S M) w s u->Ok ρ2 (A1 (B6 W sh σ x).res) (mm (rsO (P:=P) O++sel S (sh.keep.map ι)) M) w (G0 t y) u:=fun cp t y a F J s u hv hu=>by
  subst F;obtain⟨s',C,V⟩:=ALu (D _ J);have C:U8 σ1 a=some s':=C;rw[hv]at C;cases C;refine E1 t (I5 hM2 t s (hread _ fun i hi=>?_) V hu);have:=AAe hi (hmem _ J) hv;exact⟨fun hm=>AAH b6 i this hm,fun hm=>AAH b5 i this hm⟩
 have hslc:∀(cp:Cv) (e:Oc) (y:den e.ty) (a:At),cp=⟨(a,.own e),y⟩->cp∈q->(∀i,a≠.cont i)->∀s u,U8 σ1 a=some s->Ok ρ (A1 σ1.res) (mm S M) w s u->∀i,(i,AR.own false e y)∈ownV (.own e) y a->Ok ρ2 (A1 (B6 W sh σ x).res) (mm (rsO (P:=P) O++sel S (sh.keep.map ι)) M) w (.own i) u:=fun cp e y a F J T s u hv hu i hi=>by
  subst F;have C:ρ2 i=hvO ρ (U8 σ1 a):=hρO i (.own false e y) _ (by rw[<-hO];exact ownO_mem.2 ⟨_,J,hi,rfl⟩);rcases V6 (D _ J) with⟨j,p,H,_⟩|⟨_,s',hs',hod⟩
  . exact absurd H (T j)
  . have hs':U8 σ1 a=some s':=hs';rw[hv]at hs';cases hs';rw[hv]at C;rcases AAd hod with⟨j,rfl,U⟩|⟨rfl,_⟩
    . exact⟨hu.1.trans C.symm,hu.2⟩
    . have hu:u=.slice none 0 0:=hu;subst hu;exact⟨C.symm,rfl,rfl⟩
 refine⟨rsO (P:=P) O++sel S (sh.keep.map ι),ρ2,γ,μ,ι2,hHp,fun i a H=>?_,fun i j a b H E F=>?_,fun i a H=>?_,fun t s2 A=>?_,h.anch.adv (Adv.drop hM2)⟩;·
  rw[hτ]at H
  cases B:A1 (allV ownV q) i with
  |some r=>
   rw[B]at H
   have H:r=a:=AXz H
   subst H
   have hf':=B
   rw[<-hOv]at B
   obtain⟨v,C,V⟩:=AFg B
   have hm:i∈O.map (·.1):=by
    have:=AX1 V;exact AYi (f:=(·.1)) this
   have Z:pos (O.map (·.1)) i<O.length:=by have:=AOH hm;simpa using this
   simp only[ι2,if_pos hm]
   rw[AYP (by simpa[rsO] using Z)]
   simp only[rsO,List.getElem?_map,V,Option.map_some]
   obtain⟨p,hp1,hp2⟩:=allV_mem.1 (ABL hf')
   obtain⟨e,z,g,_⟩:=AGc hp2
   rw[g]
   have R:ρ2 i=v:=by simp only[ρ2,C]
   rw[R];rfl
  |none=>
   rw[B]at H
   simp only at H
   split at H
   . rename_i hk
     obtain⟨a1,a0,C,V,R⟩:=hkept i hk
     rw[V]at H
     have H:ADN q sh.keep i a0=a:=AXz H
     subst H
     have hn:=G i hk
     simp only[ι2,if_neg hn]
     rw[AYX (by simp[rsO])]
     simp only[rsO,List.length_map,Nat.add_sub_cancel_left]
     rw[AID hkr hk,h.res i a1 C,hρ i hn]
     cases a1 with
     |own p e xs=>
      have Y:=hown i hk p e xs C
      rw[hτk i hk a0 V]at Y
      rw[AXz Y]
     |row e l1=>
      cases a0 with
      |own _ _ _=>obtain⟨_,Q,_⟩:=R;cases Q
      |row e' l0=>obtain⟨_,Q,_⟩:=R;cases Q;rfl
   . cases H
 ·
  have key:∀i a,A1 (B6 W sh σ x).res i=some a->i∈O.map (·.1)\/(i∉O.map (·.1)/\i∈sh.keep):=fun i a H=>by
   by_cases hm:i∈O.map (·.1)
   . exact .inl hm
   . rw[hτ]at H;cases B:A1 (allV ownV q) i with
     |some r=>
      rw[<-hOv]at B
      obtain⟨v,_,V⟩:=AFg B
      exact .inl (AYi (f:=(·.1)) (AX1 V))
     |none=>
      rw[B]at H
      simp only at H
      split at H
      . rename_i hk;exact .inr ⟨hm,hk⟩
      . cases H
  have Z:∀i,i∈O.map (·.1)->pos (O.map (·.1)) i<O.length:=fun i hm=>by have:=AOH hm;simpa using this
  rcases key i a H with hi|⟨hi,hik⟩<;>rcases key j b E with U|⟨U,hjk⟩
  . simp only[ι2,if_pos hi,if_pos U]at F
    exact ALt hi U F
  . simp only[ι2,if_pos hi,if_neg U]at F
    have:=Z i hi;omega
  . simp only[ι2,if_neg hi,if_pos U]at F
    have:=Z j U;omega
  . simp only[ι2,if_neg hi,if_neg U]at F
    exact ALt hik hjk (by omega)
 ·
  rw[hτ]at H
  cases B:A1 (allV ownV q) i with
  |some r=>
   rw[B]at H
   have H:r=a:=AXz H
   subst H
   obtain⟨p,hp1,hp2⟩:=allV_mem.1 (ABL B)
   have hf2:=B
   rw[<-hOv]at hf2
   obtain⟨v,_,V⟩:=AFg hf2
   have hvm:(i,r,v)∈O:=AX1 V
   rw[hρO i r v hvm]
   rw[<-hO]at hvm
   obtain⟨cp,J,Q,X⟩:=ownO_mem.1 hvm
   obtain⟨⟨a,c⟩,y⟩:=cp
   obtain⟨e,z,g,hal⟩:=AGc Q
   have z:c=.own e:=z
   subst z
   have g:r=.own false e y:=g
   subst g
   show Hnd v e
   rcases V6 (D _ J) with⟨j,p,H,_⟩|⟨_,s,N,hod⟩
   . have H:a=.cont j:=H
     subst H
     rcases hal with H|⟨_,_,H,_⟩<;>cases H
   . have N:U8 σ1 a=some s:=N
     have X:v=hvO ρ (U8 σ1 a):=X
     rw[N]at X
     rcases AAd hod with⟨j,rfl,U⟩|⟨rfl,hx⟩
     . rw[X];exact h.row j _ U
     . cases e with
       |sl _ _=>trivial
       |mp _ _ _=>cases hx
  |none=>
   rw[B]at H
   simp only at H
   split at H
   . rename_i hk
     obtain⟨a1,a0,C,V,R⟩:=hkept i hk
     rw[V]at H
     have H:ADN q sh.keep i a0=a:=AXz H
     subst H
     cases a0 with
     |own p e xs=>
      simp only[ADN]
      obtain⟨y,Q,_⟩:=R
      have X:Hnd (ρ2 i) e:=by
       rw[hρ i (G i hk)];rw[Q]at C;exact h.row i _ C
      cases ABr (AFW i e) q<;>exact X
     |row e l0=>
      obtain⟨l1,Q,X,h7⟩:=R
      subst Q
      obtain⟨E,hl⟩:=h.row i _ C
      rw[hρ i (G i hk)]
      refine⟨E,OkL.map l1 _ (by rw[putN_len,X]) hl fun n s u N hu=>?_⟩
      have Z:n<l0.length:=by
       rw[<-X];rcases AYF n l1.length with h|h
       . exact h
       . rw[AYC h]at N;cases N
      rw[AGZ,AYQ,AX7 Z]
      refine⟨_,rfl,?_⟩
      have hcell:AB7 σ1 i n=some s:=by simp only[AB7,C,AAt];exact N
      cases hv:ABr (AC2 i n) q with
      |none=>
       simp only
       have T:(i,n+1)∉σ1.ch:=fun z=>by
        rcases AA1 (AFf b2 i (n+1) z hk) with⟨c,hm,hz⟩|⟨m,c,hm,hz⟩
        . omega
        . have:m=n:=by omega
          subst this;obtain⟨cp,J,F⟩:=hof _ hm;obtain⟨⟨a,c'⟩,y⟩:=cp;cases F
          have K:=AFC hv _ J;have k:=D _ J;cases c with
          |d t=>simp[AC2]at K
          |undef|it _|np _=>exact(A2 k).elim
          |own e2=>simp[AC2]at K
       obtain⟨s0,K,k⟩:=h7 n s N T
       rw[AX7 Z]at K
       cases K
       exact k sh.keep hlive _ _ _ _ _ (hkex s u hu)
      |some sv=>
       simp only
       obtain⟨cp,J,K⟩:=ABe hv
       obtain⟨⟨a,c⟩,y⟩:=cp
       have k:a=.cell i n:=AHK K
       subst k
       cases c with
       |d t=>
        have K:sv=G0 t y:=by simpa[AC2] using K.symm
        subst K
        exact hdat _ t y _ rfl J s u hcell hu
       |undef|it _|np _=>cases K
       |own e=>
        have K:sv=.own (ACY i n):=by simpa[AC2] using K.symm
        subst K
        exact hslc _ e y _ rfl J (fun j U=>by cases U) s u hcell hu (ACY i n) (by simp[ownV])
   . cases H
 ·
  have A:A1 (allV AAy (U7 sh.cs x)++AB8 W sh.keep σ.env) t=some s2:=A
  rw[hq,fnd_app]at A
  cases B:A1 (allV AAy q) t with
  |some r=>
   rw[B]at A
   have A:r=s2:=AXz A
   subst A
   obtain⟨cp,J,V⟩:=allV_mem.1 (ABL B)
   obtain⟨⟨a,c⟩,y⟩:=cp
   have R:a=.slot t:=AFD V
   subst R
   cases c with
   |d u=>
    have V:r=G0 u y:=by simpa[AAy] using V
    subst V
    obtain⟨s,Y,_⟩:=ALu (D _ J)
    have Y:A1 σ1.env t=some s:=Y
    obtain⟨v,Q,X⟩:=h.env t s Y
    exact⟨v,Q,hdat _ u y _ rfl J s v Y X⟩
   |it ts=>exact(A2 (D _ J)).elim
   |np t=>exact(A2 (D _ J)).elim
   |undef=>
    have V:r=.undef:=by simpa[AAy] using V
    subst V
    obtain⟨s,F,Y⟩:=ALT (D _ J)
    cases F
    obtain⟨v,Q,X⟩:=h.env t _ Y
    exact⟨v,Q,X⟩
   |own e=>
    have V:r=.own t:=by simpa[AAy] using V
    subst V
    rcases V6 (D _ J) with⟨j,p,H,_⟩|⟨T,s,Y,_⟩
    . cases H
    . have Y:A1 σ1.env t=some s:=Y
      obtain⟨v,Q,X⟩:=h.env t s Y
      exact⟨v,Q,hslc _ e y _ rfl J T s v Y X t (by simp[ownV])⟩
  |none=>
   rw[B]at A
   simp only at A
   rw[fnd_keepE]at A
   split at A
   . cases A
   . rename_i hW
     cases C:A1 σ.env t with
     |none=>rw[C]at A;cases A
     |some s0=>
      rw[C]at A
      have A:J9 sh.keep s0=s2:=AXz A
      subst A
      obtain⟨s',V,R⟩:=hR.env t hW s0 C
      obtain⟨v,Y,Q⟩:=h.env t s' V
      exact⟨v,Y,R sh.keep hlive _ _ _ _ _ (hkex s' v Q)⟩
end Go.Rx
namespace Go.Rx
open Go Go.Sx Go.RowKit
variable[Trk][Sg][Sf]
def Y5:Option Rp->List Nat
 |some p=>AAv p
 |none=>[]
mutual
def E4(i:Nat)(p:Option Rp):SV->SV
 |.own j=>match p with
  |some p=>subS i p (.own j)
  |none=>.own j
 |.ptr j o=>match p with
  |some p=>subS i p (.ptr j o)
  |none=>.ptr j o
 |.ep j t x z o=>match p with
  |some p=>subS i p (.ep j t x z o)
  |none=>oldS i (.ep j t x z o)
 |.agg l=>.agg (trL i p l)
 |.tup l=>.tup (trL i p l)
 |.rp s o=>.rp (E4 i p s) o
 |.ap s n x k=>.ap (E4 i p s) n x k
 |.fn g l=>.fn g (trL i p l)
 |.int k x=>.int k x
 |.bool b=>.bool b
 |.dat t x=>.dat t x
 |.str n x=>.str n x
 |.ary k n x=>.ary k n x
 |.fv a r f=>.fv a r f
 |.nilS=>.nilS
 |.raw v=>.raw v
 |.it ts xs=>.it ts xs
 |.np t x=>.np t x
 |.undef=>.undef
 |.dead=>.dead
def trL(i:Nat)(p:Option Rp):List SV->List SV
 |[]=>[]
 |s::l=>E4 i p s::trL i p l
end
mutual
theorem AHM{i:Nat}{p:Rp}:∀s:SV,E4 i (some p) s=subS i p s
 |.own _|.ptr _ _|.ep _ _ _ _ _=>rfl
 |.agg l=>AX9 SV.agg (ADk l)
 |.tup l=>AX9 SV.tup (ADk l)
 |.rp s o=>AX9 (fun x=>SV.rp x o) (AHM s)
 |.ap s n x k=>AX9 (fun y=>SV.ap y n x k) (AHM s)
 |.fn g l=>AX9 (SV.fn g) (ADk l)
 |.int _ _|.bool _|.dat _ _|.str _ _|.ary _ _ _|.fv _ _ _|.nilS|.np _ _|.it _ _|.raw _|.undef|.dead=>rfl
theorem ADk{i:Nat}{p:Rp}:∀l:List SV,trL i (some p) l=subL i p l
 |[]=>rfl
 |s::l=>by simp only[trL,subL,AHM s,ADk l]
end
mutual
theorem AHN{i:Nat}:∀s:SV,E4 i none s=oldS i s
 |.own _|.ptr _ _|.ep _ _ _ _ _=>rfl
 |.agg l=>AX9 SV.agg (ADl l)
 |.tup l=>AX9 SV.tup (ADl l)
 |.rp s o=>AX9 (fun x=>SV.rp x o) (AHN s)
 |.ap s n x k=>AX9 (fun y=>SV.ap y n x k) (AHN s)
 |.fn g l=>AX9 (SV.fn g) (ADl l)
 |.int _ _|.bool _|.dat _ _|.str _ _|.ary _ _ _|.fv _ _ _|.nilS|.np _ _|.it _ _|.raw _|.undef|.dead=>rfl
theorem ADl{i:Nat}:∀l:List SV,trL i none l=oldL i l
 |[]=>rfl
 |s::l=>by simp only[trL,oldL,AHN s,ADl l]
end
mutual
theorem T3{i:Nat}{p:Option Rp}:∀s:SV,i∉A9 s->E4 i p s=s
 |.own j,h=>by
  have H:i≠j:=fun e=>h (by simp[A9,e]);cases p with
  |none=>rfl
  |some p=>simp only[E4,subS,U9 H]
 |.ptr j o,h=>by
  have H:i≠j:=fun e=>h (by simp[A9,e]);cases p with
  |none=>rfl
  |some p=>simp only[E4,subS,U9 H]
 |.ep j _ _ _ _,h=>by
  have H:i≠j:=fun e=>h (by simp[A9,e]);cases p with
  |none=>simp only[E4,oldS,U9 H]
  |some p=>simp only[E4,subS,U9 H]
 |.agg l,h=>AX9 SV.agg (ADm l h)
 |.tup l,h=>AX9 SV.tup (ADm l h)
 |.rp s o,h=>AX9 (fun x=>SV.rp x o) (T3 s h)
 |.ap s n x k,h=>AX9 (fun y=>SV.ap y n x k) (T3 s h)
 |.fn g l,h=>AX9 (SV.fn g) (ADm l h)
 |.int _ _,_|.bool _,_|.dat _ _,_|.str _ _,_|.ary _ _ _,_|.fv _ _ _,_|.nilS,_|.np _ _,_|.it _ _,_|.raw _,_|.undef,_|.dead,_=>rfl
theorem ADm{i:Nat}{p:Option Rp}:∀l:List SV,i∉ownsLL l->trL i p l=l
 |[],_=>rfl
 |s::l,h=>by
  have h:i∉A9 s++ownsLL l:=h;rw[AYY,not_or]at h;simp only[trL,T3 s h.1,ADm l h.2]
end
variable{i j:Nat}{p q:Option Rp}
theorem AKW{i:Nat}{p:Rp}{j o:Nat}:(∃l,subS i p (.ptr j o)=.rp (.agg l) o/\p=.rp l/\i=j)\/(subS i p (.ptr j o)=.dead/\i=j/\∀l,p≠.rp l)\/(subS i p (.ptr j o)=.ptr j o/\i≠j):=by
 by_cases h:i=j
 . subst h;cases p with
   |rp l=>exact .inl ⟨l,by simp[subS],rfl,rfl⟩
   |dead=>exact .inr (.inl ⟨by simp[subS],rfl,fun _ e=>by cases e⟩)
   |dat _ _=>exact .inr (.inl ⟨by simp[subS],rfl,fun _ e=>by cases e⟩)
 . exact .inr (.inr ⟨by simp only[subS,U9 h],h⟩)
theorem ADn{i:Nat}{p:Rp}{j:Nat}:(A9 (subS i p (.own j))=[]/\i=j)\/(subS i p (.own j)=.own j/\i≠j):=by
 by_cases h:i=j
 . subst h;cases p<;>exact .inl ⟨by simp[subS,A9],rfl⟩
 . exact .inr ⟨by simp only[subS,U9 h],h⟩
theorem ATQ(I:i≠j)(k:Nat):E4 i p (E4 j q (.own k))=E4 j q (E4 i p (.own k)):=by
 cases p with
 |none=>
  cases q with
  |none=>rfl
  |some q=>
   show E4 i none (subS j q (.own k))=subS j q (.own k)
   rcases ADn (i:=j) (p:=q) (j:=k) with⟨h,_⟩|⟨h,_⟩
   . exact T3 _ (by rw[h];simp)
   . rw[h];rfl
 |some p=>
  cases q with
  |none=>
   show subS i p (.own k)=E4 j none (subS i p (.own k))
   rcases ADn (i:=i) (p:=p) (j:=k) with⟨h,_⟩|⟨h,_⟩
   . exact(T3 _ (by rw[h];simp)).symm
   . rw[h];rfl
  |some q=>
   show E4 i (some p) (subS j q (.own k))=E4 j (some q) (subS i p (.own k))
   rcases ADn (i:=j) (p:=q) (j:=k) with⟨h,e⟩|⟨h,e⟩
   . rcases ADn (i:=i) (p:=p) (j:=k) with⟨_,e'⟩|⟨H,_⟩
     . exact absurd (e'.trans e.symm) I
     . rw[H,T3 (subS j q (.own k)) (by rw[h];simp)];rfl
   . rw[h]
     show subS i p (.own k)=_
     rcases ADn (i:=i) (p:=p) (j:=k) with⟨H,_⟩|⟨H,_⟩
     . exact(T3 _ (by rw[H];simp)).symm
     . rw[H];exact h.symm
theorem ATR(H:i≠j)(I:j∉Y5 p)(V:i∉Y5 q)(k o:Nat):E4 i p (E4 j q (.ptr k o))=E4 j q (E4 i p (.ptr k o)):=by
 have key:∀{i j:Nat} {p q:Rp},i≠j->j∉AAv p->i=k->E4 i (some p) (.ptr k o)=E4 j (some q) (E4 i (some p) (.ptr k o)):=fun {i j p q} H I e=>by
  show subS i p (.ptr k o)=E4 j (some q) (subS i p (.ptr k o));rcases AKW (i:=i) (p:=p) (j:=k) (o:=o) with⟨l,h,hl,_⟩|⟨h,_⟩|⟨h,J⟩
  . rw[h,T3];intro hm;exact I (by rw[hl];exact hm)
  . rw[h];rfl
  . exact absurd e J
 have old:∀{i j:Nat} {p:Rp},j∉AAv p->E4 j none (E4 i (some p) (.ptr k o))=E4 i (some p) (.ptr k o):=fun {i j p} I=>by
  show E4 j none (subS i p (.ptr k o))=subS i p (.ptr k o);rcases AKW (i:=i) (p:=p) (j:=k) (o:=o) with⟨l,h,hl,_⟩|⟨h,_⟩|⟨h,J⟩
  . rw[h,T3];intro hm;exact I (by rw[hl];exact hm)
  . rw[h];rfl
  . rw[h];rfl
 cases p with
 |none=>
  cases q with
  |none=>rfl
  |some q=>exact old V
 |some p=>
  cases q with
  |none=>exact(old I).symm
  |some q=>
   by_cases e1:i=k
   . have U:E4 j (some q) (.ptr k o)=.ptr k o:=T3 _ (by simp[A9];intro e;exact H (e1.trans e.symm))
     rw[U];exact key H I e1
   . have W:E4 i (some p) (.ptr k o)=.ptr k o:=T3 _ (by simp[A9];exact e1)
     rw[W]
     by_cases e2:j=k
     . exact(key (AZs H) V e2).symm
     . have U:E4 j (some q) (.ptr k o)=.ptr k o:=T3 _ (by simp[A9];exact e2)
       rw[U,W]
theorem AVQ(I:i≠j)(k:Nat)(t:Ty)(x:Int)(z:Option (den t))(o:Nat):E4 i p (E4 j q (.ep k t x z o))=E4 j q (E4 i p (.ep k t x z o)):=by
 have H:∀{i:Nat} {p:Option Rp},i=k->(E4 i p (.ep k t x z o)=.dead/\p≠none)\/(E4 i p (.ep k t x z o)=.ep k t x none o/\p=none):=fun {i p} e=>by
  subst e;cases p with
  |none=>exact .inr ⟨by simp[E4,oldS],rfl⟩
  |some p=>exact .inl ⟨by simp[E4,subS],fun e=>by cases e⟩
 have miss:∀{i:Nat} {p:Option Rp} {z:Option (den t)},i≠k->E4 i p (.ep k t x z o)=.ep k t x z o:=fun {i p z} e=>T3 _ (by simp[A9];exact e);by_cases e1:i=k
 . have e2:j≠k:=fun e=>I (e1.trans e.symm);rw[miss e2];rcases H (p:=p) e1 with⟨h,_⟩|⟨h,_⟩
   . rw[h];rfl
   . rw[h,miss e2]
 . rw[miss (p:=p) e1];by_cases e2:j=k
   . rcases H (p:=q) e2 with⟨h,_⟩|⟨h,_⟩
     . rw[h];rfl
     . rw[h,miss e1]
   . rw[miss e2,miss e1]
mutual
theorem AJJ{i j:Nat}{p q:Option Rp}(H:i≠j)(J:j∉Y5 p)(I:i∉Y5 q):∀s:SV,E4 i p (E4 j q s)=E4 j q (E4 i p s)
 |.own k=>ATQ H k
 |.ptr k o=>ATR H J I k o
 |.ep k t x z o=>AVQ H k t x z o
 |.agg l=>AX9 SV.agg (AFE H J I l)
 |.tup l=>AX9 SV.tup (AFE H J I l)
 |.rp s o=>AX9 (fun x=>SV.rp x o) (AJJ H J I s)
 |.ap s n x k=>AX9 (fun y=>SV.ap y n x k) (AJJ H J I s)
 |.fn g l=>AX9 (SV.fn g) (AFE H J I l)
 |.int _ _|.bool _|.dat _ _|.str _ _|.ary _ _ _|.fv _ _ _|.nilS|.np _ _|.it _ _|.raw _|.undef|.dead=>rfl
theorem AFE{i j:Nat}{p q:Option Rp}(H:i≠j)(J:j∉Y5 p)(I:i∉Y5 q):∀l:List SV,trL i p (trL j q l)=trL j q (trL i p l)
 |[]=>rfl
 |s::l=>by simp only[trL,AJJ H J I s,AFE H J I l]
end
theorem tr_wd{i:Nat}{p:Option Rp}(s:SV):wd (E4 i p s)=wd s:=by
 cases s with
 |own j=>
  cases p with
  |none=>rfl
  |some p=>
   show wd (subS i p (.own j))=1
   by_cases e:i=j
   . subst e;cases p<;>simp[subS,wd]
   . simp only[subS,U9 e,wd]
 |ptr j o=>
  cases p with
  |none=>rfl
  |some p=>
   show wd (subS i p (.ptr j o))=1
   by_cases e:i=j
   . subst e;cases p<;>simp[subS,wd]
   . simp only[subS,U9 e,wd]
 |ep j t x z o=>
  by_cases e:i=j
  . subst e
    cases p with
    |none=>simp[E4,oldS,wd]
    |some p=>simp[E4,subS,wd]
  . rw[T3 _ (by simp[A9];exact e)]
 |agg _|tup _|rp _ _|ap _ _ _ _|fn _ _|int _ _|bool _|dat _ _|str _ _|ary _ _ _|fv _ _ _|nilS|raw _|it _ _|np _ _|undef|dead=>rfl
theorem ALw{i:Nat}{p:Option Rp}:∀(ns l:List SV),i∉ownsLL ns->overL (trL i p l) ns=(overL l ns).map (trL i p)
 |[],l,_=>by cases l<;>rfl
 |_::_,[],_=>rfl
 |n::ns,s::l,h=>by
  have h:i∉A9 n++ownsLL ns:=h;rw[AYY,not_or]at h;simp only[trL,overL,tr_wd,ALw ns l h.2];cases beq (wd s) (wd n) with
  |false=>rfl
  |true=>
   cases wd n with
   |zero=>rfl
   |succ m=>
    simp only
    cases overL l ns with
    |none=>rfl
    |some x=>simp only[Option.map_some,trL,T3 n h.1]
theorem ALx{i:Nat}{p:Option Rp}:∀(l:List SV) (o:Nat) (ns:List SV),i∉ownsLL ns->setW (trL i p l) o ns=(setW l o ns).map (trL i p)
 |l,0,ns,h=>by
  have e:∀l:List SV,setW l 0 ns=overL l ns:=fun l=>by cases l<;>rfl
  rw[e,e];exact ALw ns l h
 |[],_+1,_,_=>rfl
 |s::l,o+1,ns,h=>by
  simp only[trL,setW,tr_wd];cases wd s with
  |zero=>rfl
  |succ n=>
   simp only
   cases Nat.ble n o with
   |false=>rfl
   |true=>
    simp only[ALx l (o-n) ns h]
    cases setW l (o-n) ns with
    |none=>rfl
    |some x=>rfl
def Eqv(σ σ':AS):Prop:=(∀t,A1 σ.env t=A1 σ'.env t)/\∀i,A1 σ.res i=A1 σ'.res i
theorem Eqv.refl(σ:AS):Eqv σ σ:=⟨fun _=>rfl,fun _=>rfl⟩
theorem Eqv.symm{σ σ':AS}(h:Eqv σ σ'):Eqv σ' σ:=⟨fun t=>(h.1 t).symm,fun i=>(h.2 i).symm⟩
theorem Eqv.trans{σ σ1 σ2:AS}(h:Eqv σ σ1)(k:Eqv σ1 σ2):Eqv σ σ2:=⟨fun t=>(h.1 t).trans (k.1 t),fun i=>(h.2 i).trans (k.2 i)⟩
def Z6:Ac->Option (Nat×Option Rp)
 |.put _=>none
 |.new i _=>some (i,some .dead)
 |.sto i _ _=>some (i,none)
 |.cnt i _ _=>some (i,none)
 |.hnd i _=>some (i,some .dead)
 |.del i p=>some (i,some p)
def fA(a:Ac)(s:SV):SV:=match Z6 a with
 |some (i,p)=>E4 i p s
 |none=>s
def trR(i:Nat)(p:Option Rp):AR->AR
 |.row e l=>.row e (trL i p l)
 |.own q c x=>.own q c x
theorem AFh{i:Nat}:∀{l:List Nat},i∈l->c0 i∈dbl l/\c1 i∈dbl l
 |k::l,h=>by
  rcases mem_cons.1 h with h|h
  . subst h;exact⟨AX4 ..,AX0 _ (AX4 ..)⟩
  . have:=AFh h;exact⟨AX0 _ (AX0 _ this.1),AX0 _ (AX0 _ this.2)⟩
mutual
theorem ACi{c:Nat}:∀{s:SV},c∈S8 s->∃i∈A9 s,c=c0 i\/c=c1 i
 |.own i,h=>⟨i,AX4 ..,.inl (mem_singleton.1 h)⟩
 |.ptr i _,h=>⟨i,AX4 ..,.inl (mem_singleton.1 h)⟩
 |.ep i _ _ _ _,h=>⟨i,AX4 ..,(mem_cons.1 h).imp id mem_singleton.1⟩
 |.agg l,h=>ADA (l:=l) h
 |.tup l,h=>ADA (l:=l) h
 |.fn _ l,h=>ADA (l:=l) h
 |.rp s _,h=>ACi (s:=s) h
 |.ap s _ _ _,h=>ACi (s:=s) h
 |.int _ _,h|.bool _,h|.dat _ _,h|.str _ _,h|.ary _ _ _,h|.fv _ _ _,h|.nilS,h|.np _ _,h|.it _ _,h|.raw _,h|.undef,h|.dead,h=>by cases h
theorem ADA{c:Nat}:∀{l:List SV},c∈O7 l->∃i∈ownsLL l,c=c0 i\/c=c1 i
 |[],h=>by cases h
 |s::l,h=>by
  rcases mem_append.1 (show c∈S8 s++O7 l from h) with h|h
  . obtain⟨i,I,H⟩:=ACi h;exact⟨i,AX2 _ I,H⟩
  . obtain⟨i,I,H⟩:=ADA h;exact⟨i,AX3 _ I,H⟩
end
mutual
theorem ACj{i:Nat}:∀{s:SV},i∈A9 s->c0 i∈S8 s
 |.own j,h=>by rw[mem_singleton.1 (show i∈[j] from h)];exact AX4 ..
 |.ptr j _,h=>by rw[mem_singleton.1 (show i∈[j] from h)];exact AX4 ..
 |.ep j _ _ _ _,h=>by rw[mem_singleton.1 (show i∈[j] from h)];exact AX4 ..
 |.agg l,h=>ACB (l:=l) h
 |.tup l,h=>ACB (l:=l) h
 |.fn _ l,h=>ACB (l:=l) h
 |.rp s _,h=>ACj (s:=s) h
 |.ap s _ _ _,h=>ACj (s:=s) h
 |.int _ _,h|.bool _,h|.dat _ _,h|.str _ _,h|.ary _ _ _,h|.fv _ _ _,h|.nilS,h|.np _ _,h|.it _ _,h|.raw _,h|.undef,h|.dead,h=>by cases h
theorem ACB{i:Nat}:∀{l:List SV},i∈ownsLL l->c0 i∈O7 l
 |[],h=>by cases h
 |s::l,h=>by
  rcases mem_append.1 (show i∈A9 s++ownsLL l from h) with h|h
  . exact AX2 _ (ACj h)
  . exact AX3 _ (ACB h)
end
mutual
theorem ADB{i:Nat}:∀{s:SV},c1 i∉S8 s->E4 i none s=s
 |.own j,h=>rfl
 |.ptr j _,h=>rfl
 |.ep j _ _ _ _,h=>by
  have H:i≠j:=fun e=>h (by subst e;exact AX0 _ (AX4 ..));simp only[E4,oldS,U9 H]
 |.agg l,h=>AX9 SV.agg (AA2 (l:=l) h)
 |.tup l,h=>AX9 SV.tup (AA2 (l:=l) h)
 |.fn g l,h=>AX9 (SV.fn g) (AA2 (l:=l) h)
 |.rp s o,h=>AX9 (fun x=>SV.rp x o) (ADB (s:=s) h)
 |.ap s n x k,h=>AX9 (fun y=>SV.ap y n x k) (ADB (s:=s) h)
 |.int _ _,_|.bool _,_|.dat _ _,_|.str _ _,_|.ary _ _ _,_|.fv _ _ _,_|.nilS,_|.np _ _,_|.it _ _,_|.raw _,_|.undef,_|.dead,_=>rfl
theorem AA2{i:Nat}:∀{l:List SV},c1 i∉O7 l->trL i none l=l
 |[],_=>rfl
 |s::l,h=>by
  have h:c1 i∉S8 s++O7 l:=h;rw[AYY,not_or]at h;simp only[trL,ADB h.1,AA2 h.2]
end
def hA:Ac->Option AR->Option AR
 |.new _ r,_=>some r
 |.sto _ o ns,a=>a.map (AAO o ns)
 |.cnt _ c x,a=>a.map (Y2 c x)
 |.hnd _ r,a=>a.map fun _=>r
 |.del _ _,_=>none
 |.put _,a=>a
def ABt:Ac->Option Nat->Option (Nat×SV)
 |.put s,some d=>some (d,s)
 |_,_=>none
variable{d:Option Nat}{σ:AS}{a:Ac}{σ':AS}
theorem ARj{p:Rp}(a:AR):trR i (some p) a=a.sub i p:=by cases a<;>simp[trR,AR.sub,ADk]
theorem ARk(a:AR):trR i none a=a.old i:=by cases a<;>simp[trR,AR.old,ADl]
theorem env_app{t:Nat}:A1 (a.app d σ).env t=match ABt a d with
  |some (d,s)=>if d=t then some s else(A1 σ.env t).map (fA a)
  |none=>(A1 σ.env t).map (fA a):=by
 have e1:∀(i:Nat) (p:Rp),E4 i (some p)=subS i p:=fun i p=>funext AHM
 have e2:∀(i:Nat),E4 i none=oldS i:=fun i=>funext AHN
 have e3:∀x:Option SV,x.map (fun s=>s)=x:=fun x=>by cases x<;>rfl
 cases a with
 |put s=>
  cases d with
  |none=>exact(e3 _).symm
  |some d=>
   show A1 ((d,s)::σ.env) t=if d=t then some s else(A1 σ.env t).map (fun s=>s)
   rw[fnd_cons,e3]
 |new i r=>
  show A1 (AAu i .dead σ.env) t=(A1 σ.env t).map (E4 i (some .dead))
  rw[W6,e1]
 |sto i o ns=>
  show A1 (AEu i σ.env) t=(A1 σ.env t).map (E4 i none)
  rw[ACa,e2]
 |cnt i u xs=>
  show A1 (AEu i σ.env) t=(A1 σ.env t).map (E4 i none)
  rw[ACa,e2]
 |hnd i r=>
  show A1 (AAu i .dead σ.env) t=(A1 σ.env t).map (E4 i (some .dead))
  rw[W6,e1]
 |del i p=>
  show A1 (AAu i p σ.env) t=(A1 σ.env t).map (E4 i (some p))
  rw[W6,e1]
theorem res_app{j:Nat}:A1 (a.app d σ).res j=match Z6 a with
  |some (i,p)=>if j=i then hA a (A1 σ.res j) else(A1 σ.res j).map (trR i p)
  |none=>A1 σ.res j:=by
 have e1:∀(i:Nat) (p:Rp),trR i (some p)=AR.sub i p:=fun i p=>funext ARj
 have e2:∀(i:Nat),trR i none=AR.old i:=fun i=>funext ARk
 cases a with
 |put s=>cases d<;>rfl
 |new i r=>
  show A1 ((i,r)::U6 i (R3 i .dead σ.res)) j=if j=i then some r else(A1 σ.res j).map (trR i (some .dead))
  rw[fnd_cons,fnd_rdel,fnd_subR,e1]
  by_cases h:j=i
  . subst h;rw[AYB rfl,AYB rfl]
  . rw[if_neg (fun e=>h e.symm),if_neg h,if_neg h]
 |sto i o ns=>
  show A1 (AD3 i (AAO o ns) σ.res) j=if j=i then(A1 σ.res j).map (AAO o ns) else(A1 σ.res j).map (trR i none)
  rw[ACc,e2]
 |cnt i u xs=>
  show A1 (AD3 i (Y2 u xs) σ.res) j=if j=i then(A1 σ.res j).map (Y2 u xs) else(A1 σ.res j).map (trR i none)
  rw[ACc,e2]
 |hnd i r=>
  show A1 (ADI i r (R3 i .dead σ.res)) j=if j=i then(A1 σ.res j).map (fun _=>r) else(A1 σ.res j).map (trR i (some .dead))
  rw[ACb,fnd_subR,e1]
  by_cases h:j=i
  . rw[AYB h,AYB h];cases A1 σ.res j<;>rfl
  . rw[if_neg h,if_neg h]
 |del i p=>
  show A1 (U6 i (R3 i p σ.res)) j=if j=i then none else(A1 σ.res j).map (trR i (some p))
  rw[fnd_rdel,fnd_subR,e1]
theorem Eqv.app(h:Eqv σ σ')(d:Option Nat)(a:Ac):Eqv (a.app d σ) (a.app d σ'):=⟨fun t=>by rw[env_app,env_app,h.1],fun i=>by rw[res_app,res_app,h.2]⟩
theorem Eqv.apps{σ σ':AS}(h:Eqv σ σ')(d:Option Nat):∀as_:List Ac,Eqv (apps d as_ σ) (apps d as_ σ')
 |[]=>h
 |a::as_=>by
  show Eqv (Rx.apps d as_ (a.app d σ)) (Rx.apps d as_ (a.app d σ'));exact Eqv.apps (h.app d a) d as_
structure Ind(d:Option Nat)(x:Ac)(d':Option Nat)(y:Ac):Prop where
 w:∀i p j q,Z6 x=some (i,p)->Z6 y=some (j,q)->i≠j
 cx:∀c∈wcA y,c∉coC x
 cy:∀c∈wcA x,c∉coC y
 dd:∀t s t' s',ABt x d=some (t,s)->ABt y d'=some (t',s')->t≠t'
variable{d':Option Nat}{x:Ac}{y:Ac}{s:SV}
theorem Ind.symm(h:Ind d x d' y):Ind d' y d x:=⟨fun i p j q I H e=>h.w j q i p H I e.symm,h.cy,h.cx,fun t s t' s' I H e=>h.dd t' s' t s H I e.symm⟩
theorem AEN(h:Z6 a=some (i,p)):∀k∈Y5 p,k∈coA a:=fun k hk=>by
 cases a<;>cases h<;>first|exact hk|cases hk
theorem wc1(h:Z6 a=some (i,p)):c1 i∈wcA a:=by
 cases a<;>cases h<;>simp[wcA]
theorem wc0{p:Rp}(h:Z6 a=some (i,some p)):c0 i∈wcA a:=by
 cases a<;>cases h<;>simp[wcA]
theorem AOL(h:Z6 a=some (i,p)):coC a=dbl (coA a):=by
 cases a<;>cases h<;>rfl
theorem AIE{t:Nat}(h:ABt a d=some (t,s)):coC a=S8 s/\fA a=fun s=>s:=by
 cases a with
 |put s'=>
  cases d with
  |none=>cases h
  |some d=>cases h;exact⟨rfl,rfl⟩
 |_=>cases h
theorem AJK(h:∀c∈wcA a,c∉S8 s):fA a s=s:=by
 unfold fA;cases H:Z6 a with
 |none=>rfl
 |some q=>
  obtain⟨i,p⟩:=q
  cases p with
  |none=>exact ADB (h _ (wc1 H))
  |some p=>exact T3 s fun hm=>h _ (wc0 H) (ACj hm)
theorem AIm{i:Nat}:∀{l:List SV},i∈ownsLL l->c0 i∈O7 l
 |s::l,h=>by
  rcases mem_append.1 (show i∈A9 s++ownsLL l from h) with h|h
  . exact AX2 _ (ACj h)
  . exact AX3 _ (AIm h)
theorem AVR(H:Z6 a=some (i,p)){b:AR}(h:∀c∈wcA a,c∉ABI b):trR i p b=b:=by
 cases b with
 |own _ _ _=>rfl
 |row e l=>
  cases p with
  |none=>simp only[trR,AA2 (h _ (wc1 H))]
  |some p=>simp only[trR,ADm l fun hm=>h _ (wc0 H) (AIm hm)]
theorem Ind.cx'(h:Ind d x d' y)(hx:Z6 x=some (i,p))(hy:Z6 y=some (j,q)):j∉coA x:=fun hm=>h.cx _ (wc1 hy) (by rw[AOL hx];exact(AFh hm).2)
theorem Ind.cy'(h:Ind d x d' y)(hx:Z6 x=some (i,p))(hy:Z6 y=some (j,q)):i∉coA y:=fun hm=>h.cy _ (wc1 hx) (by rw[AOL hy];exact(AFh hm).2)
theorem ARl(h:Ind d x d' y)(s:SV):fA y (fA x s)=fA x (fA y s):=by
 unfold fA;cases hx:Z6 x with
 |none=>rfl
 |some q=>
  obtain⟨i,p⟩:=q
  cases hy:Z6 y with
  |none=>rfl
  |some r=>
   obtain⟨j,q⟩:=r
   exact(AJJ (h.w i p j q hx hy) (fun hm=>h.cx' hx hy (AEN hx j hm)) (fun hm=>h.cy' hx hy (AEN hy i hm)) s).symm
theorem AOM{k:Nat}{q:Option Rp}{a:AR}(h:k∉AFT a):trR k q a=a:=by
 cases a with
 |own _ _ _=>rfl
 |row e l=>simp only[trR,ADm l h]
theorem AQl{k:Nat}{q:Option Rp}(h:k∉coA x)(a:Option AR):(hA x a).map (trR k q)=hA x (a.map (trR k q)):=by
 cases x with
 |put s=>rfl
 |new i r=>simp only[hA,Option.map_some,AOM (a:=r) h]
 |sto i o ns=>
  cases a with
  |none=>rfl
  |some a=>
   simp only[hA,Option.map_some]
   cases a with
   |own _ _ _=>rfl
   |row e l=>
    simp only[AAO,trR,ALx l o ns h]
    cases setW l o ns with
    |none=>rfl
    |some l'=>rfl
 |cnt i t xs=>
  cases a with
  |none=>rfl
  |some a=>
   simp only[hA,Option.map_some]
   cases a with
   |row _ _=>rfl
   |own p t' ys=>
    simp only[Y2,trR]
    cases castO t t' xs with
    |none=>rfl
    |some zs=>rfl
 |hnd i r=>
  cases a with
  |none=>rfl
  |some a=>simp only[hA,Option.map_some,AOM (a:=r) h]
 |del i p=>rfl
theorem APh{i j:Nat}{p q:Option Rp}(H:i≠j)(J:j∉Y5 p)(I:i∉Y5 q)(a:AR):trR i p (trR j q a)=trR j q (trR i p a):=by
 cases a with
 |own _ _ _=>rfl
 |row e l=>simp only[trR,AFE H J I l]
theorem swap(h:Ind d x d' y)(σ:AS):Eqv (y.app d' (x.app d σ)) (x.app d (y.app d' σ)):=by
 refine⟨fun t=>?_,fun i=>?_⟩
 . rw[env_app,env_app,env_app (a:=x),env_app (a:=y)];have I:((A1 σ.env t).map (fA x)).map (fA y)=((A1 σ.env t).map (fA y)).map (fA x):=by
    cases A1 σ.env t with
    |none=>rfl
    |some s=>simp only[Option.map_some,ARl h]
   cases hx:ABt x d with
   |none=>
    cases hy:ABt y d' with
    |none=>exact I
    |some q=>
     obtain⟨e,s⟩:=q
     simp only
     split
     . obtain⟨J,_⟩:=AIE hy
       have:fA x s=s:=AJK fun c I hm=>h.cy c I (by rw[J];exact hm)
       simp only[Option.map_some,this]
     . exact I
   |some r=>
    obtain⟨e,s⟩:=r
    obtain⟨J,_⟩:=AIE hx
    have D:fA y s=s:=AJK fun c I hm=>h.cx c I (by rw[J];exact hm)
    cases hy:ABt y d' with
    |none=>
     simp only
     split
     . simp only[Option.map_some,D]
     . exact I
    |some q=>
     obtain⟨e',s'⟩:=q
     obtain⟨W,_⟩:=AIE hy
     have C:fA x s'=s':=AJK fun c I hm=>h.cy c I (by rw[W];exact hm)
     have H:=h.dd e s e' s' hx hy
     simp only
     by_cases V:e'=t
     . have U:e≠t:=fun h=>H (h.trans V.symm)
       rw[AYB V,if_neg U,AYB V,AYV,C]
     . rw[if_neg V]
       by_cases U:e=t
       . rw[AYB U,AYB U,AYV,D]
       . rw[if_neg U,if_neg U,if_neg V];exact I
 . rw[res_app,res_app,res_app (a:=x),res_app (a:=y)];cases hx:Z6 x with
   |none=>
    cases hy:Z6 y with
    |none=>rfl
    |some q=>rfl
   |some r=>
    obtain⟨k,p⟩:=r
    cases hy:Z6 y with
    |none=>rfl
    |some q=>
     obtain⟨j,q⟩:=q
     have H:=h.w k p j q hx hy
     simp only
     by_cases J:i=j
     . subst J
       rw[AYB rfl,if_neg (fun e=>H e.symm),AYB rfl,if_neg (fun e=>H e.symm)]
       exact(AQl (h.cy' hx hy) _).symm
     . rw[if_neg J,if_neg J]
       by_cases W:i=k
       . subst W
         rw[AYB rfl,AYB rfl]
         exact AQl (h.cx' hx hy) _
       . rw[if_neg W,if_neg W]
         cases A1 σ.res i with
         |none=>rfl
         |some a=>simp only[Option.map_some,APh H (fun hm=>h.cx' hx hy (AEN hx j hm)) (fun hm=>h.cy' hx hy (AEN hy k hm))]
theorem AVS(σ:AS):∀(xs:List Ac),(∀x∈xs,Ind d x d' y)->Eqv (y.app d' (apps d xs σ)) (apps d xs (y.app d' σ)):=by
 intro xs;induction xs generalizing σ with
 |nil=>intro _;exact Eqv.refl _
 |cons x xs ih=>
  intro h
  exact(ih (x.app d σ) fun z H=>h z (AX0 _ H)).trans ((swap (h x (AX4 ..)) σ).apps d xs)
theorem ATS(σ:AS)(xs:List Ac):∀(ys:List Ac),(∀x∈xs,∀y∈ys,Ind d x d' y)->Eqv (apps d' ys (apps d xs σ)) (apps d xs (apps d' ys σ)):=by
 intro ys;induction ys generalizing σ with
 |nil=>intro _;exact Eqv.refl _
 |cons y ys ih=>
  intro h
  exact((AVS σ xs fun x hx=>h x hx y (AX4 ..)).apps d' ys).trans (ih (y.app d' σ) fun x hx z H=>h x hx z (AX0 _ H))
end Go.Rx
end
