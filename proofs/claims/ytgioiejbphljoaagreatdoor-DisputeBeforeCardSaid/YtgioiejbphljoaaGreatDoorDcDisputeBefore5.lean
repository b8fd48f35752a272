/-
  What DisputeBefore stands on, part 5: memory, code, plain reckoning.
-/
import Derived.Test.YtgioiejbphljoaaGreatDoorDcDisputeBefore4
open List (mem_append mem_cons mem_map mem_singleton toArray)
open Nat (beq blt)
set_option linter.unusedVariables false
set_option linter.unusedSectionVars false
noncomputable section
namespace Go.Rx
open Go Go.Sx Go.RowKit
variable[Trk][Sg][Sf]{P:Program}[Se P]
variable[Anch]
abbrev Does[Fx](P:Program)[Se P](N:Nat)(d:Option Nat)(op:Op)(E:Operand->Option SV)(R:Nat->Option AR)(as_:List Ac):Prop:=
 ∀{w0 w:World} {Mu M:List Nat} {σ:AS} {L:A8} {S:List Res} {ρ:Nat->Value} {γ:Nat->List Value} {μ:Nat->List Nat} {ι:Nat->Nat} {ops:Array Oper} {ds:List Deferred} {B:A5} {X:Nat->A5} {Z:List PanicEntry->A5} {ty:TypeId} {pos:String} {af:Array Edge},
  (∀x s,E x=some s->B5 σ.env x=some s)->Le R (A1 σ.res)->HS w0 Mu M σ L w S ρ γ μ ι->C3 P N ops ds L w ⟨d,op,ty,pos,af,none⟩ w0 Mu M (apps d as_ σ) B X Z
section
variable{N:Nat}{G:Gx}{E:Operand->Option SV}{R:Nat->Option AR}{Y:Type}{K:List Ac->Option Y}{z:Y}{d:Nat}
section
variable{b:BinOp}{t:Nat}{t':Nat}{x:Operand}{y:Operand}{k:IntKind}{i:Int}{s:SV}{s':SV}{e:Nat}{u:Ty}{v:SV}{sx:SV}{sy:SV}{xs:Array Operand}{ts:Array TypeId}{ss:List SV}{f:Operand}{g:Nat}{a:List Ty}
theorem AU2[Fx](hN:blt d N=true){i j:Int}(hx:E x=some (.int k i))(hy:E y=some (.int k j))(hc:arS K b k i j=some z):∃as_,K as_=some z/\Does P N (some d) (.binOp b t x y t') E R as_:=by
 unfold arS at hc;cases hb:cmp b i j with
 |some r=>
  rw[hb]at hc
  exact⟨_,hc,fun hE _ h=>AWv h hN (hE _ _ hx) (hE _ _ hy) hb⟩
 |none=>
  rw[hb]at hc
  cases b with
  |add=>obtain⟨n,h1,h2⟩:=bindS hc;exact⟨_,h2,fun hE _ h=>AWw h hN (hE _ _ hx) (hE _ _ hy) h1⟩
  |sub=>obtain⟨n,h1,h2⟩:=bindS hc;exact⟨_,h2,fun hE _ h=>AWx h hN (hE _ _ hx) (hE _ _ hy) h1⟩
  |mul=>obtain⟨n,h1,h2⟩:=bindS hc;exact⟨_,h2,fun hE _ h=>AWy h hN (hE _ _ hx) (hE _ _ hy) h1⟩
  |quo=>obtain⟨n,h1,h2⟩:=bindS hc;exact⟨_,h2,fun hE _ h=>AWz h hN (hE _ _ hx) (hE _ _ hy) h1⟩
  |rem=>obtain⟨n,h1,h2⟩:=bindS hc;exact⟨_,h2,fun hE _ h=>AW0 h hN (hE _ _ hx) (hE _ _ hy) h1⟩
  |and=>exact⟨_,hc,fun hE _ h=>AW1 h hN (hE _ _ hx) (hE _ _ hy)⟩
  |or|xor|shl|shr|andNot|eql|neq|lss|leq|gtr|geq=>exact(A2 hc).elim
theorem ANE[Fx][Sl (P:=P)](hG:GxOk P G)(hN:blt d N=true)(hx:E x=some s)(hy:E y=some s')(hc:AOG G R K b t s s'=some z):∃as_,K as_=some z/\Does P N (some d) (.binOp b t x y t') E R as_:=by
 unfold AOG at hc;cases hl:lk G.eq t with
 |none=>rw[hl]at hc;exact(A2 hc).elim
 |some n=>
  rw[hl]at hc
  simp only at hc
  cases ho:B3 s with
  |cons _ _=>rw[ho]at hc;exact(A2 hc).elim
  |nil=>
   cases ho':B3 s' with
   |cons _ _=>rw[ho,ho']at hc;exact(A2 hc).elim
   |nil=>
    rw[ho,ho']at hc
    simp only at hc
    cases hp:C1 R (.st n) s with
    |none=>rw[hp]at hc;exact(A2 hc).elim
    |some p=>
     rw[hp]at hc
     simp only at hc
     cases hq:C1 R (.st n) s' with
     |none=>rw[hq]at hc;exact(A2 hc).elim
     |some q=>
      rw[hq]at hc
      cases b with
      |eql=>exact⟨_,hc,fun hE hR h=>ASW (b:=.eql) h hG hN hl (.inl rfl) (hE _ _ hx) (hE _ _ hy) ho ho' (E8 hR _ _ hp) (E8 hR _ _ hq)⟩
      |neq=>exact⟨_,hc,fun hE hR h=>ASW (b:=.neq) h hG hN hl (.inr rfl) (hE _ _ hx) (hE _ _ hy) ho ho' (E8 hR _ _ hp) (E8 hR _ _ hq)⟩
      |add|sub|mul|quo|rem|and|or|xor|andNot|lss|leq|gtr|geq|shl|shr=>exact(A2 hc).elim
theorem ATK[Fx][Sl (P:=P)](hG:GxOk P G)(hN:blt d N=true)(hx:E x=some s)(hy:E y=some s')(hc:AOH G R K b t s s'=some z):∃as_,K as_=some z/\Does P N (some d) (.binOp b t x y t') E R as_:=by
 cases s with
 |int k i=>
  cases s' with
  |int k' j=>
   have key:(match kEq k k' with
    |true=>arS K b k i j
    |false=>none)=some z->∃as_,K as_=some z/\Does P N (some d) (.binOp b t x y t') E R as_:=fun hq=>by
    cases hk:kEq k k' with
    |false=>rw[hk]at hq;exact(A2 hq).elim
    |true=>
     rw[hk]at hq
     have:=ADC hk
     subst this
     exact AU2 hN hx hy hq
   cases b with
   |shr=>
    have hc:(AHI i j k.bits).bind (fun n=>K [.put (.int k n)])=some z:=hc
    obtain⟨n,h1,h2⟩:=bindS hc;exact⟨_,h2,fun hE _ h=>AW2 h hN (hE _ _ hx) (hE _ _ hy) h1⟩
   |shl=>
    have hc:(AHJ k i j).bind (fun n=>K [.put (.int k n)])=some z:=hc
    obtain⟨n,h1,h2⟩:=bindS hc;exact⟨_,h2,fun hE _ h=>AW3 h hN (hE _ _ hx) (hE _ _ hy) h1⟩
   |add|sub|mul|quo|rem|and|or|xor|andNot|eql|neq|lss|leq|gtr|geq=>exact key hc
  |bool _|dat _ _|ary _ _ _|own _|str _ _|agg _|ep _ _ _ _ _|fv _ _ _|fn _ _|nilS|raw _|it _ _|np _ _|ap _ _ _ _|undef|dead|tup _|rp _ _|ptr _ _=>exact(A2 hc).elim
 |bool p=>
  cases s' with
  |bool q=>
   simp only[AOH]at hc
   cases ht:lk G.ty t with
   |none=>rw[ht]at hc;exact(A2 hc).elim
   |some u=>
    rw[ht]at hc
    cases u with
    |bool=>
     have hu:=(TyOk.at hG.ty ht).2.1 rfl
     cases b with
     |eql=>exact⟨_,hc,fun hE _ h=>AW4 h hN hu (hE _ _ hx) (hE _ _ hy)⟩
     |neq=>exact⟨_,hc,fun hE _ h=>AW5 h hN hu (hE _ _ hx) (hE _ _ hy)⟩
     |add|sub|mul|quo|rem|and|or|xor|andNot|lss|leq|gtr|geq|shl|shr=>exact(A2 hc).elim
    |int _|sl _|st _|arr _ _|mp _ _ _|fno _=>exact(A2 hc).elim
  |int _ _|dat _ _|ary _ _ _|own _|str _ _|agg _|ep _ _ _ _ _|fv _ _ _|fn _ _|nilS|raw _|it _ _|np _ _|ap _ _ _ _|undef|dead|tup _|rp _ _|ptr _ _=>exact(A2 hc).elim
 |agg l=>exact ANE hG hN hx hy hc
 |str n q=>exact ANE hG hN hx hy hc
 |dat _ _|ary _ _ _|own _|ep _ _ _ _ _|fv _ _ _|fn _ _|nilS|raw _|it _ _|np _ _|ap _ _ _ _|undef|dead|tup _|rp _ _|ptr _ _=>exact(A2 hc).elim
theorem ATL{e:Ty}{j:Nat}{xs:List (den e)}(h:C1 R (.sl e) (.own j)=some xs):∃p e',R j=some (.own p (.sl e' e) xs):=by
 have h:(match R j with
  |some (.own _ c xs)=>I2 c.ty (.sl e) xs
  |_=>none)=some xs:=h
 cases hR:R j with
 |none=>rw[hR]at h;exact(A2 h).elim
 |some a=>
  rw[hR]at h
  cases a with
  |row _ _=>exact(A2 h).elim
  |own p c ys=>
   obtain⟨he,h⟩:=O5 h
   rcases c with⟨e',t'⟩|⟨m9,k9,v9⟩
   rotate_left
   . cases he
   cases he
   have h:ys=xs:=h
   subst h;exact⟨p,e',rfl⟩
theorem AU3[Fx][Sl (P:=P)](hG:GxOk P G)(hN:blt d N=true){t e b:Nat}(hl:lk G.sl t=some (e,u,b))(hx:E x=some s)(hy:E y=some (.int k i))(hc:iaS R K u i s=some z):∃as_,K as_=some z/\Does P N (some d) (.indexAddr t x y) E R as_:=by
 have key:B3 s=[]->(match C1 R (.sl u) s with
  |some xs=>(ixo (show List (den u) from xs) i).bind fun z=>K [.put (.rp (F6 u z) 0)]
  |none=>none)=some z->∃as_,K as_=some z/\Does P N (some d) (.indexAddr t x y) E R as_:=fun ho hc=>by
  cases hd:C1 R (.sl u) s with
  |none=>rw[hd]at hc;exact(A2 hc).elim
  |some xs=>
   rw[hd]at hc
   obtain⟨q,h1,h2⟩:=bindS hc
   exact⟨_,h2,fun hE hR h=>AW6 h hG hN hl (hE _ _ hx) ho (E8 hR _ _ hd) (hE _ _ hy) h1⟩
 cases s with
 |own j=>
  have hc:(match C1 R (.sl u) (.own j) with
   |some xs=>(ixo (show List (den u) from xs) i).bind fun z=>K [.put (.ep j u i (some z) 0)]
   |none=>none)=some z:=hc
  cases hd:C1 R (.sl u) (.own j) with
  |none=>rw[hd]at hc;exact(A2 hc).elim
  |some xs=>
   rw[hd]at hc
   obtain⟨q,h1,h2⟩:=bindS hc
   obtain⟨p,e',hj⟩:=ATL hd
   exact⟨_,h2,fun hE hR h=>AW7 h hG hN hl (hE _ _ hx) (hR _ _ hj) (hE _ _ hy) h1⟩
 |dat _ _=>exact key rfl hc
 |nilS=>exact key rfl hc
 |int _ _|bool _|ary _ _ _|str _ _|agg _|ep _ _ _ _ _|fv _ _ _|fn _ _|raw _|it _ _|np _ _|ap _ _ _ _|undef|dead|tup _|rp _ _|ptr _ _=>exact(A2 hc).elim
theorem ARG[Fx][Sl (P:=P)](hG:GxOk P G)(hN:blt d N=true)(hx:E x=some v)(hc:AGa G R t v=some s):Does P N (some d) (.load t x) E R [.put s]:=by
 cases v with
 |rp v o=>exact fun hE _ h=>AS8 h hG hN (hE _ _ hx) hc
 |ptr i o=>
  have hc:(match R i with
   |some (.row _ l)=>U0 G t o (.agg l)
   |_=>none)=some s:=hc
  cases hi:R i with
  |none=>rw[hi]at hc;exact(A2 hc).elim
  |some a=>
   rw[hi]at hc
   cases a with
   |own _ _ _=>exact(A2 hc).elim
   |row e l=>
    have hc:U0 G t o (.agg l)=some s:=hc
    intro w0 w Mu M σ L S ρ γ μ ι ops ds B X Z ty pos af hE hR h
    exact AS9 h hG hN (hE _ _ hx) (hR _ _ hi) hc
 |ep i u ix q o=>
  cases q with
  |none=>exact(A2 hc).elim
  |some q=>exact fun hE _ h=>ATA h hG hN (hE _ _ hx) hc
 |int _ _|bool _|ary _ _ _|str _ _|agg _|fv _ _ _|fn _ _|raw _|it _ _|np _ _|ap _ _ _ _|undef|dead|tup _|dat _ _|own _|nilS=>exact(A2 hc).elim
theorem ATM[Fx][Sl (P:=P)](hG:GxOk P G){t n:Nat}{ns:List SV}(hy:E y=some s)(hs:T9 s=some ns)(hz:lk G.sz t=some n)(hn:Q7 ns=some n)(hx:E x=some v)(hc:AQu R K ns v=some z):∃as_,K as_=some z/\Does P N none (.store t x y) E R as_:=by
 cases v with
 |ptr i o=>
  have hc:(match R i with
   |some (.row e l)=>match setW l o ns with
    |some _=>K [.sto i o ns]
    |none=>none
   |_=>none)=some z:=hc
  cases hi:R i with
  |none=>rw[hi]at hc;exact(A2 hc).elim
  |some a=>
   rw[hi]at hc
   cases a with
   |own _ _ _=>exact(A2 hc).elim
   |row e l=>
    simp only at hc
    cases hw:setW l o ns with
    |none=>rw[hw]at hc;exact(A2 hc).elim
    |some l'=>
     rw[hw]at hc
     exact⟨_,hc,fun hE hR h=>AQ6 h hG (hE _ _ hy) hs (hE _ _ hx) (hR _ _ hi) hw hz hn⟩
 |ep i u ix q o=>
  cases q with
  |none=>exact(A2 hc).elim
  |some q=>
   have hc:(match R i with
    |some (.own p (.sl e u') xs)=>match I2 (.sl u') (.sl u) xs with
     |some xs=>match setW (Rx.cellsOf (F6 u q)) o ns with
      |some l'=>match toP R u l' with
       |some z2=>match frz R (ownsLL ns) with
        |some fz=>match has (ownsLL ns) i with
         |true=>none
         |false=>(seto (show List (den u) from xs) ix z2).bind fun m=>K (fz++[.cnt i (.sl e u) m])
        |none=>none
       |none=>none
      |none=>none
     |none=>none
    |_=>none)=some z:=hc
   cases hi:R i with
   |none=>rw[hi]at hc;exact(A2 hc).elim
   |some a=>
    rw[hi]at hc
    cases a with
    |row _ _=>exact(A2 hc).elim
    |own p c xs=>
     rcases c with⟨e,u'⟩|⟨m9,k9,v9⟩
     rotate_left
     . exact(A2 hc).elim
     simp only at hc
     cases hcd:I2 (.sl u') (.sl u) xs with
     |none=>rw[hcd]at hc;exact(A2 hc).elim
     |some xs'=>
      rw[hcd]at hc
      obtain⟨he,hcd⟩:=O5 hcd
      cases he
      have hcd:xs=xs':=hcd
      subst hcd
      simp only at hc
      cases hw:setW (Rx.cellsOf (F6 u q)) o ns with
      |none=>rw[hw]at hc;exact(A2 hc).elim
      |some l'=>
       rw[hw]at hc
       simp only at hc
       cases hd:toP R u l' with
       |none=>rw[hd]at hc;exact(A2 hc).elim
       |some z2=>
        rw[hd]at hc
        simp only at hc
        cases hf:frz R (ownsLL ns) with
        |none=>rw[hf]at hc;exact(A2 hc).elim
        |some fz=>
         rw[hf]at hc
         simp only at hc
         cases hh:has (ownsLL ns) i with
         |true=>rw[hh]at hc;exact(A2 hc).elim
         |false=>
          rw[hh]at hc
          obtain⟨m,h1,h2⟩:=bindS hc
          exact⟨_,h2,fun hE hR h=>AQ8 h hG (hE _ _ hy) hs (hE _ _ hx) (hR _ _ hi) hw (AHf hR u hd) (R0 hR _ hf) hh h1 hz hn⟩
 |ap s0 n0 x0 k=>
  have hq:stA R K ns n0 x0 k s0=some z:=hc
  clear hc
  cases s0 with
  |ptr i o=>
   have hp:(match (generalizing:=false) R i with
    |some (.row _ l)=>(match (generalizing:=false) Q6 l o with
     |some (.ary q n' xs)=>(match (generalizing:=false) beq n' n0,beq k 1,ns with
      |true,true,[.int q' v]=>(match kEq q' q with
       |true=>(seto xs x0 v).bind fun m=>(match setW l o [.ary q n0 m] with
        |some _=>K [.sto i o [.ary q n0 m]]
        |none=>none)
       |false=>none)
      |_,_,_=>none)
     |_=>none)
    |_=>none)=some z:=hq
   clear hq
   cases hi:R i with
   |none=>rw[hi]at hp;exact(A2 hp).elim
   |some a=>
    rw[hi]at hp
    cases a with
    |own _ _ _=>exact(A2 hp).elim
    |row e l=>
     simp only at hp
     split at hp
     . rename_i q n' xs hcell
       split at hp
       . rename_i q' v hb hk
         have hb:=AaU hb
         have hk:=AaU hk
         subst hb;subst hk
         cases hk2:kEq q' q with
         |false=>rw[hk2]at hp;exact(A2 hp).elim
         |true=>
          rw[hk2]at hp
          have hk3:=ADC hk2
          subst hk3
          obtain⟨m,h1,h2⟩:=bindS hp
          cases hw:setW l o [.ary q' n' m] with
          |none=>simp only[hw]at h2;exact(A2 h2).elim
          |some l'=>
           simp only[hw]at h2
           have hn1:n=1:=by
            have hn:some 1=some n:=hn;exact(AaO hn).symm
           subst hn1
           exact⟨_,h2,fun hE hR h=>ARE h hG (hE _ _ hy) hs (hE _ _ hx) (hR _ _ hi) hcell h1 hw hz⟩
       . exact(A2 hp).elim
     . exact(A2 hp).elim
  |int _ _|bool _|ary _ _ _|str _ _|agg _|fv _ _ _|fn _ _|undef|dead|tup _|dat _ _|own _|nilS|raw _|it _ _|np _ _|ep _ _ _ _ _|rp _ _|ap _ _ _ _=>exact(A2 hq).elim
 |int _ _|bool _|ary _ _ _|str _ _|agg _|fv _ _ _|fn _ _|raw _|it _ _|np _ _|undef|dead|tup _|dat _ _|own _|nilS|rp _ _=>exact(A2 hc).elim
theorem ATN[Fx](hN:blt d N=true)(ht:P.underlying t=some (.slice e))(hx:E x=some s)(hc:AUX R K s=some z):∃as_,K as_=some z/\Does P N (some d) (.call ⟨.builtin .len,#[x],#[t]⟩) E R as_:=by
 cases s with
 |dat u xs=>
  cases u with
  |sl u=>exact⟨_,hc,fun hE _ h=>AUo h hN ht (hE _ _ hx)⟩
  |int _|bool|st _|arr _ _|mp _ _ _|fno _=>exact(A2 hc).elim
 |own i=>
  have hc:(match R i with
   |some (.own _ (.sl _ t) xs)=>K [.put (.int .i64 (show List (den t) from xs).length)]
   |_=>none)=some z:=hc
  cases hi:R i with
  |none=>rw[hi]at hc;exact(A2 hc).elim
  |some a=>
   rw[hi]at hc
   cases a with
   |row _ _=>exact(A2 hc).elim
   |own p c xs=>
    rcases c with⟨e,u⟩|⟨m9,k9,v9⟩
    rotate_left
    . exact(A2 hc).elim
    exact⟨_,hc,fun hE hR h=>AUp h hN ht (hE _ _ hx) (hR _ _ hi)⟩
 |nilS=>exact⟨_,hc,fun hE _ h=>AUq h hN ht (hE _ _ hx)⟩
 |int _ _|bool _|ary _ _ _|str _ _|agg _|fv _ _ _|fn _ _|raw _|it _ _|np _ _|ap _ _ _ _|undef|dead|tup _|rp _ _|ptr _ _|ep _ _ _ _ _=>exact(A2 hc).elim
theorem ATO[Fx][Sl (P:=P)](hG:GxOk P G)(hN:blt d N=true){t e b:Nat}{ys:List (den u)}{fz:List Ac}(hl:lk G.sl t=some (e,u,b))(hx:E x=some v)(hy:E y=some s)(hd:C1 R (.sl u) s=some ys)(hf:frz R (B3 s)=some fz)(hc:AOI d R K e u b fz (B3 s) ys v=some z):
  ∃as_,K as_=some z/\Does P N (some d) (.call ⟨.builtin .append,#[x,y],#[t,t]⟩) E R as_:=by
 cases v with
 |nilS=>
  have hc:(appo b ([]:List (den u)) ys).bind (fun l=>K (fz++[.new d (.own false (.sl e u) l),.put (.own d)]))=some z:=hc
  obtain⟨l,h1,h2⟩:=bindS hc
  exact⟨_,h2,fun hE hR h=>AUr h hG hN hl (hE _ _ hx) (hE _ _ hy) (E8 hR _ _ hd) (R0 hR _ hf) h1⟩
 |own i=>
  have hc:(match R i with
   |some (.own p (.sl e' u') xs)=>match I2 (.sl u') (.sl u) xs with
    |some xs=>match has (B3 s) i with
     |true=>none
     |false=>match beq e' e with
      |true=>(appo b (show List (den u) from xs) ys).bind fun l=>K (fz++[.hnd i (.own p (.sl e u) l),.put (.own i)])
      |false=>none
    |none=>none
   |_=>none)=some z:=hc
  cases hi:R i with
  |none=>rw[hi]at hc;exact(A2 hc).elim
  |some a=>
   rw[hi]at hc
   cases a with
   |row _ _=>exact(A2 hc).elim
   |own p c xs=>
    rcases c with⟨e',u'⟩|⟨m9,k9,v9⟩
    rotate_left
    . exact(A2 hc).elim
    simp only at hc
    cases hcd:I2 (.sl u') (.sl u) xs with
    |none=>rw[hcd]at hc;exact(A2 hc).elim
    |some xs'=>
     rw[hcd]at hc
     obtain⟨he,hcd⟩:=O5 hcd
     cases he
     have hcd:xs=xs':=hcd
     subst hcd
     simp only at hc
     cases hh:has (B3 s) i with
     |true=>rw[hh]at hc;exact(A2 hc).elim
     |false=>
      rw[hh]at hc
      simp only at hc
      cases hb:beq e' e with
      |false=>rw[hb]at hc;exact(A2 hc).elim
      |true=>
       rw[hb]at hc
       have:=AaU hb
       subst this
       obtain⟨l,h1,h2⟩:=bindS hc
       exact⟨_,h2,fun hE hR h=>AUs h hG hN hl (hE _ _ hx) (hR _ _ hi) (fun hm=>by rw[has_iff.2 hm]at hh;cases hh) (hE _ _ hy) (E8 hR _ _ hd) (R0 hR _ hf) h1⟩
 |int _ _|bool _|ary _ _ _|str _ _|agg _|fv _ _ _|fn _ _|raw _|it _ _|np _ _|ap _ _ _ _|undef|dead|tup _|rp _ _|ptr _ _|ep _ _ _ _ _|dat _ _=>exact(A2 hc).elim
theorem ASX:∀{xs:List Operand} {s:SV},evL E xs=some [s]->∃x,xs=[x]/\E x=some s
 |[],_,h=>by cases h
 |x::xs,s,h=>by
  simp only[evL]at h;cases h1:E x with
  |none=>rw[h1]at h;exact(A2 h).elim
  |some a=>
   rw[h1]at h
   cases xs with
   |nil=>
    have h:[a]=[s]:=AaO h
    cases h;exact⟨x,rfl,h1⟩
   |cons y r=>
    simp only[evL]at h
    cases h2:E y with
    |none=>rw[h2]at h;exact(A2 h).elim
    |some c=>
     rw[h2]at h
     cases h3:evL E r with
     |none=>rw[h3]at h;exact(A2 h).elim
     |some q=>rw[h3]at h;cases h
theorem AKa:∀{xs:List Operand} {s s':SV},evL E xs=some [s,s']->∃x y,xs=[x,y]/\E x=some s/\E y=some s'
 |[],_,_,h=>by cases h
 |x::xs,s,s',h=>by
  simp only[evL]at h;cases h1:E x with
  |none=>rw[h1]at h;exact(A2 h).elim
  |some a=>
   rw[h1]at h
   cases h2:evL E xs with
   |none=>rw[h2]at h;exact(A2 h).elim
   |some r=>
    rw[h2]at h
    have h:a::r=[s,s']:=AaO h
    cases h
    obtain⟨y,rfl,h3⟩:=ASX h2
    exact⟨x,y,rfl,h1,h3⟩
theorem ANF{f:Int->Int->Int}(hc:mmS K f s s'=some z):∃k i j,s=.int k i/\s'=.int k j/\K [.put (.int k (f i j))]=some z:=by
 cases s with
 |int k i=>
  cases s' with
  |int k' j=>
   have hq:(match kEq k k' with
    |true=>K [.put (.int k (f i j))]
    |false=>none)=some z:=hc
   cases hk:kEq k k' with
   |false=>rw[hk]at hq;exact(A2 hq).elim
   |true=>
    rw[hk]at hq
    have:=ADC hk
    subst this
    exact⟨k,i,j,rfl,rfl,hq⟩
  |bool _|ary _ _ _|str _ _|agg _|fv _ _ _|fn _ _|raw _|it _ _|np _ _|ap _ _ _ _|undef|dead|tup _|rp _ _|ptr _ _|ep _ _ _ _ _|dat _ _|own _|nilS=>exact(A2 hc).elim
 |bool _|ary _ _ _|str _ _|agg _|fv _ _ _|fn _ _|raw _|it _ _|np _ _|ap _ _ _ _|undef|dead|tup _|rp _ _|ptr _ _|ep _ _ _ _ _|dat _ _|own _|nilS=>exact(A2 hc).elim
theorem AU4[Fx](hG:GxOk P G)(hN:blt d N=true){t:TypeId}(hx:E x=some s)(hy:E y=some (.int k i))(hc:iaA G K t i s=some z):∃as_,K as_=some z/\Does P N (some d) (.indexAddr t x y) E R as_:=by
 unfold iaA at hc;cases hl:lk G.ar t with
 |none=>rw[hl]at hc;exact(A2 hc).elim
 |some q=>
  obtain⟨len,m⟩:=q
  rw[hl]at hc
  obtain⟨j,h1,h2⟩:=bindS hc
  cases hr:apS len m j s with
  |none=>simp only[hr]at h2;exact(A2 h2).elim
  |some r=>simp only[hr]at h2;exact⟨_,h2,fun hE _ h=>AXB h hG hN hl (hE _ _ hx) (hE _ _ hy) h1 hr⟩
theorem AOd{R':Nat->Option AR}(hR:∀i a,R i=some a->R' i=some a){q:IntKind×Nat×List Int}(h:AE5 R s=some q):AE5 R' s=some q:=by
 cases s with
 |rp v o=>exact h
 |ptr i o=>
  have h:(match R i with
   |some (.row _ l)=>(match Q6 l o with
    |some (.ary k n l)=>some (k,n,l)
    |_=>none)
   |_=>none)=some q:=h
  show(match R' i with
   |some (.row _ l)=>(match Q6 l o with
    |some (.ary k n l)=>some (k,n,l)
    |_=>none)
   |_=>none)=some q
  cases hi:R i with
  |none=>rw[hi]at h;exact(A2 h).elim
  |some a=>rw[hi]at h;rw[hR i a hi];exact h
 |int _ _|bool _|ary _ _ _|str _ _|agg _|fv _ _ _|fn _ _|undef|dead|tup _|dat _ _|own _|nilS|raw _|it _ _|np _ _|ep _ _ _ _ _|ap _ _ _ _=>exact(A2 h).elim
theorem AU5[Fx][Sl (P:=P)](hG:GxOk P G)(hN:blt d N=true){t:TypeId}(hx:E x=some v)(hc:ldA G R K t v=some z):∃as_,K as_=some z/\Does P N (some d) (.load t x) E R as_:=by
 cases v with
 |ap s n x0 k=>
  have hq:(match (generalizing:=false) lk G.tb.ag t,beq k 1 with
   |some 0,true=>(match AE5 R s with
    |some (q,n',l)=>(match beq n' n with
     |true=>(ixo l x0).bind fun y=>K [.put (.int q y)]
     |false=>none)
    |none=>none)
   |_,_=>none)=some z:=hc
  clear hc
  split at hq
  . rename_i ha hk
    have hk:=AaU hk
    subst hk
    cases hs:AE5 R s with
    |none=>rw[hs]at hq;exact(A2 hq).elim
    |some q=>
     obtain⟨q,n',l⟩:=q
     rw[hs]at hq
     simp only at hq
     cases hb:beq n' n with
     |false=>rw[hb]at hq;exact(A2 hq).elim
     |true=>
      have hb':=AaU hb
      rw[hb]at hq
      subst hb'
      obtain⟨y,h1,h2⟩:=bindS hq
      exact⟨_,h2,fun hE hR h=>ATJ h hG hN ha (hE _ _ hx) (AOd hR hs) h1⟩
  . exact(A2 hq).elim
 |int _ _|bool _|ary _ _ _|str _ _|agg _|fv _ _ _|fn _ _|undef|dead|tup _|dat _ _|own _|nilS|raw _|it _ _|np _ _|ep _ _ _ _ _|rp _ _|ptr _ _=>exact(A2 hc).elim
theorem ATP[Fx][Sl (P:=P)](hG:GxOk P G)(hN:blt d N=true){t:TypeId}(hx:E x=some s)(hc:AQx G R K t s=some z):∃as_,K as_=some z/\Does P N (some d) (.call ⟨.builtin .len,#[x],#[t]⟩) E R as_:=by
 unfold AQx at hc;cases hl:lk G.mp t with
 |none=>rw[hl]at hc;exact(A2 hc).elim
 |some q=>
  obtain⟨m,e,k,v⟩:=q
  rw[hl]at hc
  simp only at hc
  cases hd:C1 R (.mp m k v) s with
  |none=>rw[hd]at hc;exact(A2 hc).elim
  |some f=>
   rw[hd]at hc
   obtain⟨n,h1,h2⟩:=bindS hc
   exact⟨_,h2,fun hE hR h=>AU0 h hG hN hl (hE _ _ hx) (E8 hR _ _ hd) h1⟩
theorem ATQ[Fx](hG:GxOk P G)(hN:blt d N=true){t:TypeId}(hc:AQv G d K t=some z):∃as_,K as_=some z/\Does P N (some d) (.makeMap t none) E R as_:=by
 unfold AQv at hc;cases hl:lk G.mp t with
 |none=>rw[hl]at hc;exact(A2 hc).elim
 |some q=>
  obtain⟨m,e,k,v⟩:=q
  rw[hl]at hc
  exact⟨_,hc,fun _ _ h=>APo h hG hN hl⟩
theorem ATR[Fx][Sl (P:=P)](hG:GxOk P G)(hN:blt d N=true){t:TypeId}{cm:Bool}(hx:E x=some sx)(hy:E y=some sy)(hc:AOJ G R K t cm sx sy=some z):∃as_,K as_=some z/\Does P N (some d) (.lookup t x y cm) E R as_:=by
 unfold AOJ at hc;cases hl:lk G.mp t with
 |none=>rw[hl]at hc;exact(A2 hc).elim
 |some q=>
  obtain⟨m,e,k,v⟩:=q
  rw[hl]at hc
  simp only at hc
  cases hd:C1 R (.mp m k v) sx with
  |none=>rw[hd]at hc;exact(A2 hc).elim
  |some f=>
   rw[hd]at hc
   simp only at hc
   cases ho:B3 sy with
   |cons _ _=>rw[ho]at hc;exact(A2 hc).elim
   |nil=>
    rw[ho]at hc
    simp only at hc
    cases ha:C1 R k sy with
    |none=>rw[ha]at hc;exact(A2 hc).elim
    |some a=>
     rw[ha]at hc
     simp only at hc
     cases hz:zdM v with
     |none=>rw[hz]at hc;exact(A2 hc).elim
     |some z0=>
      rw[hz]at hc
      exact⟨_,hc,fun hE hR h=>ARA h hG hN hl (hE _ _ hx) (E8 hR _ _ hd) (hE _ _ hy) ho (E8 hR _ _ ha) hz⟩
theorem ANG[Fx][Sl (P:=P)](hG:GxOk P G){t:TypeId}{x y u:Operand}{sx sy su:SV}(hx:E x=some sx)(hy:E y=some sy)(hu:E u=some su)(hc:AJD G R K t sx sy su=some z):∃as_,K as_=some z/\Does P N none (.mapUpdate t x y u) E R as_:=by
 unfold AJD at hc;cases hl:lk G.mp t with
 |none=>rw[hl]at hc;exact(A2 hc).elim
 |some q=>
  obtain⟨m,e,k,v⟩:=q
  rw[hl]at hc
  simp only at hc
  cases hd:ALI R m k v sx with
  |none=>rw[hd]at hc;exact(A2 hc).elim
  |some q=>
   obtain⟨i,f⟩:=q
   rw[hd]at hc
   simp only at hc
   cases ho:B3 sy with
   |cons _ _=>rw[ho]at hc;exact(A2 hc).elim
   |nil=>
    rw[ho]at hc
    simp only at hc
    cases ha:C1 R k sy with
    |none=>rw[ha]at hc;exact(A2 hc).elim
    |some a=>
     rw[ha]at hc
     simp only at hc
     cases hh:has (B3 su) i with
     |true=>rw[hh]at hc;exact(A2 hc).elim
     |false=>
      rw[hh]at hc
      simp only at hc
      cases hz:C1 R v su with
      |none=>rw[hz]at hc;exact(A2 hc).elim
      |some z0=>
       rw[hz]at hc
       simp only at hc
       cases hf:frz R (B3 su) with
       |none=>rw[hf]at hc;exact(A2 hc).elim
       |some fz=>
        rw[hf]at hc
        obtain⟨he,hi⟩:=AJs hd
        subst he
        exact⟨_,hc,fun hE hR h=>AMq h hG hl (hE _ _ hx) (hR _ _ hi) (hE _ _ hy) ho (E8 hR _ _ ha) (hE _ _ hu) hh (E8 hR _ _ hz) (R0 hR _ hf)⟩
theorem Does.ins[Fx]{t:TypeId}{x y u:Operand}{as_:List Ac}(h:Does P N none (.mapUpdate t x y u) E R as_):Does P N none (.insert t x y u) E R as_:=fun {w0 w Mu M σ L S ρ γ μ ι ops ds B X Z ty pos af} hE hR hS=>by
 have h1:=h (ops:=ops) (ds:=ds) (B:=B) (X:=X) (Z:=Z) (ty:=ty) (pos:=pos) (af:=af) hE hR hS;intro a ha;exact h1 a ha
theorem ATS[Fx][Sl (P:=P)](hG:GxOk P G){t t':TypeId}(hx:E x=some sx)(hy:E y=some sy)(hc:AQw G R K t sx sy=some z):∃as_,K as_=some z/\Does P N none (.call ⟨.builtin .delete,#[x,y],#[t,t']⟩) E R as_:=by
 unfold AQw at hc;cases hl:lk G.mp t with
 |none=>rw[hl]at hc;exact(A2 hc).elim
 |some q=>
  obtain⟨m,e,k,v⟩:=q
  rw[hl]at hc
  simp only at hc
  cases hd:ALI R m k v sx with
  |none=>rw[hd]at hc;exact(A2 hc).elim
  |some q=>
   obtain⟨i,f⟩:=q
   rw[hd]at hc
   simp only at hc
   cases ho:B3 sy with
   |cons _ _=>rw[ho]at hc;exact(A2 hc).elim
   |nil=>
    rw[ho]at hc
    simp only at hc
    cases ha:C1 R k sy with
    |none=>rw[ha]at hc;exact(A2 hc).elim
    |some a=>
     rw[ha]at hc
     obtain⟨he,hi⟩:=AJs hd
     subst he
     exact⟨_,hc,fun hE hR h=>ARB h hG hl (hE _ _ hx) (hR _ _ hi) (hE _ _ hy) ho (E8 hR _ _ ha)⟩
theorem ATT[Fx][Sl (P:=P)](hG:GxOk P G)(hN:blt d N=true){b:Builtin}(hdl:b≠.delete)(hx:evL E xs.toList=some ss)(hc:AE6 G d R K b ss ts.toList=some z):∃as_,K as_=some z/\Does P N (some d) (.call ⟨.builtin b,xs,ts⟩) E R as_:=by
 obtain⟨xs⟩:=xs;obtain⟨ts⟩:=ts;simp only at hx hc;unfold AE6 at hc;split at hc
 . rename_i s t;obtain⟨x,rfl,hx1⟩:=ASX hx;cases hl:lk G.sl t with
   |none=>rw[hl]at hc;exact ATP hG hN hx1 hc
   |some q=>
    obtain⟨e,u,n⟩:=q
    rw[hl]at hc
    exact ATN hN (SlOk.at hG.sl hl).und hx1 hc
 . exact absurd rfl hdl
 . obtain⟨x,y,rfl,hx1,hy1⟩:=AKa hx;obtain⟨k,i,j,e1,e2,hq⟩:=ANF hc;subst e1;subst e2;exact⟨_,hq,fun hE _ h=>AW9 h hN (hE _ _ hx1) (hE _ _ hy1)⟩
 . obtain⟨x,y,rfl,hx1,hy1⟩:=AKa hx;obtain⟨k,i,j,e1,e2,hq⟩:=ANF hc;subst e1;subst e2;exact⟨_,hq,fun hE _ h=>AXA h hN (hE _ _ hx1) (hE _ _ hy1)⟩
 . rename_i v s t t';obtain⟨x,y,rfl,hx1,hy1⟩:=AKa hx;split at hc
   . rename_i e u n hb hl;have:=AaU hb;subst this;cases hd:C1 R (.sl u) s with
     |none=>rw[hd]at hc;exact(A2 hc).elim
     |some ys=>
      rw[hd]at hc
      simp only at hc
      cases hf:frz R (B3 s) with
      |none=>rw[hf]at hc;exact(A2 hc).elim
      |some fz=>
       rw[hf]at hc
       exact ATO hG hN hl hx1 hy1 hd hf hc
   . exact(A2 hc).elim
 . exact(A2 hc).elim
theorem ABU[Sl (P:=P)]{Z:Type}{z:Z}:∀{ss:List SV} {K:List SV->Option Z},U1 ss K=some z->∃ss',K ss'=some z/\∀ρ R M w vs,OkV (P:=P) ρ R M w ss vs->OkV (P:=P) ρ R M w ss' vs
 |[],K,h=>⟨[],h,fun _ _ _ _ _ h=>h⟩
 |s::l,K,h=>by
  have key:U1 l (fun r=>K (s::r))=some z->∃ss',K ss'=some z/\∀ρ R M w vs,OkV (P:=P) ρ R M w (s::l) vs->OkV (P:=P) ρ R M w ss' vs:=fun h=>by
   obtain⟨ss',h1,h2⟩:=ABU h;refine⟨_,h1,fun ρ R M w vs hk=>?_⟩;obtain⟨u,r,rfl,h3,h4⟩:=hk;exact⟨u,r,rfl,h3,h2 _ _ _ _ _ h4⟩
  cases s with
  |np t x=>
   have h:Option.bind x (fun y=>U1 l fun r=>K (.rp (F6 t y) 0::r))=some z:=h
   obtain⟨y,rfl,h⟩:=bindS h
   obtain⟨ss',h1,h2⟩:=ABU h
   refine⟨_,h1,fun ρ R M w vs hk=>?_⟩
   obtain⟨u,r,rfl,h3,h4⟩:=hk
   refine⟨u,r,rfl,?_,h2 _ _ _ _ _ h4⟩
   rcases h3 with⟨h3,_⟩|⟨y',b,o,vs,h3,rfl,h5,h6⟩
   . cases h3
   . cases h3
     obtain⟨u,h7,h8⟩:=J5 h6
     exact⟨b,o,u,vs,rfl,h5,E4 t h7,h8⟩
  |_=>exact key h
theorem ALi[Fx][Sl (P:=P)](hG:GxOk P G){d:Option Nat}{id:Nat}(hN:(match d with|some d=>blt d N|none=>true)=true){caps ss ss':List SV}(hop:∀ρ R M w vs,OkV (P:=P) ρ R M w (ss++caps) vs->OkV (P:=P) ρ R M w ss' vs)(hf:E f=some (.fn g caps))(hx:evL E xs.toList=some ss)(hc:AIA G id R K g ss'=some z):∃as_,K as_=some z/\Does P N d (.call ⟨.value f,xs,ts⟩) E R as_:=by
 unfold AIA at hc;cases h1:A1 G.fs g with
 |none=>rw[h1]at hc;exact(A2 hc).elim
 |some c=>
  rw[h1]at hc
  simp only at hc
  cases h2:M5 G R c.ps ss' with
  |none=>rw[h2]at hc;exact(A2 hc).elim
  |some a=>
   rw[h2]at hc
   simp only at hc
   cases h3:(bif AAy c.rs then some [] else frz R (ownsLL ss')) with
   |none=>rw[h3]at hc;exact(A2 hc).elim
   |some fz=>
    rw[h3]at hc
    obtain⟨r,h4,h5⟩:=bindS hc
    refine⟨_,h5,?_⟩
    intro w0 w Mu M σ L S ρ γ μ ι ops ds B X Z ty pos af hE hR h
    have h6:(bif AAy c.rs then some [] else frz (A1 σ.res) (ownsLL ss'))=some fz:=by
     cases hp:AAy c.rs with
     |true=>rw[hp,cond_true]at h3;rw[cond_true];exact h3
     |false=>rw[hp,cond_false]at h3;rw[cond_false];exact R0 hR _ h3
    exact AUt h hG hN hop (hE _ _ hf) (ADU hE _ hx) h1 (AIQ hR _ _ h2) h6 h4
theorem APu{o:Option SV}{l:List SV}(h:fvN G o=some (.fn g l)):o=some (.fn g l):=by
 unfold fvN at h;split at h
 . split at h
   . split at h
     . cases h
     . cases h
   . cases h
 . exact h
theorem AU6[Fx](hG:GxOk P G){w0 w:World}{Mu M:List Nat}{σ:AS}{L:A8}{S:List Res}{ρ:Nat->Value}{γ:Nat->List Value}{μ:Nat->List Nat}{ι:Nat->Nat}(h:HS w0 Mu M σ L w S ρ γ μ ι)(hE:∀x s,E x=some s->B5 σ.env x=some s){r:Ty}{F:Q5 a r}(hf:fvN G (E f)=some (.fv a r F)):∃v,Sx.ev L f=some v/\FnOk (P:=P) (mm S M) w v a r F:=by
 unfold fvN at hf;split at hf
 . rename_i t n he;split at hf
   . split at hf
     . rename_i q hq;cases hf
       obtain⟨v,h1,_,cs,h2,h3|h3⟩:=h.ev (hE _ _ he)
       . cases h3.1
       . have h2:cs=[.func (.func _) #[] #[]]:=h2;rw[h2]at h3;have:=(List.singleton_inj.1 h3.2).symm;exact⟨v,h1,this▸FdOk.at hG.fd hq _ _ _ h.anch.2⟩
     . cases hf
   . cases hf
 . obtain⟨v,h1,h2⟩:=h.ev (hE _ _ hf);exact⟨v,h1,h2.1⟩
theorem ALj[Fx][Sl (P:=P)]{d:Option Nat}(hN:(match d with|some d=>blt d N|none=>true)=true){r:Ty}{F:Q5 a r}{o:Option (den r)}{fz:List Ac}(hG:GxOk P G)(hf:fvN G (E f)=some (.fv a r F))(hx:evL E xs.toList=some ss)(h1:AAH r a F R ss=some o)(h2:frz R (ownsLL ss)=some fz)(hc:Option.bind o (fun y=>K (fz++[.put (F6 r y)]))=some z):∃as_,K as_=some z/\Does P N d (.call ⟨.value f,xs,ts⟩) E R as_:=by
 obtain⟨y,h3,h4⟩:=bindS hc;exact⟨_,h4,fun hE hR h=>ATF h hN (AU6 hG h hE hf) (ADU hE _ hx) (AIS hR _ _ _ h1) (R0 hR _ h2) h3⟩
end
end
section
variable{N:Nat}{G:Gx}{E:Operand->Option SV}{R:Nat->Option AR}{Y:Type}{K:List Ac->Option Y}{z:Y}{d:Nat}
theorem ARH[Fx][Sl (P:=P)](hG:GxOk P G)(hN:blt d N=true){op:Op}(hst:∀t x y,op≠.store t x y)(hmu:∀t x y u,op≠.mapUpdate t x y u/\op≠.insert t x y u)(hdl:∀xs ts,op≠.call ⟨.builtin .delete,xs,ts⟩)(hc:AF0 G d E R K op=some z):∃as_,K as_=some z/\Does P N (some d) op E R as_:=by
 cases op with
 |move x=>
  have hc:(match E x with
   |some s=>K [.put s]
   |none=>none)=some z:=hc
  cases hx:E x with
  |none=>rw[hx]at hc;exact(A2 hc).elim
  |some s=>rw[hx]at hc;exact⟨_,hc,fun hE _ h=>AUm h hN (hE _ _ hx)⟩
 |assign x=>
  have hc:(match E x with
   |some s=>K [.put s]
   |none=>none)=some z:=hc
  cases hx:E x with
  |none=>rw[hx]at hc;exact(A2 hc).elim
  |some s=>rw[hx]at hc;exact⟨_,hc,fun hE _ h=>AQ4 h hN (hE _ _ hx)⟩
 |pick c a b=>
  have hc:(match E c with
   |some (.bool t)=>cond t (match E a with
    |some x=>K [.put x]
    |none=>none) (match E b with
    |some y=>K [.put y]
    |none=>none)
   |_=>none)=some z:=hc
  cases hx:E c with
  |none=>rw[hx]at hc;exact(A2 hc).elim
  |some s=>
   rw[hx]at hc
   cases s with
   |bool t=>
    cases t with
    |true=>
     simp only[cond_true]at hc
     cases ha:E a with
     |none=>rw[ha]at hc;exact(A2 hc).elim
     |some s=>rw[ha]at hc;exact⟨_,hc,fun hE _ h=>APj h hN (hE _ _ hx) (hE _ _ ha)⟩
    |false=>
     simp only[cond_false]at hc
     cases ha:E b with
     |none=>rw[ha]at hc;exact(A2 hc).elim
     |some s=>rw[ha]at hc;exact⟨_,hc,fun hE _ h=>APj h hN (hE _ _ hx) (hE _ _ ha)⟩
   |int _ _|ary _ _ _|str _ _|agg _|fv _ _ _|fn _ _|raw _|it _ _|np _ _|ap _ _ _ _|undef|dead|tup _|rp _ _|ptr _ _|ep _ _ _ _ _|dat _ _|own _|nilS=>exact(A2 hc).elim
 |nilCheck x=>
  have hc:(match E x with
   |some (.rp v o)=>K [.put (.rp v o)]
   |some (.ptr i o)=>K [.put (.ptr i o)]
   |some (.np t x)=>Option.bind x fun y=>K [.put (.rp (F6 t y) 0)]
   |_=>none)=some z:=hc
  cases hx:E x with
  |none=>rw[hx]at hc;exact(A2 hc).elim
  |some s=>
   rw[hx]at hc
   cases s with
   |rp v o=>exact⟨_,hc,fun hE _ h=>AIJ h hN (hE _ _ hx) (.inl ⟨v,o,rfl⟩)⟩
   |ptr i o=>exact⟨_,hc,fun hE _ h=>AIJ h hN (hE _ _ hx) (.inr ⟨i,o,rfl⟩)⟩
   |np t q=>
    obtain⟨y,h1,h2⟩:=bindS hc
    exact⟨_,h2,fun hE _ h=>AUn h hN (hE _ _ hx) h1⟩
   |int _ _|bool _|ary _ _ _|str _ _|agg _|fv _ _ _|fn _ _|raw _|it _ _|ap _ _ _ _|undef|dead|tup _|ep _ _ _ _ _|dat _ _|own _|nilS=>exact(A2 hc).elim
 |unOp u t x=>
  cases u with
  |not=>
   have hc:(match E x with
    |some (.bool b)=>K [.put (.bool (!b))]
    |_=>none)=some z:=hc
   cases hx:E x with
   |none=>rw[hx]at hc;exact(A2 hc).elim
   |some s=>
    rw[hx]at hc
    cases s with
    |bool b=>exact⟨_,hc,fun hE _ h=>AWt h hN (hE _ _ hx)⟩
    |int _ _|ary _ _ _|str _ _|agg _|fv _ _ _|fn _ _|raw _|it _ _|np _ _|ap _ _ _ _|undef|dead|tup _|rp _ _|ptr _ _|ep _ _ _ _ _|dat _ _|own _|nilS=>exact(A2 hc).elim
  |neg=>
   have hc:(match E x with
    |some (.int k i)=>(chk k (-i)).bind fun n=>K [.put (.int k n)]
    |_=>none)=some z:=hc
   cases hx:E x with
   |none=>rw[hx]at hc;exact(A2 hc).elim
   |some s=>
    rw[hx]at hc
    cases s with
    |int k i=>
     obtain⟨n,h1,h2⟩:=bindS hc
     exact⟨_,h2,fun hE _ h=>AWu h hN (hE _ _ hx) h1⟩
    |bool _|ary _ _ _|str _ _|agg _|fv _ _ _|fn _ _|raw _|it _ _|np _ _|ap _ _ _ _|undef|dead|tup _|rp _ _|ptr _ _|ep _ _ _ _ _|dat _ _|own _|nilS=>exact(A2 hc).elim
  |xor|plus=>exact(A2 hc).elim
 |convert s t x=>
  have hc:(match lk G.ty s with
   |some (.int _)=>match lk G.ty t with
    |some (.int k)=>match E x with
     |some (.int _ i)=>(chk k i).bind fun n=>K [.put (.int k n)]
     |_=>none
    |_=>none
   |_=>none)=some z:=hc
  cases h1:lk G.ty s with
  |none=>rw[h1]at hc;exact(A2 hc).elim
  |some u=>
   rw[h1]at hc
   cases u with
   |int k0=>
    simp only at hc
    cases h2:lk G.ty t with
    |none=>rw[h2]at hc;exact(A2 hc).elim
    |some u=>
     rw[h2]at hc
     cases u with
     |int k=>
      simp only at hc
      cases hx:E x with
      |none=>rw[hx]at hc;exact(A2 hc).elim
      |some s=>
       rw[hx]at hc
       cases s with
       |int k' i=>
        obtain⟨n,h3,h4⟩:=bindS hc
        exact⟨_,h4,fun hE _ h=>APk h hN ((TyOk.at hG.ty h1).1 _ rfl) ((TyOk.at hG.ty h2).1 _ rfl) (hE _ _ hx) h3⟩
       |bool _|ary _ _ _|str _ _|agg _|fv _ _ _|fn _ _|raw _|it _ _|np _ _|ap _ _ _ _|undef|dead|tup _|rp _ _|ptr _ _|ep _ _ _ _ _|dat _ _|own _|nilS=>exact(A2 hc).elim
     |bool|sl _|st _|arr _ _|mp _ _ _|fno _=>exact(A2 hc).elim
   |bool|sl _|st _|arr _ _|mp _ _ _|fno _=>exact(A2 hc).elim
 |binOp b t x y t'=>
  have hc:(match E x with
   |some s=>match E y with
    |some s'=>AOH G R K b t s s'
    |none=>none
   |none=>none)=some z:=hc
  cases hx:E x with
  |none=>rw[hx]at hc;exact(A2 hc).elim
  |some s=>
   rw[hx]at hc
   simp only at hc
   cases hy:E y with
   |none=>rw[hy]at hc;exact(A2 hc).elim
   |some s'=>rw[hy]at hc;exact ATK hG hN hx hy hc
 |indexAddr t x y=>
  have hc:(match lk G.sl t with
   |some (_,e,_)=>match E y with
    |some (.int _ i)=>match E x with
     |some s=>iaS R K e i s
     |none=>none
    |_=>none
   |none=>match E y with
    |some (.int _ i)=>match E x with
     |some s=>iaA G K t i s
     |none=>none
    |_=>none)=some z:=hc
  cases hl:lk G.sl t with
  |none=>
   rw[hl]at hc
   simp only at hc
   cases hy:E y with
   |none=>rw[hy]at hc;exact(A2 hc).elim
   |some s=>
    rw[hy]at hc
    cases s with
    |int k i=>
     simp only at hc
     cases hx:E x with
     |none=>rw[hx]at hc;exact(A2 hc).elim
     |some s=>rw[hx]at hc;exact AU4 hG hN hx hy hc
    |bool _|ary _ _ _|str _ _|agg _|fv _ _ _|fn _ _|raw _|it _ _|np _ _|ap _ _ _ _|undef|dead|tup _|rp _ _|ptr _ _|ep _ _ _ _ _|dat _ _|own _|nilS=>exact(A2 hc).elim
  |some q=>
   obtain⟨e,u,b⟩:=q
   rw[hl]at hc
   simp only at hc
   cases hy:E y with
   |none=>rw[hy]at hc;exact(A2 hc).elim
   |some s=>
    rw[hy]at hc
    cases s with
    |int k i=>
     simp only at hc
     cases hx:E x with
     |none=>rw[hx]at hc;exact(A2 hc).elim
     |some s=>rw[hx]at hc;exact AU3 hG hN hl hx hy hc
    |bool _|ary _ _ _|str _ _|agg _|fv _ _ _|fn _ _|raw _|it _ _|np _ _|ap _ _ _ _|undef|dead|tup _|rp _ _|ptr _ _|ep _ _ _ _ _|dat _ _|own _|nilS=>exact(A2 hc).elim
 |fieldAddr s x f=>
  have hc:(match lk G.tb.st s with
   |some l=>match nth l f with
    |some (k,_)=>match E x with
     |some v=>match AUU k v with
      |some r=>K [.put r]
      |none=>none
     |none=>none
    |none=>none
   |none=>none)=some z:=hc
  cases h1:lk G.tb.st s with
  |none=>rw[h1]at hc;exact(A2 hc).elim
  |some l=>
   rw[h1]at hc
   simp only at hc
   cases h2:nth l f with
   |none=>rw[h2]at hc;exact(A2 hc).elim
   |some q=>
    obtain⟨k,u⟩:=q
    rw[h2]at hc
    simp only at hc
    cases hx:E x with
    |none=>rw[hx]at hc;exact(A2 hc).elim
    |some v=>
     rw[hx]at hc
     simp only at hc
     cases v with
     |rp v o=>exact⟨_,hc,fun hE _ h=>AEL h hG hN h1 h2 (hE _ _ hx) (.inl ⟨v,o,rfl,rfl⟩)⟩
     |ptr i o=>exact⟨_,hc,fun hE _ h=>AEL h hG hN h1 h2 (hE _ _ hx) (.inr (.inl ⟨i,o,rfl,rfl⟩))⟩
     |ep i t ix q o=>exact⟨_,hc,fun hE _ h=>AEL h hG hN h1 h2 (hE _ _ hx) (.inr (.inr ⟨i,t,ix,q,o,rfl,rfl⟩))⟩
     |int _ _|bool _|ary _ _ _|str _ _|agg _|fv _ _ _|fn _ _|raw _|it _ _|np _ _|ap _ _ _ _|undef|dead|tup _|dat _ _|own _|nilS=>exact(A2 hc).elim
 |field s x f=>
  have hc:(match lk G.tb.st s with
   |some l=>match nth l f with
    |some (k,u)=>match E x with
     |some v=>match U0 G u k v with
      |some r=>match AEE v with
       |true=>K [.put r]
       |false=>none
      |none=>none
     |none=>none
    |none=>none
   |none=>none)=some z:=hc
  cases h1:lk G.tb.st s with
  |none=>rw[h1]at hc;exact(A2 hc).elim
  |some l=>
   rw[h1]at hc
   simp only at hc
   cases h2:nth l f with
   |none=>rw[h2]at hc;exact(A2 hc).elim
   |some q=>
    obtain⟨k,u⟩:=q
    rw[h2]at hc
    simp only at hc
    cases hx:E x with
    |none=>rw[hx]at hc;exact(A2 hc).elim
    |some v=>
     rw[hx]at hc
     simp only at hc
     cases h3:U0 G u k v with
     |none=>rw[h3]at hc;exact(A2 hc).elim
     |some r=>
      rw[h3]at hc
      simp only at hc
      cases h4:AEE v with
      |false=>rw[h4]at hc;exact(A2 hc).elim
      |true=>rw[h4]at hc;exact⟨_,hc,fun hE _ h=>ATC h hG hN h1 h2 (hE _ _ hx) h3 h4⟩
 |extract x i=>
  have hc:(match E x with
   |some (.tup l)=>match nth l i with
    |some s=>K [.put s]
    |none=>none
   |_=>none)=some z:=hc
  cases hx:E x with
  |none=>rw[hx]at hc;exact(A2 hc).elim
  |some v=>
   rw[hx]at hc
   cases v with
   |tup l=>
    simp only at hc
    cases h2:nth l i with
    |none=>rw[h2]at hc;exact(A2 hc).elim
    |some s=>rw[h2]at hc;exact⟨_,hc,fun hE _ h=>APl h hN (hE _ _ hx) h2⟩
   |int _ _|bool _|ary _ _ _|str _ _|agg _|fv _ _ _|fn _ _|raw _|it _ _|np _ _|ap _ _ _ _|undef|dead|rp _ _|ptr _ _|ep _ _ _ _ _|dat _ _|own _|nilS=>exact(A2 hc).elim
 |load t x=>
  have hc:(match E x with
   |some v=>match AGa G R t v with
    |some s=>K [.put s]
    |none=>ldA G R K t v
   |none=>none)=some z:=hc
  cases hx:E x with
  |none=>rw[hx]at hc;exact(A2 hc).elim
  |some v=>
   rw[hx]at hc
   simp only at hc
   cases h2:AGa G R t v with
   |none=>rw[h2]at hc;exact AU5 hG hN hx hc
   |some s=>rw[h2]at hc;exact⟨_,hc,ARG hG hN hx h2⟩
 |box t x=>
  have hc:(match E x with
   |some s=>match T9 s with
    |some l=>K [.new d (.row t (subL d .dead l)),.put (.ptr d 0)]
    |none=>none
   |none=>none)=some z:=hc
  cases hx:E x with
  |none=>rw[hx]at hc;exact(A2 hc).elim
  |some s=>
   rw[hx]at hc
   simp only at hc
   cases h2:T9 s with
   |none=>rw[h2]at hc;exact(A2 hc).elim
   |some l=>rw[h2]at hc;exact⟨_,hc,fun hE _ h=>AW8 h hN (hE _ _ hx) h2⟩
 |alloc t=>
  have hc:(match AB9 G t with
   |some s=>match T9 s with
    |some l=>K [.new d (.row t (subL d .dead l)),.put (.ptr d 0)]
    |none=>none
   |none=>none)=some z:=hc
  cases hx:AB9 G t with
  |none=>rw[hx]at hc;exact(A2 hc).elim
  |some s=>
   rw[hx]at hc
   simp only at hc
   cases h2:T9 s with
   |none=>rw[h2]at hc;exact(A2 hc).elim
   |some l=>rw[h2]at hc;exact⟨_,hc,fun _ _ h=>ATB h hG hN hx h2⟩
 |store t x y=>exact absurd rfl (hst t x y)
 |mapUpdate t x y u=>exact absurd rfl (hmu t x y u).1
 |insert t x y u=>exact absurd rfl (hmu t x y u).2
 |makeMap t r=>
  cases r with
  |some _=>exact(A2 hc).elim
  |none=>exact ATQ hG hN hc
 |lookup t x y cm=>
  have hc:(match E x with
   |some sx=>match E y with
    |some sy=>AOJ G R K t cm sx sy
    |none=>none
   |none=>none)=some z:=hc
  cases hx:E x with
  |none=>rw[hx]at hc;exact(A2 hc).elim
  |some sx=>
   rw[hx]at hc
   simp only at hc
   cases hy:E y with
   |none=>rw[hy]at hc;exact(A2 hc).elim
   |some sy=>rw[hy]at hc;exact ATR hG hN hx hy hc
 |build t ps=>
  have hc:(match lk G.bd t with
   |some pl=>match AB9 G t with
    |some (.agg l)=>match AE4 pl E ps.toList l with
     |some l'=>K [.put (.agg l')]
     |none=>none
    |_=>none
   |none=>none)=some z:=hc
  cases h1:lk G.bd t with
  |none=>rw[h1]at hc;exact(A2 hc).elim
  |some pl=>
   rw[h1]at hc
   simp only at hc
   cases h2:AB9 G t with
   |none=>rw[h2]at hc;exact(A2 hc).elim
   |some s=>
    rw[h2]at hc
    cases s with
    |agg l=>
     simp only at hc
     cases h3:AE4 pl E ps.toList l with
     |none=>rw[h3]at hc;exact(A2 hc).elim
     |some l'=>rw[h3]at hc;exact⟨_,hc,fun hE _ h=>ATG h hG hN hE h1 h2 h3⟩
    |int _ _|bool _|ary _ _ _|str _ _|tup _|fv _ _ _|fn _ _|raw _|it _ _|np _ _|ap _ _ _ _|undef|dead|rp _ _|ptr _ _|ep _ _ _ _ _|dat _ _|own _|nilS=>exact(A2 hc).elim
 |buildSlice t n ps=>
  have hq:(match lk G.sl t with
   |some (e,u,_)=>match lk G.sz e with
    |some m=>match evL E (ps.toList.map (·.2)) with
     |some ss=>match AA6 u R ss with
      |some xs=>match frz R (ownsLL ss) with
       |some fz=>match AHP 0 ps.toList&&beq n ps.toList.length&&Nat.ble (n*m) 16777216 with
        |true=>K (fz++[.new d (.own false (.sl e u) xs),.put (.own d)])
        |false=>none
       |none=>none
      |none=>none
     |none=>none
    |none=>none
   |none=>none)=some z:=hc
  cases hl:lk G.sl t with
  |none=>rw[hl]at hq;exact(A2 hq).elim
  |some q=>
   obtain⟨e,u,b⟩:=q
   rw[hl]at hq
   simp only at hq
   cases h1:lk G.sz e with
   |none=>rw[h1]at hq;exact(A2 hq).elim
   |some m=>
    rw[h1]at hq
    simp only at hq
    cases h2:evL E (ps.toList.map (·.2)) with
    |none=>rw[h2]at hq;exact(A2 hq).elim
    |some ss=>
     rw[h2]at hq
     simp only at hq
     cases h3:AA6 u R ss with
     |none=>rw[h3]at hq;exact(A2 hq).elim
     |some xs=>
      rw[h3]at hq
      simp only at hq
      cases h4:frz R (ownsLL ss) with
      |none=>rw[h4]at hq;exact(A2 hq).elim
      |some fz=>
       rw[h4]at hq
       simp only at hq
       cases h5:(AHP 0 ps.toList&&beq n ps.toList.length&&Nat.ble (n*m) 16777216) with
       |false=>rw[h5]at hq;exact(A2 hq).elim
       |true=>
        rw[h5]at hq
        simp only[Bool.and_eq_true]at h5
        obtain⟨ps⟩:=ps
        exact⟨_,hq,fun hE hR h=>ALX h hG hN hl h1 (ADU hE _ h2) (AIR hR u _ h3) (R0 hR _ h4) h5.1.1 (AaU h5.1.2) h5.2⟩
 |makeSlice t x y=>
  have hq:(match opB x y with
   |true=>match lk G.sl t with
    |some (e,u,b)=>match lk G.ty e with
     |some u'=>match decide (u'=u),AID u with
      |true,some z0=>match E x with
       |some (.int _ m)=>(mko b z0 m).bind fun xs=>K [.new d (.own false (.sl e u) xs),.put (.own d)]
       |_=>none
      |_,_=>none
     |none=>none
    |none=>none
   |false=>none)=some z:=hc
  cases ho:opB x y with
  |false=>rw[ho]at hq;exact(A2 hq).elim
  |true=>
   rw[ho]at hq
   simp only at hq
   have hxy:=AUu ho
   cases hl:lk G.sl t with
   |none=>rw[hl]at hq;exact(A2 hq).elim
   |some q=>
    obtain⟨e,u,b⟩:=q
    rw[hl]at hq
    simp only at hq
    cases hu:lk G.ty e with
    |none=>rw[hu]at hq;exact(A2 hq).elim
    |some u'=>
     rw[hu]at hq
     simp only at hq
     cases he:decide (u'=u) with
     |false=>rw[he]at hq;exact(A2 hq).elim
     |true=>
      have he':=AaW he
      rw[he]at hq
      cases hz:AID u with
      |none=>rw[hz]at hq;exact(A2 hq).elim
      |some z0=>
       rw[hz]at hq
       simp only at hq
       cases hx:E x with
       |none=>rw[hx]at hq;exact(A2 hq).elim
       |some s=>
        rw[hx]at hq
        cases s with
        |int k m=>
         obtain⟨xs,h1,h2⟩:=bindS hq
         subst he';subst hxy
         exact⟨_,h2,fun hE _ h=>AMp h hG hN hl hu hz (hE _ _ hx) h1⟩
        |bool _|ary _ _ _|str _ _|agg _|fv _ _ _|fn _ _|raw _|it _ _|np _ _|ap _ _ _ _|undef|dead|tup _|rp _ _|ptr _ _|ep _ _ _ _ _|dat _ _|own _|nilS=>exact(A2 hq).elim
 |slice t x lo hi mx=>
  have hq:(match lk G.sl t with
   |some (e,u,_)=>match E x with
    |some s=>match C1 R (.sl u) s with
     |some xs=>match (generalizing:=false) mx with
      |some m=>match (generalizing:=false) lo with
       |none=>match B3 s with
        |[]=>match (generalizing:=false) hi,m with
         |some (.const (.int _ i)),.const (.int _ j)=>match decide (i=0),decide (j=0) with
          |true,true=>K [.new d (.own false (.sl e u) []),.put (.own d)]
          |_,_=>none
         |_,_=>none
        |_=>none
       |some _=>none
      |none=>match frz R (B3 s) with
       |some fz=>match (generalizing:=false) lo with
        |some y=>match (generalizing:=false) hi with
         |none=>match E y with
          |some (.int _ i)=>(AA4 (show List (den u) from xs) i).bind fun l=>K (fz++[.put (.dat (.sl u) l)])
          |_=>none
         |some _=>none
        |none=>match (generalizing:=false) hi with
         |some y=>match E y with
          |some (.int _ i)=>(AAG (show List (den u) from xs) i).bind fun l=>K (fz++[.put (.dat (.sl u) l)])
          |_=>none
         |none=>none
       |none=>none
     |none=>none
    |none=>none
   |none=>none)=some z:=hc
  cases hl:lk G.sl t with
  |none=>rw[hl]at hq;exact(A2 hq).elim
  |some q=>
   obtain⟨e,u,b⟩:=q
   rw[hl]at hq
   simp only at hq
   cases hx:E x with
   |none=>rw[hx]at hq;exact(A2 hq).elim
   |some s=>
    rw[hx]at hq
    simp only at hq
    cases hd:C1 R (.sl u) s with
    |none=>rw[hd]at hq;exact(A2 hq).elim
    |some xs=>
     rw[hd]at hq
     simp only at hq
     cases mx with
     |some m=>
      cases lo with
      |some _=>exact(A2 hq).elim
      |none=>
       simp only at hq
       cases ho:B3 s with
       |cons _ _=>rw[ho]at hq;exact(A2 hq).elim
       |nil=>
        rw[ho]at hq
        simp only at hq
        split at hq
        . rename_i k i k' j
          split at hq
          . rename_i hi hj
            have hi:=AaW hi
            have hj:=AaW hj
            subst hi;subst hj
            exact⟨_,hq,fun hE hR h=>AUx h hG hN hl (hE _ _ hx) (E8 hR _ _ hd) ho⟩
          . exact(A2 hq).elim
        . exact(A2 hq).elim
     |none=>
      simp only at hq
      cases hf:frz R (B3 s) with
      |none=>rw[hf]at hq;exact(A2 hq).elim
      |some fz=>
       rw[hf]at hq
       simp only at hq
       cases lo with
       |some y=>
        cases hi with
        |some _=>exact(A2 hq).elim
        |none=>
         simp only at hq
         cases hy:E y with
         |none=>rw[hy]at hq;exact(A2 hq).elim
         |some s'=>
          rw[hy]at hq
          cases s' with
          |int k i=>
           obtain⟨l,h1,h2⟩:=bindS hq
           exact⟨_,h2,fun hE hR h=>AUv h hG hN hl (hE _ _ hx) (E8 hR _ _ hd) (R0 hR _ hf) (hE _ _ hy) h1⟩
          |bool _|ary _ _ _|str _ _|agg _|fv _ _ _|fn _ _|raw _|it _ _|np _ _|ap _ _ _ _|undef|dead|tup _|rp _ _|ptr _ _|ep _ _ _ _ _|dat _ _|own _|nilS=>exact(A2 hq).elim
       |none=>
        cases hi with
        |none=>exact(A2 hq).elim
        |some y=>
         simp only at hq
         cases hy:E y with
         |none=>rw[hy]at hq;exact(A2 hq).elim
         |some s'=>
          rw[hy]at hq
          cases s' with
          |int k i=>
           obtain⟨l,h1,h2⟩:=bindS hq
           exact⟨_,h2,fun hE hR h=>AUw h hG hN hl (hE _ _ hx) (E8 hR _ _ hd) (R0 hR _ hf) (hE _ _ hy) h1⟩
          |bool _|ary _ _ _|str _ _|agg _|fv _ _ _|fn _ _|raw _|it _ _|np _ _|ap _ _ _ _|undef|dead|tup _|rp _ _|ptr _ _|ep _ _ _ _ _|dat _ _|own _|nilS=>exact(A2 hq).elim
 |makeFunc f fs cs=>
  cases f with
  |func g=>
   have hc:(match fs.toList with
    |[]=>match evL E cs.toList with
     |some l=>K [.put (.fn g l)]
     |none=>none
    |_=>none)=some z:=hc
   obtain⟨fs⟩:=fs
   obtain⟨cs⟩:=cs
   simp only at hc
   cases fs with
   |cons _ _=>exact(A2 hc).elim
   |nil=>
    simp only at hc
    cases h2:evL E cs with
    |none=>rw[h2]at hc;exact(A2 hc).elim
    |some l=>rw[h2]at hc;exact⟨_,hc,fun hE _ h=>AOZ h hN (ADU hE _ h2)⟩
  |_=>exact(A2 hc).elim
 |call c=>
  obtain⟨c,args,ts⟩:=c
  cases c with
  |builtin b=>
   have hc:(match evL E args.toList with
    |some ss=>AE6 G d R K b ss ts.toList
    |none=>none)=some z:=hc
   cases h1:evL E args.toList with
   |none=>rw[h1]at hc;exact(A2 hc).elim
   |some ss=>rw[h1]at hc;exact ATT hG hN (fun e=>by subst e;exact hdl args ts rfl) h1 hc
  |invoke _ _=>exact(A2 hc).elim
  |value f=>
   have hc:(match fvN G (E f) with
    |some (.fn g caps)=>match evL E args.toList with
     |some ss=>U1 (ss++caps) fun ss'=>AIA G d R K g ss'
     |none=>none
    |some (.fv a r f)=>match evL E args.toList with
     |some ss=>match AAH r a f R ss with
      |some o=>match frz R (ownsLL ss) with
       |some fz=>Option.bind o fun y=>K (fz++[.put (F6 r y)])
       |none=>none
      |none=>none
     |none=>none
    |_=>none)=some z:=hc
   cases hf:fvN G (E f) with
   |none=>rw[hf]at hc;exact(A2 hc).elim
   |some s=>
    rw[hf]at hc
    cases s with
    |fn g caps=>
     simp only at hc
     cases h1:evL E args.toList with
     |none=>rw[h1]at hc;exact(A2 hc).elim
     |some ss=>
      rw[h1]at hc
      obtain⟨ss',hc',hop⟩:=ABU (P:=P) hc
      exact ALi hG (d:=some d) hN hop (APu hf) h1 hc'
    |fv a r F=>
     simp only at hc
     cases h1:evL E args.toList with
     |none=>rw[h1]at hc;exact(A2 hc).elim
     |some ss=>
      rw[h1]at hc
      simp only at hc
      cases h2:AAH r a F R ss with
      |none=>rw[h2]at hc;exact(A2 hc).elim
      |some o=>
       rw[h2]at hc
       simp only at hc
       cases h3:frz R (ownsLL ss) with
       |none=>rw[h3]at hc;exact(A2 hc).elim
       |some fz=>rw[h3]at hc;exact ALj (d:=some d) hN hG hf h1 h2 h3 hc
    |int _ _|bool _|ary _ _ _|str _ _|agg _|raw _|it _ _|np _ _|ap _ _ _ _|undef|dead|tup _|rp _ _|ptr _ _|ep _ _ _ _ _|dat _ _|own _|nilS=>exact(A2 hc).elim
 |_=>exact(A2 hc).elim
theorem AJy{op:Op}(h:ADH N op (some d)=true):blt d N=true/\(∀t x y,op≠.store t x y)/\(∀t x y u,op≠.mapUpdate t x y u/\op≠.insert t x y u)/\(∀xs ts,op≠.call ⟨.builtin .delete,xs,ts⟩):=by
 have hs:∀t x y,op≠.store t x y:=fun t x y e=>by subst e;cases h
 have hm:∀t x y u,op≠.mapUpdate t x y u/\op≠.insert t x y u:=fun t x y u=>⟨fun e=>(by subst e;cases h),fun e=>(by subst e;cases h)⟩;have hd:∀xs ts,op≠.call ⟨.builtin .delete,xs,ts⟩:=fun xs ts e=>by subst e;cases h
 refine⟨?_,hs,hm,hd⟩;cases op with
 |store t x y=>exact absurd rfl (hs _ _ _)
 |mapUpdate t x y u=>exact absurd rfl (hm _ _ _ _).1
 |insert t x y u=>exact absurd rfl (hm _ _ _ _).2
 |call c=>
  obtain⟨c,a,t⟩:=c
  cases c with
  |builtin b=>
   cases b with
   |delete=>exact absurd rfl (hd _ _)
   |_=>exact h
  |_=>exact h
 |_=>exact h
theorem AJM[Fx][Sl (P:=P)](hG:GxOk P G){d:Option Nat}{op:Op}(hN:ADH N op d=true)(hc:AF0 G (ABe d) E R K op=some z):∃as_,K as_=some z/\Does P N d op E R as_:=by
 cases d with
 |some d=>
  obtain⟨h1,h2,h3,h4⟩:=AJy hN
  exact ARH hG (d:=d) h1 h2 h3 h4 hc
 |none=>
  cases op with
  |store t x y=>
   have hc:(match E y with
    |some s=>match T9 s with
     |some ns=>match szB G t ns with
      |true=>match E x with
       |some a=>AQu R K ns a
       |none=>none
      |false=>none
     |none=>none
    |none=>none)=some z:=hc
   cases hy:E y with
   |none=>rw[hy]at hc;exact(A2 hc).elim
   |some s=>
    rw[hy]at hc
    simp only at hc
    cases h1:T9 s with
    |none=>rw[h1]at hc;exact(A2 hc).elim
    |some ns=>
     rw[h1]at hc
     simp only at hc
     cases h2:szB G t ns with
     |false=>rw[h2]at hc;exact(A2 hc).elim
     |true=>
      rw[h2]at hc
      simp only at hc
      cases hx:E x with
      |none=>rw[hx]at hc;exact(A2 hc).elim
      |some a=>
       rw[hx]at hc
       obtain⟨n,h3,h4⟩:=AQ7 h2
       exact ATM hG hy h1 h3 h4 hx hc
  |call c=>
   obtain⟨c,args,ts⟩:=c
   cases c with
   |builtin b=>
    cases b with
    |delete=>
     have hq:(match evL E args.toList with
      |some ss=>AE6 G 0 R K .delete ss ts.toList
      |none=>none)=some z:=hc
     cases h1:evL E args.toList with
     |none=>rw[h1]at hq;exact(A2 hq).elim
     |some ss=>
      rw[h1]at hq
      clear hc
      obtain⟨xs⟩:=args
      obtain⟨ts⟩:=ts
      have h1':evL E xs=some ss:=h1
      have hq':AE6 G 0 R K .delete ss ts=some z:=hq
      unfold AE6 at hq'
      split at hq'
      . rename_i e;cases e
      . obtain⟨x,y,rfl,hx1,hy1⟩:=AKa h1'
        exact ATS hG hx1 hy1 hq'
      . rename_i e;cases e
      . rename_i e;cases e
      . rename_i e;cases e
      . exact(A2 hq').elim
    |_=>cases hN
   |invoke _ _=>cases hN
   |value f=>
    have hc:(match fvN G (E f) with
     |some (.fn g caps)=>match evL E args.toList with
      |some ss=>U1 (ss++caps) fun ss'=>AIA G 0 R K g ss'
      |none=>none
     |some (.fv a r f)=>match evL E args.toList with
      |some ss=>match AAH r a f R ss with
       |some o=>match frz R (ownsLL ss) with
        |some fz=>Option.bind o fun y=>K (fz++[.put (F6 r y)])
        |none=>none
       |none=>none
      |none=>none
     |_=>none)=some z:=hc
    cases hf:fvN G (E f) with
    |none=>rw[hf]at hc;exact(A2 hc).elim
    |some s=>
     rw[hf]at hc
     cases s with
     |fn g caps=>
      simp only at hc
      cases h1:evL E args.toList with
      |none=>rw[h1]at hc;exact(A2 hc).elim
      |some ss=>
       rw[h1]at hc
       obtain⟨ss',hc',hop⟩:=ABU (P:=P) hc
       exact ALi hG (d:=none) rfl hop (APu hf) h1 hc'
     |fv a r F=>
      simp only at hc
      cases h1:evL E args.toList with
      |none=>rw[h1]at hc;exact(A2 hc).elim
      |some ss=>
       rw[h1]at hc
       simp only at hc
       cases h2:AAH r a F R ss with
       |none=>rw[h2]at hc;exact(A2 hc).elim
       |some o=>
        rw[h2]at hc
        simp only at hc
        cases h3:frz R (ownsLL ss) with
        |none=>rw[h3]at hc;exact(A2 hc).elim
        |some fz=>rw[h3]at hc;exact ALj (d:=none) rfl hG hf h1 h2 h3 hc
     |int _ _|bool _|ary _ _ _|str _ _|agg _|raw _|it _ _|np _ _|ap _ _ _ _|undef|dead|tup _|rp _ _|ptr _ _|ep _ _ _ _ _|dat _ _|own _|nilS=>exact(A2 hc).elim
  |mapUpdate t x y u=>
   have hc:(match E x with
    |some sx=>match E y with
     |some sy=>match E u with
      |some su=>AJD G R K t sx sy su
      |none=>none
     |none=>none
    |none=>none)=some z:=hc
   cases hx:E x with
   |none=>rw[hx]at hc;exact(A2 hc).elim
   |some sx=>
    rw[hx]at hc
    simp only at hc
    cases hy:E y with
    |none=>rw[hy]at hc;exact(A2 hc).elim
    |some sy=>
     rw[hy]at hc
     simp only at hc
     cases hu:E u with
     |none=>rw[hu]at hc;exact(A2 hc).elim
     |some su=>rw[hu]at hc;exact ANG hG hx hy hu hc
  |insert t x y u=>
   have hc:(match E x with
    |some sx=>match E y with
     |some sy=>match E u with
      |some su=>AJD G R K t sx sy su
      |none=>none
     |none=>none
    |none=>none)=some z:=hc
   cases hx:E x with
   |none=>rw[hx]at hc;exact(A2 hc).elim
   |some sx=>
    rw[hx]at hc
    simp only at hc
    cases hy:E y with
    |none=>rw[hy]at hc;exact(A2 hc).elim
    |some sy=>
     rw[hy]at hc
     simp only at hc
     cases hu:E u with
     |none=>rw[hu]at hc;exact(A2 hc).elim
     |some su=>rw[hu]at hc;obtain⟨as_,h1,h2⟩:=ANG hG hx hy hu hc;exact⟨as_,h1,h2.ins⟩
  |_=>cases hN
end
def AJN(σ:AS)(kp:List Nat):Prop:=∀i∈kp,i∉σ.kl/\∃a,A1 σ.res i=some a
def Wk(P:Program)[Se P](σ:AS)(s s':SV):Prop:=∀kp,AJN σ kp->∀(ρ:Nat->Value) R M w v,Ok (P:=P) ρ R M w (J9 kp s') v->Ok (P:=P) ρ R M w (J9 kp s) v
def RelA(P:Program)[Se P](σ:AS)(i:Nat):AR->AR->Prop
 |.own p c x,a=>∃y:den c.ty,a=.own p c y/\((i,0)∉σ.ch->y=x)
 |.row e l,a=>∃l',a=.row e l'/\l'.length=l.length/\∀n s',l'[n]?=some s'->(i,n+1)∉σ.ch->∃s,l[n]?=some s/\Wk P σ s s'
structure Rel(P:Program)[Se P](W:List Nat)(σ σ':AS):Prop where
 kl:∀i∈σ.kl,i∈σ'.kl
 ch:∀c∈σ.ch,c∈σ'.ch
 dom:∀i a',A1 σ'.res i=some a'->i∉σ'.kl->∃a,A1 σ.res i=some a/\RelA P σ' i a a'
 env:∀t,t∉W->∀s,A1 σ.env t=some s->∃s',A1 σ'.env t=some s'/\Wk P σ' s s'
section
variable{σ:AS}{i:Nat}{W:List Nat}{σ':AS}{s:SV}{p:Rp}{j:Nat}
theorem Wk.refl(s:SV):Wk P σ s s:=fun _ _ _ _ _ _ _ h=>h
theorem RelA.refl:∀a:AR,RelA P σ i a a
 |.own _ _ xs=>⟨xs,rfl,fun _=>rfl⟩
 |.row _ l=>⟨l,rfl,rfl,fun _ s' h _=>⟨s',h,Wk.refl s'⟩⟩
theorem Rel.refl(σ:AS):Rel P W σ σ:=⟨fun _ h=>h,fun _ h=>h,fun _ a h _=>⟨a,h,RelA.refl a⟩,fun _ _ s h=>⟨s,h,Wk.refl s⟩⟩
theorem Rel.live(h:Rel P W σ σ'){kp:List Nat}(hk:AJN σ' kp):AJN σ kp:=fun i hi=>by
 obtain⟨h1,a,h2⟩:=hk i hi;obtain⟨b,h3,_⟩:=h.dom i a h2 h1;exact⟨fun hk=>h1 (h.kl i hk),b,h3⟩
theorem Wk.trans(h:Rel P W σ σ'){s s1 s2:SV}(h1:Wk P σ s s1)(h2:Wk P σ' s1 s2):Wk P σ' s s2:=fun kp hk ρ R M w v hv=>h1 kp (h.live hk) ρ R M w v (h2 kp hk ρ R M w v hv)
theorem Rel.mono{W W':List Nat}(h:Rel P W σ σ')(hw:∀t∈W,t∈W'):Rel P W' σ σ':=⟨h.kl,h.ch,h.dom,fun t ht=>h.env t fun hm=>ht (hw t hm)⟩
theorem Rel.trans{σ σ1 σ2:AS}(h:Rel P W σ σ1)(k:Rel P W σ1 σ2):Rel P W σ σ2:=by
 refine⟨fun i hi=>k.kl i (h.kl i hi),fun c hc=>k.ch c (h.ch c hc),fun i a' hi hn=>?_,fun t ht s hs=>?_⟩
 . obtain⟨a1,h1,h2⟩:=k.dom i a' hi hn;obtain⟨a,h3,h4⟩:=h.dom i a1 h1 fun hm=>hn (k.kl i hm);refine⟨a,h3,?_⟩;cases a with
   |own p c xs=>
    obtain⟨ys,rfl,h5⟩:=h4
    obtain⟨zs,rfl,h6⟩:=h2
    exact⟨zs,rfl,fun hc=>(h6 hc).trans (h5 fun hm=>hc (k.ch _ hm))⟩
   |row e l=>
    obtain⟨l1,rfl,h5,h6⟩:=h4
    obtain⟨l2,rfl,h7,h8⟩:=h2
    refine⟨l2,rfl,h7.trans h5,fun n s' hs' hc=>?_⟩
    obtain⟨s1,h9,h10⟩:=h8 n s' hs' hc
    obtain⟨s,h11,h12⟩:=h6 n s1 h9 fun hm=>hc (k.ch _ hm)
    exact⟨s,h11,Wk.trans k h12 h10⟩
 . obtain⟨s1,h1,h2⟩:=h.env t ht s hs;obtain⟨s2,h3,h4⟩:=k.env t ht s1 h1;exact⟨s2,h3,Wk.trans k h2 h4⟩
theorem ARI{kp:List Nat}(h:AJN σ kp)(hi:i∈σ.kl):has kp i=false:=by
 cases hb:has kp i with
 |false=>rfl
 |true=>exact absurd hi (h i (has_iff.1 hb)).1
theorem Wk.sub(hi:i∈σ.kl)(s:SV):Wk P σ s (subS i p s):=fun _ hk _ _ _ _ _ h=>Ok.kexSub (ARI hk hi) s h
theorem Wk.old(s:SV):Wk P σ s (oldS i s):=fun _ _ _ _ _ _ _ h=>by rwa [AGf]at h
theorem ALk{i:Nat}{p:Rp}:∀{l:List SV} {n:Nat},(subL i p l)[n]?=(l[n]?).map (subS i p)
 |[],_=>rfl
 |s::l,0=>rfl
 |s::l,n+1=>by simpa[subL] using ALk (l:=l)
theorem ALl{i:Nat}:∀{l:List SV} {n:Nat},(oldL i l)[n]?=(l[n]?).map (oldS i)
 |[],_=>rfl
 |s::l,0=>rfl
 |s::l,n+1=>by simpa[oldL] using ALl (l:=l)
theorem subL_len{i:Nat}{p:Rp}:∀{l:List SV},(subL i p l).length=l.length
 |[]=>rfl
 |s::l=>by simp[subL,subL_len (l:=l)]
theorem oldL_len{i:Nat}:∀{l:List SV},(oldL i l).length=l.length
 |[]=>rfl
 |s::l=>by simp[oldL,oldL_len (l:=l)]
theorem RelA.sub(hi:i∈σ.kl):∀a:AR,RelA P σ j a (a.sub i p)
 |.own _ _ xs=>⟨xs,rfl,fun _=>rfl⟩
 |.row _ l=>⟨subL i p l,rfl,subL_len,fun n s' h _=>by
  rw[ALk]at h;cases h1:l[n]? with
  |none=>rw[h1]at h;cases h
  |some s=>
   rw[h1]at h
   have h:subS i p s=s':=AaO h
   subst h
   exact⟨s,rfl,Wk.sub hi s⟩⟩
theorem RelA.old:∀a:AR,RelA P σ j a (a.old i)
 |.own _ _ xs=>⟨xs,rfl,fun _=>rfl⟩
 |.row _ l=>⟨oldL i l,rfl,oldL_len,fun n s' h _=>by
  rw[ALl]at h;cases h1:l[n]? with
  |none=>rw[h1]at h;cases h
  |some s=>
   rw[h1]at h
   have h:oldS i s=s':=AaO h
   subst h
   exact⟨s,rfl,Wk.old s⟩⟩
theorem AJO{l:List (Nat×SV)}{i t:Nat}(hi:i∈σ.kl)(h:A1 l t=some s):∃s',A1 (ABu i p l) t=some s'/\Wk P σ s s':=⟨subS i p s,by rw[AAT,h];rfl,Wk.sub hi s⟩
theorem AJP{l:List (Nat×AR)}{a':AR}(hi:i∈σ.kl)(h:A1 (W0 i p l) j=some a'):∃a,A1 l j=some a/\RelA P σ j a a':=by
 rw[fnd_subR]at h;cases h1:A1 l j with
 |none=>rw[h1]at h;cases h
 |some a=>
  rw[h1]at h
  have h:a.sub i p=a':=AaO h
  subst h
  exact⟨a,rfl,RelA.sub hi a⟩
theorem logC_mem{i:Nat}{l:List (Nat×Nat)}:∀{c:List Nat} {x:Nat×Nat},x∈AK4 i c l↔(x.1=i/\x.2∈c)\/x∈l
 |[],x=>by simp[AK4]
 |n::r,x=>by
  simp only[AK4,mem_cons,logC_mem (c:=r),Prod.ext_iff];constructor
  . rintro (⟨h1,h2⟩|⟨h1,h2⟩|h)
    . exact .inl ⟨h1,.inl h2⟩
    . exact .inl ⟨h1,.inr h2⟩
    . exact .inr h
  . rintro (⟨h1,h2|h2⟩|h)
    . exact .inl ⟨h1,h2⟩
    . exact .inr (.inl ⟨h1,h2⟩)
    . exact .inr (.inr h)
theorem AJz:∀(ns l:List SV) {l':List SV},overL l ns=some l'->l'.length=l.length/\∀n,ns.length<=n->l'[n]?=l[n]?
 |[],l,l',h=>by
  have h:some l=some l':=by cases l<;>exact h
  cases h;exact⟨rfl,fun _ _=>rfl⟩
 |_::_,[],_,h=>(A2 h).elim
 |n::ns,s::l,l',h=>by
  simp only[overL]at h;cases hb:beq (wd s) (wd n) with
  |false=>simp only[hb]at h;exact(A2 h).elim
  |true=>
   simp only[hb]at h
   cases hw:wd n with
   |zero=>simp only[hw]at h;exact(A2 h).elim
   |succ m=>
    simp only[hw]at h
    cases hx:overL l ns with
    |none=>simp only[hx]at h;exact(A2 h).elim
    |some x=>
     simp only[hx]at h
     have h:=AaO h
     subst h
     obtain⟨h1,h2⟩:=AJz ns l hx
     refine⟨by simp[h1],fun k hk=>?_⟩
     cases k with
     |zero=>simp at hk
     |succ k=>simpa using h2 k (by simpa using hk)
theorem ALm:∀(l:List SV) (o:Nat) {ns l':List SV},setW l o ns=some l'->l'.length=l.length/\∀n,n<entry l o\/entry l o+ns.length<=n->l'[n]?=l[n]?
 |l,0,ns,l',h=>by
  have h:overL l ns=some l':=by cases l<;>exact h
  obtain⟨h1,h2⟩:=AJz ns l h;refine⟨h1,fun n hn=>h2 n ?_⟩;have:entry l 0=0:=by cases l<;>rfl
  rw[this]at hn;omega
 |[],_+1,_,_,h=>(A2 h).elim
 |s::l,o+1,ns,l',h=>by
  simp only[setW]at h;cases hw:wd s with
  |zero=>simp only[hw]at h;exact(A2 h).elim
  |succ n=>
   simp only[hw]at h
   cases hb:Nat.ble n o with
   |false=>simp only[hb]at h;exact(A2 h).elim
   |true=>
    simp only[hb]at h
    cases hx:setW l (o-n) ns with
    |none=>simp only[hx]at h;exact(A2 h).elim
    |some x=>
     simp only[hx]at h
     have h:=AaO h
     subst h
     obtain⟨h1,h2⟩:=ALm l (o-n) hx
     refine⟨by simp[h1],fun k hk=>?_⟩
     simp only[entry,hw,hb,cond_true]at hk
     cases k with
     |zero=>rfl
     |succ k=>simpa using h2 k (by omega)
theorem Rel.upd{g:AR->AR}{c:List Nat}(h:∀a,A1 σ.res i=some a->RelA P (σ.upd i g c) i a (g a)):Rel P W σ (σ.upd i g c):=by
 refine⟨fun _ hk=>hk,fun x hx=>logC_mem.2 (.inr hx),fun j a' hj _=>?_,fun t _ s hs=>?_⟩
 . rw[AJI]at hj;by_cases e:j=i
   . subst e;rw[Aac rfl]at hj;cases h1:A1 σ.res j with
     |none=>rw[h1]at hj;cases hj
     |some a=>
      rw[h1]at hj
      have hj:g a=a':=AaO hj
      subst hj
      exact⟨a,rfl,h a h1⟩
   . rw[if_neg e]at hj;cases h1:A1 σ.res j with
     |none=>rw[h1]at hj;cases hj
     |some a=>
      rw[h1]at hj
      have hj:a.old i=a':=AaO hj
      subst hj
      exact⟨a,rfl,RelA.old a⟩
 . exact⟨oldS i s,by show A1 (AFp i σ.env) t=_;rw[ADN,hs];rfl,Wk.old s⟩
theorem Rel.act(d:Option Nat)(σ:AS)(a:Ac)(hd:∀t,d=some t->t∈W):Rel P W σ (a.app d σ):=by
 cases a with
 |put s=>
  cases d with
  |none=>exact Rel.refl σ
  |some d=>
   refine⟨fun _ h=>h,fun _ h=>h,fun _ a h _=>⟨a,h,RelA.refl a⟩,fun t ht s' hs=>⟨s',?_,Wk.refl s'⟩⟩
   show A1 ((d,s)::σ.env) t=_
   rw[fnd_cons,if_neg (show ¬d=t from fun e=>ht (e▸hd d rfl))]
   exact hs
 |new i r=>
  have hi:i∈((Ac.new i r).app d σ).kl:=AaT ..
  refine⟨fun _ h=>AaQ _ h,fun _ h=>h,fun j a' hj hn=>?_,fun t _ s hs=>AJO hi hs⟩
  have hj:A1 ((i,r)::Z8 i (W0 i .dead σ.res)) j=some a':=hj
  have hne:j≠i:=fun e=>hn (e▸hi)
  rw[fnd_cons,if_neg (fun e=>hne e.symm),fnd_rdel,if_neg hne]at hj
  exact AJP hi hj
 |sto i o ns=>
  refine Rel.upd fun a ha=>?_
  cases a with
  |own p c xs=>exact RelA.refl _
  |row e l=>
   cases h2:setW l o ns with
   |none=>simp only[AAt,h2];exact RelA.refl _
   |some l'=>
    obtain⟨h3,h4⟩:=ALm l o h2
    simp only[AAt,h2]
    refine⟨l',rfl,h3,fun n s' hs hc=>⟨s',?_,Wk.refl s'⟩⟩
    rw[<-h4 n ?_];exact hs
    rcases Aag n (entry l o) with h|h
    . exact .inl h
    . right
      rcases Aag n (entry l o+ns.length) with h'|h'
      . exact absurd (logC_mem.2 (.inl ⟨rfl,by rw[ha];exact List.mem_range'.2 ⟨n-entry l o,by omega,by omega⟩⟩)) hc
      . exact h'
 |cnt i c xs=>
  refine Rel.upd fun a ha=>?_
  cases a with
  |row _ _=>exact RelA.refl _
  |own p c' zs=>
   cases h2:castO c c' xs with
   |none=>simp only[Z9,h2];exact RelA.refl _
   |some ys=>
    simp only[Z9,h2]
    exact⟨ys,rfl,fun hc=>absurd (logC_mem.2 (.inl ⟨rfl,by simp⟩)) hc⟩
 |hnd i r=>
  have hi:i∈((Ac.hnd i r).app d σ).kl:=AaT ..
  refine⟨fun _ h=>AaQ _ h,fun _ h=>h,fun j a' hj hn=>?_,fun t _ s hs=>AJO hi hs⟩
  have hj:A1 (AED i r (W0 i .dead σ.res)) j=some a':=hj
  have hne:j≠i:=fun e=>hn (e▸hi)
  rw[ADO,if_neg hne]at hj
  exact AJP hi hj
 |del i p=>
  have hi:i∈((Ac.del i p).app d σ).kl:=AaT ..
  refine⟨fun _ h=>AaQ _ h,fun _ h=>h,fun j a' hj hn=>?_,fun t _ s hs=>AJO hi hs⟩
  have hj:A1 (Z8 i (W0 i p σ.res)) j=some a':=hj
  have hne:j≠i:=fun e=>hn (e▸hi)
  rw[fnd_rdel,if_neg hne]at hj
  exact AJP hi hj
theorem AAV(d:Option Nat){W:List Nat}(hd:∀t,d=some t->t∈W):∀(as_:List Ac) (σ:AS),Rel P W σ (apps d as_ σ)
 |[],σ=>Rel.refl σ
 |a::as_,σ=>(Rel.act d σ a hd).trans (AAV d hd as_ _)
theorem ACA{N:Nat}{A B:A5}{X:Nat->A5}{Z:List PanicEntry->A5}:¬LetsOut (S7 N A B X Z):=fun⟨_,_,h⟩=>h
theorem ADV{o:Oper}{a:Act}{w:World}{next next':Act->World->Prop}{Q Q':Exit->Act->World->Prop}(h:o.wp P a w next Q)(hn:∀a w,next a w->next' a w)(hq:∀c a w,Q (.panic c) a w->Q' (.panic c) a w)(hl:¬LetsOut Q):o.wp P a w next' Q':=by
 unfold Oper.wp at h ⊢;generalize (execOp a.eval o).run P w=r at h;cases r with
 |ok n w2=>
  cases n<;>simp only[Oper.upon]at h ⊢
  case value u=>exact hn _ _ h
  case skip=>exact hn _ _ h
  case defer d=>exact hn _ _ h
  case enter f args=>
   refine Calls.mono h fun e w3 he=>?_
   cases e with
   |returned u=>exact hn _ _ he
   |panicked c=>exact hq _ _ _ he
   |outgrown=>exact absurd he hl
  case row row args=>exact Rows.mono h fun u w3 he=>hn _ _ he
 |halt x w2=>
  cases x<;>simp only[Oper.upon]at h ⊢
  case panic u=>exact hq _ _ _ h
end
section
variable{N:Nat}{ops:Array Oper}{ds:List Deferred}{L:A8}{w:World}{A B:A5}{X:Nat->A5}{Z:List PanicEntry->A5}{rest:List Oper}
theorem ARJ{o:Oper}(hg:o.guard=none)(h:Reg P N ops .seq [o] ds L w (fun ds' L' w'=>Reg P N ops .seq rest ds' L' w' A B X Z) B X Z):Reg P N ops .seq (o::rest) ds L w A B X Z:=fun a ha=>by
 have h1:=h a ha;simp only[wpList]at h1 ⊢;have hw:Region.wanted o (yielded ops a.tmps)=true:=by simp[Region.wanted,hg]
 rw[Aac hw]at h1 ⊢;refine .inl (ADV (h1.resolve_right fun hh=>ACA hh.2) ?_ ?_ ACA)
 . rintro a' w' ⟨ds',L',hk,hr⟩;exact hr a' hk
 . exact fun c a w hz=>hz
theorem Reg.skip{o:Oper}(hN:∀d,o.dst=some d->blt d N=true)(hw:∀a,Knows N ds L a->Region.wanted o (yielded ops a.tmps)=false)(h:Reg P N ops .seq rest ds (match o.dst with|some d=>(d,undef)::L|none=>L) w A B X Z):Reg P N ops .seq (o::rest) ds L w A B X Z:=fun a ha=>by
 simp only[wpList,hw a ha,Bool.false_eq_true,if_false];cases hd:o.dst with
 |none=>rw[hd]at h;exact h a ha
 |some d=>rw[hd]at h;exact h _ (ha.put (hN d hd) _)
end
section
variable{w0 w:World}{Mu M:List Nat}{σ:AS}{L:A8}{S:List Res}{ρ:Nat->Value}{γ:Nat->List Value}{μ:Nat->List Nat}{ι:Nat->Nat}
theorem ALn{l:List (Nat×SV)}{t:Nat}{s:SV}(h:A1 l t=some s)(u:Nat):A1 ((t,s)::l) u=A1 l u:=by
 rw[fnd_cons];split
 . rename_i e;subst e;exact h.symm
 . rfl
theorem HS.same[Fx](h:HS w0 Mu M σ L w S ρ γ μ ι){l:List (Nat×SV)}(hl:∀t,A1 l t=A1 σ.env t):HS w0 Mu M { σ with env:=l } L w S ρ γ μ ι:=
 ⟨h.hp,h.res,h.inj,h.row,fun t s ht=>h.env t s (by rw[<-hl];exact ht),h.anch⟩
theorem Rel.same{W:List Nat}{l:List (Nat×SV)}(hl:∀t,A1 l t=A1 σ.env t):Rel P W σ { σ with env:=l }:=
 ⟨fun _ h=>h,fun _ h=>h,fun _ a h _=>⟨a,h,RelA.refl a⟩,fun t _ s hs=>⟨s,(hl t).trans hs,Wk.refl s⟩⟩
theorem ANH{N:Nat}{op:Op}{d:Option Nat}(h:ADH N op d=true):∀t,d=some t->blt t N=true:=fun t ht=>by
 subst ht;exact(AJy h).1
theorem AD0{ops:List Oper}{j t:Nat}(h:ACp ops j=some t):((toArray ops)[j]?).bind (·.dst)=some t:=by
 unfold ACp at h;rw[Y9]at h;simp only[List.getElem?_toArray];cases h1:ops[j]? with
 |none=>rw[h1]at h;exact(A2 h).elim
 |some o=>rw[h1]at h;exact h
theorem U3[Fx][Sl (P:=P)]{G:Gx}(hG:GxOk P G){N:Nat}{ops:List Oper}{Y:Type}{K:AS->Option Y}{z:Y}{ds:List Deferred}{A B:A5}{X:Nat->A5}{Z:List PanicEntry->A5}{W:List Nat}:
  ∀(l:List Oper) (σ:AS) (L:A8) (w:World),D3 G N ops K l σ=some z->(∀t∈C2 l,t∈W)->Holds w0 Mu M σ L w ->
   (∀σ' L' w',K σ'=some z->Rel P W σ σ'->EnvS W L L'->Holds w0 Mu M σ' L' w'->A ds L' w')->Reg P N (toArray ops) .seq l ds L w A B X Z
 |[],σ,L,w,h,_,hH,hA=>Reg.nil (hA σ L w h (Rel.refl σ) (EnvS.refl _ _) hH)
 |o::r,σ,L,w,h,hW,hH,hA=>by
  simp only[D3]at h;have hW2:∀t∈C2 r,t∈W:=fun t ht=>hW t (by
   simp only[C2];cases o.dst with
   |none=>exact ht
   |some d=>exact AaQ _ ht)
  have hWl:∀t∈o.dst.toList,t∈W:=fun t ht=>hW t (by
   cases hd:o.dst with
   |none=>rw[hd]at ht;cases ht
   |some d=>
    rw[hd]at ht
    have ht:t∈[d]:=ht
    rw[mem_singleton.1 ht]
    simp only[C2,hd];exact AaT ..)
  have hWd:∀t,o.dst=some t->t∈W:=fun t ht=>hW t (by simp only[C2,ht];exact AaT ..);cases hb:ADH N o.op o.dst with
  |false=>rw[hb]at h;exact(A2 h).elim
  |true=>
   rw[hb]at h
   simp only at h
   have take:∀(σ1:AS) (L1:A8) (w1:World),Rel P W σ σ1->EnvS W L L1->Holds w0 Mu M σ1 L1 w1->AF0 G (ABe o.dst) (B5 σ1.env) (A1 σ1.res) (fun as_=>D3 G N ops K r (apps o.dst as_ σ1)) o.op=some z ->
     Reg P N (toArray ops) .seq (⟨o.dst,o.op,o.type,o.pos,o.after,none⟩::r) ds L1 w1 A B X Z:=fun σ1 L1 w1 hr hE1 hH1 hc=>by
    obtain⟨as_,h1,h2⟩:=AJM (P:=P) hG hb hc
    obtain⟨S,ρ,γ,μ,ι,hS⟩:=hH1
    refine ARJ rfl ?_
    have h3:=h2 (ops:=toArray ops) (ds:=ds) (B:=B) (X:=X) (Z:=Z) (ty:=o.type) (pos:=o.pos) (af:=o.after) (fun _ _ h=>h) (fun _ _ h=>h) hS
    refine fun a ha=>?_
    have h4:=h3 a ha
    simp only[wpList]at h4 ⊢
    rw[Aac (by simp[Region.wanted])]at h4 ⊢
    refine .inl (ADV (h4.resolve_right fun hh=>ACA hh.2) ?_ (fun c a w hz=>hz) ACA)
    rintro a' w' ⟨ds',L',hk,rfl,hE2,hH2⟩
    exact⟨_,L',hk,U3 hG r _ L' w' h1 hW2 hH2 fun σ' L'' w'' hK hR hE3 hH3=>hA σ' L'' w'' hK (hr.trans ((AAV o.dst hWd as_ σ1).trans hR)) (hE1.trans ((hE2.mono hWl).trans hE3)) hH3⟩
   have pass:∀(σ1:AS) (L1:A8) (w1:World),Rel P W σ σ1->EnvS W L L1->Holds w0 Mu M σ1 L1 w1->D3 G N ops K r (apps o.dst [.put .undef] σ1)=some z->(∀a,Knows N ds L1 a->Region.wanted o (yielded (toArray ops) a.tmps)=false) ->
     Reg P N (toArray ops) .seq (o::r) ds L1 w1 A B X Z:=fun σ1 L1 w1 hr hE1 hH1 hc hw=>by
    obtain⟨S,ρ,γ,μ,ι,hS⟩:=hH1
    refine Reg.skip (ANH hb) hw ?_
    refine U3 hG r _ _ w1 hc hW2 ?_ fun σ' L'' w'' hK hR hE3 hH3=>hA σ' L'' w'' hK (hr.trans ((AAV o.dst hWd _ σ1).trans hR)) (hE1.trans (EnvS.trans ?_ hE3)) hH3
    rotate_left
    . cases hd:o.dst with
      |none=>exact EnvS.refl _ _
      |some d=>exact(EnvS.put d L1 _).mono fun t ht=>by rw[mem_singleton.1 ht];exact hWd d hd
    cases hd:o.dst with
    |none=>exact⟨S,ρ,γ,μ,ι,hS⟩
    |some d=>exact⟨S,ρ,γ,μ,ι,hS.put (s:=.undef) rfl⟩
   cases hg:o.guard with
   |none=>
    rw[hg]at h
    have:=take σ L w (Rel.refl σ) (EnvS.refl _ _) hH h
    rw[<-hg]at this
    exact this
   |some gb=>
    obtain⟨g,b⟩:=gb
    rw[hg]at h
    simp only at h
    cases hdo:ACp ops g with
    |none=>rw[hdo]at h;exact(A2 h).elim
    |some t=>
     rw[hdo]at h
     simp only at h
     have hj:=AD0 hdo
     obtain⟨S,ρ,γ,μ,ι,hS⟩:=hH
     cases hf:A1 σ.env t with
     |none=>rw[hf]at h;exact(A2 h).elim
     |some s=>
      rw[hf]at h
      obtain⟨v,hv,hok⟩:=hS.env t s hf
      cases s with
      |bool c=>
       simp only at h
       have hok:v=Value.bool c:=hok
       subst hok
       have same:∀u,A1 ((t,.bool c)::σ.env) u=A1 σ.env u:=ALn hf
       have hH1:Holds w0 Mu M { σ with env:=(t,.bool c)::σ.env } L w:=⟨S,ρ,γ,μ,ι,hS.same same⟩
       have hR1:Rel P W σ { σ with env:=(t,.bool c)::σ.env }:=Rel.same same
       by_cases hcb:c=b
       . have hc:AF0 G (ABe o.dst) (B5 ((t,.bool c)::σ.env)) (A1 σ.res) (fun as_=>D3 G N ops K r (apps o.dst as_ { σ with env:=(t,.bool c)::σ.env })) o.op=some z:=by
          subst hcb;cases c<;>exact h
         have:=take { σ with env:=(t,.bool c)::σ.env } L w hR1 (EnvS.refl _ _) hH1 hc
         subst hcb
         have h5:=Reg.take (b:=c) hj hv this
         rw[<-hg]at h5
         exact h5
       . have hc:D3 G N ops K r (apps o.dst [.put .undef] { σ with env:=(t,.bool c)::σ.env })=some z:=by
          cases c<;>cases b<;>first|exact absurd rfl hcb|exact h
         refine pass { σ with env:=(t,.bool c)::σ.env } L w hR1 (EnvS.refl _ _) hH1 hc fun a ha=>?_
         simp only[Region.wanted,hg,T6 ha hj hv]
         simpa using hcb
      |undef=>
       have hok:v=Go.undef:=hok
       subst hok
       refine pass σ L w (Rel.refl σ) (EnvS.refl _ _) ⟨S,ρ,γ,μ,ι,hS⟩ h fun a ha=>?_
       have hy:yielded (toArray ops) a.tmps g=none:=by simp only[yielded,hj,Option.bind_some,ha.val t _ hv];rfl
       simp only[Region.wanted,hg,hy];rfl
      |int _ _|ary _ _ _|str _ _|agg _|fv _ _ _|fn _ _|dead|tup _|rp _ _|ptr _ _|ep _ _ _ _ _|dat _ _|own _|nilS|raw _|it _ _|np _ _|ap _ _ _ _=>exact(A2 h).elim
end
end Go.Rx
namespace Go.Rx
open Go Go.Sx Go.RowKit
variable[Trk][Sg][Sf]{P:Program}[Se P]
section
variable{t:Nat}{i:Nat}{c:Ck}{n:Nat}{x:c.den}{a:At}{s:SV}{cs:List Cm}
theorem fnd_app{α:Type}{t:Nat}:∀{l1 l2:List (Nat×α)},A1 (l1++l2) t=match A1 l1 t with|some x=>some x|none=>A1 l2 t
 |[],l2=>rfl
 |(k,v)::r,l2=>by
  rw[AbH,fnd_cons,fnd_cons,fnd_app (l1:=r)];split<;>rfl
theorem AB0{α:Type}{t:Nat}{x:α}:∀{l:List (Nat×α)},A1 l t=some x->(t,x)∈l
 |(k,v)::r,h=>by
  rw[fnd_cons]at h;split at h
  . rename_i e;subst e;cases h;exact AaT ..
  . exact AaQ _ (AB0 h)
theorem fnd_none{α:Type}{t:Nat}:∀{l:List (Nat×α)},(∀x,(t,x)∉l)->A1 l t=none
 |[],_=>rfl
 |(k,v)::r,h=>by
  rw[fnd_cons,if_neg (show ¬k=t from fun e=>h v (by subst e;exact AaT ..))];exact fnd_none fun x hx=>h x (AaQ _ hx)
theorem fnd_keepE{wr kp:List Nat}{t:Nat}:∀{l:List (Nat×SV)},A1 (ACs wr kp l) t=if t∈wr then none else(A1 l t).map (J9 kp)
 |[]=>by simp[ACs,A1]
 |(k,s)::r=>by
  simp only[ACs];cases hb:has wr k with
  |true=>
   rw[cond_true,fnd_keepE (l:=r),fnd_cons]
   by_cases e:k=t
   . subst e;rw[Aac (has_iff.1 hb),Aac (has_iff.1 hb)]
   . rw[if_neg e]
  |false=>
   rw[cond_false,fnd_cons,fnd_cons,fnd_keepE (l:=r)]
   by_cases e:k=t
   . subst e
     rw[Aac rfl,Aac rfl,if_neg (fun hm=>by rw[has_iff.2 hm]at hb;cases hb)];rfl
   . rw[if_neg e,if_neg e]
theorem ACI{q:List Cv}{kp:List Nat}{i:Nat}:∀{l:List (Nat×AR)},A1 (ACt q kp l) i=if i∈kp then(A1 l i).map (AEJ q kp i) else none
 |[]=>by simp[ACt,A1]
 |(k,a)::r=>by
  simp only[ACt];cases hb:has kp k with
  |true=>
   rw[cond_true,fnd_cons,fnd_cons,ACI (l:=r)]
   by_cases e:k=i
   . subst e;rw[Aac rfl,Aac rfl,Aac (has_iff.1 hb)];rfl
   . rw[if_neg e,if_neg e]
  |false=>
   rw[cond_false,ACI (l:=r),fnd_cons]
   by_cases e:k=i
   . subst e
     rw[if_neg (fun hm=>by rw[has_iff.2 hm]at hb;cases hb),if_neg (fun hm=>by rw[has_iff.2 hm]at hb;cases hb)]
   . rw[if_neg e]
theorem AGi:∀(l:List Cm) (x:O6 l),(W6 l x).map (·.1)=l
 |[],_=>rfl
 |[_],_=>rfl
 |c::d::l,x=>by
  show c::(W6 (d::l) x.2).map (·.1)=_;rw[AGi (d::l) x.2]
theorem allV_mem{α:Type}{f:(c:Ck)->c.den->At->List α}{y:α}:∀{q:List Cv},y∈allV f q↔∃p∈q,y∈f p.1.2 p.2 p.1.1
 |[]=>by simp[allV]
 |p::l=>by simp[allV,allV_mem (q:=l)]
theorem ACJ{α:Type}{f:(c:Ck)->c.den->At->Option α}{y:α}:∀{q:List Cv},ACV f q=some y->∃p∈q,f p.1.2 p.2 p.1.1=some y
 |[],h=>by cases h
 |p::l,h=>by
  simp only[ACV]at h;cases h1:f p.1.2 p.2 p.1.1 with
  |some z=>rw[h1]at h;cases h;exact⟨p,AaT ..,h1⟩
  |none=>
   rw[h1]at h
   obtain⟨r,h2,h3⟩:=ACJ h
   exact⟨r,AaQ _ h2,h3⟩
theorem AF9{α:Type}{f:(c:Ck)->c.den->At->Option α}:∀{q:List Cv},ACV f q=none->∀p∈q,f p.1.2 p.2 p.1.1=none
 |[],_,p,hp=>by cases hp
 |p::l,h,r,hr=>by
  simp only[ACV]at h;cases h1:f p.1.2 p.2 p.1.1 with
  |some z=>rw[h1]at h;cases h
  |none=>
   rw[h1]at h
   rcases mem_cons.1 hr with rfl|hr
   . exact h1
   . exact AF9 h r hr
theorem AHh{f:Nat->Option SV}{kp:List Nat}:∀{l:List SV} {k n:Nat},(AJF f kp k l)[n]?=(l[n]?).map fun s=>match f (k+n) with|some s'=>s'|none=>J9 kp s
 |[],_,_=>rfl
 |s::l,k,0=>rfl
 |s::l,k,n+1=>by
  simp only[AJF,List.getElem?_cons_succ];rw[AHh (l:=l),show k+1+n=k+(n+1) by omega]
theorem putN_len{f:Nat->Option SV}{kp:List Nat}:∀{l:List SV} {k:Nat},(AJF f kp k l).length=l.length
 |[],_=>rfl
 |s::l,k=>by simp[AJF,putN_len (l:=l)]
theorem AIT(h:ADu i n c x a=some s):a=.cell i n:=by
 have key:∀(j m:Nat) (r:SV),(match beq i j&&beq n m with
   |true=>some r
   |false=>none)=some s->At.cell j m=.cell i n:=fun j m r hb=>by
  cases h1:beq i j&&beq n m with
  |false=>rw[h1]at hb;cases hb
  |true=>
   simp only[Bool.and_eq_true]at h1
   rw[AaU h1.1,AaU h1.2]
 cases c with
 |d t=>cases a with
  |cell j m=>exact key j m _ h
  |slot _=>cases h
  |cont _=>cases h
 |own _=>cases a with
  |cell j m=>exact key j m _ h
  |slot _=>cases h
  |cont _=>cases h
 |undef|it _|np _=>cases h
theorem AOe{o:Oc}{ys:den o.ty}(h:AGc i o c x a=some ys):a=.cont i:=by
 cases c with
 |d t=>cases h
 |undef|it _|np _=>cases h
 |own o'=>cases a with
  |slot _=>cases h
  |cell _ _=>cases h
  |cont j=>
   have hq:(match beq i j with
    |true=>castO o' o x
    |false=>none)=some ys:=h
   cases h1:beq i j with
   |false=>rw[h1]at hq;cases hq
   |true=>rw[AaU h1]
theorem AGj{x:O6 cs}{p:Cv}(h:p∈W6 cs x):p.1∈cs:=by
 rw[<-AGi cs x];exact AbC h
theorem APv{x:O6 cs}{c:Cm}(h:c∈cs):∃p∈W6 cs x,p.1=c:=by
 rw[<-AGi cs x]at h;obtain⟨p,h1,h2⟩:=mem_map.1 h;exact⟨p,h1,h2⟩
theorem AFH{i n:Nat}{c:Ck}:∀{cs:List Cm},(At.cell i n,c)∈cs->(i,n+1)∈chV cs
 |(.cell j m,d)::l,h=>by
  rcases mem_cons.1 h with h|h
  . cases h;exact AaT ..
  . exact AaQ _ (AFH h)
 |(.cont j,d)::l,h=>by
  rcases mem_cons.1 h with h|h
  . cases h
  . exact AaQ _ (AFH h)
 |(.slot j,d)::l,h=>by
  rcases mem_cons.1 h with h|h
  . cases h
  . exact AFH (cs:=l) h
theorem AFI{i:Nat}{c:Ck}:∀{cs:List Cm},(At.cont i,c)∈cs->(i,0)∈chV cs
 |(.cell j m,d)::l,h=>by
  rcases mem_cons.1 h with h|h
  . cases h
  . exact AaQ _ (AFI h)
 |(.cont j,d)::l,h=>by
  rcases mem_cons.1 h with h|h
  . cases h;exact AaT ..
  . exact AaQ _ (AFI h)
 |(.slot j,d)::l,h=>by
  rcases mem_cons.1 h with h|h
  . cases h
  . exact AFI (cs:=l) h
theorem ABi{s:Nat}{c:Ck}:∀{cs:List Cm},(At.slot s,c)∈cs->s∈J4 cs
 |(.cell j m,d)::l,h=>by
  rcases mem_cons.1 h with h|h
  . cases h
  . exact ABi (cs:=l) h
 |(.cont j,d)::l,h=>by
  rcases mem_cons.1 h with h|h
  . cases h
  . exact ABi (cs:=l) h
 |(.slot j,d)::l,h=>by
  rcases mem_cons.1 h with h|h
  . cases h;exact AaT ..
  . exact AaQ _ (ABi h)
theorem AGA(h:(t,s)∈ABf c x a):a=.slot t:=by
 cases c<;>cases a<;>simp only[ABf,mem_cons,List.not_mem_nil,or_false,Prod.mk.injEq]at h<;>first|exact h.elim|(rw[h.1])
theorem AHi{i:Nat}{a:AR}:∀{l:List (Nat×AR)},(i,a)∈l->i∈AQ2 l
 |(j,b)::l,h=>by
  rcases mem_cons.1 h with h|h
  . cases h;exact AaT ..
  . exact AaQ _ (AHi h)
end
section
variable{σ:AS}{sh:Sh}{x:O6 sh.cs}{W:List Nat}
theorem ARK{kp:List Nat}(h:AJN (B8 W sh σ x) kp):∀i∈kp,i∈sh.keep:=fun i hi=>by
 obtain⟨h1,a,h2⟩:=h i hi;have h2:A1 (allV ownV (W6 sh.cs x)++ACt (W6 sh.cs x) sh.keep σ.res) i=some a:=h2;rw[fnd_app]at h2;cases h3:A1 (allV ownV (W6 sh.cs x)) i with
 |some b=>exact absurd (AaR _ (AaR _ (AHi (AB0 h3)))) h1
 |none=>
  rw[h3]at h2
  simp only at h2
  rw[ACI]at h2
  split at h2
  . assumption
  . cases h2
theorem Wk.kex(s:SV):Wk P (B8 W sh σ x) s (J9 sh.keep s):=fun kp hk ρ R M w v h=>by rwa [AGg (ARK hk)]at h
theorem ACu{W':List Nat}(hW:∀t∈J4 sh.cs,t∈W')(hs:∀t∈W,t∈W'):Rel P W' σ (B8 W sh σ x):=by
 refine⟨fun i hi=>AaS _ hi,fun c hc=>AaS _ hc,fun i a' hi hn=>?_,fun t ht s hts=>⟨J9 sh.keep s,?_,Wk.kex s⟩⟩
 . have h2:A1 (allV ownV (W6 sh.cs x)++ACt (W6 sh.cs x) sh.keep σ.res) i=some a':=hi;rw[fnd_app]at h2;cases h3:A1 (allV ownV (W6 sh.cs x)) i with
   |some b=>exact absurd (AaR _ (AaR _ (AHi (AB0 h3)))) hn
   |none=>
    rw[h3]at h2
    simp only at h2
    rw[ACI]at h2
    split at h2
    . cases h4:A1 σ.res i with
      |none=>rw[h4]at h2;cases h2
      |some a=>
       rw[h4]at h2
       have h2:AEJ (W6 sh.cs x) sh.keep i a=a':=AaO h2
       subst h2
       refine⟨a,rfl,?_⟩
       cases a with
       |own p c xs=>
        simp only[AEJ]
        cases h5:ACV (AGc i c) (W6 sh.cs x) with
        |none=>exact⟨xs,rfl,fun _=>rfl⟩
        |some ys=>
         refine⟨ys,rfl,fun hc=>?_⟩
         obtain⟨p,h6,h7⟩:=ACJ h5
         have h8:=AOe h7
         have:=AGj h6
         exact absurd (AaR _ (AFI (i:=i) (c:=p.1.2) (by rw[<-h8];exact this))) hc
       |row e l=>
        refine⟨_,rfl,putN_len,fun n s' hs hc=>?_⟩
        rw[AHh,Aao]at hs
        cases h5:l[n]? with
        |none=>rw[h5]at hs;cases hs
        |some s=>
         rw[h5]at hs
         refine⟨s,rfl,?_⟩
         cases h6:ACV (ADu i n) (W6 sh.cs x) with
         |none=>
          simp only[h6]at hs
          have hs:J9 sh.keep s=s':=AaO hs
          subst hs
          exact Wk.kex s
         |some r=>
          obtain⟨p,h7,h8⟩:=ACJ h6
          have h9:=AIT h8
          have:=AGj h7
          exact absurd (AaR _ (AFH (i:=i) (n:=n) (c:=p.1.2) (by rw[<-h9];exact this))) hc
    . cases h2
 . show A1 (allV ABf (W6 sh.cs x)++ACs W sh.keep σ.env) t=_;rw[fnd_app,fnd_none,fnd_keepE,if_neg (fun hm=>ht (hs t hm)),hts]
   . rfl
   . intro y hy;obtain⟨p,h1,h2⟩:=allV_mem.1 hy;have h3:=AGA h2;have:=AGj h1;exact ht (hW t (ABi (c:=p.1.2) (by rw[<-h3];exact this)))
end
section
variable{w0 w:World}{Mu M:List Nat}
theorem AJQ{S S':List Res}(hp:S.Perm S'){b:Nat}(hb:b∈mm S' M):b∈mm S M:=by
 rw[mem_mm]at hb ⊢;exact hb.imp (fun⟨r,hr,h⟩=>⟨r,hp.mem_iff.2 hr,h⟩) id
theorem Hp.perm[Fx]{S S':List Res}(h:Hp w0 Mu M S w)(hp:S.Perm S'):Hp w0 Mu M S' w:=by
 refine⟨h.kp,fun b hb=>h.mlt b (AJQ hp hb),h.adv.trans (Adv.drop fun b hb=>AJQ hp hb),h.base,fun r hr=>h.sepM r (hp.mem_iff.2 hr),fun r hr=>h.own r (hp.mem_iff.2 hr),?_,(fun r hr=>r.adv (Adv.drop fun b hb=>AJQ hp hb) (fun _ _=>rfl) (h.all r (hp.mem_iff.2 hr))),h.fx⟩;have h1:=pair_iff.1 h.dis;refine pair_iff.2 ((hp.pairwise_iff ?_).1 h1);intro r r' hd b hb hb';exact hd b hb' hb
theorem AGk{S:List Res}:∀(l1 l2:List Nat),sel S (l1++l2)=sel S l1++sel S l2
 |[],_=>rfl
 |i::l,l2=>by
  simp only[List.cons_append,sel];cases AKt S i with
  |none=>exact AGk l l2
  |some r=>simp only[AGk l l2,List.cons_append]
theorem AHj{S:List Res}{i:Nat}{l:List Nat}{r:Res}(h:S[i]?=some r):sel S (i::l)=r::sel S l:=by
 simp only[sel,nthR_eq,h]
def pos:List Nat->Nat->Nat
 |[],_=>0
 |x::r,i=>if x=i then 0 else pos r i+1
theorem AGl:∀{l:List Nat} {i:Nat},i∈l->l[pos l i]?=some i
 |x::r,i,h=>by
  simp only[pos];split
  . rename_i e;subst e;rfl
  . rename_i e;rcases mem_cons.1 h with rfl|h
    . exact absurd rfl e
    . simpa using AGl h
theorem ANI{l:List Nat}{i j:Nat}(hi:i∈l)(hj:j∈l)(h:pos l i=pos l j):i=j:=by
 have h1:=AGl hi;rw[h,AGl hj]at h1;exact(AaO h1).symm
theorem APw{l:List Nat}{i:Nat}(hi:i∈l):pos l i<l.length:=by
 have h1:=AGl hi;rcases Aag (pos l i) l.length with h|h
 . exact h
 . rw[Aaa h]at h1;cases h1
theorem AJR{S:List Res}{ι:Nat->Nat}:∀{l:List Nat} {i:Nat},(∀j∈l,∃r,S[ι j]?=some r)->i∈l->(sel S (l.map ι))[pos l i]?=S[ι i]?
 |x::r,i,ha,h=>by
  obtain⟨q,hq⟩:=ha x (AaT ..);rw[Aaj,AHj hq];simp only[pos];split
  . rename_i e;subst e;rw[hq];rfl
  . rename_i e;rcases mem_cons.1 h with rfl|h
    . exact absurd rfl e
    . simpa using AJR (fun j hj=>ha j (AaQ _ hj)) h
theorem ACB:∀{l:List Nat},AGd l=true->l.Nodup
 |[],_=>Abw
 |x::r,h=>by
  simp only[AGd]at h;cases hb:has r x with
  |true=>rw[hb,cond_true]at h;cases h
  |false=>
   rw[hb,cond_false]at h
   exact List.nodup_cons.2 ⟨(fun hm=>by rw[has_iff.2 hm]at hb;cases hb),ACB h⟩
theorem AJ0:∀{l:List Nat},l.Nodup->ACF l=true
 |[],_=>rfl
 |x::r,h=>by
  obtain⟨h1,h2⟩:=List.nodup_cons.1 h;simp[ACF,AJ0 h2,h1]
theorem AAg{kp:List Nat}:∀{l:List Nat},okK kp l=true->∀i∈l,i∉kp
 |[],_,i,hi=>by cases hi
 |x::r,h,i,hi=>by
  simp only[okK]at h;cases hb:has kp x with
  |true=>rw[hb,cond_true]at h;cases h
  |false=>
   rw[hb,cond_false]at h
   rcases mem_cons.1 hi with rfl|hi
   . exact fun hm=>by rw[has_iff.2 hm]at hb;cases hb
   . exact AAg h i hi
theorem ALp{R:Nat->Option AR}:∀{l:List Nat},AOR R l=true->∀i∈l,∃a,R i=some a
 |[],_,i,hi=>by cases hi
 |x::r,h,i,hi=>by
  simp only[AOR]at h;cases hb:R x with
  |none=>rw[hb]at h;cases h
  |some a=>
   rw[hb]at h
   rcases mem_cons.1 hi with rfl|hi
   . exact⟨a,hb⟩
   . exact ALp h i hi
theorem ABj{i n:Nat}:∀{cs:List Cm},AAz i n cs=true->(∃c,(At.cont i,c)∈cs/\n=0)\/∃m c,(At.cell i m,c)∈cs/\n=m+1
 |[],h=>by cases h
 |(.cell j m,d)::l,h=>by
  simp only[AAz]at h;cases hb:beq i j&&beq n (m+1) with
  |true=>
   simp only[Bool.and_eq_true]at hb
   have e1:=AaU hb.1
   have e2:=AaU hb.2
   subst e1;subst e2
   exact .inr ⟨m,d,AaT ..,rfl⟩
  |false=>
   rw[hb,cond_false]at h
   exact(ABj h).imp (fun⟨c,h1,h2⟩=>⟨c,AaQ _ h1,h2⟩) (fun⟨m,c,h1,h2⟩=>⟨m,c,AaQ _ h1,h2⟩)
 |(.cont j,d)::l,h=>by
  simp only[AAz]at h;cases hb:beq i j&&beq n 0 with
  |true=>
   simp only[Bool.and_eq_true]at hb
   have e1:=AaU hb.1
   have e2:=AaU hb.2
   subst e1
   exact .inl ⟨d,AaT ..,e2⟩
  |false=>
   rw[hb,cond_false]at h
   exact(ABj h).imp (fun⟨c,h1,h2⟩=>⟨c,AaQ _ h1,h2⟩) (fun⟨m,c,h1,h2⟩=>⟨m,c,AaQ _ h1,h2⟩)
 |(.slot j,d)::l,h=>by
  simp only[AAz]at h;exact(ABj h).imp (fun⟨c,h1,h2⟩=>⟨c,AaQ _ h1,h2⟩) (fun⟨m,c,h1,h2⟩=>⟨m,c,AaQ _ h1,h2⟩)
theorem AGm{kp:List Nat}{cs:List Cm}:∀{l:List (Nat×Nat)},okC kp cs l=true->∀i n,(i,n)∈l->i∈kp->AAz i n cs=true
 |[],_,i,n,hm,_=>by cases hm
 |(j,m)::r,h,i,n,hm,hk=>by
  simp only[okC]at h;cases hb:has kp j with
  |true=>
   rw[hb,cond_true]at h
   cases hc:AAz j m cs with
   |false=>rw[hc,cond_false]at h;cases h
   |true=>
    rw[hc,cond_true]at h
    rcases mem_cons.1 hm with hm|hm
    . cases hm;exact hc
    . exact AGm h i n hm hk
  |false=>
   rw[hb,cond_false]at h
   rcases mem_cons.1 hm with hm|hm
   . cases hm;rw[has_iff.2 hk]at hb;cases hb
   . exact AGm h i n hm hk
end
section
variable{σ1:AS}
section
variable{a:At}{c:Oc}{s:SV}{x:den c.ty}{i:Nat}
theorem ALq:∀(cs:List Cm) {x:O6 cs},AJE σ1 cs=some x->∀p∈W6 cs x,AAe σ1 p.1.2 p.1.1=some p.2
 |[],_,_,p,hp=>by cases hp
 |[c],x,h,p,hp=>by
  have hp:p=⟨c,x⟩:=by simpa[W6] using hp
  subst hp;exact h
 |c::d::l,x,h,p,hp=>by
  have h:(match AAe σ1 c.2 c.1 with
   |some y=>match AJE σ1 (d::l) with
    |some r=>some (y,r)
    |none=>none
   |none=>none)=some x:=h
  cases h1:AAe σ1 c.2 c.1 with
  |none=>rw[h1]at h;exact(A2 h).elim
  |some y=>
   rw[h1]at h
   cases h2:AJE σ1 (d::l) with
   |none=>rw[h2]at h;exact(A2 h).elim
   |some r=>
    rw[h2]at h
    have h:(y,r)=x:=AaO h
    subst h
    rcases mem_cons.1 hp with rfl|hp
    . exact h1
    . exact ALq (d::l) h2 p hp
theorem ANJ{t:Ty}{x:den t}(h:AAe σ1 (.d t) a=some x):∃s,W7 σ1 a=some s/\C1 (A1 σ1.res) t s=some x:=by
 cases a with
 |slot s=>
  have h:(match A1 σ1.env s with
   |some v=>C1 (A1 σ1.res) t v
   |none=>none)=some x:=h
  cases h1:A1 σ1.env s with
  |none=>rw[h1]at h;exact(A2 h).elim
  |some v=>rw[h1]at h;exact⟨v,h1,h⟩
 |cell i n=>
  have h:(match ACr σ1 i n with
   |some v=>C1 (A1 σ1.res) t v
   |none=>none)=some x:=h
  cases h1:ACr σ1 i n with
  |none=>rw[h1]at h;exact(A2 h).elim
  |some v=>rw[h1]at h;exact⟨v,h1,h⟩
 |cont i=>exact(A2 h).elim
theorem ABJ{R:Nat->Option AR}(h:AFA R c s=some x):(∃i,s=.own i/\R i=some (.own false c x))\/(s=.nilS/\nilO c=some x):=by
 cases s with
 |own i=>
  have hq:(match R i with
   |some (.own false c' xs)=>castO c' c xs
   |_=>none)=some x:=h
  cases h1:R i with
  |none=>rw[h1]at hq;exact(A2 hq).elim
  |some a=>
   rw[h1]at hq
   cases a with
   |row _ _=>exact(A2 hq).elim
   |own p c' xs=>
    cases p with
    |true=>exact(A2 hq).elim
    |false=>
     obtain⟨he,hq⟩:=ABh (show castO c' c xs=some x from hq)
     subst he
     have hq:xs=x:=hq
     subst hq
     exact .inl ⟨i,rfl,h1⟩
 |nilS=>exact .inr ⟨rfl,h⟩
 |int _ _|bool _|ary _ _ _|str _ _|agg _|fv _ _ _|fn _ _|dead|tup _|rp _ _|ptr _ _|ep _ _ _ _ _|dat _ _|undef|raw _|it _ _|np _ _|ap _ _ _ _=>exact(A2 h).elim
theorem X8(h:AAe σ1 (.own c) a=some x):(∃i p,a=.cont i/\A1 σ1.res i=some (.own p c x))\/((∀i,a≠.cont i)/\∃s,W7 σ1 a=some s/\AFA (A1 σ1.res) c s=some x):=by
 cases a with
 |slot s=>
  have h:(match A1 σ1.env s with
   |some v=>AFA (A1 σ1.res) c v
   |none=>none)=some x:=h
  cases h1:A1 σ1.env s with
  |none=>rw[h1]at h;exact(A2 h).elim
  |some v=>rw[h1]at h;exact .inr ⟨(fun i hi=>by cases hi),v,h1,h⟩
 |cell i n=>
  have h:(match ACr σ1 i n with
   |some v=>AFA (A1 σ1.res) c v
   |none=>none)=some x:=h
  cases h1:ACr σ1 i n with
  |none=>rw[h1]at h;exact(A2 h).elim
  |some v=>rw[h1]at h;exact .inr ⟨(fun i hi=>by cases hi),v,h1,h⟩
 |cont i=>
  have hq:(match A1 σ1.res i with
   |some (.own _ c' xs)=>castO c' c xs
   |_=>none)=some x:=h
  cases h1:A1 σ1.res i with
  |none=>rw[h1]at hq;exact(A2 hq).elim
  |some a=>
   rw[h1]at hq
   cases a with
   |row _ _=>exact(A2 hq).elim
   |own p c' xs=>
    obtain⟨he,hq⟩:=ABh (show castO c' c xs=some x from hq)
    subst he
    have hq:xs=x:=hq
    subst hq
    exact .inl ⟨i,p,rfl,h1⟩
theorem AMr{x:Ck.undef.den}(h:AAe σ1 .undef a=some x):∃s,a=.slot s/\A1 σ1.env s=some .undef:=by
 cases a with
 |slot s=>
  have h:(match A1 σ1.env s with
   |some .undef=>some ()
   |_=>none)=some x:=h
  cases h1:A1 σ1.env s with
  |none=>rw[h1]at h;exact(A2 h).elim
  |some v=>
   rw[h1]at h
   cases v with
   |undef=>exact⟨s,rfl,h1⟩
   |int _ _|bool _|ary _ _ _|str _ _|agg _|fv _ _ _|fn _ _|dead|tup _|rp _ _|ptr _ _|ep _ _ _ _ _|dat _ _|own _|nilS|raw _|it _ _|np _ _|ap _ _ _ _=>exact(A2 h).elim
 |cell i n=>exact(A2 h).elim
 |cont i=>exact(A2 h).elim
theorem ABK{i:Nat}{s:SV}(hi:i∈B3 s):∀{cs:List Cm} {a:At} {t:Ty},(a,Ck.d t)∈cs->W7 σ1 a=some s->i∈lent σ1 cs
 |(b,.d u)::l,a,t,h,hv=>by
  simp only[lent];rcases mem_cons.1 h with h|h
  . cases h;rw[hv];exact AaR _ hi
  . cases W7 σ1 b with
    |none=>exact ABK hi h hv
    |some s'=>exact AaS _ (ABK hi h hv)
 |(b,.own _)::l,a,t,h,hv=>by
  rcases mem_cons.1 h with h|h
  . cases h
  . exact ABK (cs:=l) hi h hv
 |(b,.undef)::l,a,t,h,hv=>by
  rcases mem_cons.1 h with h|h
  . cases h
  . exact ABK (cs:=l) hi h hv
 |(b,.it _)::l,a,t,h,hv=>by
  rcases mem_cons.1 h with h|h
  . cases h
  . exact ABK (cs:=l) hi h hv
 |(b,.np _)::l,a,t,h,hv=>by
  rcases mem_cons.1 h with h|h
  . cases h
  . exact ABK (cs:=l) hi h hv
def hvO(ρ:Nat->Value):Option SV->Value
 |some (.own i)=>ρ i
 |_=>.slice none 0 0
def Y2(σ1:AS)(ρ:Nat->Value):List Cv->List (Nat×AR×Value)
 |[]=>[]
 |p::l=>(ownV p.1.2 p.2 p.1.1).map (fun o=>(o.1,o.2,hvO ρ (W7 σ1 p.1.1)))++Y2 σ1 ρ l
def rsO(l:List (Nat×AR×Value)):List Res:=l.map fun o=>I4 o.2.2 [] [] o.2.1
theorem ALs{ρ:Nat->Value}:∀q:List Cv,(Y2 σ1 ρ q).map (fun o=>(o.1,o.2.1))=allV ownV q
 |[]=>rfl
 |p::l=>by
  simp only[Y2,allV,List.map_append,List.map_map,ALs l];congr 1;exact(List.map_congr_left fun o _=>rfl).trans (List.map_id _)
theorem ownO_ids{ρ:Nat->Value}:∀q:List Cv,(Y2 σ1 ρ q).map (·.1)=AHU (q.map (·.1))
 |[]=>rfl
 |⟨(a,c),x⟩::l=>by
  simp only[Y2,List.map_append,List.map_map,List.map_cons];rw[ownO_ids l];cases c<;>cases a<;>rfl
theorem AHk{c:Ck}{x:c.den}{r:AR}(h:(i,r)∈ownV c x a):∃o,∃hc:c=.own o,r=.own false o (show den o.ty from(hc▸x:(Ck.own o).den))/\((a=.slot i)\/∃j n,a=.cell j n/\i=ADL j n):=by
 cases c with
 |d t=>cases a<;>cases h
 |undef|it _|np _=>cases a<;>cases h
 |own o=>
  cases a with
  |slot s=>
   have h:(i,r)=(s,.own false o x):=by simpa[ownV] using h
   cases h;exact⟨o,rfl,rfl,.inl rfl⟩
  |cell j n=>
   have h:(i,r)=(ADL j n,.own false o x):=by simpa[ownV] using h
   cases h;exact⟨o,rfl,rfl,.inr ⟨j,n,rfl,rfl⟩⟩
  |cont j=>cases h
theorem ownO_mem{ρ:Nat->Value}{i:Nat}{r:AR}{v:Value}:∀{q:List Cv},(i,r,v)∈Y2 σ1 ρ q↔∃p∈q,(i,r)∈ownV p.1.2 p.2 p.1.1/\v=hvO ρ (W7 σ1 p.1.1)
 |[]=>by simp[Y2]
 |p::l=>by
  simp only[Y2,mem_append,mem_map,ownO_mem (q:=l),mem_cons,Prod.mk.injEq];constructor
  . rintro (⟨o,h1,h2,h3,h4⟩|⟨p',h1,h2⟩)
    . exact⟨p,.inl rfl,by rw[<-h2,<-h3];exact h1,h4.symm⟩
    . exact⟨p',.inr h1,h2⟩
  . rintro⟨p',h1|h1,h2,h3⟩
    . subst h1;exact .inl ⟨(i,r),h2,rfl,rfl,h3.symm⟩
    . exact .inr ⟨p',h1,h2,h3⟩
theorem AIU{α:Type}{i:Nat}{v:α}:∀{l:List (Nat×α)},(l.map (·.1)).Nodup->(i,v)∈l->A1 l i=some v
 |(k,u)::r,hn,h=>by
  obtain⟨h1,h2⟩:=List.nodup_cons.1 hn;rw[fnd_cons];rcases mem_cons.1 h with h|h
  . cases h;rw[Aac rfl]
  . rw[if_neg (show ¬k=i from fun e=>h1 (by subst e;exact AbC (f:=(·.1)) h))];exact AIU h2 h
theorem AGn:∀{O:List (Nat×AR×Value)} {i:Nat} {a:AR},A1 (O.map fun o=>(o.1,o.2.1)) i=some a->∃v,A1 (O.map fun o=>(o.1,o.2.2)) i=some v/\O[pos (O.map (·.1)) i]?=some (i,a,v)
 |(k,b,v)::r,i,a,h=>by
  simp only[List.map_cons]at h ⊢;rw[fnd_cons]at h;rw[fnd_cons];simp only[pos];split at h
  . rename_i e;subst e;cases h;exact⟨v,by rw[Aac rfl],by rw[Aac rfl];rfl⟩
  . rename_i e;obtain⟨u,h1,h2⟩:=AGn h;exact⟨u,by rw[if_neg e];exact h1,by rw[if_neg e];simpa using h2⟩
end
end
end Go.Rx
namespace Go.Rx
open Go Go.Sx Go.RowKit
variable[Trk][Sg][Sf]{P:Program}[Se P]
variable[Anch]
section
variable{w0 w:World}{Mu M:List Nat}{σ1:AS}{L:A8}{S:List Res}{ρ:Nat->Value}{γ:Nat->List Value}{μ:Nat->List Nat}{ι:Nat->Nat}
theorem moved_cons{p:Cm}{l:List Cm}:G7 σ1 (p::l)=(match p.2 with
  |.own _=>match W7 σ1 p.1 with
   |some (.own i)=>i::G7 σ1 l
   |_=>G7 σ1 l
  |_=>G7 σ1 l):=by
 obtain⟨a,c⟩:=p
 cases c<;>rfl
theorem ALt[Fx]{Mu M:List Nat}{S:List Res}{w0 w:World}(h:Hp w0 Mu M S w){c:Oc}{x:den c.ty}(hx:nilO c=some x):Hp w0 Mu M (G1 (P:=P) [] (.slice none 0 0) c x::S) w:=by
 cases c with
 |mp m k u=>cases hx
 |sl e t=>
  have hx:some ([]:List (den t))=some x:=hx
  cases hx
  exact h.addNil (enc (P:=P) t) e
theorem ANK{c:Oc}{x:den c.ty}(hx:nilO c=some x){b:Nat}(hb:b∈(G1 (P:=P) [] (.slice none 0 0) c x).fp):False:=by
 cases c with
 |mp m k u=>cases hx
 |sl e t=>
  have hb:b∈ob (.slice none 0 0):=hb
  cases hb
theorem hpO[Fx](h:HS w0 Mu M σ1 L w S ρ γ μ ι){K0:List Res}:∀(q:List Cv) (base:List Res),(∀p∈q,AAe σ1 p.1.2 p.1.1=some p.2)->Hp w0 Mu M (base++sel S ((G7 σ1 (q.map (·.1))).map ι)++K0) w->Hp w0 Mu M (base++rsO (P:=P) (Y2 σ1 ρ q)++K0) w
 |[],base,_,hp=>hp
 |⟨(a,c),x⟩::l,base,hq,hp=>by
  have hq1:=hq _ (AaT ..);have hq2:∀p∈l,AAe σ1 p.1.2 p.1.1=some p.2:=fun p hp=>hq p (AaQ _ hp);have pass:ownV c x a=[]->G7 σ1 ((⟨(a,c),x⟩::l:List Cv).map (·.1))=G7 σ1 (l.map (·.1))->Hp w0 Mu M (base++rsO (P:=P) (Y2 σ1 ρ (⟨(a,c),x⟩::l))++K0) w:=fun h1 h2=>by
   rw[h2]at hp;have:=hpO h l base hq2 hp;simp only[Y2,h1,List.map_nil,List.nil_append];exact this
  cases c with
  |d t=>exact pass (by cases a<;>rfl) rfl
  |undef|it _|np _=>exact pass (by cases a<;>rfl) rfl
  |own e=>
   have hmv:∀s,W7 σ1 a=s->G7 σ1 ((⟨(a,.own e),x⟩::l:List Cv).map (·.1))=(match s with
     |some (.own i)=>i::G7 σ1 (l.map (·.1))
     |_=>G7 σ1 (l.map (·.1))):=fun s hs=>by
    rw[Aaj,moved_cons,hs]
   rcases X8 hq1 with⟨i,p,ha,_⟩|⟨hnc,s,hs,ho⟩
   . have ha:a=.cont i:=ha
     subst ha
     exact pass rfl (hmv none rfl)
   . have hs:W7 σ1 a=some s:=hs
     have hrs:rsO (P:=P) (Y2 σ1 ρ (⟨(a,.own e),x⟩::l))=I4 (hvO ρ (some s)) [] [] (.own false e x)::rsO (P:=P) (Y2 σ1 ρ l):=by
      cases a with
      |slot _=>simp only[Y2,ownV,List.map_cons,List.map_nil,rsO,hs,List.cons_append,List.nil_append]
      |cell _ _=>simp only[Y2,ownV,List.map_cons,List.map_nil,rsO,hs,List.cons_append,List.nil_append]
      |cont i=>exact absurd rfl (hnc i)
     rw[hrs]
     rw[hmv _ hs]at hp
     rcases ABJ ho with⟨i,rfl,hi⟩|⟨rfl,hx⟩
     . simp only at hp
       have h1:=h.res i _ hi
       rw[Aaj,AHj h1]at hp
       have:=hpO h l (base++[I4 (ρ i) (γ i) (μ i) (.own false e x)]) hq2 (by simpa using hp)
       have he:I4 (P:=P) (hvO ρ (some (.own i))) [] [] (.own false e x)=I4 (ρ i) (γ i) (μ i) (.own false e x):=rfl
       rw[he]
       simpa using this
     . simp only at hp
       have h1:=hpO h l base hq2 hp
       have h2:=ALt h1 hx
       refine Hp.perm h2 ?_
       show(_::(base++rsO (P:=P) (Y2 σ1 ρ l)++K0)).Perm _
       rw[Aax,Aax,AbH]
       exact List.perm_middle.symm
theorem APx[Fx](h:HS w0 Mu M σ1 L w S ρ γ μ ι):∀(q:List Cv),(∀p∈q,AAe σ1 p.1.2 p.1.1=some p.2)->∀r∈rsO (P:=P) (Y2 σ1 ρ q),∀b∈r.fp,b∈mm (sel S ((G7 σ1 (q.map (·.1))).map ι)) M
 |[],_,r,hr,_,_=>by cases hr
 |⟨(a,c),x⟩::l,hq,r,hr,b,hb=>by
  have hq1:=hq _ (AaT ..);have hq2:∀p∈l,AAe σ1 p.1.2 p.1.1=some p.2:=fun p hp=>hq p (AaQ _ hp);have hsub:∀b,b∈mm (sel S ((G7 σ1 (l.map (·.1))).map ι)) M->b∈mm (sel S ((G7 σ1 ((⟨(a,c),x⟩::l:List Cv).map (·.1))).map ι)) M:=fun b hb=>by
   rw[Aaj,moved_cons];split
   . split
     . rename_i i _;rw[Aaj];simp only[sel];cases AKt S (ι i) with
       |none=>exact hb
       |some r=>exact AaS _ hb
     . exact hb
   . exact hb
  obtain⟨o,ho,rfl⟩:=mem_map.1 hr;obtain⟨i,r0,v⟩:=o;obtain⟨p,hp,h1,h2⟩:=ownO_mem.1 ho;rcases mem_cons.1 hp with hp|hp
  . subst hp;obtain⟨e,hc,hr0,hal⟩:=AHk h1;have hc:c=.own e:=hc;subst hc;have hr0:r0=.own false e x:=hr0;subst hr0;rcases X8 hq1 with⟨j,p,ha,_⟩|⟨hnc,s,hs,hod⟩
    . have ha:a=.cont j:=ha;subst ha;rcases hal with ha|⟨_,_,ha,_⟩<;>cases ha
    . have hs:W7 σ1 a=some s:=hs;have h2:v=hvO ρ (some s):=by rw[<-hs];exact h2
      subst h2;rcases ABJ hod with⟨j,rfl,hj⟩|⟨rfl,hx⟩
      . rw[Aaj,moved_cons];simp only[hs];rw[Aaj,AHj (h.res j _ hj)];exact AaR _ hb
      . exact(ANK hx hb).elim
  . refine hsub b (APx h l hq2 _ (AbC (ownO_mem.2 ⟨p,hp,h1,h2⟩)) b hb)
theorem OkL.map{ρ ρ2:Nat->Value}{R R2:Nat->Option AR}{M M2:List Nat}{w w2:World}:∀(l l2:List SV) {vs:List Value},l2.length=l.length->OkL ρ R M w l vs->(∀(n:Nat) (s:SV) (u:Value),l[n]?=some s->Ok ρ R M w s u->∃s2,l2[n]?=some s2/\Ok ρ2 R2 M2 w2 s2 u)->OkL ρ2 R2 M2 w2 l2 vs
 |[],[],vs,_,h,_=>h
 |[],_::_,_,h,_,_=>by cases h
 |_::_,[],_,h,_,_=>by cases h
 |s::l,s2::l2,vs,hl,⟨u,c,r,h1,h2,h3,h4⟩,hm=>by
  obtain⟨s3,h5,h6⟩:=hm 0 s u rfl h2;have h5:s2=s3:=AaO h5;subst h5;exact⟨u,c,r,h1,h6,h3,OkL.map l l2 (by simpa using hl) h4 fun n s u hs ho=>hm (n+1) s u hs ho⟩
theorem APy{i:Nat}{e e2:Oc}{y:den e2.ty}{a:At}{ys:den e.ty}(h:AGc i e (.own e2) y a=some ys):a=.cont i/\castO e2 e y=some ys:=by
 cases a with
 |slot _=>cases h
 |cell _ _=>cases h
 |cont j=>
  have hq:(match beq i j with
   |true=>castO e2 e y
   |false=>none)=some ys:=h
  cases h1:beq i j with
  |false=>rw[h1]at hq;cases hq
  |true=>
   rw[h1]at hq
   rw[AaU h1]
   exact⟨rfl,hq⟩
variable{σ:AS}{W:List Nat}{sh:Sh}{x:O6 sh.cs}
theorem APz(h:I3 sh σ1=some x):AKY sh σ1=true/\AJE σ1 sh.cs=some x:=by
 unfold I3 at h;cases hb:AKY sh σ1 with
 |false=>rw[hb]at h;exact(A2 h).elim
 |true=>rw[hb]at h;exact⟨rfl,h⟩
theorem U4[Fx][Sl (P:=P)](h:HS w0 Mu M σ1 L w S ρ γ μ ι)(hR:Rel P W σ σ1)(hp:I3 sh σ1=some x):Holds w0 Mu M (B8 W sh σ x) L w:=by
 obtain⟨hB,hp⟩:=APz hp;simp only[AKY,Bool.and_eq_true]at hB;obtain⟨⟨⟨⟨⟨⟨⟨⟨⟨b1,b2⟩,b3⟩,b4⟩,b5⟩,b6⟩,b7⟩,b8⟩,b9⟩,b10⟩:=hB;have hpk:=ALq sh.cs hp;generalize hq:W6 sh.cs x=q at hpk;have hqc:q.map (·.1)=sh.cs:=by rw[<-hq];exact AGi _ _
 have hmem:∀p∈q,p.1∈sh.cs:=fun p hp=>by rw[<-hqc];exact AbC hp
 have hof:∀c∈sh.cs,∃p∈q,p.1=c:=fun c hc=>by rw[<-hq];exact APv hc
 have hkeep:=ALp b8;have hlive:AJN σ1 sh.keep:=fun i hi=>⟨fun hk=>AAg b1 i hk hi,hkeep i hi⟩;have hmv:∀i∈G7 σ1 sh.cs,∃a,A1 σ1.res i=some a:=by
  have key:∀(q:List Cv),(∀p∈q,AAe σ1 p.1.2 p.1.1=some p.2)->∀i∈G7 σ1 (q.map (·.1)),∃a,A1 σ1.res i=some a:=by
   intro q;induction q with
   |nil=>intro _ i hi;cases hi
   |cons p l ih=>
    intro hq i hi
    obtain⟨⟨a,c⟩,y⟩:=p
    have hq1:=hq _ (AaT ..)
    have hl:=ih fun p hp=>hq p (AaQ _ hp)
    rw[Aaj,moved_cons]at hi
    cases c with
    |d t=>exact hl i hi
    |undef|it _|np _=>exact hl i hi
    |own e=>
     simp only at hi
     rcases X8 hq1 with⟨j,p,ha,_⟩|⟨_,s,hs,hod⟩
     . have ha:a=.cont j:=ha
       subst ha
       exact hl i hi
     . have hs:W7 σ1 a=some s:=hs
       rw[hs]at hi
       rcases ABJ hod with⟨j,rfl,hj⟩|⟨rfl,_⟩
       . rcases mem_cons.1 hi with rfl|hi
         . exact⟨_,hj⟩
         . exact hl i hi
       . exact hl i hi
  intro i hi;rw[<-hqc]at hi;exact key q hpk i hi
 have hdom:∀i∈G7 σ1 sh.cs++sh.keep,∃a,A1 σ1.res i=some a:=fun i hi=>(mem_append.1 hi).elim (hmv i) (hkeep i);have hnd0:(G7 σ1 sh.cs++sh.keep).Nodup:=List.nodup_append.2 ⟨ACB b4,ACB b7,fun a ha b hb e=>AAg b3 a ha (e▸hb)⟩;have hnd:ACF ((G7 σ1 sh.cs++sh.keep).map ι)=true:=by
  refine AJ0 ?_;have key:∀l:List Nat,l.Nodup->(∀i∈l,∃a,A1 σ1.res i=some a)->(l.map ι).Nodup:=by
   intro l;induction l with
   |nil=>intro _ _;exact Abw
   |cons i l ih=>
    intro hn hd
    obtain⟨h1,h2⟩:=List.nodup_cons.1 hn
    refine List.nodup_cons.2 ⟨fun hm=>?_,ih h2 fun j hj=>hd j (AaQ _ hj)⟩
    obtain⟨j,hj,he⟩:=mem_map.1 hm
    obtain⟨a,ha⟩:=hd i (AaT ..)
    obtain⟨b,hb⟩:=hd j (AaQ _ hj)
    exact h1 (h.inj j i b a hb ha he▸hj)
  exact key _ hnd0 hdom
 have hsel:=h.hp.sel _ hnd;rw[Aai,AGk]at hsel;have hkr:∀j∈sh.keep,∃r,S[ι j]?=some r:=fun j hj=>by
  obtain⟨a,ha⟩:=hkeep j hj;exact⟨_,h.res j a ha⟩
 have hHp:Hp w0 Mu M (rsO (P:=P) (Y2 σ1 ρ q)++sel S (sh.keep.map ι)) w:=by
  have:=hpO (P:=P) h (K0:=sel S (sh.keep.map ι)) q [] hpk (by rw[hqc];simpa using hsel);simpa using this
 generalize hO:Y2 σ1 ρ q=O at hHp;have hOi:O.map (·.1)=AHU sh.cs:=by rw[<-hO,ownO_ids,hqc]
 have hOv:O.map (fun o=>(o.1,o.2.1))=allV ownV q:=by rw[<-hO,ALs]
 have hOn:(O.map (·.1)).Nodup:=by rw[hOi];exact ACB b9
 have hids:∀i∈sh.keep,i∉O.map (·.1):=fun i hi hm=>by rw[hOi]at hm;exact AAg b10 i hm hi
 have hM1:∀b,b∈mm (rsO (P:=P) O++sel S (sh.keep.map ι)) M->b∈mm (sel S ((G7 σ1 sh.cs++sh.keep).map ι)) M:=fun b hb=>by
  rw[Aai,AGk];rcases mem_mm.1 hb with⟨r,hr,hb⟩|hb
  . rcases mem_append.1 hr with hr|hr
    . have:=APx (P:=P) h q hpk r (by rw[hO];exact hr) b hb;rw[hqc]at this;rcases mem_mm.1 this with⟨r,hr,hb⟩|hb
      . exact mem_mm.2 (.inl ⟨r,AaR _ hr,hb⟩)
      . exact mem_mm.2 (.inr hb)
    . exact mem_mm.2 (.inl ⟨r,AaS _ hr,hb⟩)
  . exact mem_mm.2 (.inr hb)
 have hM2:∀b,b∈mm (rsO (P:=P) O++sel S (sh.keep.map ι)) M->b∈mm S M:=fun b hb=>AES (hM1 b hb);have hread:∀I:List Nat,(∀i∈I,i∉G7 σ1 sh.cs/\i∉sh.keep)->Rds ρ (A1 σ1.res) (mm (rsO (P:=P) O++sel S (sh.keep.map ι)) M) w I:=fun I hI i hi p c0 xs ha=>by
  have hc:((G7 σ1 sh.cs++sh.keep).map ι).contains (ι i)=false:=by
   cases hb:((G7 σ1 sh.cs++sh.keep).map ι).contains (ι i) with
   |false=>rfl
   |true=>
    simp only[List.contains_eq_mem,decide_eq_true_eq]at hb
    obtain⟨j,hj,he⟩:=mem_map.1 hb
    obtain⟨b,hb⟩:=hdom j hj
    have:=h.inj j i b _ hb ha he
    subst this
    rcases mem_append.1 hj with hj|hj
    . exact absurd hj (hI j hi).1
    . exact absurd hj (hI j hi).2
  exact(AJH h.hp _ (ι i) hc (h.row i _ ha) (h.res i _ ha)).adv (Adv.drop hM1)
 let ρ2:Nat->Value:=fun i=>match A1 (O.map fun o=>(o.1,o.2.2)) i with
  |some v=>v
  |none=>ρ i
 let ι2:Nat->Nat:=fun i=>if i∈O.map (·.1) then pos (O.map (·.1)) i else O.length+pos sh.keep i
 have hρ:∀i,i∉O.map (·.1)->ρ2 i=ρ i:=fun i hi=>by
  have:A1 (O.map fun o=>(o.1,o.2.2)) i=none:=fnd_none fun v hv=>by
   obtain⟨o,ho,he⟩:=mem_map.1 hv;cases he
   exact hi (AbC (f:=(·.1)) ho)
  simp only[ρ2,this]
 have hρO:∀i a v,(i,a,v)∈O->ρ2 i=v:=fun i a v ho=>by
  have:A1 (O.map fun o=>(o.1,o.2.2)) i=some v:=AIU (by rw[Aau];exact hOn) (mem_map.2 ⟨(i,a,v),ho,rfl⟩);simp only[ρ2,this]
 have hkept:∀i∈sh.keep,∃a1 a0,A1 σ1.res i=some a1/\A1 σ.res i=some a0/\RelA P σ1 i a0 a1:=fun i hi=>by
  obtain⟨a1,h1⟩:=hkeep i hi;obtain⟨a0,h2,h3⟩:=hR.dom i a1 h1 (hlive i hi).1;exact⟨a1,a0,h1,h2,h3⟩
 have hτ:∀i,A1 (B8 W sh σ x).res i=match A1 (allV ownV q) i with|some a=>some a|none=>if i∈sh.keep then(A1 σ.res i).map (AEJ q sh.keep i) else none:=fun i=>by
  show A1 (allV ownV (W6 sh.cs x)++ACt (W6 sh.cs x) sh.keep σ.res) i=_;rw[hq,fnd_app,ACI];cases A1 (allV ownV q) i<;>rfl
 have hOvn:∀i∈sh.keep,A1 (allV ownV q) i=none:=fun i hi=>fnd_none fun a ha=>by
  rw[<-hOv]at ha;obtain⟨o,ho,he⟩:=mem_map.1 ha;cases he
  exact hids _ hi (AbC (f:=(·.1)) ho)
 have hτk:∀i∈sh.keep,∀a0,A1 σ.res i=some a0->A1 (B8 W sh σ x).res i=some (AEJ q sh.keep i a0):=fun i hi a0 ha=>by
  rw[hτ,hOvn i hi,ha];simp[hi]
 have hown:∀i∈sh.keep,∀p e (xs:den e.ty),A1 σ1.res i=some (.own p e xs)->A1 (B8 W sh σ x).res i=some (.own p e xs):=fun i hi p e xs h1=>by
  obtain⟨a1,a0,h2,h3,h4⟩:=hkept i hi;rw[h1]at h2;cases h2;rw[hτk i hi a0 h3];cases a0 with
  |row e l=>obtain⟨l',h5,_⟩:=h4;cases h5
  |own p' e' zs=>
   obtain⟨ys,h5,h6⟩:=h4
   cases h5
   simp only[AEJ]
   cases h7:ACV (AGc i e) q with
   |some ys=>
    obtain⟨cp,h8,h9⟩:=ACJ h7
    obtain⟨⟨a,c⟩,y⟩:=cp
    cases c with
    |d _=>cases h9
    |undef|it _|np _=>cases h9
    |own e2=>
     obtain⟨h10,h11⟩:=APy h9
     subst h10
     rcases X8 (hpk _ h8) with⟨j,p'',ha,hj⟩|⟨hnc,_⟩
     . cases ha
       rw[h1]at hj;cases hj
       obtain⟨he,h11⟩:=ABh h11
       have h11:y=ys:=h11
       subst h11;rfl
     . exact absurd rfl (hnc i)
   |none=>
    have:xs=zs:=h6 fun hc=>by
     rcases ABj (AGm b2 i 0 hc hi) with⟨c,hm,_⟩|⟨m,c,_,hm⟩
     . obtain⟨cp,hcp,he⟩:=hof _ hm;obtain⟨⟨a,c'⟩,y⟩:=cp;cases he
       have h8:=AF9 h7 _ hcp;have h9:=hpk _ hcp;cases c with
       |d t=>exact(A2 h9).elim
       |undef|it _|np _=>exact(A2 h9).elim
       |own e2=>
        rcases X8 h9 with⟨j,p'',ha,hj⟩|⟨hnc,_⟩
        . cases ha
          rw[h1]at hj;cases hj
          have h8:(match beq i i with
           |true=>castO e e y
           |false=>none)=none:=h8
          simp only[beq_self,castO,dif_pos]at h8
          cases h8
        . exact absurd rfl (hnc i)
     . omega
    rw[this]
 have hkex:∀s v,Ok ρ (A1 σ1.res) (mm S M) w s v->Ok ρ2 (A1 (B8 W sh σ x).res) (mm (rsO (P:=P) O++sel S (sh.keep.map ι)) M) w (J9 sh.keep s) v:=fun s v hs=>
  Ok.kex (fun j hj=>hρ j (hids j hj)) (fun j hj p e t xs h1=>⟨xs,hown j hj p (.sl e t) xs h1,rfl⟩) s (Ok.adv (Adv.drop hM2) s hs)
 have hdat:∀(cp:Cv) (t:Ty) (y:den t) (a:At),cp=⟨(a,.d t),y⟩->cp∈q->∀s u,W7 σ1 a=some s->Ok ρ (A1 σ1.res) (mm S M) w s u->Ok ρ2 (A1 (B8 W sh σ x).res) (mm (rsO (P:=P) O++sel S (sh.keep.map ι)) M) w (F6 t y) u:=fun cp t y a he hcp s u hv hu=>by
  subst he;obtain⟨s',h1,h2⟩:=ANJ (hpk _ hcp);have h1:W7 σ1 a=some s':=h1;rw[hv]at h1;cases h1;refine E4 t (H8 hM2 t s (hread _ fun i hi=>?_) h2 hu);have:=ABK hi (hmem _ hcp) hv;exact⟨fun hm=>AAg b6 i this hm,fun hm=>AAg b5 i this hm⟩
 have hslc:∀(cp:Cv) (e:Oc) (y:den e.ty) (a:At),cp=⟨(a,.own e),y⟩->cp∈q->(∀i,a≠.cont i)->∀s u,W7 σ1 a=some s->Ok ρ (A1 σ1.res) (mm S M) w s u->∀i,(i,AR.own false e y)∈ownV (.own e) y a->Ok ρ2 (A1 (B8 W sh σ x).res) (mm (rsO (P:=P) O++sel S (sh.keep.map ι)) M) w (.own i) u:=fun cp e y a he hcp hnc s u hv hu i hi=>by
  subst he;have h1:ρ2 i=hvO ρ (W7 σ1 a):=hρO i (.own false e y) _ (by rw[<-hO];exact ownO_mem.2 ⟨_,hcp,hi,rfl⟩);rcases X8 (hpk _ hcp) with⟨j,p,ha,_⟩|⟨_,s',hs',hod⟩
  . exact absurd ha (hnc j)
  . have hs':W7 σ1 a=some s':=hs';rw[hv]at hs';cases hs';rw[hv]at h1;rcases ABJ hod with⟨j,rfl,hj⟩|⟨rfl,_⟩
    . exact⟨hu.1.trans h1.symm,hu.2⟩
    . have hu:u=.slice none 0 0:=hu;subst hu;exact⟨h1.symm,rfl,rfl⟩
 refine⟨rsO (P:=P) O++sel S (sh.keep.map ι),ρ2,γ,μ,ι2,hHp,fun i a ha=>?_,fun i j a b ha hb he=>?_,fun i a ha=>?_,fun t s2 ht=>?_,h.anch.adv (Adv.drop hM2)⟩;·
  rw[hτ]at ha
  cases hf:A1 (allV ownV q) i with
  |some r=>
   rw[hf]at ha
   have ha:r=a:=AaO ha
   subst ha
   have hf':=hf
   rw[<-hOv]at hf
   obtain⟨v,h1,h2⟩:=AGn hf
   have hm:i∈O.map (·.1):=by
    have:=AaP h2;exact AbC (f:=(·.1)) this
   have hlt:pos (O.map (·.1)) i<O.length:=by have:=APw hm;simpa using this
   simp only[ι2,if_pos hm]
   rw[Aaw (by simpa[rsO] using hlt)]
   simp only[rsO,List.getElem?_map,h2,Option.map_some]
   obtain⟨p,hp1,hp2⟩:=allV_mem.1 (AB0 hf')
   obtain⟨e,hc,hr,_⟩:=AHk hp2
   rw[hr]
   have h3:ρ2 i=v:=by simp only[ρ2,h1]
   rw[h3];rfl
  |none=>
   rw[hf]at ha
   simp only at ha
   split at ha
   . rename_i hk
     obtain⟨a1,a0,h1,h2,h3⟩:=hkept i hk
     rw[h2]at ha
     have ha:AEJ q sh.keep i a0=a:=AaO ha
     subst ha
     have hn:=hids i hk
     simp only[ι2,if_neg hn]
     rw[Aa8 (by simp[rsO])]
     simp only[rsO,List.length_map,Nat.add_sub_cancel_left]
     rw[AJR hkr hk,h.res i a1 h1,hρ i hn]
     cases a1 with
     |own p e xs=>
      have h4:=hown i hk p e xs h1
      rw[hτk i hk a0 h2]at h4
      rw[AaO h4]
     |row e l1=>
      cases a0 with
      |own _ _ _=>obtain⟨_,h5,_⟩:=h3;cases h5
      |row e' l0=>obtain⟨_,h5,_⟩:=h3;cases h5;rfl
   . cases ha
 ·
  have key:∀i a,A1 (B8 W sh σ x).res i=some a->i∈O.map (·.1)\/(i∉O.map (·.1)/\i∈sh.keep):=fun i a ha=>by
   by_cases hm:i∈O.map (·.1)
   . exact .inl hm
   . rw[hτ]at ha;cases hf:A1 (allV ownV q) i with
     |some r=>
      rw[<-hOv]at hf
      obtain⟨v,_,h2⟩:=AGn hf
      exact .inl (AbC (f:=(·.1)) (AaP h2))
     |none=>
      rw[hf]at ha
      simp only at ha
      split at ha
      . rename_i hk;exact .inr ⟨hm,hk⟩
      . cases ha
  have hlt:∀i,i∈O.map (·.1)->pos (O.map (·.1)) i<O.length:=fun i hm=>by have:=APw hm;simpa using this
  rcases key i a ha with hi|⟨hi,hik⟩<;>rcases key j b hb with hj|⟨hj,hjk⟩
  . simp only[ι2,if_pos hi,if_pos hj]at he
    exact ANI hi hj he
  . simp only[ι2,if_pos hi,if_neg hj]at he
    have:=hlt i hi;omega
  . simp only[ι2,if_neg hi,if_pos hj]at he
    have:=hlt j hj;omega
  . simp only[ι2,if_neg hi,if_neg hj]at he
    exact ANI hik hjk (by omega)
 ·
  rw[hτ]at ha
  cases hf:A1 (allV ownV q) i with
  |some r=>
   rw[hf]at ha
   have ha:r=a:=AaO ha
   subst ha
   obtain⟨p,hp1,hp2⟩:=allV_mem.1 (AB0 hf)
   have hf2:=hf
   rw[<-hOv]at hf2
   obtain⟨v,_,h2⟩:=AGn hf2
   have hvm:(i,r,v)∈O:=AaP h2
   rw[hρO i r v hvm]
   rw[<-hO]at hvm
   obtain⟨cp,hcp,h5,h6⟩:=ownO_mem.1 hvm
   obtain⟨⟨a,c⟩,y⟩:=cp
   obtain⟨e,hc,hr,hal⟩:=AHk h5
   have hc:c=.own e:=hc
   subst hc
   have hr:r=.own false e y:=hr
   subst hr
   show Hnd v e
   rcases X8 (hpk _ hcp) with⟨j,p,ha,_⟩|⟨_,s,hs,hod⟩
   . have ha:a=.cont j:=ha
     subst ha
     rcases hal with ha|⟨_,_,ha,_⟩<;>cases ha
   . have hs:W7 σ1 a=some s:=hs
     have h6:v=hvO ρ (W7 σ1 a):=h6
     rw[hs]at h6
     rcases ABJ hod with⟨j,rfl,hj⟩|⟨rfl,hx⟩
     . rw[h6];exact h.row j _ hj
     . cases e with
       |sl _ _=>trivial
       |mp _ _ _=>cases hx
  |none=>
   rw[hf]at ha
   simp only at ha
   split at ha
   . rename_i hk
     obtain⟨a1,a0,h1,h2,h3⟩:=hkept i hk
     rw[h2]at ha
     have ha:AEJ q sh.keep i a0=a:=AaO ha
     subst ha
     cases a0 with
     |own p e xs=>
      simp only[AEJ]
      obtain⟨y,h5,_⟩:=h3
      have h6:Hnd (ρ2 i) e:=by
       rw[hρ i (hids i hk)];rw[h5]at h1;exact h.row i _ h1
      cases ACV (AGc i e) q<;>exact h6
     |row e l0=>
      obtain⟨l1,h5,h6,h7⟩:=h3
      subst h5
      obtain⟨hb,hl⟩:=h.row i _ h1
      rw[hρ i (hids i hk)]
      refine⟨hb,OkL.map l1 _ (by rw[putN_len,h6]) hl fun n s u hs hu=>?_⟩
      have hlt:n<l0.length:=by
       rw[<-h6];rcases Aag n l1.length with h|h
       . exact h
       . rw[Aaa h]at hs;cases hs
      rw[AHh,Aao,AaV hlt]
      refine⟨_,rfl,?_⟩
      have hcell:ACr σ1 i n=some s:=by simp only[ACr,h1,Y9];exact hs
      cases hv:ACV (ADu i n) q with
      |none=>
       simp only
       have hnc:(i,n+1)∉σ1.ch:=fun hc=>by
        rcases ABj (AGm b2 i (n+1) hc hk) with⟨c,hm,hz⟩|⟨m,c,hm,hz⟩
        . omega
        . have:m=n:=by omega
          subst this;obtain⟨cp,hcp,he⟩:=hof _ hm;obtain⟨⟨a,c'⟩,y⟩:=cp;cases he
          have h8:=AF9 hv _ hcp;have h9:=hpk _ hcp;cases c with
          |d t=>simp[ADu]at h8
          |undef|it _|np _=>exact(A2 h9).elim
          |own e2=>simp[ADu]at h8
       obtain⟨s0,h8,h9⟩:=h7 n s hs hnc
       rw[AaV hlt]at h8
       cases h8
       exact h9 sh.keep hlive _ _ _ _ _ (hkex s u hu)
      |some sv=>
       simp only
       obtain⟨cp,hcp,h8⟩:=ACJ hv
       obtain⟨⟨a,c⟩,y⟩:=cp
       have h9:a=.cell i n:=AIT h8
       subst h9
       cases c with
       |d t=>
        have h8:sv=F6 t y:=by simpa[ADu] using h8.symm
        subst h8
        exact hdat _ t y _ rfl hcp s u hcell hu
       |undef|it _|np _=>cases h8
       |own e=>
        have h8:sv=.own (ADL i n):=by simpa[ADu] using h8.symm
        subst h8
        exact hslc _ e y _ rfl hcp (fun j hj=>by cases hj) s u hcell hu (ADL i n) (by simp[ownV])
   . cases ha
 ·
  have ht:A1 (allV ABf (W6 sh.cs x)++ACs W sh.keep σ.env) t=some s2:=ht
  rw[hq,fnd_app]at ht
  cases hf:A1 (allV ABf q) t with
  |some r=>
   rw[hf]at ht
   have ht:r=s2:=AaO ht
   subst ht
   obtain⟨cp,hcp,h2⟩:=allV_mem.1 (AB0 hf)
   obtain⟨⟨a,c⟩,y⟩:=cp
   have h3:a=.slot t:=AGA h2
   subst h3
   cases c with
   |d u=>
    have h2:r=F6 u y:=by simpa[ABf] using h2
    subst h2
    obtain⟨s,h4,_⟩:=ANJ (hpk _ hcp)
    have h4:A1 σ1.env t=some s:=h4
    obtain⟨v,h5,h6⟩:=h.env t s h4
    exact⟨v,h5,hdat _ u y _ rfl hcp s v h4 h6⟩
   |it ts=>exact(A2 (hpk _ hcp)).elim
   |np t=>exact(A2 (hpk _ hcp)).elim
   |undef=>
    have h2:r=.undef:=by simpa[ABf] using h2
    subst h2
    obtain⟨s,he,h4⟩:=AMr (hpk _ hcp)
    cases he
    obtain⟨v,h5,h6⟩:=h.env t _ h4
    exact⟨v,h5,h6⟩
   |own e=>
    have h2:r=.own t:=by simpa[ABf] using h2
    subst h2
    rcases X8 (hpk _ hcp) with⟨j,p,ha,_⟩|⟨hnc,s,h4,_⟩
    . cases ha
    . have h4:A1 σ1.env t=some s:=h4
      obtain⟨v,h5,h6⟩:=h.env t s h4
      exact⟨v,h5,hslc _ e y _ rfl hcp hnc s v h4 h6 t (by simp[ownV])⟩
  |none=>
   rw[hf]at ht
   simp only at ht
   rw[fnd_keepE]at ht
   split at ht
   . cases ht
   . rename_i hW
     cases h1:A1 σ.env t with
     |none=>rw[h1]at ht;cases ht
     |some s0=>
      rw[h1]at ht
      have ht:J9 sh.keep s0=s2:=AaO ht
      subst ht
      obtain⟨s',h2,h3⟩:=hR.env t hW s0 h1
      obtain⟨v,h4,h5⟩:=h.env t s' h2
      exact⟨v,h4,h3 sh.keep hlive _ _ _ _ _ (hkex s' v h5)⟩
end
end Go.Rx
namespace Go.Rx
open Go Go.Sx Go.RowKit
variable[Trk][Sg][Sf]
def AAI:Option Rp->List Nat
 |some p=>ABc p
 |none=>[]
mutual
def E1(i:Nat)(p:Option Rp):SV->SV
 |.own j=>match p with
  |some p=>subS i p (.own j)
  |none=>.own j
 |.ptr j o=>match p with
  |some p=>subS i p (.ptr j o)
  |none=>.ptr j o
 |.ep j t x z o=>match p with
  |some p=>subS i p (.ep j t x z o)
  |none=>oldS i (.ep j t x z o)
 |.agg l=>.agg (trL i p l)
 |.tup l=>.tup (trL i p l)
 |.rp s o=>.rp (E1 i p s) o
 |.ap s n x k=>.ap (E1 i p s) n x k
 |.fn g l=>.fn g (trL i p l)
 |.int k x=>.int k x
 |.bool b=>.bool b
 |.dat t x=>.dat t x
 |.str n x=>.str n x
 |.ary k n x=>.ary k n x
 |.fv a r f=>.fv a r f
 |.nilS=>.nilS
 |.raw v=>.raw v
 |.it ts xs=>.it ts xs
 |.np t x=>.np t x
 |.undef=>.undef
 |.dead=>.dead
def trL(i:Nat)(p:Option Rp):List SV->List SV
 |[]=>[]
 |s::l=>E1 i p s::trL i p l
end
mutual
theorem AIV{i:Nat}{p:Rp}:∀s:SV,E1 i (some p) s=subS i p s
 |.own _|.ptr _ _|.ep _ _ _ _ _=>rfl
 |.agg l=>AaX SV.agg (AEg l)
 |.tup l=>AaX SV.tup (AEg l)
 |.rp s o=>AaX (fun x=>SV.rp x o) (AIV s)
 |.ap s n x k=>AaX (fun y=>SV.ap y n x k) (AIV s)
 |.fn g l=>AaX (SV.fn g) (AEg l)
 |.int _ _|.bool _|.dat _ _|.str _ _|.ary _ _ _|.fv _ _ _|.nilS|.np _ _|.it _ _|.raw _|.undef|.dead=>rfl
theorem AEg{i:Nat}{p:Rp}:∀l:List SV,trL i (some p) l=subL i p l
 |[]=>rfl
 |s::l=>by simp only[trL,subL,AIV s,AEg l]
end
mutual
theorem AIW{i:Nat}:∀s:SV,E1 i none s=oldS i s
 |.own _|.ptr _ _|.ep _ _ _ _ _=>rfl
 |.agg l=>AaX SV.agg (AEh l)
 |.tup l=>AaX SV.tup (AEh l)
 |.rp s o=>AaX (fun x=>SV.rp x o) (AIW s)
 |.ap s n x k=>AaX (fun y=>SV.ap y n x k) (AIW s)
 |.fn g l=>AaX (SV.fn g) (AEh l)
 |.int _ _|.bool _|.dat _ _|.str _ _|.ary _ _ _|.fv _ _ _|.nilS|.np _ _|.it _ _|.raw _|.undef|.dead=>rfl
theorem AEh{i:Nat}:∀l:List SV,trL i none l=oldL i l
 |[]=>rfl
 |s::l=>by simp only[trL,oldL,AIW s,AEh l]
end
mutual
theorem U5{i:Nat}{p:Option Rp}:∀s:SV,i∉B3 s->E1 i p s=s
 |.own j,h=>by
  have hne:i≠j:=fun e=>h (by simp[B3,e]);cases p with
  |none=>rfl
  |some p=>simp only[E1,subS,Q8 hne]
 |.ptr j o,h=>by
  have hne:i≠j:=fun e=>h (by simp[B3,e]);cases p with
  |none=>rfl
  |some p=>simp only[E1,subS,Q8 hne]
 |.ep j _ _ _ _,h=>by
  have hne:i≠j:=fun e=>h (by simp[B3,e]);cases p with
  |none=>simp only[E1,oldS,Q8 hne]
  |some p=>simp only[E1,subS,Q8 hne]
 |.agg l,h=>AaX SV.agg (AEi l h)
 |.tup l,h=>AaX SV.tup (AEi l h)
 |.rp s o,h=>AaX (fun x=>SV.rp x o) (U5 s h)
 |.ap s n x k,h=>AaX (fun y=>SV.ap y n x k) (U5 s h)
 |.fn g l,h=>AaX (SV.fn g) (AEi l h)
 |.int _ _,_|.bool _,_|.dat _ _,_|.str _ _,_|.ary _ _ _,_|.fv _ _ _,_|.nilS,_|.np _ _,_|.it _ _,_|.raw _,_|.undef,_|.dead,_=>rfl
theorem AEi{i:Nat}{p:Option Rp}:∀l:List SV,i∉ownsLL l->trL i p l=l
 |[],_=>rfl
 |s::l,h=>by
  have h:i∉B3 s++ownsLL l:=h;rw[Aaq,not_or]at h;simp only[trL,U5 s h.1,AEi l h.2]
end
section
variable{i j:Nat}{p q:Option Rp}
theorem ALu{i:Nat}{p:Rp}{j o:Nat}:(∃l,subS i p (.ptr j o)=.rp (.agg l) o/\p=.rp l/\i=j)\/(subS i p (.ptr j o)=.dead/\i=j/\∀l,p≠.rp l)\/(subS i p (.ptr j o)=.ptr j o/\i≠j):=by
 by_cases h:i=j
 . subst h;cases p with
   |rp l=>exact .inl ⟨l,by simp[subS],rfl,rfl⟩
   |dead=>exact .inr (.inl ⟨by simp[subS],rfl,fun _ e=>by cases e⟩)
   |dat _ _=>exact .inr (.inl ⟨by simp[subS],rfl,fun _ e=>by cases e⟩)
 . exact .inr (.inr ⟨by simp only[subS,Q8 h],h⟩)
theorem AEj{i:Nat}{p:Rp}{j:Nat}:(B3 (subS i p (.own j))=[]/\i=j)\/(subS i p (.own j)=.own j/\i≠j):=by
 by_cases h:i=j
 . subst h;cases p<;>exact .inl ⟨by simp[subS,B3],rfl⟩
 . exact .inr ⟨by simp only[subS,Q8 h],h⟩
theorem AU7(hij:i≠j)(k:Nat):E1 i p (E1 j q (.own k))=E1 j q (E1 i p (.own k)):=by
 cases p with
 |none=>
  cases q with
  |none=>rfl
  |some q=>
   show E1 i none (subS j q (.own k))=subS j q (.own k)
   rcases AEj (i:=j) (p:=q) (j:=k) with⟨h,_⟩|⟨h,_⟩
   . exact U5 _ (by rw[h];simp)
   . rw[h];rfl
 |some p=>
  cases q with
  |none=>
   show subS i p (.own k)=E1 j none (subS i p (.own k))
   rcases AEj (i:=i) (p:=p) (j:=k) with⟨h,_⟩|⟨h,_⟩
   . exact(U5 _ (by rw[h];simp)).symm
   . rw[h];rfl
  |some q=>
   show E1 i (some p) (subS j q (.own k))=E1 j (some q) (subS i p (.own k))
   rcases AEj (i:=j) (p:=q) (j:=k) with⟨h,e⟩|⟨h,e⟩
   . rcases AEj (i:=i) (p:=p) (j:=k) with⟨_,e'⟩|⟨h',_⟩
     . exact absurd (e'.trans e.symm) hij
     . rw[h',U5 (subS j q (.own k)) (by rw[h];simp)];rfl
   . rw[h]
     show subS i p (.own k)=_
     rcases AEj (i:=i) (p:=p) (j:=k) with⟨h',_⟩|⟨h',_⟩
     . exact(U5 _ (by rw[h'];simp)).symm
     . rw[h'];exact h.symm
theorem AU8(hij:i≠j)(hp:j∉AAI p)(hq:i∉AAI q)(k o:Nat):E1 i p (E1 j q (.ptr k o))=E1 j q (E1 i p (.ptr k o)):=by
 have key:∀{i j:Nat} {p q:Rp},i≠j->j∉ABc p->i=k->E1 i (some p) (.ptr k o)=E1 j (some q) (E1 i (some p) (.ptr k o)):=fun {i j p q} hij hp e=>by
  show subS i p (.ptr k o)=E1 j (some q) (subS i p (.ptr k o));rcases ALu (i:=i) (p:=p) (j:=k) (o:=o) with⟨l,h,hl,_⟩|⟨h,_⟩|⟨h,hne⟩
  . rw[h,U5];intro hm;exact hp (by rw[hl];exact hm)
  . rw[h];rfl
  . exact absurd e hne
 have old:∀{i j:Nat} {p:Rp},j∉ABc p->E1 j none (E1 i (some p) (.ptr k o))=E1 i (some p) (.ptr k o):=fun {i j p} hp=>by
  show E1 j none (subS i p (.ptr k o))=subS i p (.ptr k o);rcases ALu (i:=i) (p:=p) (j:=k) (o:=o) with⟨l,h,hl,_⟩|⟨h,_⟩|⟨h,hne⟩
  . rw[h,U5];intro hm;exact hp (by rw[hl];exact hm)
  . rw[h];rfl
  . rw[h];rfl
 cases p with
 |none=>
  cases q with
  |none=>rfl
  |some q=>exact old hq
 |some p=>
  cases q with
  |none=>exact(old hp).symm
  |some q=>
   by_cases e1:i=k
   . have h2:E1 j (some q) (.ptr k o)=.ptr k o:=U5 _ (by simp[B3];intro e;exact hij (e1.trans e.symm))
     rw[h2];exact key hij hp e1
   . have h1:E1 i (some p) (.ptr k o)=.ptr k o:=U5 _ (by simp[B3];exact e1)
     rw[h1]
     by_cases e2:j=k
     . exact(key (AcE hij) hq e2).symm
     . have h2:E1 j (some q) (.ptr k o)=.ptr k o:=U5 _ (by simp[B3];exact e2)
       rw[h2,h1]
theorem AXC(hij:i≠j)(k:Nat)(t:Ty)(x:Int)(z:Option (den t))(o:Nat):E1 i p (E1 j q (.ep k t x z o))=E1 j q (E1 i p (.ep k t x z o)):=by
 have hit:∀{i:Nat} {p:Option Rp},i=k->(E1 i p (.ep k t x z o)=.dead/\p≠none)\/(E1 i p (.ep k t x z o)=.ep k t x none o/\p=none):=fun {i p} e=>by
  subst e;cases p with
  |none=>exact .inr ⟨by simp[E1,oldS],rfl⟩
  |some p=>exact .inl ⟨by simp[E1,subS],fun e=>by cases e⟩
 have miss:∀{i:Nat} {p:Option Rp} {z:Option (den t)},i≠k->E1 i p (.ep k t x z o)=.ep k t x z o:=fun {i p z} e=>U5 _ (by simp[B3];exact e);by_cases e1:i=k
 . have e2:j≠k:=fun e=>hij (e1.trans e.symm);rw[miss e2];rcases hit (p:=p) e1 with⟨h,_⟩|⟨h,_⟩
   . rw[h];rfl
   . rw[h,miss e2]
 . rw[miss (p:=p) e1];by_cases e2:j=k
   . rcases hit (p:=q) e2 with⟨h,_⟩|⟨h,_⟩
     . rw[h];rfl
     . rw[h,miss e1]
   . rw[miss e2,miss e1]
end
mutual
theorem AKb{i j:Nat}{p q:Option Rp}(hij:i≠j)(hp:j∉AAI p)(hq:i∉AAI q):∀s:SV,E1 i p (E1 j q s)=E1 j q (E1 i p s)
 |.own k=>AU7 hij k
 |.ptr k o=>AU8 hij hp hq k o
 |.ep k t x z o=>AXC hij k t x z o
 |.agg l=>AaX SV.agg (AGB hij hp hq l)
 |.tup l=>AaX SV.tup (AGB hij hp hq l)
 |.rp s o=>AaX (fun x=>SV.rp x o) (AKb hij hp hq s)
 |.ap s n x k=>AaX (fun y=>SV.ap y n x k) (AKb hij hp hq s)
 |.fn g l=>AaX (SV.fn g) (AGB hij hp hq l)
 |.int _ _|.bool _|.dat _ _|.str _ _|.ary _ _ _|.fv _ _ _|.nilS|.np _ _|.it _ _|.raw _|.undef|.dead=>rfl
theorem AGB{i j:Nat}{p q:Option Rp}(hij:i≠j)(hp:j∉AAI p)(hq:i∉AAI q):∀l:List SV,trL i p (trL j q l)=trL j q (trL i p l)
 |[]=>rfl
 |s::l=>by simp only[trL,AKb hij hp hq s,AGB hij hp hq l]
end
theorem tr_wd{i:Nat}{p:Option Rp}(s:SV):wd (E1 i p s)=wd s:=by
 cases s with
 |own j=>
  cases p with
  |none=>rfl
  |some p=>
   show wd (subS i p (.own j))=1
   by_cases e:i=j
   . subst e;cases p<;>simp[subS,wd]
   . simp only[subS,Q8 e,wd]
 |ptr j o=>
  cases p with
  |none=>rfl
  |some p=>
   show wd (subS i p (.ptr j o))=1
   by_cases e:i=j
   . subst e;cases p<;>simp[subS,wd]
   . simp only[subS,Q8 e,wd]
 |ep j t x z o=>
  by_cases e:i=j
  . subst e
    cases p with
    |none=>simp[E1,oldS,wd]
    |some p=>simp[E1,subS,wd]
  . rw[U5 _ (by simp[B3];exact e)]
 |agg _|tup _|rp _ _|ap _ _ _ _|fn _ _|int _ _|bool _|dat _ _|str _ _|ary _ _ _|fv _ _ _|nilS|raw _|it _ _|np _ _|undef|dead=>rfl
theorem ANL{i:Nat}{p:Option Rp}:∀(ns l:List SV),i∉ownsLL ns->overL (trL i p l) ns=(overL l ns).map (trL i p)
 |[],l,_=>by cases l<;>rfl
 |_::_,[],_=>rfl
 |n::ns,s::l,h=>by
  have h:i∉B3 n++ownsLL ns:=h;rw[Aaq,not_or]at h;simp only[trL,overL,tr_wd,ANL ns l h.2];cases beq (wd s) (wd n) with
  |false=>rfl
  |true=>
   cases wd n with
   |zero=>rfl
   |succ m=>
    simp only
    cases overL l ns with
    |none=>rfl
    |some x=>simp only[Option.map_some,trL,U5 n h.1]
theorem ANM{i:Nat}{p:Option Rp}:∀(l:List SV) (o:Nat) (ns:List SV),i∉ownsLL ns->setW (trL i p l) o ns=(setW l o ns).map (trL i p)
 |l,0,ns,h=>by
  have e:∀l:List SV,setW l 0 ns=overL l ns:=fun l=>by cases l<;>rfl
  rw[e,e];exact ANL ns l h
 |[],_+1,_,_=>rfl
 |s::l,o+1,ns,h=>by
  simp only[trL,setW,tr_wd];cases wd s with
  |zero=>rfl
  |succ n=>
   simp only
   cases Nat.ble n o with
   |false=>rfl
   |true=>
    simp only[ANM l (o-n) ns h]
    cases setW l (o-n) ns with
    |none=>rfl
    |some x=>rfl
def Eqv(σ σ':AS):Prop:=(∀t,A1 σ.env t=A1 σ'.env t)/\∀i,A1 σ.res i=A1 σ'.res i
theorem Eqv.refl(σ:AS):Eqv σ σ:=⟨fun _=>rfl,fun _=>rfl⟩
theorem Eqv.symm{σ σ':AS}(h:Eqv σ σ'):Eqv σ' σ:=⟨fun t=>(h.1 t).symm,fun i=>(h.2 i).symm⟩
theorem Eqv.trans{σ σ1 σ2:AS}(h:Eqv σ σ1)(k:Eqv σ1 σ2):Eqv σ σ2:=⟨fun t=>(h.1 t).trans (k.1 t),fun i=>(h.2 i).trans (k.2 i)⟩
def trA:Ac->Option (Nat×Option Rp)
 |.put _=>none
 |.new i _=>some (i,some .dead)
 |.sto i _ _=>some (i,none)
 |.cnt i _ _=>some (i,none)
 |.hnd i _=>some (i,some .dead)
 |.del i p=>some (i,some p)
def fA(a:Ac)(s:SV):SV:=match trA a with
 |some (i,p)=>E1 i p s
 |none=>s
def trR(i:Nat)(p:Option Rp):AR->AR
 |.row e l=>.row e (trL i p l)
 |.own q c x=>.own q c x
theorem AGo{i:Nat}:∀{l:List Nat},i∈l->c0 i∈dbl l/\c1 i∈dbl l
 |k::l,h=>by
  rcases mem_cons.1 h with h|h
  . subst h;exact⟨AaT ..,AaQ _ (AaT ..)⟩
  . have:=AGo h;exact⟨AaQ _ (AaQ _ this.1),AaQ _ (AaQ _ this.2)⟩
mutual
theorem ADW{c:Nat}:∀{s:SV},c∈U2 s->∃i∈B3 s,c=c0 i\/c=c1 i
 |.own i,h=>⟨i,AaT ..,.inl (mem_singleton.1 h)⟩
 |.ptr i _,h=>⟨i,AaT ..,.inl (mem_singleton.1 h)⟩
 |.ep i _ _ _ _,h=>⟨i,AaT ..,(mem_cons.1 h).imp id mem_singleton.1⟩
 |.agg l,h=>AD1 (l:=l) h
 |.tup l,h=>AD1 (l:=l) h
 |.fn _ l,h=>AD1 (l:=l) h
 |.rp s _,h=>ADW (s:=s) h
 |.ap s _ _ _,h=>ADW (s:=s) h
 |.int _ _,h|.bool _,h|.dat _ _,h|.str _ _,h|.ary _ _ _,h|.fv _ _ _,h|.nilS,h|.np _ _,h|.it _ _,h|.raw _,h|.undef,h|.dead,h=>by cases h
theorem AD1{c:Nat}:∀{l:List SV},c∈P2 l->∃i∈ownsLL l,c=c0 i\/c=c1 i
 |[],h=>by cases h
 |s::l,h=>by
  rcases mem_append.1 (show c∈U2 s++P2 l from h) with h|h
  . obtain⟨i,h1,h2⟩:=ADW h;exact⟨i,AaR _ h1,h2⟩
  . obtain⟨i,h1,h2⟩:=AD1 h;exact⟨i,AaS _ h1,h2⟩
end
mutual
theorem ADX{i:Nat}:∀{s:SV},i∈B3 s->c0 i∈U2 s
 |.own j,h=>by rw[mem_singleton.1 (show i∈[j] from h)];exact AaT ..
 |.ptr j _,h=>by rw[mem_singleton.1 (show i∈[j] from h)];exact AaT ..
 |.ep j _ _ _ _,h=>by rw[mem_singleton.1 (show i∈[j] from h)];exact AaT ..
 |.agg l,h=>ACv (l:=l) h
 |.tup l,h=>ACv (l:=l) h
 |.fn _ l,h=>ACv (l:=l) h
 |.rp s _,h=>ADX (s:=s) h
 |.ap s _ _ _,h=>ADX (s:=s) h
 |.int _ _,h|.bool _,h|.dat _ _,h|.str _ _,h|.ary _ _ _,h|.fv _ _ _,h|.nilS,h|.np _ _,h|.it _ _,h|.raw _,h|.undef,h|.dead,h=>by cases h
theorem ACv{i:Nat}:∀{l:List SV},i∈ownsLL l->c0 i∈P2 l
 |[],h=>by cases h
 |s::l,h=>by
  rcases mem_append.1 (show i∈B3 s++ownsLL l from h) with h|h
  . exact AaR _ (ADX h)
  . exact AaS _ (ACv h)
end
mutual
theorem AD2{i:Nat}:∀{s:SV},c1 i∉U2 s->E1 i none s=s
 |.own j,h=>rfl
 |.ptr j _,h=>rfl
 |.ep j _ _ _ _,h=>by
  have hne:i≠j:=fun e=>h (by subst e;exact AaQ _ (AaT ..));simp only[E1,oldS,Q8 hne]
 |.agg l,h=>AaX SV.agg (ABk (l:=l) h)
 |.tup l,h=>AaX SV.tup (ABk (l:=l) h)
 |.fn g l,h=>AaX (SV.fn g) (ABk (l:=l) h)
 |.rp s o,h=>AaX (fun x=>SV.rp x o) (AD2 (s:=s) h)
 |.ap s n x k,h=>AaX (fun y=>SV.ap y n x k) (AD2 (s:=s) h)
 |.int _ _,_|.bool _,_|.dat _ _,_|.str _ _,_|.ary _ _ _,_|.fv _ _ _,_|.nilS,_|.np _ _,_|.it _ _,_|.raw _,_|.undef,_|.dead,_=>rfl
theorem ABk{i:Nat}:∀{l:List SV},c1 i∉P2 l->trL i none l=l
 |[],_=>rfl
 |s::l,h=>by
  have h:c1 i∉U2 s++P2 l:=h;rw[Aaq,not_or]at h;simp only[trL,AD2 h.1,ABk h.2]
end
def hA:Ac->Option AR->Option AR
 |.new _ r,_=>some r
 |.sto _ o ns,a=>a.map (AAt o ns)
 |.cnt _ c x,a=>a.map (Z9 c x)
 |.hnd _ r,a=>a.map fun _=>r
 |.del _ _,_=>none
 |.put _,a=>a
def ACX:Ac->Option Nat->Option (Nat×SV)
 |.put s,some d=>some (d,s)
 |_,_=>none
section
variable{i:Nat}{d:Option Nat}{σ:AS}{a:Ac}{σ':AS}
theorem ATU{p:Rp}(a:AR):trR i (some p) a=a.sub i p:=by cases a<;>simp[trR,AR.sub,AEg]
theorem ATV(a:AR):trR i none a=a.old i:=by cases a<;>simp[trR,AR.old,AEh]
theorem env_app{t:Nat}:A1 (a.app d σ).env t=match ACX a d with
  |some (d,s)=>if d=t then some s else(A1 σ.env t).map (fA a)
  |none=>(A1 σ.env t).map (fA a):=by
 have e1:∀(i:Nat) (p:Rp),E1 i (some p)=subS i p:=fun i p=>funext AIV
 have e2:∀(i:Nat),E1 i none=oldS i:=fun i=>funext AIW
 have e3:∀x:Option SV,x.map (fun s=>s)=x:=fun x=>by cases x<;>rfl
 cases a with
 |put s=>
  cases d with
  |none=>exact(e3 _).symm
  |some d=>
   show A1 ((d,s)::σ.env) t=if d=t then some s else(A1 σ.env t).map (fun s=>s)
   rw[fnd_cons,e3]
 |new i r=>
  show A1 (ABu i .dead σ.env) t=(A1 σ.env t).map (E1 i (some .dead))
  rw[AAT,e1]
 |sto i o ns=>
  show A1 (AFp i σ.env) t=(A1 σ.env t).map (E1 i none)
  rw[ADN,e2]
 |cnt i u xs=>
  show A1 (AFp i σ.env) t=(A1 σ.env t).map (E1 i none)
  rw[ADN,e2]
 |hnd i r=>
  show A1 (ABu i .dead σ.env) t=(A1 σ.env t).map (E1 i (some .dead))
  rw[AAT,e1]
 |del i p=>
  show A1 (ABu i p σ.env) t=(A1 σ.env t).map (E1 i (some p))
  rw[AAT,e1]
theorem res_app{j:Nat}:A1 (a.app d σ).res j=match trA a with
  |some (i,p)=>if j=i then hA a (A1 σ.res j) else(A1 σ.res j).map (trR i p)
  |none=>A1 σ.res j:=by
 have e1:∀(i:Nat) (p:Rp),trR i (some p)=AR.sub i p:=fun i p=>funext ATU
 have e2:∀(i:Nat),trR i none=AR.old i:=fun i=>funext ATV
 cases a with
 |put s=>cases d<;>rfl
 |new i r=>
  show A1 ((i,r)::Z8 i (W0 i .dead σ.res)) j=if j=i then some r else(A1 σ.res j).map (trR i (some .dead))
  rw[fnd_cons,fnd_rdel,fnd_subR,e1]
  by_cases h:j=i
  . subst h;rw[Aac rfl,Aac rfl]
  . rw[if_neg (fun e=>h e.symm),if_neg h,if_neg h]
 |sto i o ns=>
  show A1 (AE0 i (AAt o ns) σ.res) j=if j=i then(A1 σ.res j).map (AAt o ns) else(A1 σ.res j).map (trR i none)
  rw[ADP,e2]
 |cnt i u xs=>
  show A1 (AE0 i (Z9 u xs) σ.res) j=if j=i then(A1 σ.res j).map (Z9 u xs) else(A1 σ.res j).map (trR i none)
  rw[ADP,e2]
 |hnd i r=>
  show A1 (AED i r (W0 i .dead σ.res)) j=if j=i then(A1 σ.res j).map (fun _=>r) else(A1 σ.res j).map (trR i (some .dead))
  rw[ADO,fnd_subR,e1]
  by_cases h:j=i
  . rw[Aac h,Aac h];cases A1 σ.res j<;>rfl
  . rw[if_neg h,if_neg h]
 |del i p=>
  show A1 (Z8 i (W0 i p σ.res)) j=if j=i then none else(A1 σ.res j).map (trR i (some p))
  rw[fnd_rdel,fnd_subR,e1]
theorem Eqv.app(h:Eqv σ σ')(d:Option Nat)(a:Ac):Eqv (a.app d σ) (a.app d σ'):=⟨fun t=>by rw[env_app,env_app,h.1],fun i=>by rw[res_app,res_app,h.2]⟩
theorem Eqv.apps{σ σ':AS}(h:Eqv σ σ')(d:Option Nat):∀as_:List Ac,Eqv (apps d as_ σ) (apps d as_ σ')
 |[]=>h
 |a::as_=>by
  show Eqv (Rx.apps d as_ (a.app d σ)) (Rx.apps d as_ (a.app d σ'));exact Eqv.apps (h.app d a) d as_
end
structure Ind(d:Option Nat)(x:Ac)(d':Option Nat)(y:Ac):Prop where
 w:∀i p j q,trA x=some (i,p)->trA y=some (j,q)->i≠j
 cx:∀c∈wcA y,c∉coC x
 cy:∀c∈wcA x,c∉coC y
 dd:∀t s t' s',ACX x d=some (t,s)->ACX y d'=some (t',s')->t≠t'
section
variable{d:Option Nat}{d':Option Nat}{x:Ac}{y:Ac}{a:Ac}{i:Nat}{p:Option Rp}{s:SV}{j:Nat}{q:Option Rp}
theorem Ind.symm(h:Ind d x d' y):Ind d' y d x:=⟨fun i p j q h1 h2 e=>h.w j q i p h2 h1 e.symm,h.cy,h.cx,fun t s t' s' h1 h2 e=>h.dd t' s' t s h2 h1 e.symm⟩
theorem AFJ(h:trA a=some (i,p)):∀k∈AAI p,k∈coA a:=fun k hk=>by
 cases a<;>cases h<;>first|exact hk|cases hk
theorem wc1(h:trA a=some (i,p)):c1 i∈wcA a:=by
 cases a<;>cases h<;>simp[wcA]
theorem wc0{p:Rp}(h:trA a=some (i,some p)):c0 i∈wcA a:=by
 cases a<;>cases h<;>simp[wcA]
theorem AP0(h:trA a=some (i,p)):coC a=dbl (coA a):=by
 cases a<;>cases h<;>rfl
theorem AJS{t:Nat}(h:ACX a d=some (t,s)):coC a=U2 s/\fA a=fun s=>s:=by
 cases a with
 |put s'=>
  cases d with
  |none=>cases h
  |some d=>cases h;exact⟨rfl,rfl⟩
 |_=>cases h
theorem AKc(h:∀c∈wcA a,c∉U2 s):fA a s=s:=by
 unfold fA;cases ha:trA a with
 |none=>rfl
 |some q=>
  obtain⟨i,p⟩:=q
  cases p with
  |none=>exact AD2 (h _ (wc1 ha))
  |some p=>exact U5 s fun hm=>h _ (wc0 ha) (ADX hm)
theorem AJ1{i:Nat}:∀{l:List SV},i∈ownsLL l->c0 i∈P2 l
 |s::l,h=>by
  rcases mem_append.1 (show i∈B3 s++ownsLL l from h) with h|h
  . exact AaR _ (ADX h)
  . exact AaS _ (AJ1 h)
theorem AXD(ha:trA a=some (i,p)){b:AR}(h:∀c∈wcA a,c∉ABy b):trR i p b=b:=by
 cases b with
 |own _ _ _=>rfl
 |row e l=>
  cases p with
  |none=>simp only[trR,ABk (h _ (wc1 ha))]
  |some p=>simp only[trR,AEi l fun hm=>h _ (wc0 ha) (AJ1 hm)]
theorem Ind.cx'(h:Ind d x d' y)(hx:trA x=some (i,p))(hy:trA y=some (j,q)):j∉coA x:=fun hm=>h.cx _ (wc1 hy) (by rw[AP0 hx];exact(AGo hm).2)
theorem Ind.cy'(h:Ind d x d' y)(hx:trA x=some (i,p))(hy:trA y=some (j,q)):i∉coA y:=fun hm=>h.cy _ (wc1 hx) (by rw[AP0 hy];exact(AGo hm).2)
end
section
variable{d d':Option Nat}{x y:Ac}
theorem ATW(h:Ind d x d' y)(s:SV):fA y (fA x s)=fA x (fA y s):=by
 unfold fA;cases hx:trA x with
 |none=>rfl
 |some q=>
  obtain⟨i,p⟩:=q
  cases hy:trA y with
  |none=>rfl
  |some r=>
   obtain⟨j,q⟩:=r
   exact(AKb (h.w i p j q hx hy) (fun hm=>h.cx' hx hy (AFJ hx j hm)) (fun hm=>h.cy' hx hy (AFJ hy i hm)) s).symm
theorem AP1{k:Nat}{q:Option Rp}{a:AR}(h:k∉AGY a):trR k q a=a:=by
 cases a with
 |own _ _ _=>rfl
 |row e l=>simp only[trR,AEi l h]
theorem ASZ{k:Nat}{q:Option Rp}(h:k∉coA x)(a:Option AR):(hA x a).map (trR k q)=hA x (a.map (trR k q)):=by
 cases x with
 |put s=>rfl
 |new i r=>simp only[hA,Option.map_some,AP1 (a:=r) h]
 |sto i o ns=>
  cases a with
  |none=>rfl
  |some a=>
   simp only[hA,Option.map_some]
   cases a with
   |own _ _ _=>rfl
   |row e l=>
    simp only[AAt,trR,ANM l o ns h]
    cases setW l o ns with
    |none=>rfl
    |some l'=>rfl
 |cnt i t xs=>
  cases a with
  |none=>rfl
  |some a=>
   simp only[hA,Option.map_some]
   cases a with
   |row _ _=>rfl
   |own p t' ys=>
    simp only[Z9,trR]
    cases castO t t' xs with
    |none=>rfl
    |some zs=>rfl
 |hnd i r=>
  cases a with
  |none=>rfl
  |some a=>simp only[hA,Option.map_some,AP1 (a:=r) h]
 |del i p=>rfl
theorem ARL{i j:Nat}{p q:Option Rp}(hij:i≠j)(hp:j∉AAI p)(hq:i∉AAI q)(a:AR):trR i p (trR j q a)=trR j q (trR i p a):=by
 cases a with
 |own _ _ _=>rfl
 |row e l=>simp only[trR,AGB hij hp hq l]
theorem swap(h:Ind d x d' y)(σ:AS):Eqv (y.app d' (x.app d σ)) (x.app d (y.app d' σ)):=by
 refine⟨fun t=>?_,fun i=>?_⟩
 . rw[env_app,env_app,env_app (a:=x),env_app (a:=y)];have hc:((A1 σ.env t).map (fA x)).map (fA y)=((A1 σ.env t).map (fA y)).map (fA x):=by
    cases A1 σ.env t with
    |none=>rfl
    |some s=>simp only[Option.map_some,ATW h]
   cases hx:ACX x d with
   |none=>
    cases hy:ACX y d' with
    |none=>exact hc
    |some q=>
     obtain⟨e,s⟩:=q
     simp only
     split
     . obtain⟨h1,_⟩:=AJS hy
       have:fA x s=s:=AKc fun c hc hm=>h.cy c hc (by rw[h1];exact hm)
       simp only[Option.map_some,this]
     . exact hc
   |some r=>
    obtain⟨e,s⟩:=r
    obtain⟨h1,_⟩:=AJS hx
    have hs:fA y s=s:=AKc fun c hc hm=>h.cx c hc (by rw[h1];exact hm)
    cases hy:ACX y d' with
    |none=>
     simp only
     split
     . simp only[Option.map_some,hs]
     . exact hc
    |some q=>
     obtain⟨e',s'⟩:=q
     obtain⟨h2,_⟩:=AJS hy
     have hs':fA x s'=s':=AKc fun c hc hm=>h.cy c hc (by rw[h2];exact hm)
     have hne:=h.dd e s e' s' hx hy
     simp only
     by_cases h3:e'=t
     . have h4:e≠t:=fun h=>hne (h.trans h3.symm)
       rw[Aac h3,if_neg h4,Aac h3,Aa0,hs']
     . rw[if_neg h3]
       by_cases h4:e=t
       . rw[Aac h4,Aac h4,Aa0,hs]
       . rw[if_neg h4,if_neg h4,if_neg h3];exact hc
 . rw[res_app,res_app,res_app (a:=x),res_app (a:=y)];cases hx:trA x with
   |none=>
    cases hy:trA y with
    |none=>rfl
    |some q=>rfl
   |some r=>
    obtain⟨k,p⟩:=r
    cases hy:trA y with
    |none=>rfl
    |some q=>
     obtain⟨j,q⟩:=q
     have hne:=h.w k p j q hx hy
     simp only
     by_cases h1:i=j
     . subst h1
       rw[Aac rfl,if_neg (fun e=>hne e.symm),Aac rfl,if_neg (fun e=>hne e.symm)]
       exact(ASZ (h.cy' hx hy) _).symm
     . rw[if_neg h1,if_neg h1]
       by_cases h2:i=k
       . subst h2
         rw[Aac rfl,Aac rfl]
         exact ASZ (h.cx' hx hy) _
       . rw[if_neg h2,if_neg h2]
         cases A1 σ.res i with
         |none=>rfl
         |some a=>simp only[Option.map_some,ARL hne (fun hm=>h.cx' hx hy (AFJ hx j hm)) (fun hm=>h.cy' hx hy (AFJ hy k hm))]
theorem AXE(σ:AS):∀(xs:List Ac),(∀x∈xs,Ind d x d' y)->Eqv (y.app d' (apps d xs σ)) (apps d xs (y.app d' σ)):=by
 intro xs;induction xs generalizing σ with
 |nil=>intro _;exact Eqv.refl _
 |cons x xs ih=>
  intro h
  exact(ih (x.app d σ) fun z hz=>h z (AaQ _ hz)).trans ((swap (h x (AaT ..)) σ).apps d xs)
theorem AU9(σ:AS)(xs:List Ac):∀(ys:List Ac),(∀x∈xs,∀y∈ys,Ind d x d' y)->Eqv (apps d' ys (apps d xs σ)) (apps d xs (apps d' ys σ)):=by
 intro ys;induction ys generalizing σ with
 |nil=>intro _;exact Eqv.refl _
 |cons y ys ih=>
  intro h
  exact((AXE σ xs fun x hx=>h x hx y (AaT ..)).apps d' ys).trans (ih (y.app d' σ) fun x hx z hz=>h x hx z (AaQ _ hz))
end
end Go.Rx
end
