/-
  Part DisputeLate 5 of the texts that the statement's proof stands on: what memory holds, how code is walked, what the functions reckon. In the order in which they build.
-/
import Derived.Test.YtgioiejbphljoaaGreatDoorDiDisputeLate4
set_option linter.unusedVariables false
set_option linter.unusedSectionVars false
namespace Go.Rx
open Go Go.Sx Go.RowKit
variable [Trk] [Sg] [Sf] {P:Program} [Se P]
variable [Anch]
abbrev Does [Fx] (P:Program) [Se P] (N:Nat) (d:Option Nat) (op:Op) (E:Operand->Option SV) (R:Nat->Option AR) (as_:List Ac):Prop:=
 ∀ {w0 w:World} {Mu M:List Nat} {σ:AS} {L:A7} {S:List Res} {ρ:Nat->Value} {γ:Nat->List Value} {μ:Nat->List Nat} {ι:Nat->Nat} {ops:Array Oper} {ds:List Deferred} {B:A3} {X:Nat->A3} {Z:List PanicEntry->A3} {ty:TypeId} {pos:String} {af:Array Edge},
  (∀ x s,E x=some s->B4 σ.env x=some s)->Le R (A1 σ.res)->HS w0 Mu M σ L w S ρ γ μ ι->C0 P N ops ds L w ⟨d,op,ty,pos,af,none⟩ w0 Mu M (apps d as_ σ) B X Z
section
variable {N:Nat} {G:Gx} {E:Operand->Option SV} {R:Nat->Option AR} {Y:Type} {K:List Ac->Option Y} {z:Y} {d:Nat}
theorem AS3 [Fx] (hN:Nat.blt d N=true) {b:BinOp} {t t':Nat} {x y:Operand} {k:IntKind} {i j:Int} (hx:E x=some (.int k i)) (hy:E y=some (.int k j)) (hc:arS K b k i j=some z):∃ as_,K as_=some z/\Does P N (some d) (.binOp b t x y t') E R as_:=by
 unfold arS at hc
 cases hb:cmp b i j with
 |some r=>
  rw[hb] at hc
  exact⟨_,hc,fun hE _ h=>AUs h hN (hE _ _ hx) (hE _ _ hy) hb⟩
 |none=>
  rw[hb] at hc
  cases b with
  |add=>obtain⟨n,h1,h2⟩:=bindS hc;exact⟨_,h2,fun hE _ h=>AUt h hN (hE _ _ hx) (hE _ _ hy) h1⟩
  |sub=>obtain⟨n,h1,h2⟩:=bindS hc;exact⟨_,h2,fun hE _ h=>AUu h hN (hE _ _ hx) (hE _ _ hy) h1⟩
  |mul=>obtain⟨n,h1,h2⟩:=bindS hc;exact⟨_,h2,fun hE _ h=>AUv h hN (hE _ _ hx) (hE _ _ hy) h1⟩
  |quo=>obtain⟨n,h1,h2⟩:=bindS hc;exact⟨_,h2,fun hE _ h=>AUw h hN (hE _ _ hx) (hE _ _ hy) h1⟩
  |rem=>obtain⟨n,h1,h2⟩:=bindS hc;exact⟨_,h2,fun hE _ h=>AUx h hN (hE _ _ hx) (hE _ _ hy) h1⟩
  |and=>exact⟨_,hc,fun hE _ h=>AUy h hN (hE _ _ hx) (hE _ _ hy)⟩
  |or|xor|shl|shr|andNot|eql|neq|lss|leq|gtr|geq=>exact (A2 hc).elim
theorem ALd [Fx] [Sl (P:=P)] (hG:GxOk P G) (hN:Nat.blt d N=true) {b:BinOp} {t t':Nat} {x y:Operand} {s s':SV} (hx:E x=some s) (hy:E y=some s') (hc:AMT G R K b t s s'=some z):∃ as_,K as_=some z/\Does P N (some d) (.binOp b t x y t') E R as_:=by
 unfold AMT at hc
 cases hl:lk G.eq t with
 |none=>rw[hl] at hc;exact (A2 hc).elim
 |some n=>
  rw[hl] at hc
  simp only at hc
  cases ho:A8 s with
  |cons _ _=>rw[ho] at hc;exact (A2 hc).elim
  |nil=>
   cases ho':A8 s' with
   |cons _ _=>rw[ho,ho'] at hc;exact (A2 hc).elim
   |nil=>
    rw[ho,ho'] at hc
    simp only at hc
    cases hp:C1 R (.st n) s with
    |none=>rw[hp] at hc;exact (A2 hc).elim
    |some p=>
     rw[hp] at hc
     simp only at hc
     cases hq:C1 R (.st n) s' with
     |none=>rw[hq] at hc;exact (A2 hc).elim
     |some q=>
      rw[hq] at hc
      cases b with
      |eql=>exact⟨_,hc,fun hE hR h=>AQL (b:=.eql) h hG hN hl (.inl rfl) (hE _ _ hx) (hE _ _ hy) ho ho' (E3 hR _ _ hp) (E3 hR _ _ hq)⟩
      |neq=>exact⟨_,hc,fun hE hR h=>AQL (b:=.neq) h hG hN hl (.inr rfl) (hE _ _ hx) (hE _ _ hy) ho ho' (E3 hR _ _ hp) (E3 hR _ _ hq)⟩
      |add|sub|mul|quo|rem|and|or|xor|andNot|lss|leq|gtr|geq|shl|shr=>exact (A2 hc).elim
theorem ARB [Fx] [Sl (P:=P)] (hG:GxOk P G) (hN:Nat.blt d N=true) {b:BinOp} {t t':Nat} {x y:Operand} {s s':SV} (hx:E x=some s) (hy:E y=some s') (hc:AMU G R K b t s s'=some z):∃ as_,K as_=some z/\Does P N (some d) (.binOp b t x y t') E R as_:=by
 cases s with
 |int k i=>
  cases s' with
  |int k' j=>
   have key:(match kEq k k' with
    |true=>arS K b k i j
    |false=>none)=some z->∃ as_,K as_=some z/\Does P N (some d) (.binOp b t x y t') E R as_:=fun hq=>by
    cases hk:kEq k k' with
    |false=>rw[hk] at hq;exact (A2 hq).elim
    |true=>
     rw[hk] at hq
     have:=ADg hk
     subst this
     exact AS3 hN hx hy hq
   cases b with
   |shr=>
    have hc:Option.bind (AGM i j k.bits) (fun n=>K [.put (.int k n)])=some z:=hc
    obtain⟨n,h1,h2⟩:=bindS hc;exact⟨_,h2,fun hE _ h=>AUz h hN (hE _ _ hx) (hE _ _ hy) h1⟩
   |shl=>
    have hc:Option.bind (AGN k i j) (fun n=>K [.put (.int k n)])=some z:=hc
    obtain⟨n,h1,h2⟩:=bindS hc;exact⟨_,h2,fun hE _ h=>AU0 h hN (hE _ _ hx) (hE _ _ hy) h1⟩
   |add|sub|mul|quo|rem|and|or|xor|andNot|eql|neq|lss|leq|gtr|geq=>exact key hc
  |bool _|dat _ _|ary _ _ _|own _|str _ _|agg _|ep _ _ _ _ _|fv _ _ _|fn _ _|nilS|raw _|it _ _|np _ _|ap _ _ _ _|undef|dead|tup _|rp _ _|ptr _ _=>exact (A2 hc).elim
 |bool p=>
  cases s' with
  |bool q=>
   simp only[AMU] at hc
   cases ht:lk G.ty t with
   |none=>rw[ht] at hc;exact (A2 hc).elim
   |some u=>
    rw[ht] at hc
    cases u with
    |bool=>
     have hu:=(TyOk.at hG.ty ht).2.1 rfl
     cases b with
     |eql=>exact⟨_,hc,fun hE _ h=>AU1 h hN hu (hE _ _ hx) (hE _ _ hy)⟩
     |neq=>exact⟨_,hc,fun hE _ h=>AU2 h hN hu (hE _ _ hx) (hE _ _ hy)⟩
     |add|sub|mul|quo|rem|and|or|xor|andNot|lss|leq|gtr|geq|shl|shr=>exact (A2 hc).elim
    |int _|sl _|st _|arr _ _|mp _ _ _|fno _=>exact (A2 hc).elim
  |int _ _|dat _ _|ary _ _ _|own _|str _ _|agg _|ep _ _ _ _ _|fv _ _ _|fn _ _|nilS|raw _|it _ _|np _ _|ap _ _ _ _|undef|dead|tup _|rp _ _|ptr _ _=>exact (A2 hc).elim
 |agg l=>exact ALd hG hN hx hy hc
 |str n q=>exact ALd hG hN hx hy hc
 |dat _ _|ary _ _ _|own _|ep _ _ _ _ _|fv _ _ _|fn _ _|nilS|raw _|it _ _|np _ _|ap _ _ _ _|undef|dead|tup _|rp _ _|ptr _ _=>exact (A2 hc).elim
theorem ARC {e:Ty} {j:Nat} {xs:List (den e)} (h:C1 R (.sl e) (.own j)=some xs):∃ p e',R j=some (.own p (.sl e' e) xs):=by
 have h:(match R j with
  |some (.own _ c xs)=>H4 c.ty (.sl e) xs
  |_=>none)=some xs:=h
 cases hR:R j with
 |none=>rw[hR] at h;exact (A2 h).elim
 |some a=>
  rw[hR] at h
  cases a with
  |row _ _=>exact (A2 h).elim
  |own p c ys=>
   obtain⟨he,h⟩:=N1 h
   rcases c with⟨e',t'⟩|⟨m9,k9,v9⟩
   rotate_left
   . cases he
   cases he
   have h:ys=xs:=h
   subst h;exact⟨p,e',rfl⟩
theorem AS4 [Fx] [Sl (P:=P)] (hG:GxOk P G) (hN:Nat.blt d N=true) {t e b:Nat} {u:Ty} {x y:Operand} {s:SV} {k:IntKind} {i:Int} (hl:lk G.sl t=some (e,u,b)) (hx:E x=some s) (hy:E y=some (.int k i)) (hc:iaS R K u i s=some z):∃ as_,K as_=some z/\Does P N (some d) (.indexAddr t x y) E R as_:=by
 have key:A8 s=[]->(match C1 R (.sl u) s with
  |some xs=>Option.bind (ixo (show List (den u) from xs) i) fun z=>K [.put (.rp (F5 u z) 0)]
  |none=>none)=some z->∃ as_,K as_=some z/\Does P N (some d) (.indexAddr t x y) E R as_:=fun ho hc=>by
  cases hd:C1 R (.sl u) s with
  |none=>rw[hd] at hc;exact (A2 hc).elim
  |some xs=>
   rw[hd] at hc
   obtain⟨q,h1,h2⟩:=bindS hc
   exact⟨_,h2,fun hE hR h=>AU3 h hG hN hl (hE _ _ hx) ho (E3 hR _ _ hd) (hE _ _ hy) h1⟩
 cases s with
 |own j=>
  have hc:(match C1 R (.sl u) (.own j) with
   |some xs=>Option.bind (ixo (show List (den u) from xs) i) fun z=>K [.put (.ep j u i (some z) 0)]
   |none=>none)=some z:=hc
  cases hd:C1 R (.sl u) (.own j) with
  |none=>rw[hd] at hc;exact (A2 hc).elim
  |some xs=>
   rw[hd] at hc
   obtain⟨q,h1,h2⟩:=bindS hc
   obtain⟨p,e',hj⟩:=ARC hd
   exact⟨_,h2,fun hE hR h=>AU4 h hG hN hl (hE _ _ hx) (hR _ _ hj) (hE _ _ hy) h1⟩
 |dat _ _=>exact key rfl hc
 |nilS=>exact key rfl hc
 |int _ _|bool _|ary _ _ _|str _ _|agg _|ep _ _ _ _ _|fv _ _ _|fn _ _|raw _|it _ _|np _ _|ap _ _ _ _|undef|dead|tup _|rp _ _|ptr _ _=>exact (A2 hc).elim
theorem APG [Fx] [Sl (P:=P)] (hG:GxOk P G) (hN:Nat.blt d N=true) {t:Nat} {x:Operand} {v s:SV} (hx:E x=some v) (hc:AFg G R t v=some s):Does P N (some d) (.load t x) E R [.put s]:=by
 cases v with
 |rp v o=>exact fun hE _ h=>AQz h hG hN (hE _ _ hx) hc
 |ptr i o=>
  have hc:(match R i with
   |some (.row _ l)=>R1 G t o (.agg l)
   |_=>none)=some s:=hc
  cases hi:R i with
  |none=>rw[hi] at hc;exact (A2 hc).elim
  |some a=>
   rw[hi] at hc
   cases a with
   |own _ _ _=>exact (A2 hc).elim
   |row e l=>
    have hc:R1 G t o (.agg l)=some s:=hc
    intro w0 w Mu M σ L S ρ γ μ ι ops ds B X Z ty pos af hE hR h
    exact AQ0 h hG hN (hE _ _ hx) (hR _ _ hi) hc
 |ep i u ix q o=>
  cases q with
  |none=>exact (A2 hc).elim
  |some q=>exact fun hE _ h=>AQ1 h hG hN (hE _ _ hx) hc
 |int _ _|bool _|ary _ _ _|str _ _|agg _|fv _ _ _|fn _ _|raw _|it _ _|np _ _|ap _ _ _ _|undef|dead|tup _|dat _ _|own _|nilS=>exact (A2 hc).elim
theorem ARD [Fx] [Sl (P:=P)] (hG:GxOk P G) {t n:Nat} {x y:Operand} {s v:SV} {ns:List SV} (hy:E y=some s) (hs:R0 s=some ns) (hz:lk G.sz t=some n) (hn:P3 ns=some n) (hx:E x=some v) (hc:AOu R K ns v=some z):∃ as_,K as_=some z/\Does P N none (.store t x y) E R as_:=by
 cases v with
 |ptr i o=>
  have hc:(match R i with
   |some (.row e l)=>match setW l o ns with
    |some _=>K [.sto i o ns]
    |none=>none
   |_=>none)=some z:=hc
  cases hi:R i with
  |none=>rw[hi] at hc;exact (A2 hc).elim
  |some a=>
   rw[hi] at hc
   cases a with
   |own _ _ _=>exact (A2 hc).elim
   |row e l=>
    simp only at hc
    cases hw:setW l o ns with
    |none=>rw[hw] at hc;exact (A2 hc).elim
    |some l'=>
     rw[hw] at hc
     exact⟨_,hc,fun hE hR h=>AO6 h hG (hE _ _ hy) hs (hE _ _ hx) (hR _ _ hi) hw hz hn⟩
 |ep i u ix q o=>
  cases q with
  |none=>exact (A2 hc).elim
  |some q=>
   have hc:(match R i with
    |some (.own p (.sl e u') xs)=>match H4 (.sl u') (.sl u) xs with
     |some xs=>match setW (Rx.cellsOf (F5 u q)) o ns with
      |some l'=>match toP R u l' with
       |some z2=>match frz R (ownsLL ns) with
        |some fz=>match has (ownsLL ns) i with
         |true=>none
         |false=>Option.bind (AD8 (show List (den u) from xs) ix z2) fun m=>K (fz++[.cnt i (.sl e u) m])
        |none=>none
       |none=>none
      |none=>none
     |none=>none
    |_=>none)=some z:=hc
   cases hi:R i with
   |none=>rw[hi] at hc;exact (A2 hc).elim
   |some a=>
    rw[hi] at hc
    cases a with
    |row _ _=>exact (A2 hc).elim
    |own p c xs=>
     rcases c with⟨e,u'⟩|⟨m9,k9,v9⟩
     rotate_left
     . exact (A2 hc).elim
     simp only at hc
     cases hcd:H4 (.sl u') (.sl u) xs with
     |none=>rw[hcd] at hc;exact (A2 hc).elim
     |some xs'=>
      rw[hcd] at hc
      obtain⟨he,hcd⟩:=N1 hcd
      cases he
      have hcd:xs=xs':=hcd
      subst hcd
      simp only at hc
      cases hw:setW (Rx.cellsOf (F5 u q)) o ns with
      |none=>rw[hw] at hc;exact (A2 hc).elim
      |some l'=>
       rw[hw] at hc
       simp only at hc
       cases hd:toP R u l' with
       |none=>rw[hd] at hc;exact (A2 hc).elim
       |some z2=>
        rw[hd] at hc
        simp only at hc
        cases hf:frz R (ownsLL ns) with
        |none=>rw[hf] at hc;exact (A2 hc).elim
        |some fz=>
         rw[hf] at hc
         simp only at hc
         cases hh:has (ownsLL ns) i with
         |true=>rw[hh] at hc;exact (A2 hc).elim
         |false=>
          rw[hh] at hc
          obtain⟨m,h1,h2⟩:=bindS hc
          exact⟨_,h2,fun hE hR h=>AO8 h hG (hE _ _ hy) hs (hE _ _ hx) (hR _ _ hi) hw (AGh hR u hd) (P5 hR _ hf) hh h1 hz hn⟩
 |ap s0 n0 x0 k=>
  have hq:stA R K ns n0 x0 k s0=some z:=hc
  clear hc
  cases s0 with
  |ptr i o=>
   have hp:(match (generalizing:=false) R i with
    |some (.row _ l)=>(match (generalizing:=false) P2 l o with
     |some (.ary q n' xs)=>(match (generalizing:=false) Nat.beq n' n0,Nat.beq k 1,ns with
      |true,true,[.int q' v]=>(match kEq q' q with
       |true=>Option.bind (AD8 xs x0 v) fun m=>(match setW l o [.ary q n0 m] with
        |some _=>K [.sto i o [.ary q n0 m]]
        |none=>none)
       |false=>none)
      |_,_,_=>none)
     |_=>none)
    |_=>none)=some z:=hq
   clear hq
   cases hi:R i with
   |none=>rw[hi] at hp;exact (A2 hp).elim
   |some a=>
    rw[hi] at hp
    cases a with
    |own _ _ _=>exact (A2 hp).elim
    |row e l=>
     simp only at hp
     split at hp
     . rename_i q n' xs hcell
       split at hp
       . rename_i q' v hb hk
         have hb:=Nat.eq_of_beq_eq_true hb
         have hk:=Nat.eq_of_beq_eq_true hk
         subst hb;subst hk
         cases hk2:kEq q' q with
         |false=>rw[hk2] at hp;exact (A2 hp).elim
         |true=>
          rw[hk2] at hp
          have hk3:=ADg hk2
          subst hk3
          obtain⟨m,h1,h2⟩:=bindS hp
          cases hw:setW l o [.ary q' n' m] with
          |none=>simp only[hw] at h2;exact (A2 h2).elim
          |some l'=>
           simp only[hw] at h2
           have hn1:n=1:=by
            have hn:some 1=some n:=hn
            exact (Option.some.inj hn).symm
           subst hn1
           exact⟨_,h2,fun hE hR h=>APE h hG (hE _ _ hy) hs (hE _ _ hx) (hR _ _ hi) hcell h1 hw hz⟩
       . exact (A2 hp).elim
     . exact (A2 hp).elim
  |int _ _|bool _|ary _ _ _|str _ _|agg _|fv _ _ _|fn _ _|undef|dead|tup _|dat _ _|own _|nilS|raw _|it _ _|np _ _|ep _ _ _ _ _|rp _ _|ap _ _ _ _=>exact (A2 hq).elim
 |int _ _|bool _|ary _ _ _|str _ _|agg _|fv _ _ _|fn _ _|raw _|it _ _|np _ _|undef|dead|tup _|dat _ _|own _|nilS|rp _ _=>exact (A2 hc).elim
theorem ARE [Fx] (hN:Nat.blt d N=true) {t e:Nat} {x:Operand} {s:SV} (ht:P.underlying t=some (.slice e)) (hx:E x=some s) (hc:ASY R K s=some z):∃ as_,K as_=some z/\Does P N (some d) (.call ⟨.builtin .len,#[x],#[t]⟩) E R as_:=by
 cases s with
 |dat u xs=>
  cases u with
  |sl u=>exact⟨_,hc,fun hE _ h=>ASp h hN ht (hE _ _ hx)⟩
  |int _|bool|st _|arr _ _|mp _ _ _|fno _=>exact (A2 hc).elim
 |own i=>
  have hc:(match R i with
   |some (.own _ (.sl _ t) xs)=>K [.put (.int .i64 (show List (den t) from xs).length)]
   |_=>none)=some z:=hc
  cases hi:R i with
  |none=>rw[hi] at hc;exact (A2 hc).elim
  |some a=>
   rw[hi] at hc
   cases a with
   |row _ _=>exact (A2 hc).elim
   |own p c xs=>
    rcases c with⟨e,u⟩|⟨m9,k9,v9⟩
    rotate_left
    . exact (A2 hc).elim
    exact⟨_,hc,fun hE hR h=>ASq h hN ht (hE _ _ hx) (hR _ _ hi)⟩
 |nilS=>exact⟨_,hc,fun hE _ h=>ASr h hN ht (hE _ _ hx)⟩
 |int _ _|bool _|ary _ _ _|str _ _|agg _|fv _ _ _|fn _ _|raw _|it _ _|np _ _|ap _ _ _ _|undef|dead|tup _|rp _ _|ptr _ _|ep _ _ _ _ _=>exact (A2 hc).elim
theorem ARF [Fx] [Sl (P:=P)] (hG:GxOk P G) (hN:Nat.blt d N=true) {t e b:Nat} {u:Ty} {x y:Operand} {s v:SV} {ys:List (den u)} {fz:List Ac} (hl:lk G.sl t=some (e,u,b)) (hx:E x=some v) (hy:E y=some s) (hd:C1 R (.sl u) s=some ys) (hf:frz R (A8 s)=some fz) (hc:AMV d R K e u b fz (A8 s) ys v=some z) :
  ∃ as_,K as_=some z/\Does P N (some d) (.call ⟨.builtin .append,#[x,y],#[t,t]⟩) E R as_:=by
 cases v with
 |nilS=>
  have hc:Option.bind (appo b ([]:List (den u)) ys) (fun l=>K (fz++[.new d (.own false (.sl e u) l),.put (.own d)]))=some z:=hc
  obtain⟨l,h1,h2⟩:=bindS hc
  exact⟨_,h2,fun hE hR h=>ASs h hG hN hl (hE _ _ hx) (hE _ _ hy) (E3 hR _ _ hd) (P5 hR _ hf) h1⟩
 |own i=>
  have hc:(match R i with
   |some (.own p (.sl e' u') xs)=>match H4 (.sl u') (.sl u) xs with
    |some xs=>match has (A8 s) i with
     |true=>none
     |false=>match Nat.beq e' e with
      |true=>Option.bind (appo b (show List (den u) from xs) ys) fun l=>K (fz++[.hnd i (.own p (.sl e u) l),.put (.own i)])
      |false=>none
    |none=>none
   |_=>none)=some z:=hc
  cases hi:R i with
  |none=>rw[hi] at hc;exact (A2 hc).elim
  |some a=>
   rw[hi] at hc
   cases a with
   |row _ _=>exact (A2 hc).elim
   |own p c xs=>
    rcases c with⟨e',u'⟩|⟨m9,k9,v9⟩
    rotate_left
    . exact (A2 hc).elim
    simp only at hc
    cases hcd:H4 (.sl u') (.sl u) xs with
    |none=>rw[hcd] at hc;exact (A2 hc).elim
    |some xs'=>
     rw[hcd] at hc
     obtain⟨he,hcd⟩:=N1 hcd
     cases he
     have hcd:xs=xs':=hcd
     subst hcd
     simp only at hc
     cases hh:has (A8 s) i with
     |true=>rw[hh] at hc;exact (A2 hc).elim
     |false=>
      rw[hh] at hc
      simp only at hc
      cases hb:Nat.beq e' e with
      |false=>rw[hb] at hc;exact (A2 hc).elim
      |true=>
       rw[hb] at hc
       have:=Nat.eq_of_beq_eq_true hb
       subst this
       obtain⟨l,h1,h2⟩:=bindS hc
       exact⟨_,h2,fun hE hR h=>ASt h hG hN hl (hE _ _ hx) (hR _ _ hi) (fun hm=>by rw[has_iff.2 hm] at hh;cases hh) (hE _ _ hy) (E3 hR _ _ hd) (P5 hR _ hf) h1⟩
 |int _ _|bool _|ary _ _ _|str _ _|agg _|fv _ _ _|fn _ _|raw _|it _ _|np _ _|ap _ _ _ _|undef|dead|tup _|rp _ _|ptr _ _|ep _ _ _ _ _|dat _ _=>exact (A2 hc).elim
theorem AQM:∀ {xs:List Operand} {s:SV},evL E xs=some [s]->∃ x,xs=[x]/\E x=some s
 |[],_,h=>by cases h
 |x :: xs,s,h=>by
  simp only[evL] at h
  cases h1:E x with
  |none=>rw[h1] at h;exact (A2 h).elim
  |some a=>
   rw[h1] at h
   cases xs with
   |nil=>
    have h:[a]=[s]:=Option.some.inj h
    cases h;exact⟨x,rfl,h1⟩
   |cons y r=>
    simp only[evL] at h
    cases h2:E y with
    |none=>rw[h2] at h;exact (A2 h).elim
    |some c=>
     rw[h2] at h
     cases h3:evL E r with
     |none=>rw[h3] at h;exact (A2 h).elim
     |some q=>rw[h3] at h;cases h
theorem AJM:∀ {xs:List Operand} {s s':SV},evL E xs=some [s,s']->∃ x y,xs=[x,y]/\E x=some s/\E y=some s'
 |[],_,_,h=>by cases h
 |x :: xs,s,s',h=>by
  simp only[evL] at h
  cases h1:E x with
  |none=>rw[h1] at h;exact (A2 h).elim
  |some a=>
   rw[h1] at h
   cases h2:evL E xs with
   |none=>rw[h2] at h;exact (A2 h).elim
   |some r=>
    rw[h2] at h
    have h:a :: r=[s,s']:=Option.some.inj h
    cases h
    obtain⟨y,rfl,h3⟩:=AQM h2
    exact⟨x,y,rfl,h1,h3⟩
theorem ALe {f:Int->Int->Int} {s s':SV} (hc:mmS K f s s'=some z):∃ k i j,s=.int k i/\s'=.int k j/\K [.put (.int k (f i j))]=some z:=by
 cases s with
 |int k i=>
  cases s' with
  |int k' j=>
   have hq:(match kEq k k' with
    |true=>K [.put (.int k (f i j))]
    |false=>none)=some z:=hc
   cases hk:kEq k k' with
   |false=>rw[hk] at hq;exact (A2 hq).elim
   |true=>
    rw[hk] at hq
    have:=ADg hk
    subst this
    exact⟨k,i,j,rfl,rfl,hq⟩
  |bool _|ary _ _ _|str _ _|agg _|fv _ _ _|fn _ _|raw _|it _ _|np _ _|ap _ _ _ _|undef|dead|tup _|rp _ _|ptr _ _|ep _ _ _ _ _|dat _ _|own _|nilS=>exact (A2 hc).elim
 |bool _|ary _ _ _|str _ _|agg _|fv _ _ _|fn _ _|raw _|it _ _|np _ _|ap _ _ _ _|undef|dead|tup _|rp _ _|ptr _ _|ep _ _ _ _ _|dat _ _|own _|nilS=>exact (A2 hc).elim
theorem AS5 [Fx] (hG:GxOk P G) (hN:Nat.blt d N=true) {t:TypeId} {x y:Operand} {s:SV} {k:IntKind} {i:Int} (hx:E x=some s) (hy:E y=some (.int k i)) (hc:iaA G K t i s=some z):∃ as_,K as_=some z/\Does P N (some d) (.indexAddr t x y) E R as_:=by
 unfold iaA at hc
 cases hl:lk G.ar t with
 |none=>rw[hl] at hc;exact (A2 hc).elim
 |some q=>
  obtain⟨len,m⟩:=q
  rw[hl] at hc
  obtain⟨j,h1,h2⟩:=bindS hc
  cases hr:apS len m j s with
  |none=>simp only[hr] at h2;exact (A2 h2).elim
  |some r=>simp only[hr] at h2;exact⟨_,h2,fun hE _ h=>AU8 h hG hN hl (hE _ _ hx) (hE _ _ hy) h1 hr⟩
theorem AMn {R':Nat->Option AR} (hR:∀ i a,R i=some a->R' i=some a) {s:SV} {q:IntKind×Nat×List Int} (h:AEH R s=some q):AEH R' s=some q:=by
 cases s with
 |rp v o=>exact h
 |ptr i o=>
  have h:(match R i with
   |some (.row _ l)=>(match P2 l o with
    |some (.ary k n l)=>some (k,n,l)
    |_=>none)
   |_=>none)=some q:=h
  show (match R' i with
   |some (.row _ l)=>(match P2 l o with
    |some (.ary k n l)=>some (k,n,l)
    |_=>none)
   |_=>none)=some q
  cases hi:R i with
  |none=>rw[hi] at h;exact (A2 h).elim
  |some a=>rw[hi] at h;rw[hR i a hi];exact h
 |int _ _|bool _|ary _ _ _|str _ _|agg _|fv _ _ _|fn _ _|undef|dead|tup _|dat _ _|own _|nilS|raw _|it _ _|np _ _|ep _ _ _ _ _|ap _ _ _ _=>exact (A2 h).elim
theorem AS6 [Fx] [Sl (P:=P)] (hG:GxOk P G) (hN:Nat.blt d N=true) {t:TypeId} {x:Operand} {v:SV} (hx:E x=some v) (hc:ldA G R K t v=some z):∃ as_,K as_=some z/\Does P N (some d) (.load t x) E R as_:=by
 cases v with
 |ap s n x0 k=>
  have hq:(match (generalizing:=false) lk G.tb.ag t,Nat.beq k 1 with
   |some 0,true=>(match AEH R s with
    |some (q,n',l)=>(match Nat.beq n' n with
     |true=>Option.bind (ixo l x0) fun y=>K [.put (.int q y)]
     |false=>none)
    |none=>none)
   |_,_=>none)=some z:=hc
  clear hc
  split at hq
  . rename_i ha hk
    have hk:=Nat.eq_of_beq_eq_true hk
    subst hk
    cases hs:AEH R s with
    |none=>rw[hs] at hq;exact (A2 hq).elim
    |some q=>
     obtain⟨q,n',l⟩:=q
     rw[hs] at hq
     simp only at hq
     cases hb:Nat.beq n' n with
     |false=>rw[hb] at hq;exact (A2 hq).elim
     |true=>
      have hb':=Nat.eq_of_beq_eq_true hb
      rw[hb] at hq
      subst hb'
      obtain⟨y,h1,h2⟩:=bindS hq
      exact⟨_,h2,fun hE hR h=>ARA h hG hN ha (hE _ _ hx) (AMn hR hs) h1⟩
  . exact (A2 hq).elim
 |int _ _|bool _|ary _ _ _|str _ _|agg _|fv _ _ _|fn _ _|undef|dead|tup _|dat _ _|own _|nilS|raw _|it _ _|np _ _|ep _ _ _ _ _|rp _ _|ptr _ _=>exact (A2 hc).elim
theorem ARG [Fx] [Sl (P:=P)] (hG:GxOk P G) (hN:Nat.blt d N=true) {t:TypeId} {x:Operand} {s:SV} (hx:E x=some s) (hc:AOx G R K t s=some z):∃ as_,K as_=some z/\Does P N (some d) (.call ⟨.builtin .len,#[x],#[t]⟩) E R as_:=by
 unfold AOx at hc
 cases hl:lk G.mp t with
 |none=>rw[hl] at hc;exact (A2 hc).elim
 |some q=>
  obtain⟨m,e,k,v⟩:=q
  rw[hl] at hc
  simp only at hc
  cases hd:C1 R (.mp m k v) s with
  |none=>rw[hd] at hc;exact (A2 hc).elim
  |some f=>
   rw[hd] at hc
   obtain⟨n,h1,h2⟩:=bindS hc
   exact⟨_,h2,fun hE hR h=>AS1 h hG hN hl (hE _ _ hx) (E3 hR _ _ hd) h1⟩
theorem ARH [Fx] (hG:GxOk P G) (hN:Nat.blt d N=true) {t:TypeId} (hc:AOv G d K t=some z):∃ as_,K as_=some z/\Does P N (some d) (.makeMap t none) E R as_:=by
 unfold AOv at hc
 cases hl:lk G.mp t with
 |none=>rw[hl] at hc;exact (A2 hc).elim
 |some q=>
  obtain⟨m,e,k,v⟩:=q
  rw[hl] at hc
  exact⟨_,hc,fun _ _ h=>ANr h hG hN hl⟩
theorem ARI [Fx] [Sl (P:=P)] (hG:GxOk P G) (hN:Nat.blt d N=true) {t:TypeId} {cm:Bool} {x y:Operand} {sx sy:SV} (hx:E x=some sx) (hy:E y=some sy) (hc:AMW G R K t cm sx sy=some z):∃ as_,K as_=some z/\Does P N (some d) (.lookup t x y cm) E R as_:=by
 unfold AMW at hc
 cases hl:lk G.mp t with
 |none=>rw[hl] at hc;exact (A2 hc).elim
 |some q=>
  obtain⟨m,e,k,v⟩:=q
  rw[hl] at hc
  simp only at hc
  cases hd:C1 R (.mp m k v) sx with
  |none=>rw[hd] at hc;exact (A2 hc).elim
  |some f=>
   rw[hd] at hc
   simp only at hc
   cases ho:A8 sy with
   |cons _ _=>rw[ho] at hc;exact (A2 hc).elim
   |nil=>
    rw[ho] at hc
    simp only at hc
    cases ha:C1 R k sy with
    |none=>rw[ha] at hc;exact (A2 hc).elim
    |some a=>
     rw[ha] at hc
     simp only at hc
     cases hz:zdM v with
     |none=>rw[hz] at hc;exact (A2 hc).elim
     |some z0=>
      rw[hz] at hc
      exact⟨_,hc,fun hE hR h=>APA h hG hN hl (hE _ _ hx) (E3 hR _ _ hd) (hE _ _ hy) ho (E3 hR _ _ ha) hz⟩
theorem ALf [Fx] [Sl (P:=P)] (hG:GxOk P G) {t:TypeId} {x y u:Operand} {sx sy su:SV} (hx:E x=some sx) (hy:E y=some sy) (hu:E u=some su) (hc:AH7 G R K t sx sy su=some z):∃ as_,K as_=some z/\Does P N none (.mapUpdate t x y u) E R as_:=by
 unfold AH7 at hc
 cases hl:lk G.mp t with
 |none=>rw[hl] at hc;exact (A2 hc).elim
 |some q=>
  obtain⟨m,e,k,v⟩:=q
  rw[hl] at hc
  simp only at hc
  cases hd:AJw R m k v sx with
  |none=>rw[hd] at hc;exact (A2 hc).elim
  |some q=>
   obtain⟨i,f⟩:=q
   rw[hd] at hc
   simp only at hc
   cases ho:A8 sy with
   |cons _ _=>rw[ho] at hc;exact (A2 hc).elim
   |nil=>
    rw[ho] at hc
    simp only at hc
    cases ha:C1 R k sy with
    |none=>rw[ha] at hc;exact (A2 hc).elim
    |some a=>
     rw[ha] at hc
     simp only at hc
     cases hh:has (A8 su) i with
     |true=>rw[hh] at hc;exact (A2 hc).elim
     |false=>
      rw[hh] at hc
      simp only at hc
      cases hz:C1 R v su with
      |none=>rw[hz] at hc;exact (A2 hc).elim
      |some z0=>
       rw[hz] at hc
       simp only at hc
       cases hf:frz R (A8 su) with
       |none=>rw[hf] at hc;exact (A2 hc).elim
       |some fz=>
        rw[hf] at hc
        obtain⟨he,hi⟩:=AIk hd
        subst he
        exact⟨_,hc,fun hE hR h=>ALH h hG hl (hE _ _ hx) (hR _ _ hi) (hE _ _ hy) ho (E3 hR _ _ ha) (hE _ _ hu) hh (E3 hR _ _ hz) (P5 hR _ hf)⟩
theorem Does.ins [Fx] {t:TypeId} {x y u:Operand} {as_:List Ac} (h:Does P N none (.mapUpdate t x y u) E R as_):Does P N none (.insert t x y u) E R as_:=fun {w0 w Mu M σ L S ρ γ μ ι ops ds B X Z ty pos af} hE hR hS=>by
 have h1:=h (ops:=ops) (ds:=ds) (B:=B) (X:=X) (Z:=Z) (ty:=ty) (pos:=pos) (af:=af) hE hR hS
 intro a ha
 exact h1 a ha
theorem ARJ [Fx] [Sl (P:=P)] (hG:GxOk P G) {t t':TypeId} {x y:Operand} {sx sy:SV} (hx:E x=some sx) (hy:E y=some sy) (hc:AOw G R K t sx sy=some z):∃ as_,K as_=some z/\Does P N none (.call ⟨.builtin .delete,#[x,y],#[t,t']⟩) E R as_:=by
 unfold AOw at hc
 cases hl:lk G.mp t with
 |none=>rw[hl] at hc;exact (A2 hc).elim
 |some q=>
  obtain⟨m,e,k,v⟩:=q
  rw[hl] at hc
  simp only at hc
  cases hd:AJw R m k v sx with
  |none=>rw[hd] at hc;exact (A2 hc).elim
  |some q=>
   obtain⟨i,f⟩:=q
   rw[hd] at hc
   simp only at hc
   cases ho:A8 sy with
   |cons _ _=>rw[ho] at hc;exact (A2 hc).elim
   |nil=>
    rw[ho] at hc
    simp only at hc
    cases ha:C1 R k sy with
    |none=>rw[ha] at hc;exact (A2 hc).elim
    |some a=>
     rw[ha] at hc
     obtain⟨he,hi⟩:=AIk hd
     subst he
     exact⟨_,hc,fun hE hR h=>APB h hG hl (hE _ _ hx) (hR _ _ hi) (hE _ _ hy) ho (E3 hR _ _ ha)⟩
theorem ARK [Fx] [Sl (P:=P)] (hG:GxOk P G) (hN:Nat.blt d N=true) {b:Builtin} (hdl:b≠.delete) {xs:Array Operand} {ts:Array TypeId} {ss:List SV} (hx:evL E xs.toList=some ss) (hc:AEI G d R K b ss ts.toList=some z):∃ as_,K as_=some z/\Does P N (some d) (.call ⟨.builtin b,xs,ts⟩) E R as_:=by
 obtain⟨xs⟩:=xs
 obtain⟨ts⟩:=ts
 simp only at hx hc
 unfold AEI at hc
 split at hc
 . rename_i s t
   obtain⟨x,rfl,hx1⟩:=AQM hx
   cases hl:lk G.sl t with
   |none=>rw[hl] at hc;exact ARG hG hN hx1 hc
   |some q=>
    obtain⟨e,u,n⟩:=q
    rw[hl] at hc
    exact ARE hN (SlOk.at hG.sl hl).und hx1 hc
 . exact absurd rfl hdl
 . obtain⟨x,y,rfl,hx1,hy1⟩:=AJM hx
   obtain⟨k,i,j,e1,e2,hq⟩:=ALe hc
   subst e1;subst e2
   exact⟨_,hq,fun hE _ h=>AU6 h hN (hE _ _ hx1) (hE _ _ hy1)⟩
 . obtain⟨x,y,rfl,hx1,hy1⟩:=AJM hx
   obtain⟨k,i,j,e1,e2,hq⟩:=ALe hc
   subst e1;subst e2
   exact⟨_,hq,fun hE _ h=>AU7 h hN (hE _ _ hx1) (hE _ _ hy1)⟩
 . rename_i v s t t'
   obtain⟨x,y,rfl,hx1,hy1⟩:=AJM hx
   split at hc
   . rename_i e u n hb hl
     have:=Nat.eq_of_beq_eq_true hb
     subst this
     cases hd:C1 R (.sl u) s with
     |none=>rw[hd] at hc;exact (A2 hc).elim
     |some ys=>
      rw[hd] at hc
      simp only at hc
      cases hf:frz R (A8 s) with
      |none=>rw[hf] at hc;exact (A2 hc).elim
      |some fz=>
       rw[hf] at hc
       exact ARF hG hN hl hx1 hy1 hd hf hc
   . exact (A2 hc).elim
 . exact (A2 hc).elim
theorem AAx [Sl (P:=P)] {Z:Type} {z:Z}:∀ {ss:List SV} {K:List SV->Option Z},R3 ss K=some z->∃ ss',K ss'=some z/\∀ ρ R M w vs,OkV (P:=P) ρ R M w ss vs->OkV (P:=P) ρ R M w ss' vs
 |[],K,h=>⟨[],h,fun _ _ _ _ _ h=>h⟩
 |s :: l,K,h=>by
  have key:R3 l (fun r=>K (s :: r))=some z->∃ ss',K ss'=some z/\∀ ρ R M w vs,OkV (P:=P) ρ R M w (s :: l) vs->OkV (P:=P) ρ R M w ss' vs:=fun h=>by
   obtain⟨ss',h1,h2⟩:=AAx h
   refine⟨_,h1,fun ρ R M w vs hk=>?_⟩
   obtain⟨u,r,rfl,h3,h4⟩:=hk
   exact⟨u,r,rfl,h3,h2 _ _ _ _ _ h4⟩
  cases s with
  |np t x=>
   have h:Option.bind x (fun y=>R3 l fun r=>K (.rp (F5 t y) 0 :: r))=some z:=h
   obtain⟨y,rfl,h⟩:=bindS h
   obtain⟨ss',h1,h2⟩:=AAx h
   refine⟨_,h1,fun ρ R M w vs hk=>?_⟩
   obtain⟨u,r,rfl,h3,h4⟩:=hk
   refine⟨u,r,rfl,?_,h2 _ _ _ _ _ h4⟩
   rcases h3 with⟨h3,_⟩|⟨y',b,o,vs,h3,rfl,h5,h6⟩
   . cases h3
   . cases h3
     obtain⟨u,h7,h8⟩:=I3 h6
     exact⟨b,o,u,vs,rfl,h5,D6 t h7,h8⟩
  |_=>exact key h
theorem AKL [Fx] [Sl (P:=P)] (hG:GxOk P G) {d:Option Nat} {id:Nat} (hN:(match d with|some d=>Nat.blt d N|none=>true)=true) {f:Operand} {g:Nat} {xs:Array Operand} {ts:Array TypeId} {caps ss ss':List SV} (hop:∀ ρ R M w vs,OkV (P:=P) ρ R M w (ss++caps) vs->OkV (P:=P) ρ R M w ss' vs) (hf:E f=some (.fn g caps)) (hx:evL E xs.toList=some ss) (hc:AHD G id R K g ss'=some z):∃ as_,K as_=some z/\Does P N d (.call ⟨.value f,xs,ts⟩) E R as_:=by
 unfold AHD at hc
 cases h1:A1 G.fs g with
 |none=>rw[h1] at hc;exact (A2 hc).elim
 |some c=>
  rw[h1] at hc
  simp only at hc
  cases h2:H5 G R c.ps ss' with
  |none=>rw[h2] at hc;exact (A2 hc).elim
  |some a=>
   rw[h2] at hc
   simp only at hc
   cases h3:(bif AAX c.rs then some [] else frz R (ownsLL ss')) with
   |none=>rw[h3] at hc;exact (A2 hc).elim
   |some fz=>
    rw[h3] at hc
    obtain⟨r,h4,h5⟩:=bindS hc
    refine⟨_,h5,?_⟩
    intro w0 w Mu M σ L S ρ γ μ ι ops ds B X Z ty pos af hE hR h
    have h6:(bif AAX c.rs then some [] else frz (A1 σ.res) (ownsLL ss'))=some fz:=by
     cases hp:AAX c.rs with
     |true=>rw[hp,cond_true] at h3;rw[cond_true];exact h3
     |false=>rw[hp,cond_false] at h3;rw[cond_false];exact P5 hR _ h3
    exact ASu h hG hN hop (hE _ _ hf) (ACq hE _ hx) h1 (AHW hR _ _ h2) h6 h4
theorem ANx {o:Option SV} {g:Nat} {l:List SV} (h:fvN G o=some (.fn g l)):o=some (.fn g l):=by
 unfold fvN at h
 split at h
 . split at h
   . split at h
     . cases h
     . cases h
   . cases h
 . exact h
theorem AS7 [Fx] (hG:GxOk P G) {w0 w:World} {Mu M:List Nat} {σ:AS} {L:A7} {S:List Res} {ρ:Nat->Value} {γ:Nat->List Value} {μ:Nat->List Nat} {ι:Nat->Nat} (h:HS w0 Mu M σ L w S ρ γ μ ι) (hE:∀ x s,E x=some s->B4 σ.env x=some s) {f:Operand} {a:List Ty} {r:Ty} {F:P1 a r} (hf:fvN G (E f)=some (.fv a r F)):∃ v,Sx.ev L f=some v/\FnOk (P:=P) (mm S M) w v a r F:=by
 unfold fvN at hf
 split at hf
 . rename_i t n he
   split at hf
   . split at hf
     . rename_i q hq
       cases hf
       obtain⟨v,h1,_,cs,h2,h3|h3⟩:=h.ev (hE _ _ he)
       . cases h3.1
       . have h2:cs=[.func (.func _) #[] #[]]:=h2
         rw[h2] at h3
         have:=(List.singleton_inj.1 h3.2).symm
         exact⟨v,h1,this▸FdOk.at hG.fd hq _ _ _ h.anch.2⟩
     . cases hf
   . cases hf
 . obtain⟨v,h1,h2⟩:=h.ev (hE _ _ hf)
   exact⟨v,h1,h2.1⟩
theorem AKM [Fx] [Sl (P:=P)] {d:Option Nat} (hN:(match d with|some d=>Nat.blt d N|none=>true)=true) {f:Operand} {xs:Array Operand} {ts:Array TypeId} {ss:List SV} {a:List Ty} {r:Ty} {F:P1 a r} {o:Option (den r)} {fz:List Ac} (hG:GxOk P G) (hf:fvN G (E f)=some (.fv a r F)) (hx:evL E xs.toList=some ss) (h1:Y4 r a F R ss=some o) (h2:frz R (ownsLL ss)=some fz) (hc:Option.bind o (fun y=>K (fz++[.put (F5 r y)]))=some z):∃ as_,K as_=some z/\Does P N d (.call ⟨.value f,xs,ts⟩) E R as_:=by
 obtain⟨y,h3,h4⟩:=bindS hc
 exact⟨_,h4,fun hE hR h=>AQ6 h hN (AS7 hG h hE hf) (ACq hE _ hx) (AHY hR _ _ _ h1) (P5 hR _ h2) h3⟩
end
end Go.Rx
namespace Go.Rx
open Go Go.Sx Go.RowKit
variable [Trk] [Sg] [Sf] {P:Program} [Se P]
variable [Anch]
section
variable {N:Nat} {G:Gx} {E:Operand->Option SV} {R:Nat->Option AR} {Y:Type} {K:List Ac->Option Y} {z:Y} {d:Nat}
theorem APH [Fx] [Sl (P:=P)] (hG:GxOk P G) (hN:Nat.blt d N=true) {op:Op} (hst:∀ t x y,op≠.store t x y) (hmu:∀ t x y u,op≠.mapUpdate t x y u/\op≠.insert t x y u) (hdl:∀ xs ts,op≠.call ⟨.builtin .delete,xs,ts⟩) (hc:AFC G d E R K op=some z):∃ as_,K as_=some z/\Does P N (some d) op E R as_:=by
 cases op with
 |move x=>
  have hc:(match E x with
   |some s=>K [.put s]
   |none=>none)=some z:=hc
  cases hx:E x with
  |none=>rw[hx] at hc;exact (A2 hc).elim
  |some s=>rw[hx] at hc;exact⟨_,hc,fun hE _ h=>ASn h hN (hE _ _ hx)⟩
 |assign x=>
  have hc:(match E x with
   |some s=>K [.put s]
   |none=>none)=some z:=hc
  cases hx:E x with
  |none=>rw[hx] at hc;exact (A2 hc).elim
  |some s=>rw[hx] at hc;exact⟨_,hc,fun hE _ h=>AO4 h hN (hE _ _ hx)⟩
 |pick c a b=>
  have hc:(match E c with
   |some (.bool t)=>cond t (match E a with
    |some x=>K [.put x]
    |none=>none) (match E b with
    |some y=>K [.put y]
    |none=>none)
   |_=>none)=some z:=hc
  cases hx:E c with
  |none=>rw[hx] at hc;exact (A2 hc).elim
  |some s=>
   rw[hx] at hc
   cases s with
   |bool t=>
    cases t with
    |true=>
     simp only[cond_true] at hc
     cases ha:E a with
     |none=>rw[ha] at hc;exact (A2 hc).elim
     |some s=>rw[ha] at hc;exact⟨_,hc,fun hE _ h=>ANl h hN (hE _ _ hx) (hE _ _ ha)⟩
    |false=>
     simp only[cond_false] at hc
     cases ha:E b with
     |none=>rw[ha] at hc;exact (A2 hc).elim
     |some s=>rw[ha] at hc;exact⟨_,hc,fun hE _ h=>ANl h hN (hE _ _ hx) (hE _ _ ha)⟩
   |int _ _|ary _ _ _|str _ _|agg _|fv _ _ _|fn _ _|raw _|it _ _|np _ _|ap _ _ _ _|undef|dead|tup _|rp _ _|ptr _ _|ep _ _ _ _ _|dat _ _|own _|nilS=>exact (A2 hc).elim
 |nilCheck x=>
  have hc:(match E x with
   |some (.rp v o)=>K [.put (.rp v o)]
   |some (.ptr i o)=>K [.put (.ptr i o)]
   |some (.np t x)=>Option.bind x fun y=>K [.put (.rp (F5 t y) 0)]
   |_=>none)=some z:=hc
  cases hx:E x with
  |none=>rw[hx] at hc;exact (A2 hc).elim
  |some s=>
   rw[hx] at hc
   cases s with
   |rp v o=>exact⟨_,hc,fun hE _ h=>AHP h hN (hE _ _ hx) (.inl ⟨v,o,rfl⟩)⟩
   |ptr i o=>exact⟨_,hc,fun hE _ h=>AHP h hN (hE _ _ hx) (.inr ⟨i,o,rfl⟩)⟩
   |np t q=>
    obtain⟨y,h1,h2⟩:=bindS hc
    exact⟨_,h2,fun hE _ h=>ASo h hN (hE _ _ hx) h1⟩
   |int _ _|bool _|ary _ _ _|str _ _|agg _|fv _ _ _|fn _ _|raw _|it _ _|ap _ _ _ _|undef|dead|tup _|ep _ _ _ _ _|dat _ _|own _|nilS=>exact (A2 hc).elim
 |unOp u t x=>
  cases u with
  |not=>
   have hc:(match E x with
    |some (.bool b)=>K [.put (.bool (!b))]
    |_=>none)=some z:=hc
   cases hx:E x with
   |none=>rw[hx] at hc;exact (A2 hc).elim
   |some s=>
    rw[hx] at hc
    cases s with
    |bool b=>exact⟨_,hc,fun hE _ h=>AUq h hN (hE _ _ hx)⟩
    |int _ _|ary _ _ _|str _ _|agg _|fv _ _ _|fn _ _|raw _|it _ _|np _ _|ap _ _ _ _|undef|dead|tup _|rp _ _|ptr _ _|ep _ _ _ _ _|dat _ _|own _|nilS=>exact (A2 hc).elim
  |neg=>
   have hc:(match E x with
    |some (.int k i)=>Option.bind (chk k (-i)) fun n=>K [.put (.int k n)]
    |_=>none)=some z:=hc
   cases hx:E x with
   |none=>rw[hx] at hc;exact (A2 hc).elim
   |some s=>
    rw[hx] at hc
    cases s with
    |int k i=>
     obtain⟨n,h1,h2⟩:=bindS hc
     exact⟨_,h2,fun hE _ h=>AUr h hN (hE _ _ hx) h1⟩
    |bool _|ary _ _ _|str _ _|agg _|fv _ _ _|fn _ _|raw _|it _ _|np _ _|ap _ _ _ _|undef|dead|tup _|rp _ _|ptr _ _|ep _ _ _ _ _|dat _ _|own _|nilS=>exact (A2 hc).elim
  |xor|plus=>exact (A2 hc).elim
 |convert s t x=>
  have hc:(match lk G.ty s with
   |some (.int _)=>match lk G.ty t with
    |some (.int k)=>match E x with
     |some (.int _ i)=>Option.bind (chk k i) fun n=>K [.put (.int k n)]
     |_=>none
    |_=>none
   |_=>none)=some z:=hc
  cases h1:lk G.ty s with
  |none=>rw[h1] at hc;exact (A2 hc).elim
  |some u=>
   rw[h1] at hc
   cases u with
   |int k0=>
    simp only at hc
    cases h2:lk G.ty t with
    |none=>rw[h2] at hc;exact (A2 hc).elim
    |some u=>
     rw[h2] at hc
     cases u with
     |int k=>
      simp only at hc
      cases hx:E x with
      |none=>rw[hx] at hc;exact (A2 hc).elim
      |some s=>
       rw[hx] at hc
       cases s with
       |int k' i=>
        obtain⟨n,h3,h4⟩:=bindS hc
        exact⟨_,h4,fun hE _ h=>ANm h hN ((TyOk.at hG.ty h1).1 _ rfl) ((TyOk.at hG.ty h2).1 _ rfl) (hE _ _ hx) h3⟩
       |bool _|ary _ _ _|str _ _|agg _|fv _ _ _|fn _ _|raw _|it _ _|np _ _|ap _ _ _ _|undef|dead|tup _|rp _ _|ptr _ _|ep _ _ _ _ _|dat _ _|own _|nilS=>exact (A2 hc).elim
     |bool|sl _|st _|arr _ _|mp _ _ _|fno _=>exact (A2 hc).elim
   |bool|sl _|st _|arr _ _|mp _ _ _|fno _=>exact (A2 hc).elim
 |binOp b t x y t'=>
  have hc:(match E x with
   |some s=>match E y with
    |some s'=>AMU G R K b t s s'
    |none=>none
   |none=>none)=some z:=hc
  cases hx:E x with
  |none=>rw[hx] at hc;exact (A2 hc).elim
  |some s=>
   rw[hx] at hc
   simp only at hc
   cases hy:E y with
   |none=>rw[hy] at hc;exact (A2 hc).elim
   |some s'=>rw[hy] at hc;exact ARB hG hN hx hy hc
 |indexAddr t x y=>
  have hc:(match lk G.sl t with
   |some (_,e,_)=>match E y with
    |some (.int _ i)=>match E x with
     |some s=>iaS R K e i s
     |none=>none
    |_=>none
   |none=>match E y with
    |some (.int _ i)=>match E x with
     |some s=>iaA G K t i s
     |none=>none
    |_=>none)=some z:=hc
  cases hl:lk G.sl t with
  |none=>
   rw[hl] at hc
   simp only at hc
   cases hy:E y with
   |none=>rw[hy] at hc;exact (A2 hc).elim
   |some s=>
    rw[hy] at hc
    cases s with
    |int k i=>
     simp only at hc
     cases hx:E x with
     |none=>rw[hx] at hc;exact (A2 hc).elim
     |some s=>rw[hx] at hc;exact AS5 hG hN hx hy hc
    |bool _|ary _ _ _|str _ _|agg _|fv _ _ _|fn _ _|raw _|it _ _|np _ _|ap _ _ _ _|undef|dead|tup _|rp _ _|ptr _ _|ep _ _ _ _ _|dat _ _|own _|nilS=>exact (A2 hc).elim
  |some q=>
   obtain⟨e,u,b⟩:=q
   rw[hl] at hc
   simp only at hc
   cases hy:E y with
   |none=>rw[hy] at hc;exact (A2 hc).elim
   |some s=>
    rw[hy] at hc
    cases s with
    |int k i=>
     simp only at hc
     cases hx:E x with
     |none=>rw[hx] at hc;exact (A2 hc).elim
     |some s=>rw[hx] at hc;exact AS4 hG hN hl hx hy hc
    |bool _|ary _ _ _|str _ _|agg _|fv _ _ _|fn _ _|raw _|it _ _|np _ _|ap _ _ _ _|undef|dead|tup _|rp _ _|ptr _ _|ep _ _ _ _ _|dat _ _|own _|nilS=>exact (A2 hc).elim
 |fieldAddr s x f=>
  have hc:(match lk G.tb.st s with
   |some l=>match nth l f with
    |some (k,_)=>match E x with
     |some v=>match ASV k v with
      |some r=>K [.put r]
      |none=>none
     |none=>none
    |none=>none
   |none=>none)=some z:=hc
  cases h1:lk G.tb.st s with
  |none=>rw[h1] at hc;exact (A2 hc).elim
  |some l=>
   rw[h1] at hc
   simp only at hc
   cases h2:nth l f with
   |none=>rw[h2] at hc;exact (A2 hc).elim
   |some q=>
    obtain⟨k,u⟩:=q
    rw[h2] at hc
    simp only at hc
    cases hx:E x with
    |none=>rw[hx] at hc;exact (A2 hc).elim
    |some v=>
     rw[hx] at hc
     simp only at hc
     cases v with
     |rp v o=>exact⟨_,hc,fun hE _ h=>ADX h hG hN h1 h2 (hE _ _ hx) (.inl ⟨v,o,rfl,rfl⟩)⟩
     |ptr i o=>exact⟨_,hc,fun hE _ h=>ADX h hG hN h1 h2 (hE _ _ hx) (.inr (.inl ⟨i,o,rfl,rfl⟩))⟩
     |ep i t ix q o=>exact⟨_,hc,fun hE _ h=>ADX h hG hN h1 h2 (hE _ _ hx) (.inr (.inr ⟨i,t,ix,q,o,rfl,rfl⟩))⟩
     |int _ _|bool _|ary _ _ _|str _ _|agg _|fv _ _ _|fn _ _|raw _|it _ _|np _ _|ap _ _ _ _|undef|dead|tup _|dat _ _|own _|nilS=>exact (A2 hc).elim
 |field s x f=>
  have hc:(match lk G.tb.st s with
   |some l=>match nth l f with
    |some (k,u)=>match E x with
     |some v=>match R1 G u k v with
      |some r=>match ADS v with
       |true=>K [.put r]
       |false=>none
      |none=>none
     |none=>none
    |none=>none
   |none=>none)=some z:=hc
  cases h1:lk G.tb.st s with
  |none=>rw[h1] at hc;exact (A2 hc).elim
  |some l=>
   rw[h1] at hc
   simp only at hc
   cases h2:nth l f with
   |none=>rw[h2] at hc;exact (A2 hc).elim
   |some q=>
    obtain⟨k,u⟩:=q
    rw[h2] at hc
    simp only at hc
    cases hx:E x with
    |none=>rw[hx] at hc;exact (A2 hc).elim
    |some v=>
     rw[hx] at hc
     simp only at hc
     cases h3:R1 G u k v with
     |none=>rw[h3] at hc;exact (A2 hc).elim
     |some r=>
      rw[h3] at hc
      simp only at hc
      cases h4:ADS v with
      |false=>rw[h4] at hc;exact (A2 hc).elim
      |true=>rw[h4] at hc;exact⟨_,hc,fun hE _ h=>AQ3 h hG hN h1 h2 (hE _ _ hx) h3 h4⟩
 |extract x i=>
  have hc:(match E x with
   |some (.tup l)=>match nth l i with
    |some s=>K [.put s]
    |none=>none
   |_=>none)=some z:=hc
  cases hx:E x with
  |none=>rw[hx] at hc;exact (A2 hc).elim
  |some v=>
   rw[hx] at hc
   cases v with
   |tup l=>
    simp only at hc
    cases h2:nth l i with
    |none=>rw[h2] at hc;exact (A2 hc).elim
    |some s=>rw[h2] at hc;exact⟨_,hc,fun hE _ h=>ANn h hN (hE _ _ hx) h2⟩
   |int _ _|bool _|ary _ _ _|str _ _|agg _|fv _ _ _|fn _ _|raw _|it _ _|np _ _|ap _ _ _ _|undef|dead|rp _ _|ptr _ _|ep _ _ _ _ _|dat _ _|own _|nilS=>exact (A2 hc).elim
 |load t x=>
  have hc:(match E x with
   |some v=>match AFg G R t v with
    |some s=>K [.put s]
    |none=>ldA G R K t v
   |none=>none)=some z:=hc
  cases hx:E x with
  |none=>rw[hx] at hc;exact (A2 hc).elim
  |some v=>
   rw[hx] at hc
   simp only at hc
   cases h2:AFg G R t v with
   |none=>rw[h2] at hc;exact AS6 hG hN hx hc
   |some s=>rw[h2] at hc;exact⟨_,hc,APG hG hN hx h2⟩
 |box t x=>
  have hc:(match E x with
   |some s=>match R0 s with
    |some l=>K [.new d (.row t (subL d .dead l)),.put (.ptr d 0)]
    |none=>none
   |none=>none)=some z:=hc
  cases hx:E x with
  |none=>rw[hx] at hc;exact (A2 hc).elim
  |some s=>
   rw[hx] at hc
   simp only at hc
   cases h2:R0 s with
   |none=>rw[h2] at hc;exact (A2 hc).elim
   |some l=>rw[h2] at hc;exact⟨_,hc,fun hE _ h=>AU5 h hN (hE _ _ hx) h2⟩
 |alloc t=>
  have hc:(match ABY G t with
   |some s=>match R0 s with
    |some l=>K [.new d (.row t (subL d .dead l)),.put (.ptr d 0)]
    |none=>none
   |none=>none)=some z:=hc
  cases hx:ABY G t with
  |none=>rw[hx] at hc;exact (A2 hc).elim
  |some s=>
   rw[hx] at hc
   simp only at hc
   cases h2:R0 s with
   |none=>rw[h2] at hc;exact (A2 hc).elim
   |some l=>rw[h2] at hc;exact⟨_,hc,fun _ _ h=>AQ2 h hG hN hx h2⟩
 |store t x y=>exact absurd rfl (hst t x y)
 |mapUpdate t x y u=>exact absurd rfl (hmu t x y u).1
 |insert t x y u=>exact absurd rfl (hmu t x y u).2
 |makeMap t r=>
  cases r with
  |some _=>exact (A2 hc).elim
  |none=>exact ARH hG hN hc
 |lookup t x y cm=>
  have hc:(match E x with
   |some sx=>match E y with
    |some sy=>AMW G R K t cm sx sy
    |none=>none
   |none=>none)=some z:=hc
  cases hx:E x with
  |none=>rw[hx] at hc;exact (A2 hc).elim
  |some sx=>
   rw[hx] at hc
   simp only at hc
   cases hy:E y with
   |none=>rw[hy] at hc;exact (A2 hc).elim
   |some sy=>rw[hy] at hc;exact ARI hG hN hx hy hc
 |build t ps=>
  have hc:(match lk G.bd t with
   |some pl=>match ABY G t with
    |some (.agg l)=>match AEG pl E ps.toList l with
     |some l'=>K [.put (.agg l')]
     |none=>none
    |_=>none
   |none=>none)=some z:=hc
  cases h1:lk G.bd t with
  |none=>rw[h1] at hc;exact (A2 hc).elim
  |some pl=>
   rw[h1] at hc
   simp only at hc
   cases h2:ABY G t with
   |none=>rw[h2] at hc;exact (A2 hc).elim
   |some s=>
    rw[h2] at hc
    cases s with
    |agg l=>
     simp only at hc
     cases h3:AEG pl E ps.toList l with
     |none=>rw[h3] at hc;exact (A2 hc).elim
     |some l'=>rw[h3] at hc;exact⟨_,hc,fun hE _ h=>AQ7 h hG hN hE h1 h2 h3⟩
    |int _ _|bool _|ary _ _ _|str _ _|tup _|fv _ _ _|fn _ _|raw _|it _ _|np _ _|ap _ _ _ _|undef|dead|rp _ _|ptr _ _|ep _ _ _ _ _|dat _ _|own _|nilS=>exact (A2 hc).elim
 |buildSlice t n ps=>
  have hq:(match lk G.sl t with
   |some (e,u,_)=>match lk G.sz e with
    |some m=>match evL E (ps.toList.map (·.2)) with
     |some ss=>match AAf u R ss with
      |some xs=>match frz R (ownsLL ss) with
       |some fz=>match AGR 0 ps.toList&&Nat.beq n ps.toList.length&&Nat.ble (n * m) 16777216 with
        |true=>K (fz++[.new d (.own false (.sl e u) xs),.put (.own d)])
        |false=>none
       |none=>none
      |none=>none
     |none=>none
    |none=>none
   |none=>none)=some z:=hc
  cases hl:lk G.sl t with
  |none=>rw[hl] at hq;exact (A2 hq).elim
  |some q=>
   obtain⟨e,u,b⟩:=q
   rw[hl] at hq
   simp only at hq
   cases h1:lk G.sz e with
   |none=>rw[h1] at hq;exact (A2 hq).elim
   |some m=>
    rw[h1] at hq
    simp only at hq
    cases h2:evL E (ps.toList.map (·.2)) with
    |none=>rw[h2] at hq;exact (A2 hq).elim
    |some ss=>
     rw[h2] at hq
     simp only at hq
     cases h3:AAf u R ss with
     |none=>rw[h3] at hq;exact (A2 hq).elim
     |some xs=>
      rw[h3] at hq
      simp only at hq
      cases h4:frz R (ownsLL ss) with
      |none=>rw[h4] at hq;exact (A2 hq).elim
      |some fz=>
       rw[h4] at hq
       simp only at hq
       cases h5:(AGR 0 ps.toList&&Nat.beq n ps.toList.length&&Nat.ble (n * m) 16777216) with
       |false=>rw[h5] at hq;exact (A2 hq).elim
       |true=>
        rw[h5] at hq
        simp only[Bool.and_eq_true] at h5
        obtain⟨ps⟩:=ps
        exact⟨_,hq,fun hE hR h=>AKC h hG hN hl h1 (ACq hE _ h2) (AHX hR u _ h3) (P5 hR _ h4) h5.1.1 (Nat.eq_of_beq_eq_true h5.1.2) h5.2⟩
 |makeSlice t x y=>
  have hq:(match opB x y with
   |true=>match lk G.sl t with
    |some (e,u,b)=>match lk G.ty e with
     |some u'=>match decide (u'=u),AHH u with
      |true,some z0=>match E x with
       |some (.int _ m)=>Option.bind (mko b z0 m) fun xs=>K [.new d (.own false (.sl e u) xs),.put (.own d)]
       |_=>none
      |_,_=>none
     |none=>none
    |none=>none
   |false=>none)=some z:=hc
  cases ho:opB x y with
  |false=>rw[ho] at hq;exact (A2 hq).elim
  |true=>
   rw[ho] at hq
   simp only at hq
   have hxy:=ASv ho
   cases hl:lk G.sl t with
   |none=>rw[hl] at hq;exact (A2 hq).elim
   |some q=>
    obtain⟨e,u,b⟩:=q
    rw[hl] at hq
    simp only at hq
    cases hu:lk G.ty e with
    |none=>rw[hu] at hq;exact (A2 hq).elim
    |some u'=>
     rw[hu] at hq
     simp only at hq
     cases he:decide (u'=u) with
     |false=>rw[he] at hq;exact (A2 hq).elim
     |true=>
      have he':=of_decide_eq_true he
      rw[he] at hq
      cases hz:AHH u with
      |none=>rw[hz] at hq;exact (A2 hq).elim
      |some z0=>
       rw[hz] at hq
       simp only at hq
       cases hx:E x with
       |none=>rw[hx] at hq;exact (A2 hq).elim
       |some s=>
        rw[hx] at hq
        cases s with
        |int k m=>
         obtain⟨xs,h1,h2⟩:=bindS hq
         subst he';subst hxy
         exact⟨_,h2,fun hE _ h=>ALG h hG hN hl hu hz (hE _ _ hx) h1⟩
        |bool _|ary _ _ _|str _ _|agg _|fv _ _ _|fn _ _|raw _|it _ _|np _ _|ap _ _ _ _|undef|dead|tup _|rp _ _|ptr _ _|ep _ _ _ _ _|dat _ _|own _|nilS=>exact (A2 hq).elim
 |slice t x lo hi mx=>
  have hq:(match lk G.sl t with
   |some (e,u,_)=>match E x with
    |some s=>match C1 R (.sl u) s with
     |some xs=>match (generalizing:=false) mx with
      |some m=>match (generalizing:=false) lo with
       |none=>match A8 s with
        |[]=>match (generalizing:=false) hi,m with
         |some (.const (.int _ i)),.const (.int _ j)=>match decide (i=0),decide (j=0) with
          |true,true=>K [.new d (.own false (.sl e u) []),.put (.own d)]
          |_,_=>none
         |_,_=>none
        |_=>none
       |some _=>none
      |none=>match frz R (A8 s) with
       |some fz=>match (generalizing:=false) lo with
        |some y=>match (generalizing:=false) hi with
         |none=>match E y with
          |some (.int _ i)=>Option.bind (AG8 (show List (den u) from xs) i) fun l=>K (fz++[.put (.dat (.sl u) l)])
          |_=>none
         |some _=>none
        |none=>match (generalizing:=false) hi with
         |some y=>match E y with
          |some (.int _ i)=>Option.bind (AG9 (show List (den u) from xs) i) fun l=>K (fz++[.put (.dat (.sl u) l)])
          |_=>none
         |none=>none
       |none=>none
     |none=>none
    |none=>none
   |none=>none)=some z:=hc
  cases hl:lk G.sl t with
  |none=>rw[hl] at hq;exact (A2 hq).elim
  |some q=>
   obtain⟨e,u,b⟩:=q
   rw[hl] at hq
   simp only at hq
   cases hx:E x with
   |none=>rw[hx] at hq;exact (A2 hq).elim
   |some s=>
    rw[hx] at hq
    simp only at hq
    cases hd:C1 R (.sl u) s with
    |none=>rw[hd] at hq;exact (A2 hq).elim
    |some xs=>
     rw[hd] at hq
     simp only at hq
     cases mx with
     |some m=>
      cases lo with
      |some _=>exact (A2 hq).elim
      |none=>
       simp only at hq
       cases ho:A8 s with
       |cons _ _=>rw[ho] at hq;exact (A2 hq).elim
       |nil=>
        rw[ho] at hq
        simp only at hq
        split at hq
        . rename_i k i k' j
          split at hq
          . rename_i hi hj
            have hi:=of_decide_eq_true hi
            have hj:=of_decide_eq_true hj
            subst hi;subst hj
            exact⟨_,hq,fun hE hR h=>ASy h hG hN hl (hE _ _ hx) (E3 hR _ _ hd) ho⟩
          . exact (A2 hq).elim
        . exact (A2 hq).elim
     |none=>
      simp only at hq
      cases hf:frz R (A8 s) with
      |none=>rw[hf] at hq;exact (A2 hq).elim
      |some fz=>
       rw[hf] at hq
       simp only at hq
       cases lo with
       |some y=>
        cases hi with
        |some _=>exact (A2 hq).elim
        |none=>
         simp only at hq
         cases hy:E y with
         |none=>rw[hy] at hq;exact (A2 hq).elim
         |some s'=>
          rw[hy] at hq
          cases s' with
          |int k i=>
           obtain⟨l,h1,h2⟩:=bindS hq
           exact⟨_,h2,fun hE hR h=>ASw h hG hN hl (hE _ _ hx) (E3 hR _ _ hd) (P5 hR _ hf) (hE _ _ hy) h1⟩
          |bool _|ary _ _ _|str _ _|agg _|fv _ _ _|fn _ _|raw _|it _ _|np _ _|ap _ _ _ _|undef|dead|tup _|rp _ _|ptr _ _|ep _ _ _ _ _|dat _ _|own _|nilS=>exact (A2 hq).elim
       |none=>
        cases hi with
        |none=>exact (A2 hq).elim
        |some y=>
         simp only at hq
         cases hy:E y with
         |none=>rw[hy] at hq;exact (A2 hq).elim
         |some s'=>
          rw[hy] at hq
          cases s' with
          |int k i=>
           obtain⟨l,h1,h2⟩:=bindS hq
           exact⟨_,h2,fun hE hR h=>ASx h hG hN hl (hE _ _ hx) (E3 hR _ _ hd) (P5 hR _ hf) (hE _ _ hy) h1⟩
          |bool _|ary _ _ _|str _ _|agg _|fv _ _ _|fn _ _|raw _|it _ _|np _ _|ap _ _ _ _|undef|dead|tup _|rp _ _|ptr _ _|ep _ _ _ _ _|dat _ _|own _|nilS=>exact (A2 hq).elim
 |makeFunc f fs cs=>
  cases f with
  |func g=>
   have hc:(match fs.toList with
    |[]=>match evL E cs.toList with
     |some l=>K [.put (.fn g l)]
     |none=>none
    |_=>none)=some z:=hc
   obtain⟨fs⟩:=fs
   obtain⟨cs⟩:=cs
   simp only at hc
   cases fs with
   |cons _ _=>exact (A2 hc).elim
   |nil=>
    simp only at hc
    cases h2:evL E cs with
    |none=>rw[h2] at hc;exact (A2 hc).elim
    |some l=>rw[h2] at hc;exact⟨_,hc,fun hE _ h=>AMj h hN (ACq hE _ h2)⟩
  |_=>exact (A2 hc).elim
 |call c=>
  obtain⟨c,args,ts⟩:=c
  cases c with
  |builtin b=>
   have hc:(match evL E args.toList with
    |some ss=>AEI G d R K b ss ts.toList
    |none=>none)=some z:=hc
   cases h1:evL E args.toList with
   |none=>rw[h1] at hc;exact (A2 hc).elim
   |some ss=>rw[h1] at hc;exact ARK hG hN (fun e=>by subst e;exact hdl args ts rfl) h1 hc
  |invoke _ _=>exact (A2 hc).elim
  |value f=>
   have hc:(match fvN G (E f) with
    |some (.fn g caps)=>match evL E args.toList with
     |some ss=>R3 (ss++caps) fun ss'=>AHD G d R K g ss'
     |none=>none
    |some (.fv a r f)=>match evL E args.toList with
     |some ss=>match Y4 r a f R ss with
      |some o=>match frz R (ownsLL ss) with
       |some fz=>Option.bind o fun y=>K (fz++[.put (F5 r y)])
       |none=>none
      |none=>none
     |none=>none
    |_=>none)=some z:=hc
   cases hf:fvN G (E f) with
   |none=>rw[hf] at hc;exact (A2 hc).elim
   |some s=>
    rw[hf] at hc
    cases s with
    |fn g caps=>
     simp only at hc
     cases h1:evL E args.toList with
     |none=>rw[h1] at hc;exact (A2 hc).elim
     |some ss=>
      rw[h1] at hc
      obtain⟨ss',hc',hop⟩:=AAx (P:=P) hc
      exact AKL hG (d:=some d) hN hop (ANx hf) h1 hc'
    |fv a r F=>
     simp only at hc
     cases h1:evL E args.toList with
     |none=>rw[h1] at hc;exact (A2 hc).elim
     |some ss=>
      rw[h1] at hc
      simp only at hc
      cases h2:Y4 r a F R ss with
      |none=>rw[h2] at hc;exact (A2 hc).elim
      |some o=>
       rw[h2] at hc
       simp only at hc
       cases h3:frz R (ownsLL ss) with
       |none=>rw[h3] at hc;exact (A2 hc).elim
       |some fz=>rw[h3] at hc;exact AKM (d:=some d) hN hG hf h1 h2 h3 hc
    |int _ _|bool _|ary _ _ _|str _ _|agg _|raw _|it _ _|np _ _|ap _ _ _ _|undef|dead|tup _|rp _ _|ptr _ _|ep _ _ _ _ _|dat _ _|own _|nilS=>exact (A2 hc).elim
 |_=>exact (A2 hc).elim
theorem AIq {op:Op} (h:ACe N op (some d)=true):Nat.blt d N=true/\(∀ t x y,op≠.store t x y)/\(∀ t x y u,op≠.mapUpdate t x y u/\op≠.insert t x y u)/\(∀ xs ts,op≠.call ⟨.builtin .delete,xs,ts⟩):=by
 have hs:∀ t x y,op≠.store t x y:=fun t x y e=>by subst e;cases h
 have hm:∀ t x y u,op≠.mapUpdate t x y u/\op≠.insert t x y u:=fun t x y u=>⟨fun e=>(by subst e;cases h),fun e=>(by subst e;cases h)⟩
 have hd:∀ xs ts,op≠.call ⟨.builtin .delete,xs,ts⟩:=fun xs ts e=>by subst e;cases h
 refine⟨?_,hs,hm,hd⟩
 cases op with
 |store t x y=>exact absurd rfl (hs _ _ _)
 |mapUpdate t x y u=>exact absurd rfl (hm _ _ _ _).1
 |insert t x y u=>exact absurd rfl (hm _ _ _ _).2
 |call c=>
  obtain⟨c,a,t⟩:=c
  cases c with
  |builtin b=>
   cases b with
   |delete=>exact absurd rfl (hd _ _)
   |_=>exact h
  |_=>exact h
 |_=>exact h
theorem AIG [Fx] [Sl (P:=P)] (hG:GxOk P G) {d:Option Nat} {op:Op} (hN:ACe N op d=true) (hc:AFC G (AA9 d) E R K op=some z):∃ as_,K as_=some z/\Does P N d op E R as_:=by
 cases d with
 |some d=>
  obtain⟨h1,h2,h3,h4⟩:=AIq hN
  exact APH hG (d:=d) h1 h2 h3 h4 hc
 |none=>
  cases op with
  |store t x y=>
   have hc:(match E y with
    |some s=>match R0 s with
     |some ns=>match szB G t ns with
      |true=>match E x with
       |some a=>AOu R K ns a
       |none=>none
      |false=>none
     |none=>none
    |none=>none)=some z:=hc
   cases hy:E y with
   |none=>rw[hy] at hc;exact (A2 hc).elim
   |some s=>
    rw[hy] at hc
    simp only at hc
    cases h1:R0 s with
    |none=>rw[h1] at hc;exact (A2 hc).elim
    |some ns=>
     rw[h1] at hc
     simp only at hc
     cases h2:szB G t ns with
     |false=>rw[h2] at hc;exact (A2 hc).elim
     |true=>
      rw[h2] at hc
      simp only at hc
      cases hx:E x with
      |none=>rw[hx] at hc;exact (A2 hc).elim
      |some a=>
       rw[hx] at hc
       obtain⟨n,h3,h4⟩:=AO7 h2
       exact ARD hG hy h1 h3 h4 hx hc
  |call c=>
   obtain⟨c,args,ts⟩:=c
   cases c with
   |builtin b=>
    cases b with
    |delete=>
     have hq:(match evL E args.toList with
      |some ss=>AEI G 0 R K .delete ss ts.toList
      |none=>none)=some z:=hc
     cases h1:evL E args.toList with
     |none=>rw[h1] at hq;exact (A2 hq).elim
     |some ss=>
      rw[h1] at hq
      clear hc
      obtain⟨xs⟩:=args
      obtain⟨ts⟩:=ts
      have h1':evL E xs=some ss:=h1
      have hq':AEI G 0 R K .delete ss ts=some z:=hq
      unfold AEI at hq'
      split at hq'
      . rename_i e;cases e
      . obtain⟨x,y,rfl,hx1,hy1⟩:=AJM h1'
        exact ARJ hG hx1 hy1 hq'
      . rename_i e;cases e
      . rename_i e;cases e
      . rename_i e;cases e
      . exact (A2 hq').elim
    |_=>cases hN
   |invoke _ _=>cases hN
   |value f=>
    have hc:(match fvN G (E f) with
     |some (.fn g caps)=>match evL E args.toList with
      |some ss=>R3 (ss++caps) fun ss'=>AHD G 0 R K g ss'
      |none=>none
     |some (.fv a r f)=>match evL E args.toList with
      |some ss=>match Y4 r a f R ss with
       |some o=>match frz R (ownsLL ss) with
        |some fz=>Option.bind o fun y=>K (fz++[.put (F5 r y)])
        |none=>none
       |none=>none
      |none=>none
     |_=>none)=some z:=hc
    cases hf:fvN G (E f) with
    |none=>rw[hf] at hc;exact (A2 hc).elim
    |some s=>
     rw[hf] at hc
     cases s with
     |fn g caps=>
      simp only at hc
      cases h1:evL E args.toList with
      |none=>rw[h1] at hc;exact (A2 hc).elim
      |some ss=>
       rw[h1] at hc
       obtain⟨ss',hc',hop⟩:=AAx (P:=P) hc
       exact AKL hG (d:=none) rfl hop (ANx hf) h1 hc'
     |fv a r F=>
      simp only at hc
      cases h1:evL E args.toList with
      |none=>rw[h1] at hc;exact (A2 hc).elim
      |some ss=>
       rw[h1] at hc
       simp only at hc
       cases h2:Y4 r a F R ss with
       |none=>rw[h2] at hc;exact (A2 hc).elim
       |some o=>
        rw[h2] at hc
        simp only at hc
        cases h3:frz R (ownsLL ss) with
        |none=>rw[h3] at hc;exact (A2 hc).elim
        |some fz=>rw[h3] at hc;exact AKM (d:=none) rfl hG hf h1 h2 h3 hc
     |int _ _|bool _|ary _ _ _|str _ _|agg _|raw _|it _ _|np _ _|ap _ _ _ _|undef|dead|tup _|rp _ _|ptr _ _|ep _ _ _ _ _|dat _ _|own _|nilS=>exact (A2 hc).elim
  |mapUpdate t x y u=>
   have hc:(match E x with
    |some sx=>match E y with
     |some sy=>match E u with
      |some su=>AH7 G R K t sx sy su
      |none=>none
     |none=>none
    |none=>none)=some z:=hc
   cases hx:E x with
   |none=>rw[hx] at hc;exact (A2 hc).elim
   |some sx=>
    rw[hx] at hc
    simp only at hc
    cases hy:E y with
    |none=>rw[hy] at hc;exact (A2 hc).elim
    |some sy=>
     rw[hy] at hc
     simp only at hc
     cases hu:E u with
     |none=>rw[hu] at hc;exact (A2 hc).elim
     |some su=>rw[hu] at hc;exact ALf hG hx hy hu hc
  |insert t x y u=>
   have hc:(match E x with
    |some sx=>match E y with
     |some sy=>match E u with
      |some su=>AH7 G R K t sx sy su
      |none=>none
     |none=>none
    |none=>none)=some z:=hc
   cases hx:E x with
   |none=>rw[hx] at hc;exact (A2 hc).elim
   |some sx=>
    rw[hx] at hc
    simp only at hc
    cases hy:E y with
    |none=>rw[hy] at hc;exact (A2 hc).elim
    |some sy=>
     rw[hy] at hc
     simp only at hc
     cases hu:E u with
     |none=>rw[hu] at hc;exact (A2 hc).elim
     |some su=>rw[hu] at hc;obtain⟨as_,h1,h2⟩:=ALf hG hx hy hu hc;exact⟨as_,h1,h2.ins⟩
  |_=>cases hN
end
end Go.Rx
namespace Go.Rx
open Go Go.Sx Go.RowKit
variable [Trk] [Sg] [Sf] {P:Program} [Se P]
variable [Anch]
def AIH (σ:AS) (kp:List Nat):Prop:=∀ i∈kp,i∉σ.kl/\∃ a,A1 σ.res i=some a
def Wk (P:Program) [Se P] (σ:AS) (s s':SV):Prop:=∀ kp,AIH σ kp->∀ (ρ:Nat->Value) R M w v,Ok (P:=P) ρ R M w (I5 kp s') v->Ok (P:=P) ρ R M w (I5 kp s) v
def RelA (P:Program) [Se P] (σ:AS) (i:Nat):AR->AR->Prop
 |.own p c x,a=>∃ y:den c.ty,a=.own p c y/\((i,0)∉σ.ch->y=x)
 |.row e l,a=>∃ l',a=.row e l'/\l'.length=l.length/\∀ n s',l'[n]?=some s'->(i,n+1)∉σ.ch->∃ s,l[n]?=some s/\Wk P σ s s'
structure Rel (P:Program) [Se P] (W:List Nat) (σ σ':AS):Prop where
 kl:∀ i∈σ.kl,i∈σ'.kl
 ch:∀ c∈σ.ch,c∈σ'.ch
 dom:∀ i a',A1 σ'.res i=some a'->i∉σ'.kl->∃ a,A1 σ.res i=some a/\RelA P σ' i a a'
 env:∀ t,t∉W->∀ s,A1 σ.env t=some s->∃ s',A1 σ'.env t=some s'/\Wk P σ' s s'
theorem Wk.refl {σ:AS} (s:SV):Wk P σ s s:=fun _ _ _ _ _ _ _ h=>h
theorem RelA.refl {σ:AS} {i:Nat}:∀ a:AR,RelA P σ i a a
 |.own _ _ xs=>⟨xs,rfl,fun _=>rfl⟩
 |.row _ l=>⟨l,rfl,rfl,fun _ s' h _=>⟨s',h,Wk.refl s'⟩⟩
theorem Rel.refl {W:List Nat} (σ:AS):Rel P W σ σ:=⟨fun _ h=>h,fun _ h=>h,fun _ a h _=>⟨a,h,RelA.refl a⟩,fun _ _ s h=>⟨s,h,Wk.refl s⟩⟩
theorem Rel.live {W:List Nat} {σ σ':AS} (h:Rel P W σ σ') {kp:List Nat} (hk:AIH σ' kp):AIH σ kp:=fun i hi=>by
 obtain⟨h1,a,h2⟩:=hk i hi
 obtain⟨b,h3,_⟩:=h.dom i a h2 h1
 exact⟨fun hk=>h1 (h.kl i hk),b,h3⟩
theorem Wk.trans {W:List Nat} {σ σ':AS} (h:Rel P W σ σ') {s s1 s2:SV} (h1:Wk P σ s s1) (h2:Wk P σ' s1 s2):Wk P σ' s s2:=fun kp hk ρ R M w v hv=>h1 kp (h.live hk) ρ R M w v (h2 kp hk ρ R M w v hv)
theorem Rel.mono {W W':List Nat} {σ σ':AS} (h:Rel P W σ σ') (hw:∀ t∈W,t∈W'):Rel P W' σ σ':=⟨h.kl,h.ch,h.dom,fun t ht=>h.env t fun hm=>ht (hw t hm)⟩
theorem Rel.trans {W:List Nat} {σ σ1 σ2:AS} (h:Rel P W σ σ1) (k:Rel P W σ1 σ2):Rel P W σ σ2:=by
 refine⟨fun i hi=>k.kl i (h.kl i hi),fun c hc=>k.ch c (h.ch c hc),fun i a' hi hn=>?_,fun t ht s hs=>?_⟩
 . obtain⟨a1,h1,h2⟩:=k.dom i a' hi hn
   obtain⟨a,h3,h4⟩:=h.dom i a1 h1 fun hm=>hn (k.kl i hm)
   refine⟨a,h3,?_⟩
   cases a with
   |own p c xs=>
    obtain⟨ys,rfl,h5⟩:=h4
    obtain⟨zs,rfl,h6⟩:=h2
    exact⟨zs,rfl,fun hc=>(h6 hc).trans (h5 fun hm=>hc (k.ch _ hm))⟩
   |row e l=>
    obtain⟨l1,rfl,h5,h6⟩:=h4
    obtain⟨l2,rfl,h7,h8⟩:=h2
    refine⟨l2,rfl,h7.trans h5,fun n s' hs' hc=>?_⟩
    obtain⟨s1,h9,h10⟩:=h8 n s' hs' hc
    obtain⟨s,h11,h12⟩:=h6 n s1 h9 fun hm=>hc (k.ch _ hm)
    exact⟨s,h11,Wk.trans k h12 h10⟩
 . obtain⟨s1,h1,h2⟩:=h.env t ht s hs
   obtain⟨s2,h3,h4⟩:=k.env t ht s1 h1
   exact⟨s2,h3,Wk.trans k h2 h4⟩
theorem API {σ:AS} {kp:List Nat} {i:Nat} (h:AIH σ kp) (hi:i∈σ.kl):has kp i=false:=by
 cases hb:has kp i with
 |false=>rfl
 |true=>exact absurd hi (h i (has_iff.1 hb)).1
theorem Wk.sub {σ:AS} {i:Nat} {p:Rp} (hi:i∈σ.kl) (s:SV):Wk P σ s (subS i p s):=fun _ hk _ _ _ _ _ h=>Ok.kexSub (API hk hi) s h
theorem Wk.old {σ:AS} {i:Nat} (s:SV):Wk P σ s (oldS i s):=fun _ _ _ _ _ _ _ h=>by rwa [AFl] at h
theorem AKN {i:Nat} {p:Rp}:∀ {l:List SV} {n:Nat},(subL i p l)[n]?=(l[n]?).map (subS i p)
 |[],_=>rfl
 |s :: l,0=>rfl
 |s :: l,n+1=>by simpa[subL] using AKN (l:=l)
theorem AKO {i:Nat}:∀ {l:List SV} {n:Nat},(oldL i l)[n]?=(l[n]?).map (oldS i)
 |[],_=>rfl
 |s :: l,0=>rfl
 |s :: l,n+1=>by simpa[oldL] using AKO (l:=l)
theorem subL_len {i:Nat} {p:Rp}:∀ {l:List SV},(subL i p l).length=l.length
 |[]=>rfl
 |s :: l=>by simp[subL,subL_len (l:=l)]
theorem oldL_len {i:Nat}:∀ {l:List SV},(oldL i l).length=l.length
 |[]=>rfl
 |s :: l=>by simp[oldL,oldL_len (l:=l)]
theorem RelA.sub {σ:AS} {i j:Nat} {p:Rp} (hi:i∈σ.kl):∀ a:AR,RelA P σ j a (a.sub i p)
 |.own _ _ xs=>⟨xs,rfl,fun _=>rfl⟩
 |.row _ l=>⟨subL i p l,rfl,subL_len,fun n s' h _=>by
  rw[AKN] at h
  cases h1:l[n]? with
  |none=>rw[h1] at h;cases h
  |some s=>
   rw[h1] at h
   have h:subS i p s=s':=Option.some.inj h
   subst h
   exact⟨s,rfl,Wk.sub hi s⟩⟩
theorem RelA.old {σ:AS} {i j:Nat}:∀ a:AR,RelA P σ j a (a.old i)
 |.own _ _ xs=>⟨xs,rfl,fun _=>rfl⟩
 |.row _ l=>⟨oldL i l,rfl,oldL_len,fun n s' h _=>by
  rw[AKO] at h
  cases h1:l[n]? with
  |none=>rw[h1] at h;cases h
  |some s=>
   rw[h1] at h
   have h:oldS i s=s':=Option.some.inj h
   subst h
   exact⟨s,rfl,Wk.old s⟩⟩
theorem AII {σ:AS} {l:List (Nat×SV)} {i t:Nat} {p:Rp} {s:SV} (hi:i∈σ.kl) (h:A1 l t=some s):∃ s',A1 (AA5 i p l) t=some s'/\Wk P σ s s':=⟨subS i p s,by rw[V3,h];rfl,Wk.sub hi s⟩
theorem AIJ {σ:AS} {l:List (Nat×AR)} {i j:Nat} {p:Rp} {a':AR} (hi:i∈σ.kl) (h:A1 (Q4 i p l) j=some a'):∃ a,A1 l j=some a/\RelA P σ j a a':=by
 rw[fnd_subR] at h
 cases h1:A1 l j with
 |none=>rw[h1] at h;cases h
 |some a=>
  rw[h1] at h
  have h:a.sub i p=a':=Option.some.inj h
  subst h
  exact⟨a,rfl,RelA.sub hi a⟩
theorem logC_mem {i:Nat} {l:List (Nat×Nat)}:∀ {c:List Nat} {x:Nat×Nat},x∈AJk i c l↔(x.1=i/\x.2∈c)\/x∈l
 |[],x=>by simp[AJk]
 |n :: r,x=>by
  simp only[AJk,List.mem_cons,logC_mem (c:=r),Prod.ext_iff]
  constructor
  . rintro (⟨h1,h2⟩|⟨h1,h2⟩|h)
    . exact .inl ⟨h1,.inl h2⟩
    . exact .inl ⟨h1,.inr h2⟩
    . exact .inr h
  . rintro (⟨h1,h2|h2⟩|h)
    . exact .inl ⟨h1,h2⟩
    . exact .inr (.inl ⟨h1,h2⟩)
    . exact .inr (.inr h)
theorem AIr:∀ (ns l:List SV) {l':List SV},overL l ns=some l'->l'.length=l.length/\∀ n,ns.length<=n->l'[n]?=l[n]?
 |[],l,l',h=>by
  have h:some l=some l':=by cases l <;> exact h
  cases h;exact⟨rfl,fun _ _=>rfl⟩
 |_ :: _,[],_,h=>(A2 h).elim
 |n :: ns,s :: l,l',h=>by
  simp only[overL] at h
  cases hb:Nat.beq (wd s) (wd n) with
  |false=>simp only[hb] at h;exact (A2 h).elim
  |true=>
   simp only[hb] at h
   cases hw:wd n with
   |zero=>simp only[hw] at h;exact (A2 h).elim
   |succ m=>
    simp only[hw] at h
    cases hx:overL l ns with
    |none=>simp only[hx] at h;exact (A2 h).elim
    |some x=>
     simp only[hx] at h
     have h:=Option.some.inj h
     subst h
     obtain⟨h1,h2⟩:=AIr ns l hx
     refine⟨by simp[h1],fun k hk=>?_⟩
     cases k with
     |zero=>simp at hk
     |succ k=>simpa using h2 k (by simpa using hk)
theorem AKP:∀ (l:List SV) (o:Nat) {ns l':List SV},setW l o ns=some l'->l'.length=l.length/\∀ n,n < entry l o\/entry l o+ns.length<=n->l'[n]?=l[n]?
 |l,0,ns,l',h=>by
  have h:overL l ns=some l':=by cases l <;> exact h
  obtain⟨h1,h2⟩:=AIr ns l h
  refine⟨h1,fun n hn=>h2 n ?_⟩
  have:entry l 0=0:=by cases l <;> rfl
  rw[this] at hn;omega
 |[],_+1,_,_,h=>(A2 h).elim
 |s :: l,o+1,ns,l',h=>by
  simp only[setW] at h
  cases hw:wd s with
  |zero=>simp only[hw] at h;exact (A2 h).elim
  |succ n=>
   simp only[hw] at h
   cases hb:Nat.ble n o with
   |false=>simp only[hb] at h;exact (A2 h).elim
   |true=>
    simp only[hb] at h
    cases hx:setW l (o - n) ns with
    |none=>simp only[hx] at h;exact (A2 h).elim
    |some x=>
     simp only[hx] at h
     have h:=Option.some.inj h
     subst h
     obtain⟨h1,h2⟩:=AKP l (o - n) hx
     refine⟨by simp[h1],fun k hk=>?_⟩
     simp only[entry,hw,hb,cond_true] at hk
     cases k with
     |zero=>rfl
     |succ k=>simpa using h2 k (by omega)
theorem Rel.upd {W:List Nat} {σ:AS} {i:Nat} {g:AR->AR} {c:List Nat} (h:∀ a,A1 σ.res i=some a->RelA P (σ.upd i g c) i a (g a)):Rel P W σ (σ.upd i g c):=by
 refine⟨fun _ hk=>hk,fun x hx=>logC_mem.2 (.inr hx),fun j a' hj _=>?_,fun t _ s hs=>?_⟩
 . rw[AIC] at hj
   by_cases e:j=i
   . subst e
     rw[if_pos rfl] at hj
     cases h1:A1 σ.res j with
     |none=>rw[h1] at hj;cases hj
     |some a=>
      rw[h1] at hj
      have hj:g a=a':=Option.some.inj hj
      subst hj
      exact⟨a,rfl,h a h1⟩
   . rw[if_neg e] at hj
     cases h1:A1 σ.res j with
     |none=>rw[h1] at hj;cases hj
     |some a=>
      rw[h1] at hj
      have hj:a.old i=a':=Option.some.inj hj
      subst hj
      exact⟨a,rfl,RelA.old a⟩
 . exact⟨oldS i s,by show A1 (AE2 i σ.env) t=_;rw[ACk,hs];rfl,Wk.old s⟩
theorem Rel.act (d:Option Nat) (σ:AS) (a:Ac) {W:List Nat} (hd:∀ t,d=some t->t∈W):Rel P W σ (a.app d σ):=by
 cases a with
 |put s=>
  cases d with
  |none=>exact Rel.refl σ
  |some d=>
   refine⟨fun _ h=>h,fun _ h=>h,fun _ a h _=>⟨a,h,RelA.refl a⟩,fun t ht s' hs=>⟨s',?_,Wk.refl s'⟩⟩
   show A1 ((d,s) :: σ.env) t=_
   rw[fnd_cons,if_neg (show ¬ d=t from fun e=>ht (e▸hd d rfl))]
   exact hs
 |new i r=>
  have hi:i∈((Ac.new i r).app d σ).kl:=List.mem_cons_self ..
  refine⟨fun _ h=>List.mem_cons_of_mem _ h,fun _ h=>h,fun j a' hj hn=>?_,fun t _ s hs=>AII hi hs⟩
  have hj:A1 ((i,r) :: T7 i (Q4 i .dead σ.res)) j=some a':=hj
  have hne:j≠i:=fun e=>hn (e▸hi)
  rw[fnd_cons,if_neg (fun e=>hne e.symm),fnd_rdel,if_neg hne] at hj
  exact AIJ hi hj
 |sto i o ns=>
  refine Rel.upd fun a ha=>?_
  cases a with
  |own p c xs=>exact RelA.refl _
  |row e l=>
   cases h2:setW l o ns with
   |none=>simp only[AAU,h2];exact RelA.refl _
   |some l'=>
    obtain⟨h3,h4⟩:=AKP l o h2
    simp only[AAU,h2]
    refine⟨l',rfl,h3,fun n s' hs hc=>⟨s',?_,Wk.refl s'⟩⟩
    rw[<-h4 n ?_];exact hs
    rcases Nat.lt_or_ge n (entry l o) with h|h
    . exact .inl h
    . right
      rcases Nat.lt_or_ge n (entry l o+ns.length) with h'|h'
      . exact absurd (logC_mem.2 (.inl ⟨rfl,by rw[ha];exact List.mem_range'.2 ⟨n - entry l o,by omega,by omega⟩⟩)) hc
      . exact h'
 |cnt i c xs=>
  refine Rel.upd fun a ha=>?_
  cases a with
  |row _ _=>exact RelA.refl _
  |own p c' zs=>
   cases h2:castO c c' xs with
   |none=>simp only[X9,h2];exact RelA.refl _
   |some ys=>
    simp only[X9,h2]
    exact⟨ys,rfl,fun hc=>absurd (logC_mem.2 (.inl ⟨rfl,by simp⟩)) hc⟩
 |hnd i r=>
  have hi:i∈((Ac.hnd i r).app d σ).kl:=List.mem_cons_self ..
  refine⟨fun _ h=>List.mem_cons_of_mem _ h,fun _ h=>h,fun j a' hj hn=>?_,fun t _ s hs=>AII hi hs⟩
  have hj:A1 (ADR i r (Q4 i .dead σ.res)) j=some a':=hj
  have hne:j≠i:=fun e=>hn (e▸hi)
  rw[ACl,if_neg hne] at hj
  exact AIJ hi hj
 |del i p=>
  have hi:i∈((Ac.del i p).app d σ).kl:=List.mem_cons_self ..
  refine⟨fun _ h=>List.mem_cons_of_mem _ h,fun _ h=>h,fun j a' hj hn=>?_,fun t _ s hs=>AII hi hs⟩
  have hj:A1 (T7 i (Q4 i p σ.res)) j=some a':=hj
  have hne:j≠i:=fun e=>hn (e▸hi)
  rw[fnd_rdel,if_neg hne] at hj
  exact AIJ hi hj
theorem Z5 (d:Option Nat) {W:List Nat} (hd:∀ t,d=some t->t∈W):∀ (as_:List Ac) (σ:AS),Rel P W σ (apps d as_ σ)
 |[],σ=>Rel.refl σ
 |a :: as_,σ=>(Rel.act d σ a hd).trans (Z5 d hd as_ _)
theorem ABZ {N:Nat} {A B:A3} {X:Nat->A3} {Z:List PanicEntry->A3}:¬ LetsOut (Q3 N A B X Z):=fun⟨_,_,h⟩=>h
theorem ACr {o:Oper} {a:Act} {w:World} {next next':Act->World->Prop} {Q Q':Exit->Act->World->Prop} (h:o.wp P a w next Q) (hn:∀ a w,next a w->next' a w) (hq:∀ c a w,Q (.panic c) a w->Q' (.panic c) a w) (hl:¬ LetsOut Q):o.wp P a w next' Q':=by
 unfold Oper.wp at h ⊢
 generalize (execOp a.eval o).run P w=r at h
 cases r with
 |ok n w2=>
  cases n <;> simp only[Oper.upon] at h ⊢
  case value u=>exact hn _ _ h
  case skip=>exact hn _ _ h
  case defer d=>exact hn _ _ h
  case enter f args=>
   refine Calls.mono h fun e w3 he=>?_
   cases e with
   |returned u=>exact hn _ _ he
   |panicked c=>exact hq _ _ _ he
   |outgrown=>exact absurd he hl
  case row row args=>exact Rows.mono h fun u w3 he=>hn _ _ he
 |halt x w2=>
  cases x <;> simp only[Oper.upon] at h ⊢
  case panic u=>exact hq _ _ _ h
section
variable {N:Nat} {ops:Array Oper} {ds:List Deferred} {L:A7} {w:World} {A B:A3} {X:Nat->A3} {Z:List PanicEntry->A3} {rest:List Oper}
theorem APJ {o:Oper} (hg:o.guard=none) (h:Reg P N ops .seq [o] ds L w (fun ds' L' w'=>Reg P N ops .seq rest ds' L' w' A B X Z) B X Z):Reg P N ops .seq (o :: rest) ds L w A B X Z:=fun a ha=>by
 have h1:=h a ha
 simp only[wpList] at h1 ⊢
 have hw:Region.wanted o (yielded ops a.tmps)=true:=by simp[Region.wanted,hg]
 rw[if_pos hw] at h1 ⊢
 refine .inl (ACr (h1.resolve_right fun hh=>ABZ hh.2) ?_ ?_ ABZ)
 . rintro a' w' ⟨ds',L',hk,hr⟩
   exact hr a' hk
 . exact fun c a w hz=>hz
theorem Reg.skip {o:Oper} (hN:∀ d,o.dst=some d->Nat.blt d N=true) (hw:∀ a,Knows N ds L a->Region.wanted o (yielded ops a.tmps)=false) (h:Reg P N ops .seq rest ds (match o.dst with|some d=>(d,undef) :: L|none=>L) w A B X Z):Reg P N ops .seq (o :: rest) ds L w A B X Z:=fun a ha=>by
 simp only[wpList,hw a ha,Bool.false_eq_true,if_false]
 cases hd:o.dst with
 |none=>rw[hd] at h;exact h a ha
 |some d=>rw[hd] at h;exact h _ (ha.put (hN d hd) _)
end
section
variable {w0 w:World} {Mu M:List Nat} {σ:AS} {L:A7} {S:List Res} {ρ:Nat->Value} {γ:Nat->List Value} {μ:Nat->List Nat} {ι:Nat->Nat}
theorem AKQ {l:List (Nat×SV)} {t:Nat} {s:SV} (h:A1 l t=some s) (u:Nat):A1 ((t,s) :: l) u=A1 l u:=by
 rw[fnd_cons]
 split
 . rename_i e;subst e;exact h.symm
 . rfl
theorem HS.same [Fx] (h:HS w0 Mu M σ L w S ρ γ μ ι) {l:List (Nat×SV)} (hl:∀ t,A1 l t=A1 σ.env t):HS w0 Mu M { σ with env:=l } L w S ρ γ μ ι:=
 ⟨h.hp,h.res,h.inj,h.row,fun t s ht=>h.env t s (by rw[<-hl];exact ht),h.anch⟩
theorem Rel.same {W:List Nat} {l:List (Nat×SV)} (hl:∀ t,A1 l t=A1 σ.env t):Rel P W σ { σ with env:=l }:=
 ⟨fun _ h=>h,fun _ h=>h,fun _ a h _=>⟨a,h,RelA.refl a⟩,fun t _ s hs=>⟨s,(hl t).trans hs,Wk.refl s⟩⟩
theorem ALg {N:Nat} {op:Op} {d:Option Nat} (h:ACe N op d=true):∀ t,d=some t->Nat.blt t N=true:=fun t ht=>by
 subst ht
 exact (AIq h).1
theorem ADH {ops:List Oper} {j t:Nat} (h:ACD ops j=some t):((List.toArray ops)[j]?).bind (·.dst)=some t:=by
 unfold ACD at h
 rw[AA4] at h
 simp only[List.getElem?_toArray]
 cases h1:ops[j]? with
 |none=>rw[h1] at h;exact (A2 h).elim
 |some o=>rw[h1] at h;exact h
theorem R4 [Fx] [Sl (P:=P)] {G:Gx} (hG:GxOk P G) {N:Nat} {ops:List Oper} {Y:Type} {K:AS->Option Y} {z:Y} {ds:List Deferred} {A B:A3} {X:Nat->A3} {Z:List PanicEntry->A3} {W:List Nat} :
  ∀ (l:List Oper) (σ:AS) (L:A7) (w:World),C3 G N ops K l σ=some z->(∀ t∈C2 l,t∈W)->Holds w0 Mu M σ L w ->
   (∀ σ' L' w',K σ'=some z->Rel P W σ σ'->EnvS W L L'->Holds w0 Mu M σ' L' w'->A ds L' w')->Reg P N (List.toArray ops) .seq l ds L w A B X Z
 |[],σ,L,w,h,_,hH,hA=>Reg.nil (hA σ L w h (Rel.refl σ) (EnvS.refl _ _) hH)
 |o :: r,σ,L,w,h,hW,hH,hA=>by
  simp only[C3] at h
  have hW2:∀ t∈C2 r,t∈W:=fun t ht=>hW t (by
   simp only[C2]
   cases o.dst with
   |none=>exact ht
   |some d=>exact List.mem_cons_of_mem _ ht)
  have hWl:∀ t∈o.dst.toList,t∈W:=fun t ht=>hW t (by
   cases hd:o.dst with
   |none=>rw[hd] at ht;cases ht
   |some d=>
    rw[hd] at ht
    have ht:t∈[d]:=ht
    rw[List.mem_singleton.1 ht]
    simp only[C2,hd];exact List.mem_cons_self ..)
  have hWd:∀ t,o.dst=some t->t∈W:=fun t ht=>hW t (by simp only[C2,ht];exact List.mem_cons_self ..)
  cases hb:ACe N o.op o.dst with
  |false=>rw[hb] at h;exact (A2 h).elim
  |true=>
   rw[hb] at h
   simp only at h
   have take:∀ (σ1:AS) (L1:A7) (w1:World),Rel P W σ σ1->EnvS W L L1->Holds w0 Mu M σ1 L1 w1->AFC G (AA9 o.dst) (B4 σ1.env) (A1 σ1.res) (fun as_=>C3 G N ops K r (apps o.dst as_ σ1)) o.op=some z ->
     Reg P N (List.toArray ops) .seq (⟨o.dst,o.op,o.type,o.pos,o.after,none⟩ :: r) ds L1 w1 A B X Z:=fun σ1 L1 w1 hr hE1 hH1 hc=>by
    obtain⟨as_,h1,h2⟩:=AIG (P:=P) hG hb hc
    obtain⟨S,ρ,γ,μ,ι,hS⟩:=hH1
    refine APJ rfl ?_
    have h3:=h2 (ops:=List.toArray ops) (ds:=ds) (B:=B) (X:=X) (Z:=Z) (ty:=o.type) (pos:=o.pos) (af:=o.after) (fun _ _ h=>h) (fun _ _ h=>h) hS
    refine fun a ha=>?_
    have h4:=h3 a ha
    simp only[wpList] at h4 ⊢
    rw[if_pos (by simp[Region.wanted])] at h4 ⊢
    refine .inl (ACr (h4.resolve_right fun hh=>ABZ hh.2) ?_ (fun c a w hz=>hz) ABZ)
    rintro a' w' ⟨ds',L',hk,rfl,hE2,hH2⟩
    exact⟨_,L',hk,R4 hG r _ L' w' h1 hW2 hH2 fun σ' L'' w'' hK hR hE3 hH3=>hA σ' L'' w'' hK (hr.trans ((Z5 o.dst hWd as_ σ1).trans hR)) (hE1.trans ((hE2.mono hWl).trans hE3)) hH3⟩
   have pass:∀ (σ1:AS) (L1:A7) (w1:World),Rel P W σ σ1->EnvS W L L1->Holds w0 Mu M σ1 L1 w1->C3 G N ops K r (apps o.dst [.put .undef] σ1)=some z->(∀ a,Knows N ds L1 a->Region.wanted o (yielded (List.toArray ops) a.tmps)=false) ->
     Reg P N (List.toArray ops) .seq (o :: r) ds L1 w1 A B X Z:=fun σ1 L1 w1 hr hE1 hH1 hc hw=>by
    obtain⟨S,ρ,γ,μ,ι,hS⟩:=hH1
    refine Reg.skip (ALg hb) hw ?_
    refine R4 hG r _ _ w1 hc hW2 ?_ fun σ' L'' w'' hK hR hE3 hH3=>hA σ' L'' w'' hK (hr.trans ((Z5 o.dst hWd _ σ1).trans hR)) (hE1.trans (EnvS.trans ?_ hE3)) hH3
    rotate_left
    . cases hd:o.dst with
      |none=>exact EnvS.refl _ _
      |some d=>exact (EnvS.put d L1 _).mono fun t ht=>by rw[List.mem_singleton.1 ht];exact hWd d hd
    cases hd:o.dst with
    |none=>exact⟨S,ρ,γ,μ,ι,hS⟩
    |some d=>exact⟨S,ρ,γ,μ,ι,hS.put (s:=.undef) rfl⟩
   cases hg:o.guard with
   |none=>
    rw[hg] at h
    have:=take σ L w (Rel.refl σ) (EnvS.refl _ _) hH h
    rw[<-hg] at this
    exact this
   |some gb=>
    obtain⟨g,b⟩:=gb
    rw[hg] at h
    simp only at h
    cases hdo:ACD ops g with
    |none=>rw[hdo] at h;exact (A2 h).elim
    |some t=>
     rw[hdo] at h
     simp only at h
     have hj:=ADH hdo
     obtain⟨S,ρ,γ,μ,ι,hS⟩:=hH
     cases hf:A1 σ.env t with
     |none=>rw[hf] at h;exact (A2 h).elim
     |some s=>
      rw[hf] at h
      obtain⟨v,hv,hok⟩:=hS.env t s hf
      cases s with
      |bool c=>
       simp only at h
       have hok:v=Value.bool c:=hok
       subst hok
       have same:∀ u,A1 ((t,.bool c) :: σ.env) u=A1 σ.env u:=AKQ hf
       have hH1:Holds w0 Mu M { σ with env:=(t,.bool c) :: σ.env } L w:=⟨S,ρ,γ,μ,ι,hS.same same⟩
       have hR1:Rel P W σ { σ with env:=(t,.bool c) :: σ.env }:=Rel.same same
       by_cases hcb:c=b
       . have hc:AFC G (AA9 o.dst) (B4 ((t,.bool c) :: σ.env)) (A1 σ.res) (fun as_=>C3 G N ops K r (apps o.dst as_ { σ with env:=(t,.bool c) :: σ.env })) o.op=some z:=by
          subst hcb
          cases c <;> exact h
         have:=take { σ with env:=(t,.bool c) :: σ.env } L w hR1 (EnvS.refl _ _) hH1 hc
         subst hcb
         have h5:=Reg.take (b:=c) hj hv this
         rw[<-hg] at h5
         exact h5
       . have hc:C3 G N ops K r (apps o.dst [.put .undef] { σ with env:=(t,.bool c) :: σ.env })=some z:=by
          cases c <;> cases b <;> first|exact absurd rfl hcb|exact h
         refine pass { σ with env:=(t,.bool c) :: σ.env } L w hR1 (EnvS.refl _ _) hH1 hc fun a ha=>?_
         simp only[Region.wanted,hg,U9 ha hj hv]
         simpa using hcb
      |undef=>
       have hok:v=Go.undef:=hok
       subst hok
       refine pass σ L w (Rel.refl σ) (EnvS.refl _ _) ⟨S,ρ,γ,μ,ι,hS⟩ h fun a ha=>?_
       have hy:yielded (List.toArray ops) a.tmps g=none:=by simp only[yielded,hj,Option.bind_some,ha.val t _ hv];rfl
       simp only[Region.wanted,hg,hy];rfl
      |int _ _|ary _ _ _|str _ _|agg _|fv _ _ _|fn _ _|dead|tup _|rp _ _|ptr _ _|ep _ _ _ _ _|dat _ _|own _|nilS|raw _|it _ _|np _ _|ap _ _ _ _=>exact (A2 h).elim
end
end Go.Rx
namespace Go.Rx
open Go Go.Sx Go.RowKit
variable [Trk] [Sg] [Sf] {P:Program} [Se P]
theorem fnd_app {α:Type} {t:Nat}:∀ {l1 l2:List (Nat×α)},A1 (l1++l2) t=match A1 l1 t with|some x=>some x|none=>A1 l2 t
 |[],l2=>rfl
 |(k,v) :: r,l2=>by
  rw[List.cons_append,fnd_cons,fnd_cons,fnd_app (l1:=r)]
  split <;> rfl
theorem ABS {α:Type} {t:Nat} {x:α}:∀ {l:List (Nat×α)},A1 l t=some x->(t,x)∈l
 |(k,v) :: r,h=>by
  rw[fnd_cons] at h
  split at h
  . rename_i e;subst e;cases h;exact List.mem_cons_self ..
  . exact List.mem_cons_of_mem _ (ABS h)
theorem fnd_none {α:Type} {t:Nat}:∀ {l:List (Nat×α)},(∀ x,(t,x)∉l)->A1 l t=none
 |[],_=>rfl
 |(k,v) :: r,h=>by
  rw[fnd_cons,if_neg (show ¬ k=t from fun e=>h v (by subst e;exact List.mem_cons_self ..))]
  exact fnd_none fun x hx=>h x (List.mem_cons_of_mem _ hx)
theorem fnd_keepE {wr kp:List Nat} {t:Nat}:∀ {l:List (Nat×SV)},A1 (ACG wr kp l) t=if t∈wr then none else (A1 l t).map (I5 kp)
 |[]=>by simp[ACG,A1]
 |(k,s) :: r=>by
  simp only[ACG]
  cases hb:has wr k with
  |true=>
   rw[cond_true,fnd_keepE (l:=r),fnd_cons]
   by_cases e:k=t
   . subst e;rw[if_pos (has_iff.1 hb),if_pos (has_iff.1 hb)]
   . rw[if_neg e]
  |false=>
   rw[cond_false,fnd_cons,fnd_cons,fnd_keepE (l:=r)]
   by_cases e:k=t
   . subst e
     rw[if_pos rfl,if_pos rfl,if_neg (fun hm=>by rw[has_iff.2 hm] at hb;cases hb)];rfl
   . rw[if_neg e,if_neg e]
theorem ABj {q:List Cv} {kp:List Nat} {i:Nat}:∀ {l:List (Nat×AR)},A1 (ACH q kp l) i=if i∈kp then (A1 l i).map (ADW q kp i) else none
 |[]=>by simp[ACH,A1]
 |(k,a) :: r=>by
  simp only[ACH]
  cases hb:has kp k with
  |true=>
   rw[cond_true,fnd_cons,fnd_cons,ABj (l:=r)]
   by_cases e:k=i
   . subst e;rw[if_pos rfl,if_pos rfl,if_pos (has_iff.1 hb)];rfl
   . rw[if_neg e,if_neg e]
  |false=>
   rw[cond_false,ABj (l:=r),fnd_cons]
   by_cases e:k=i
   . subst e
     rw[if_neg (fun hm=>by rw[has_iff.2 hm] at hb;cases hb),if_neg (fun hm=>by rw[has_iff.2 hm] at hb;cases hb)]
   . rw[if_neg e]
theorem AFn:∀ (l:List Cm) (x:N2 l),(T8 l x).map (·.1)=l
 |[],_=>rfl
 |[_],_=>rfl
 |c :: d :: l,x=>by
  show c :: (T8 (d :: l) x.2).map (·.1)=_
  rw[AFn (d :: l) x.2]
theorem allV_mem {α:Type} {f:(c:Ck)->c.den->At->List α} {y:α}:∀ {q:List Cv},y∈allV f q↔∃ p∈q,y∈f p.1.2 p.2 p.1.1
 |[]=>by simp[allV]
 |p :: l=>by simp[allV,allV_mem (q:=l)]
theorem ABk {α:Type} {f:(c:Ck)->c.den->At->Option α} {y:α}:∀ {q:List Cv},ABy f q=some y->∃ p∈q,f p.1.2 p.2 p.1.1=some y
 |[],h=>by cases h
 |p :: l,h=>by
  simp only[ABy] at h
  cases h1:f p.1.2 p.2 p.1.1 with
  |some z=>rw[h1] at h;cases h;exact⟨p,List.mem_cons_self ..,h1⟩
  |none=>
   rw[h1] at h
   obtain⟨r,h2,h3⟩:=ABk h
   exact⟨r,List.mem_cons_of_mem _ h2,h3⟩
theorem AFJ {α:Type} {f:(c:Ck)->c.den->At->Option α}:∀ {q:List Cv},ABy f q=none->∀ p∈q,f p.1.2 p.2 p.1.1=none
 |[],_,p,hp=>by cases hp
 |p :: l,h,r,hr=>by
  simp only[ABy] at h
  cases h1:f p.1.2 p.2 p.1.1 with
  |some z=>rw[h1] at h;cases h
  |none=>
   rw[h1] at h
   rcases List.mem_cons.1 hr with rfl|hr
   . exact h1
   . exact AFJ h r hr
theorem AGj {f:Nat->Option SV} {kp:List Nat}:∀ {l:List SV} {k n:Nat},(AH9 f kp k l)[n]?=(l[n]?).map fun s=>match f (k+n) with|some s'=>s'|none=>I5 kp s
 |[],_,_=>rfl
 |s :: l,k,0=>rfl
 |s :: l,k,n+1=>by
  simp only[AH9,List.getElem?_cons_succ]
  rw[AGj (l:=l),show k+1+n=k+(n+1) by omega]
theorem putN_len {f:Nat->Option SV} {kp:List Nat}:∀ {l:List SV} {k:Nat},(AH9 f kp k l).length=l.length
 |[],_=>rfl
 |s :: l,k=>by simp[AH9,putN_len (l:=l)]
theorem AHZ {i n:Nat} {c:Ck} {x:c.den} {a:At} {s:SV} (h:ADA i n c x a=some s):a=.cell i n:=by
 have key:∀ (j m:Nat) (r:SV),(match Nat.beq i j&&Nat.beq n m with
   |true=>some r
   |false=>none)=some s->At.cell j m=.cell i n:=fun j m r hb=>by
  cases h1:Nat.beq i j&&Nat.beq n m with
  |false=>rw[h1] at hb;cases hb
  |true=>
   simp only[Bool.and_eq_true] at h1
   rw[Nat.eq_of_beq_eq_true h1.1,Nat.eq_of_beq_eq_true h1.2]
 cases c with
 |d t=>cases a with
  |cell j m=>exact key j m _ h
  |slot _=>cases h
  |cont _=>cases h
 |own _=>cases a with
  |cell j m=>exact key j m _ h
  |slot _=>cases h
  |cont _=>cases h
 |undef|it _|np _=>cases h
theorem AMo {i:Nat} {o:Oc} {c:Ck} {x:c.den} {a:At} {ys:den o.ty} (h:AFi i o c x a=some ys):a=.cont i:=by
 cases c with
 |d t=>cases h
 |undef|it _|np _=>cases h
 |own o'=>cases a with
  |slot _=>cases h
  |cell _ _=>cases h
  |cont j=>
   have hq:(match Nat.beq i j with
    |true=>castO o' o x
    |false=>none)=some ys:=h
   cases h1:Nat.beq i j with
   |false=>rw[h1] at hq;cases hq
   |true=>rw[Nat.eq_of_beq_eq_true h1]
theorem AFo {cs:List Cm} {x:N2 cs} {p:Cv} (h:p∈T8 cs x):p.1∈cs:=by
 rw[<-AFn cs x];exact List.mem_map_of_mem h
theorem ANy {cs:List Cm} {x:N2 cs} {c:Cm} (h:c∈cs):∃ p∈T8 cs x,p.1=c:=by
 rw[<-AFn cs x] at h
 obtain⟨p,h1,h2⟩:=List.mem_map.1 h
 exact⟨p,h1,h2⟩
theorem AEU {i n:Nat} {c:Ck}:∀ {cs:List Cm},(At.cell i n,c)∈cs->(i,n+1)∈chV cs
 |(.cell j m,d) :: l,h=>by
  rcases List.mem_cons.1 h with h|h
  . cases h;exact List.mem_cons_self ..
  . exact List.mem_cons_of_mem _ (AEU h)
 |(.cont j,d) :: l,h=>by
  rcases List.mem_cons.1 h with h|h
  . cases h
  . exact List.mem_cons_of_mem _ (AEU h)
 |(.slot j,d) :: l,h=>by
  rcases List.mem_cons.1 h with h|h
  . cases h
  . exact AEU (cs:=l) h
theorem AEV {i:Nat} {c:Ck}:∀ {cs:List Cm},(At.cont i,c)∈cs->(i,0)∈chV cs
 |(.cell j m,d) :: l,h=>by
  rcases List.mem_cons.1 h with h|h
  . cases h
  . exact List.mem_cons_of_mem _ (AEV h)
 |(.cont j,d) :: l,h=>by
  rcases List.mem_cons.1 h with h|h
  . cases h;exact List.mem_cons_self ..
  . exact List.mem_cons_of_mem _ (AEV h)
 |(.slot j,d) :: l,h=>by
  rcases List.mem_cons.1 h with h|h
  . cases h
  . exact AEV (cs:=l) h
theorem ABC {s:Nat} {c:Ck}:∀ {cs:List Cm},(At.slot s,c)∈cs->s∈I2 cs
 |(.cell j m,d) :: l,h=>by
  rcases List.mem_cons.1 h with h|h
  . cases h
  . exact ABC (cs:=l) h
 |(.cont j,d) :: l,h=>by
  rcases List.mem_cons.1 h with h|h
  . cases h
  . exact ABC (cs:=l) h
 |(.slot j,d) :: l,h=>by
  rcases List.mem_cons.1 h with h|h
  . cases h;exact List.mem_cons_self ..
  . exact List.mem_cons_of_mem _ (ABC h)
theorem AFK {t:Nat} {s:SV} {c:Ck} {x:c.den} {a:At} (h:(t,s)∈ABA c x a):a=.slot t:=by
 cases c <;> cases a <;> simp only[ABA,List.mem_cons,List.not_mem_nil,or_false,Prod.mk.injEq] at h <;> first|exact h.elim|(rw[h.1])
theorem AGk {i:Nat} {a:AR}:∀ {l:List (Nat×AR)},(i,a)∈l->i∈AO2 l
 |(j,b) :: l,h=>by
  rcases List.mem_cons.1 h with h|h
  . cases h;exact List.mem_cons_self ..
  . exact List.mem_cons_of_mem _ (AGk h)
section
variable {σ:AS} {sh:Sh} {x:N2 sh.cs} {W:List Nat}
theorem APK {kp:List Nat} (h:AIH (B5 W sh σ x) kp):∀ i∈kp,i∈sh.keep:=fun i hi=>by
 obtain⟨h1,a,h2⟩:=h i hi
 have h2:A1 (allV ownV (T8 sh.cs x)++ACH (T8 sh.cs x) sh.keep σ.res) i=some a:=h2
 rw[fnd_app] at h2
 cases h3:A1 (allV ownV (T8 sh.cs x)) i with
 |some b=>exact absurd (List.mem_append_left _ (List.mem_append_left _ (AGk (ABS h3)))) h1
 |none=>
  rw[h3] at h2
  simp only at h2
  rw[ABj] at h2
  split at h2
  . assumption
  . cases h2
theorem Wk.kex (s:SV):Wk P (B5 W sh σ x) s (I5 sh.keep s):=fun kp hk ρ R M w v h=>by rwa [AFm (APK hk)] at h
theorem ACI {W':List Nat} (hW:∀ t∈I2 sh.cs,t∈W') (hs:∀ t∈W,t∈W'):Rel P W' σ (B5 W sh σ x):=by
 refine⟨fun i hi=>List.mem_append_right _ hi,fun c hc=>List.mem_append_right _ hc,fun i a' hi hn=>?_,fun t ht s hts=>⟨I5 sh.keep s,?_,Wk.kex s⟩⟩
 . have h2:A1 (allV ownV (T8 sh.cs x)++ACH (T8 sh.cs x) sh.keep σ.res) i=some a':=hi
   rw[fnd_app] at h2
   cases h3:A1 (allV ownV (T8 sh.cs x)) i with
   |some b=>exact absurd (List.mem_append_left _ (List.mem_append_left _ (AGk (ABS h3)))) hn
   |none=>
    rw[h3] at h2
    simp only at h2
    rw[ABj] at h2
    split at h2
    . cases h4:A1 σ.res i with
      |none=>rw[h4] at h2;cases h2
      |some a=>
       rw[h4] at h2
       have h2:ADW (T8 sh.cs x) sh.keep i a=a':=Option.some.inj h2
       subst h2
       refine⟨a,rfl,?_⟩
       cases a with
       |own p c xs=>
        simp only[ADW]
        cases h5:ABy (AFi i c) (T8 sh.cs x) with
        |none=>exact⟨xs,rfl,fun _=>rfl⟩
        |some ys=>
         refine⟨ys,rfl,fun hc=>?_⟩
         obtain⟨p,h6,h7⟩:=ABk h5
         have h8:=AMo h7
         have:=AFo h6
         exact absurd (List.mem_append_left _ (AEV (i:=i) (c:=p.1.2) (by rw[<-h8];exact this))) hc
       |row e l=>
        refine⟨_,rfl,putN_len,fun n s' hs hc=>?_⟩
        rw[AGj,Nat.zero_add] at hs
        cases h5:l[n]? with
        |none=>rw[h5] at hs;cases hs
        |some s=>
         rw[h5] at hs
         refine⟨s,rfl,?_⟩
         cases h6:ABy (ADA i n) (T8 sh.cs x) with
         |none=>
          simp only[h6] at hs
          have hs:I5 sh.keep s=s':=Option.some.inj hs
          subst hs
          exact Wk.kex s
         |some r=>
          obtain⟨p,h7,h8⟩:=ABk h6
          have h9:=AHZ h8
          have:=AFo h7
          exact absurd (List.mem_append_left _ (AEU (i:=i) (n:=n) (c:=p.1.2) (by rw[<-h9];exact this))) hc
    . cases h2
 . show A1 (allV ABA (T8 sh.cs x)++ACG W sh.keep σ.env) t=_
   rw[fnd_app,fnd_none,fnd_keepE,if_neg (fun hm=>ht (hs t hm)),hts]
   . rfl
   . intro y hy
     obtain⟨p,h1,h2⟩:=allV_mem.1 hy
     have h3:=AFK h2
     have:=AFo h1
     exact ht (hW t (ABC (c:=p.1.2) (by rw[<-h3];exact this)))
end
end Go.Rx
namespace Go.Rx
open Go Go.Sx Go.RowKit
variable [Trk] [Sg] [Sf] {P:Program} [Se P]
section
variable {w0 w:World} {Mu M:List Nat}
theorem AIK {S S':List Res} (hp:S.Perm S') {b:Nat} (hb:b∈mm S' M):b∈mm S M:=by
 rw[mem_mm] at hb ⊢
 exact hb.imp (fun⟨r,hr,h⟩=>⟨r,hp.mem_iff.2 hr,h⟩) id
theorem Hp.perm [Fx] {S S':List Res} (h:Hp w0 Mu M S w) (hp:S.Perm S'):Hp w0 Mu M S' w:=by
 refine⟨h.kp,fun b hb=>h.mlt b (AIK hp hb),h.adv.trans (Adv.drop fun b hb=>AIK hp hb),h.base,fun r hr=>h.sepM r (hp.mem_iff.2 hr),fun r hr=>h.own r (hp.mem_iff.2 hr),?_,(fun r hr=>r.adv (Adv.drop fun b hb=>AIK hp hb) (fun _ _=>rfl) (h.all r (hp.mem_iff.2 hr))),h.fx⟩
 have h1:=pair_iff.1 h.dis
 refine pair_iff.2 ((hp.pairwise_iff ?_).1 h1)
 intro r r' hd b hb hb'
 exact hd b hb' hb
theorem AFp {S:List Res}:∀ (l1 l2:List Nat),sel S (l1++l2)=sel S l1++sel S l2
 |[],_=>rfl
 |i :: l,l2=>by
  simp only[List.cons_append,sel]
  cases AJd S i with
  |none=>exact AFp l l2
  |some r=>simp only[AFp l l2,List.cons_append]
theorem AGl {S:List Res} {i:Nat} {l:List Nat} {r:Res} (h:S[i]?=some r):sel S (i :: l)=r :: sel S l:=by
 simp only[sel,nthR_eq,h]
def pos:List Nat->Nat->Nat
 |[],_=>0
 |x :: r,i=>if x=i then 0 else pos r i+1
theorem AFq:∀ {l:List Nat} {i:Nat},i∈l->l[pos l i]?=some i
 |x :: r,i,h=>by
  simp only[pos]
  split
  . rename_i e;subst e;rfl
  . rename_i e
    rcases List.mem_cons.1 h with rfl|h
    . exact absurd rfl e
    . simpa using AFq h
theorem ALh {l:List Nat} {i j:Nat} (hi:i∈l) (hj:j∈l) (h:pos l i=pos l j):i=j:=by
 have h1:=AFq hi
 rw[h,AFq hj] at h1
 exact (Option.some.inj h1).symm
theorem ANz {l:List Nat} {i:Nat} (hi:i∈l):pos l i < l.length:=by
 have h1:=AFq hi
 rcases Nat.lt_or_ge (pos l i) l.length with h|h
 . exact h
 . rw[List.getElem?_eq_none h] at h1;cases h1
theorem AIL {S:List Res} {ι:Nat->Nat}:∀ {l:List Nat} {i:Nat},(∀ j∈l,∃ r,S[ι j]?=some r)->i∈l->(sel S (l.map ι))[pos l i]?=S[ι i]?
 |x :: r,i,ha,h=>by
  obtain⟨q,hq⟩:=ha x (List.mem_cons_self ..)
  rw[List.map_cons,AGl hq]
  simp only[pos]
  split
  . rename_i e;subst e;rw[hq];rfl
  . rename_i e
    rcases List.mem_cons.1 h with rfl|h
    . exact absurd rfl e
    . simpa using AIL (fun j hj=>ha j (List.mem_cons_of_mem _ hj)) h
theorem ABa:∀ {l:List Nat},AFj l=true->l.Nodup
 |[],_=>List.nodup_nil
 |x :: r,h=>by
  simp only[AFj] at h
  cases hb:has r x with
  |true=>rw[hb,cond_true] at h;cases h
  |false=>
   rw[hb,cond_false] at h
   exact List.nodup_cons.2 ⟨(fun hm=>by rw[has_iff.2 hm] at hb;cases hb),ABa h⟩
theorem AIs:∀ {l:List Nat},l.Nodup->ABd l=true
 |[],_=>rfl
 |x :: r,h=>by
  obtain⟨h1,h2⟩:=List.nodup_cons.1 h
  simp[ABd,AIs h2,h1]
theorem AAK {kp:List Nat}:∀ {l:List Nat},okK kp l=true->∀ i∈l,i∉kp
 |[],_,i,hi=>by cases hi
 |x :: r,h,i,hi=>by
  simp only[okK] at h
  cases hb:has kp x with
  |true=>rw[hb,cond_true] at h;cases h
  |false=>
   rw[hb,cond_false] at h
   rcases List.mem_cons.1 hi with rfl|hi
   . exact fun hm=>by rw[has_iff.2 hm] at hb;cases hb
   . exact AAK h i hi
theorem AKR {R:Nat->Option AR}:∀ {l:List Nat},AMb R l=true->∀ i∈l,∃ a,R i=some a
 |[],_,i,hi=>by cases hi
 |x :: r,h,i,hi=>by
  simp only[AMb] at h
  cases hb:R x with
  |none=>rw[hb] at h;cases h
  |some a=>
   rw[hb] at h
   rcases List.mem_cons.1 hi with rfl|hi
   . exact⟨a,hb⟩
   . exact AKR h i hi
theorem ABD {i n:Nat}:∀ {cs:List Cm},AAY i n cs=true->(∃ c,(At.cont i,c)∈cs/\n=0)\/∃ m c,(At.cell i m,c)∈cs/\n=m+1
 |[],h=>by cases h
 |(.cell j m,d) :: l,h=>by
  simp only[AAY] at h
  cases hb:Nat.beq i j&&Nat.beq n (m+1) with
  |true=>
   simp only[Bool.and_eq_true] at hb
   have e1:=Nat.eq_of_beq_eq_true hb.1
   have e2:=Nat.eq_of_beq_eq_true hb.2
   subst e1;subst e2
   exact .inr ⟨m,d,List.mem_cons_self ..,rfl⟩
  |false=>
   rw[hb,cond_false] at h
   exact (ABD h).imp (fun⟨c,h1,h2⟩=>⟨c,List.mem_cons_of_mem _ h1,h2⟩) (fun⟨m,c,h1,h2⟩=>⟨m,c,List.mem_cons_of_mem _ h1,h2⟩)
 |(.cont j,d) :: l,h=>by
  simp only[AAY] at h
  cases hb:Nat.beq i j&&Nat.beq n 0 with
  |true=>
   simp only[Bool.and_eq_true] at hb
   have e1:=Nat.eq_of_beq_eq_true hb.1
   have e2:=Nat.eq_of_beq_eq_true hb.2
   subst e1
   exact .inl ⟨d,List.mem_cons_self ..,e2⟩
  |false=>
   rw[hb,cond_false] at h
   exact (ABD h).imp (fun⟨c,h1,h2⟩=>⟨c,List.mem_cons_of_mem _ h1,h2⟩) (fun⟨m,c,h1,h2⟩=>⟨m,c,List.mem_cons_of_mem _ h1,h2⟩)
 |(.slot j,d) :: l,h=>by
  simp only[AAY] at h
  exact (ABD h).imp (fun⟨c,h1,h2⟩=>⟨c,List.mem_cons_of_mem _ h1,h2⟩) (fun⟨m,c,h1,h2⟩=>⟨m,c,List.mem_cons_of_mem _ h1,h2⟩)
theorem AFr {kp:List Nat} {cs:List Cm}:∀ {l:List (Nat×Nat)},okC kp cs l=true->∀ i n,(i,n)∈l->i∈kp->AAY i n cs=true
 |[],_,i,n,hm,_=>by cases hm
 |(j,m) :: r,h,i,n,hm,hk=>by
  simp only[okC] at h
  cases hb:has kp j with
  |true=>
   rw[hb,cond_true] at h
   cases hc:AAY j m cs with
   |false=>rw[hc,cond_false] at h;cases h
   |true=>
    rw[hc,cond_true] at h
    rcases List.mem_cons.1 hm with hm|hm
    . cases hm;exact hc
    . exact AFr h i n hm hk
  |false=>
   rw[hb,cond_false] at h
   rcases List.mem_cons.1 hm with hm|hm
   . cases hm;rw[has_iff.2 hk] at hb;cases hb
   . exact AFr h i n hm hk
end
section
variable {σ1:AS}
theorem AKS:∀ (cs:List Cm) {x:N2 cs},AH8 σ1 cs=some x->∀ p∈T8 cs x,AAH σ1 p.1.2 p.1.1=some p.2
 |[],_,_,p,hp=>by cases hp
 |[c],x,h,p,hp=>by
  have hp:p=⟨c,x⟩:=by simpa[T8] using hp
  subst hp;exact h
 |c :: d :: l,x,h,p,hp=>by
  have h:(match AAH σ1 c.2 c.1 with
   |some y=>match AH8 σ1 (d :: l) with
    |some r=>some (y,r)
    |none=>none
   |none=>none)=some x:=h
  cases h1:AAH σ1 c.2 c.1 with
  |none=>rw[h1] at h;exact (A2 h).elim
  |some y=>
   rw[h1] at h
   cases h2:AH8 σ1 (d :: l) with
   |none=>rw[h2] at h;exact (A2 h).elim
   |some r=>
    rw[h2] at h
    have h:(y,r)=x:=Option.some.inj h
    subst h
    rcases List.mem_cons.1 hp with rfl|hp
    . exact h1
    . exact AKS (d :: l) h2 p hp
theorem ALi {t:Ty} {a:At} {x:den t} (h:AAH σ1 (.d t) a=some x):∃ s,T9 σ1 a=some s/\C1 (A1 σ1.res) t s=some x:=by
 cases a with
 |slot s=>
  have h:(match A1 σ1.env s with
   |some v=>C1 (A1 σ1.res) t v
   |none=>none)=some x:=h
  cases h1:A1 σ1.env s with
  |none=>rw[h1] at h;exact (A2 h).elim
  |some v=>rw[h1] at h;exact⟨v,h1,h⟩
 |cell i n=>
  have h:(match ACF σ1 i n with
   |some v=>C1 (A1 σ1.res) t v
   |none=>none)=some x:=h
  cases h1:ACF σ1 i n with
  |none=>rw[h1] at h;exact (A2 h).elim
  |some v=>rw[h1] at h;exact⟨v,h1,h⟩
 |cont i=>exact (A2 h).elim
theorem AAp {R:Nat->Option AR} {c:Oc} {s:SV} {x:den c.ty} (h:AEN R c s=some x):(∃ i,s=.own i/\R i=some (.own false c x))\/(s=.nilS/\nilO c=some x):=by
 cases s with
 |own i=>
  have hq:(match R i with
   |some (.own false c' xs)=>castO c' c xs
   |_=>none)=some x:=h
  cases h1:R i with
  |none=>rw[h1] at hq;exact (A2 hq).elim
  |some a=>
   rw[h1] at hq
   cases a with
   |row _ _=>exact (A2 hq).elim
   |own p c' xs=>
    cases p with
    |true=>exact (A2 hq).elim
    |false=>
     obtain⟨he,hq⟩:=AAI (show castO c' c xs=some x from hq)
     subst he
     have hq:xs=x:=hq
     subst hq
     exact .inl ⟨i,rfl,h1⟩
 |nilS=>exact .inr ⟨rfl,h⟩
 |int _ _|bool _|ary _ _ _|str _ _|agg _|fv _ _ _|fn _ _|dead|tup _|rp _ _|ptr _ _|ep _ _ _ _ _|dat _ _|undef|raw _|it _ _|np _ _|ap _ _ _ _=>exact (A2 h).elim
theorem U8 {c:Oc} {a:At} {x:den c.ty} (h:AAH σ1 (.own c) a=some x):(∃ i p,a=.cont i/\A1 σ1.res i=some (.own p c x))\/((∀ i,a≠.cont i)/\∃ s,T9 σ1 a=some s/\AEN (A1 σ1.res) c s=some x):=by
 cases a with
 |slot s=>
  have h:(match A1 σ1.env s with
   |some v=>AEN (A1 σ1.res) c v
   |none=>none)=some x:=h
  cases h1:A1 σ1.env s with
  |none=>rw[h1] at h;exact (A2 h).elim
  |some v=>rw[h1] at h;exact .inr ⟨(fun i hi=>by cases hi),v,h1,h⟩
 |cell i n=>
  have h:(match ACF σ1 i n with
   |some v=>AEN (A1 σ1.res) c v
   |none=>none)=some x:=h
  cases h1:ACF σ1 i n with
  |none=>rw[h1] at h;exact (A2 h).elim
  |some v=>rw[h1] at h;exact .inr ⟨(fun i hi=>by cases hi),v,h1,h⟩
 |cont i=>
  have hq:(match A1 σ1.res i with
   |some (.own _ c' xs)=>castO c' c xs
   |_=>none)=some x:=h
  cases h1:A1 σ1.res i with
  |none=>rw[h1] at hq;exact (A2 hq).elim
  |some a=>
   rw[h1] at hq
   cases a with
   |row _ _=>exact (A2 hq).elim
   |own p c' xs=>
    obtain⟨he,hq⟩:=AAI (show castO c' c xs=some x from hq)
    subst he
    have hq:xs=x:=hq
    subst hq
    exact .inl ⟨i,p,rfl,h1⟩
theorem ALI {a:At} {x:Ck.undef.den} (h:AAH σ1 .undef a=some x):∃ s,a=.slot s/\A1 σ1.env s=some .undef:=by
 cases a with
 |slot s=>
  have h:(match A1 σ1.env s with
   |some .undef=>some ()
   |_=>none)=some x:=h
  cases h1:A1 σ1.env s with
  |none=>rw[h1] at h;exact (A2 h).elim
  |some v=>
   rw[h1] at h
   cases v with
   |undef=>exact⟨s,rfl,h1⟩
   |int _ _|bool _|ary _ _ _|str _ _|agg _|fv _ _ _|fn _ _|dead|tup _|rp _ _|ptr _ _|ep _ _ _ _ _|dat _ _|own _|nilS|raw _|it _ _|np _ _|ap _ _ _ _=>exact (A2 h).elim
 |cell i n=>exact (A2 h).elim
 |cont i=>exact (A2 h).elim
theorem AAq {i:Nat} {s:SV} (hi:i∈A8 s):∀ {cs:List Cm} {a:At} {t:Ty},(a,Ck.d t)∈cs->T9 σ1 a=some s->i∈lent σ1 cs
 |(b,.d u) :: l,a,t,h,hv=>by
  simp only[lent]
  rcases List.mem_cons.1 h with h|h
  . cases h;rw[hv];exact List.mem_append_left _ hi
  . cases T9 σ1 b with
    |none=>exact AAq hi h hv
    |some s'=>exact List.mem_append_right _ (AAq hi h hv)
 |(b,.own _) :: l,a,t,h,hv=>by
  rcases List.mem_cons.1 h with h|h
  . cases h
  . exact AAq (cs:=l) hi h hv
 |(b,.undef) :: l,a,t,h,hv=>by
  rcases List.mem_cons.1 h with h|h
  . cases h
  . exact AAq (cs:=l) hi h hv
 |(b,.it _) :: l,a,t,h,hv=>by
  rcases List.mem_cons.1 h with h|h
  . cases h
  . exact AAq (cs:=l) hi h hv
 |(b,.np _) :: l,a,t,h,hv=>by
  rcases List.mem_cons.1 h with h|h
  . cases h
  . exact AAq (cs:=l) hi h hv
def hvO (ρ:Nat->Value):Option SV->Value
 |some (.own i)=>ρ i
 |_=>.slice none 0 0
def V5 (σ1:AS) (ρ:Nat->Value):List Cv->List (Nat×AR×Value)
 |[]=>[]
 |p :: l=>(ownV p.1.2 p.2 p.1.1).map (fun o=>(o.1,o.2,hvO ρ (T9 σ1 p.1.1)))++V5 σ1 ρ l
def rsO (l:List (Nat×AR×Value)):List Res:=l.map fun o=>G1 o.2.2 [] [] o.2.1
theorem AKU {ρ:Nat->Value}:∀ q:List Cv,(V5 σ1 ρ q).map (fun o=>(o.1,o.2.1))=allV ownV q
 |[]=>rfl
 |p :: l=>by
  simp only[V5,allV,List.map_append,List.map_map,AKU l]
  congr 1
  exact (List.map_congr_left fun o _=>rfl).trans (List.map_id _)
theorem ownO_ids {ρ:Nat->Value}:∀ q:List Cv,(V5 σ1 ρ q).map (·.1)=AGW (q.map (·.1))
 |[]=>rfl
 |⟨(a,c),x⟩ :: l=>by
  simp only[V5,List.map_append,List.map_map,List.map_cons]
  rw[ownO_ids l]
  cases c <;> cases a <;> rfl
theorem AGm {c:Ck} {x:c.den} {a:At} {i:Nat} {r:AR} (h:(i,r)∈ownV c x a):∃ o,∃ hc:c=.own o,r=.own false o (show den o.ty from (hc▸x:(Ck.own o).den))/\((a=.slot i)\/∃ j n,a=.cell j n/\i=ACi j n):=by
 cases c with
 |d t=>cases a <;> cases h
 |undef|it _|np _=>cases a <;> cases h
 |own o=>
  cases a with
  |slot s=>
   have h:(i,r)=(s,.own false o x):=by simpa[ownV] using h
   cases h;exact⟨o,rfl,rfl,.inl rfl⟩
  |cell j n=>
   have h:(i,r)=(ACi j n,.own false o x):=by simpa[ownV] using h
   cases h;exact⟨o,rfl,rfl,.inr ⟨j,n,rfl,rfl⟩⟩
  |cont j=>cases h
theorem ownO_mem {ρ:Nat->Value} {i:Nat} {r:AR} {v:Value}:∀ {q:List Cv},(i,r,v)∈V5 σ1 ρ q↔∃ p∈q,(i,r)∈ownV p.1.2 p.2 p.1.1/\v=hvO ρ (T9 σ1 p.1.1)
 |[]=>by simp[V5]
 |p :: l=>by
  simp only[V5,List.mem_append,List.mem_map,ownO_mem (q:=l),List.mem_cons,Prod.mk.injEq]
  constructor
  . rintro (⟨o,h1,h2,h3,h4⟩|⟨p',h1,h2⟩)
    . exact⟨p,.inl rfl,by rw[<-h2,<-h3];exact h1,h4.symm⟩
    . exact⟨p',.inr h1,h2⟩
  . rintro⟨p',h1|h1,h2,h3⟩
    . subst h1;exact .inl ⟨(i,r),h2,rfl,rfl,h3.symm⟩
    . exact .inr ⟨p',h1,h2,h3⟩
theorem AHa {α:Type} {i:Nat} {v:α}:∀ {l:List (Nat×α)},(l.map (·.1)).Nodup->(i,v)∈l->A1 l i=some v
 |(k,u) :: r,hn,h=>by
  obtain⟨h1,h2⟩:=List.nodup_cons.1 hn
  rw[fnd_cons]
  rcases List.mem_cons.1 h with h|h
  . cases h;rw[if_pos rfl]
  . rw[if_neg (show ¬ k=i from fun e=>h1 (by subst e;exact List.mem_map_of_mem (f:=(·.1)) h))]
    exact AHa h2 h
theorem AFs:∀ {O:List (Nat×AR×Value)} {i:Nat} {a:AR},A1 (O.map fun o=>(o.1,o.2.1)) i=some a->∃ v,A1 (O.map fun o=>(o.1,o.2.2)) i=some v/\O[pos (O.map (·.1)) i]?=some (i,a,v)
 |(k,b,v) :: r,i,a,h=>by
  simp only[List.map_cons] at h ⊢
  rw[fnd_cons] at h
  rw[fnd_cons]
  simp only[pos]
  split at h
  . rename_i e;subst e;cases h
    exact⟨v,by rw[if_pos rfl],by rw[if_pos rfl];rfl⟩
  . rename_i e
    obtain⟨u,h1,h2⟩:=AFs h
    exact⟨u,by rw[if_neg e];exact h1,by rw[if_neg e];simpa using h2⟩
end
end Go.Rx
namespace Go.Rx
open Go Go.Sx Go.RowKit
variable [Trk] [Sg] [Sf] {P:Program} [Se P]
variable [Anch]
section
variable {w0 w:World} {Mu M:List Nat} {σ1:AS} {L:A7} {S:List Res} {ρ:Nat->Value} {γ:Nat->List Value} {μ:Nat->List Nat} {ι:Nat->Nat}
theorem moved_cons {p:Cm} {l:List Cm}:G3 σ1 (p :: l)=(match p.2 with
  |.own _=>match T9 σ1 p.1 with
   |some (.own i)=>i :: G3 σ1 l
   |_=>G3 σ1 l
  |_=>G3 σ1 l):=by
 obtain⟨a,c⟩:=p
 cases c <;> rfl
theorem AKV [Fx] {Mu M:List Nat} {S:List Res} {w0 w:World} (h:Hp w0 Mu M S w) {c:Oc} {x:den c.ty} (hx:nilO c=some x):Hp w0 Mu M (E4 (P:=P) [] (.slice none 0 0) c x :: S) w:=by
 cases c with
 |mp m k u=>cases hx
 |sl e t=>
  have hx:some ([]:List (den t))=some x:=hx
  cases hx
  exact h.addNil (enc (P:=P) t) e
theorem ALj {c:Oc} {x:den c.ty} (hx:nilO c=some x) {b:Nat} (hb:b∈(E4 (P:=P) [] (.slice none 0 0) c x).fp):False:=by
 cases c with
 |mp m k u=>cases hx
 |sl e t=>
  have hb:b∈ob (.slice none 0 0):=hb
  cases hb
theorem hpO [Fx] (h:HS w0 Mu M σ1 L w S ρ γ μ ι) {K0:List Res}:∀ (q:List Cv) (base:List Res),(∀ p∈q,AAH σ1 p.1.2 p.1.1=some p.2)->Hp w0 Mu M (base++sel S ((G3 σ1 (q.map (·.1))).map ι)++K0) w->Hp w0 Mu M (base++rsO (P:=P) (V5 σ1 ρ q)++K0) w
 |[],base,_,hp=>hp
 |⟨(a,c),x⟩ :: l,base,hq,hp=>by
  have hq1:=hq _ (List.mem_cons_self ..)
  have hq2:∀ p∈l,AAH σ1 p.1.2 p.1.1=some p.2:=fun p hp=>hq p (List.mem_cons_of_mem _ hp)
  have pass:ownV c x a=[]->G3 σ1 ((⟨(a,c),x⟩ :: l:List Cv).map (·.1))=G3 σ1 (l.map (·.1))->Hp w0 Mu M (base++rsO (P:=P) (V5 σ1 ρ (⟨(a,c),x⟩ :: l))++K0) w:=fun h1 h2=>by
   rw[h2] at hp
   have:=hpO h l base hq2 hp
   simp only[V5,h1,List.map_nil,List.nil_append]
   exact this
  cases c with
  |d t=>exact pass (by cases a <;> rfl) rfl
  |undef|it _|np _=>exact pass (by cases a <;> rfl) rfl
  |own e=>
   have hmv:∀ s,T9 σ1 a=s->G3 σ1 ((⟨(a,.own e),x⟩ :: l:List Cv).map (·.1))=(match s with
     |some (.own i)=>i :: G3 σ1 (l.map (·.1))
     |_=>G3 σ1 (l.map (·.1))):=fun s hs=>by
    rw[List.map_cons,moved_cons,hs]
   rcases U8 hq1 with⟨i,p,ha,_⟩|⟨hnc,s,hs,ho⟩
   . have ha:a=.cont i:=ha
     subst ha
     exact pass rfl (hmv none rfl)
   . have hs:T9 σ1 a=some s:=hs
     have hrs:rsO (P:=P) (V5 σ1 ρ (⟨(a,.own e),x⟩ :: l))=G1 (hvO ρ (some s)) [] [] (.own false e x) :: rsO (P:=P) (V5 σ1 ρ l):=by
      cases a with
      |slot _=>simp only[V5,ownV,List.map_cons,List.map_nil,rsO,hs,List.cons_append,List.nil_append]
      |cell _ _=>simp only[V5,ownV,List.map_cons,List.map_nil,rsO,hs,List.cons_append,List.nil_append]
      |cont i=>exact absurd rfl (hnc i)
     rw[hrs]
     rw[hmv _ hs] at hp
     rcases AAp ho with⟨i,rfl,hi⟩|⟨rfl,hx⟩
     . simp only at hp
       have h1:=h.res i _ hi
       rw[List.map_cons,AGl h1] at hp
       have:=hpO h l (base++[G1 (ρ i) (γ i) (μ i) (.own false e x)]) hq2 (by simpa using hp)
       have he:G1 (P:=P) (hvO ρ (some (.own i))) [] [] (.own false e x)=G1 (ρ i) (γ i) (μ i) (.own false e x):=rfl
       rw[he]
       simpa using this
     . simp only at hp
       have h1:=hpO h l base hq2 hp
       have h2:=AKV h1 hx
       refine Hp.perm h2 ?_
       show (_ :: (base++rsO (P:=P) (V5 σ1 ρ l)++K0)).Perm _
       rw[List.append_assoc,List.append_assoc,List.cons_append]
       exact List.perm_middle.symm
theorem AN0 [Fx] (h:HS w0 Mu M σ1 L w S ρ γ μ ι):∀ (q:List Cv),(∀ p∈q,AAH σ1 p.1.2 p.1.1=some p.2)->∀ r∈rsO (P:=P) (V5 σ1 ρ q),∀ b∈r.fp,b∈mm (sel S ((G3 σ1 (q.map (·.1))).map ι)) M
 |[],_,r,hr,_,_=>by cases hr
 |⟨(a,c),x⟩ :: l,hq,r,hr,b,hb=>by
  have hq1:=hq _ (List.mem_cons_self ..)
  have hq2:∀ p∈l,AAH σ1 p.1.2 p.1.1=some p.2:=fun p hp=>hq p (List.mem_cons_of_mem _ hp)
  have hsub:∀ b,b∈mm (sel S ((G3 σ1 (l.map (·.1))).map ι)) M->b∈mm (sel S ((G3 σ1 ((⟨(a,c),x⟩ :: l:List Cv).map (·.1))).map ι)) M:=fun b hb=>by
   rw[List.map_cons,moved_cons]
   split
   . split
     . rename_i i _
       rw[List.map_cons]
       simp only[sel]
       cases AJd S (ι i) with
       |none=>exact hb
       |some r=>exact List.mem_append_right _ hb
     . exact hb
   . exact hb
  obtain⟨o,ho,rfl⟩:=List.mem_map.1 hr
  obtain⟨i,r0,v⟩:=o
  obtain⟨p,hp,h1,h2⟩:=ownO_mem.1 ho
  rcases List.mem_cons.1 hp with hp|hp
  . subst hp
    obtain⟨e,hc,hr0,hal⟩:=AGm h1
    have hc:c=.own e:=hc
    subst hc
    have hr0:r0=.own false e x:=hr0
    subst hr0
    rcases U8 hq1 with⟨j,p,ha,_⟩|⟨hnc,s,hs,hod⟩
    . have ha:a=.cont j:=ha
      subst ha
      rcases hal with ha|⟨_,_,ha,_⟩ <;> cases ha
    . have hs:T9 σ1 a=some s:=hs
      have h2:v=hvO ρ (some s):=by rw[<-hs];exact h2
      subst h2
      rcases AAp hod with⟨j,rfl,hj⟩|⟨rfl,hx⟩
      . rw[List.map_cons,moved_cons]
        simp only[hs]
        rw[List.map_cons,AGl (h.res j _ hj)]
        exact List.mem_append_left _ hb
      . exact (ALj hx hb).elim
  . refine hsub b (AN0 h l hq2 _ (List.mem_map_of_mem (ownO_mem.2 ⟨p,hp,h1,h2⟩)) b hb)
theorem OkL.map {ρ ρ2:Nat->Value} {R R2:Nat->Option AR} {M M2:List Nat} {w w2:World}:∀ (l l2:List SV) {vs:List Value},l2.length=l.length->OkL ρ R M w l vs->(∀ (n:Nat) (s:SV) (u:Value),l[n]?=some s->Ok ρ R M w s u->∃ s2,l2[n]?=some s2/\Ok ρ2 R2 M2 w2 s2 u)->OkL ρ2 R2 M2 w2 l2 vs
 |[],[],vs,_,h,_=>h
 |[],_ :: _,_,h,_,_=>by cases h
 |_ :: _,[],_,h,_,_=>by cases h
 |s :: l,s2 :: l2,vs,hl,⟨u,c,r,h1,h2,h3,h4⟩,hm=>by
  obtain⟨s3,h5,h6⟩:=hm 0 s u rfl h2
  have h5:s2=s3:=Option.some.inj h5
  subst h5
  exact⟨u,c,r,h1,h6,h3,OkL.map l l2 (by simpa using hl) h4 fun n s u hs ho=>hm (n+1) s u hs ho⟩
theorem AN1 {i:Nat} {e e2:Oc} {y:den e2.ty} {a:At} {ys:den e.ty} (h:AFi i e (.own e2) y a=some ys):a=.cont i/\castO e2 e y=some ys:=by
 cases a with
 |slot _=>cases h
 |cell _ _=>cases h
 |cont j=>
  have hq:(match Nat.beq i j with
   |true=>castO e2 e y
   |false=>none)=some ys:=h
  cases h1:Nat.beq i j with
  |false=>rw[h1] at hq;cases hq
  |true=>
   rw[h1] at hq
   rw[Nat.eq_of_beq_eq_true h1]
   exact⟨rfl,hq⟩
variable {σ:AS} {W:List Nat} {sh:Sh} {x:N2 sh.cs}
theorem AN2 (h:H6 sh σ1=some x):AJK sh σ1=true/\AH8 σ1 sh.cs=some x:=by
 unfold H6 at h
 cases hb:AJK sh σ1 with
 |false=>rw[hb] at h;exact (A2 h).elim
 |true=>rw[hb] at h;exact⟨rfl,h⟩
theorem R5 [Fx] [Sl (P:=P)] (h:HS w0 Mu M σ1 L w S ρ γ μ ι) (hR:Rel P W σ σ1) (hp:H6 sh σ1=some x):Holds w0 Mu M (B5 W sh σ x) L w:=by
 obtain⟨hB,hp⟩:=AN2 hp
 simp only[AJK,Bool.and_eq_true] at hB
 obtain⟨⟨⟨⟨⟨⟨⟨⟨⟨b1,b2⟩,b3⟩,b4⟩,b5⟩,b6⟩,b7⟩,b8⟩,b9⟩,b10⟩:=hB
 have hpk:=AKS sh.cs hp
 generalize hq:T8 sh.cs x=q at hpk
 have hqc:q.map (·.1)=sh.cs:=by rw[<-hq];exact AFn _ _
 have hmem:∀ p∈q,p.1∈sh.cs:=fun p hp=>by rw[<-hqc];exact List.mem_map_of_mem hp
 have hof:∀ c∈sh.cs,∃ p∈q,p.1=c:=fun c hc=>by rw[<-hq];exact ANy hc
 have hkeep:=AKR b8
 have hlive:AIH σ1 sh.keep:=fun i hi=>⟨fun hk=>AAK b1 i hk hi,hkeep i hi⟩
 have hmv:∀ i∈G3 σ1 sh.cs,∃ a,A1 σ1.res i=some a:=by
  have key:∀ (q:List Cv),(∀ p∈q,AAH σ1 p.1.2 p.1.1=some p.2)->∀ i∈G3 σ1 (q.map (·.1)),∃ a,A1 σ1.res i=some a:=by
   intro q
   induction q with
   |nil=>intro _ i hi;cases hi
   |cons p l ih=>
    intro hq i hi
    obtain⟨⟨a,c⟩,y⟩:=p
    have hq1:=hq _ (List.mem_cons_self ..)
    have hl:=ih fun p hp=>hq p (List.mem_cons_of_mem _ hp)
    rw[List.map_cons,moved_cons] at hi
    cases c with
    |d t=>exact hl i hi
    |undef|it _|np _=>exact hl i hi
    |own e=>
     simp only at hi
     rcases U8 hq1 with⟨j,p,ha,_⟩|⟨_,s,hs,hod⟩
     . have ha:a=.cont j:=ha
       subst ha
       exact hl i hi
     . have hs:T9 σ1 a=some s:=hs
       rw[hs] at hi
       rcases AAp hod with⟨j,rfl,hj⟩|⟨rfl,_⟩
       . rcases List.mem_cons.1 hi with rfl|hi
         . exact⟨_,hj⟩
         . exact hl i hi
       . exact hl i hi
  intro i hi
  rw[<-hqc] at hi
  exact key q hpk i hi
 have hdom:∀ i∈G3 σ1 sh.cs++sh.keep,∃ a,A1 σ1.res i=some a:=fun i hi=>(List.mem_append.1 hi).elim (hmv i) (hkeep i)
 have hnd0:(G3 σ1 sh.cs++sh.keep).Nodup:=List.nodup_append.2 ⟨ABa b4,ABa b7,fun a ha b hb e=>AAK b3 a ha (e▸hb)⟩
 have hnd:ABd ((G3 σ1 sh.cs++sh.keep).map ι)=true:=by
  refine AIs ?_
  have key:∀ l:List Nat,l.Nodup->(∀ i∈l,∃ a,A1 σ1.res i=some a)->(l.map ι).Nodup:=by
   intro l
   induction l with
   |nil=>intro _ _;exact List.nodup_nil
   |cons i l ih=>
    intro hn hd
    obtain⟨h1,h2⟩:=List.nodup_cons.1 hn
    refine List.nodup_cons.2 ⟨fun hm=>?_,ih h2 fun j hj=>hd j (List.mem_cons_of_mem _ hj)⟩
    obtain⟨j,hj,he⟩:=List.mem_map.1 hm
    obtain⟨a,ha⟩:=hd i (List.mem_cons_self ..)
    obtain⟨b,hb⟩:=hd j (List.mem_cons_of_mem _ hj)
    exact h1 (h.inj j i b a hb ha he▸hj)
  exact key _ hnd0 hdom
 have hsel:=h.hp.sel _ hnd
 rw[List.map_append,AFp] at hsel
 have hkr:∀ j∈sh.keep,∃ r,S[ι j]?=some r:=fun j hj=>by
  obtain⟨a,ha⟩:=hkeep j hj
  exact⟨_,h.res j a ha⟩
 have hHp:Hp w0 Mu M (rsO (P:=P) (V5 σ1 ρ q)++sel S (sh.keep.map ι)) w:=by
  have:=hpO (P:=P) h (K0:=sel S (sh.keep.map ι)) q [] hpk (by rw[hqc];simpa using hsel)
  simpa using this
 generalize hO:V5 σ1 ρ q=O at hHp
 have hOi:O.map (·.1)=AGW sh.cs:=by rw[<-hO,ownO_ids,hqc]
 have hOv:O.map (fun o=>(o.1,o.2.1))=allV ownV q:=by rw[<-hO,AKU]
 have hOn:(O.map (·.1)).Nodup:=by rw[hOi];exact ABa b9
 have hids:∀ i∈sh.keep,i∉O.map (·.1):=fun i hi hm=>by rw[hOi] at hm;exact AAK b10 i hm hi
 have hM1:∀ b,b∈mm (rsO (P:=P) O++sel S (sh.keep.map ι)) M->b∈mm (sel S ((G3 σ1 sh.cs++sh.keep).map ι)) M:=fun b hb=>by
  rw[List.map_append,AFp]
  rcases mem_mm.1 hb with⟨r,hr,hb⟩|hb
  . rcases List.mem_append.1 hr with hr|hr
    . have:=AN0 (P:=P) h q hpk r (by rw[hO];exact hr) b hb
      rw[hqc] at this
      rcases mem_mm.1 this with⟨r,hr,hb⟩|hb
      . exact mem_mm.2 (.inl ⟨r,List.mem_append_left _ hr,hb⟩)
      . exact mem_mm.2 (.inr hb)
    . exact mem_mm.2 (.inl ⟨r,List.mem_append_right _ hr,hb⟩)
  . exact mem_mm.2 (.inr hb)
 have hM2:∀ b,b∈mm (rsO (P:=P) O++sel S (sh.keep.map ι)) M->b∈mm S M:=fun b hb=>ADf (hM1 b hb)
 have hread:∀ I:List Nat,(∀ i∈I,i∉G3 σ1 sh.cs/\i∉sh.keep)->Rds ρ (A1 σ1.res) (mm (rsO (P:=P) O++sel S (sh.keep.map ι)) M) w I:=fun I hI i hi p c0 xs ha=>by
  have hc:((G3 σ1 sh.cs++sh.keep).map ι).contains (ι i)=false:=by
   cases hb:((G3 σ1 sh.cs++sh.keep).map ι).contains (ι i) with
   |false=>rfl
   |true=>
    simp only[List.contains_eq_mem,decide_eq_true_eq] at hb
    obtain⟨j,hj,he⟩:=List.mem_map.1 hb
    obtain⟨b,hb⟩:=hdom j hj
    have:=h.inj j i b _ hb ha he
    subst this
    rcases List.mem_append.1 hj with hj|hj
    . exact absurd hj (hI j hi).1
    . exact absurd hj (hI j hi).2
  exact (AIB h.hp _ (ι i) hc (h.row i _ ha) (h.res i _ ha)).adv (Adv.drop hM1)
 let ρ2:Nat->Value:=fun i=>match A1 (O.map fun o=>(o.1,o.2.2)) i with
  |some v=>v
  |none=>ρ i
 let ι2:Nat->Nat:=fun i=>if i∈O.map (·.1) then pos (O.map (·.1)) i else O.length+pos sh.keep i
 have hρ:∀ i,i∉O.map (·.1)->ρ2 i=ρ i:=fun i hi=>by
  have:A1 (O.map fun o=>(o.1,o.2.2)) i=none:=fnd_none fun v hv=>by
   obtain⟨o,ho,he⟩:=List.mem_map.1 hv
   cases he
   exact hi (List.mem_map_of_mem (f:=(·.1)) ho)
  simp only[ρ2,this]
 have hρO:∀ i a v,(i,a,v)∈O->ρ2 i=v:=fun i a v ho=>by
  have:A1 (O.map fun o=>(o.1,o.2.2)) i=some v:=AHa (by rw[List.map_map];exact hOn) (List.mem_map.2 ⟨(i,a,v),ho,rfl⟩)
  simp only[ρ2,this]
 have hkept:∀ i∈sh.keep,∃ a1 a0,A1 σ1.res i=some a1/\A1 σ.res i=some a0/\RelA P σ1 i a0 a1:=fun i hi=>by
  obtain⟨a1,h1⟩:=hkeep i hi
  obtain⟨a0,h2,h3⟩:=hR.dom i a1 h1 (hlive i hi).1
  exact⟨a1,a0,h1,h2,h3⟩
 have hτ:∀ i,A1 (B5 W sh σ x).res i=match A1 (allV ownV q) i with|some a=>some a|none=>if i∈sh.keep then (A1 σ.res i).map (ADW q sh.keep i) else none:=fun i=>by
  show A1 (allV ownV (T8 sh.cs x)++ACH (T8 sh.cs x) sh.keep σ.res) i=_
  rw[hq,fnd_app,ABj]
  cases A1 (allV ownV q) i <;> rfl
 have hOvn:∀ i∈sh.keep,A1 (allV ownV q) i=none:=fun i hi=>fnd_none fun a ha=>by
  rw[<-hOv] at ha
  obtain⟨o,ho,he⟩:=List.mem_map.1 ha
  cases he
  exact hids _ hi (List.mem_map_of_mem (f:=(·.1)) ho)
 have hτk:∀ i∈sh.keep,∀ a0,A1 σ.res i=some a0->A1 (B5 W sh σ x).res i=some (ADW q sh.keep i a0):=fun i hi a0 ha=>by
  rw[hτ,hOvn i hi,ha];simp[hi]
 have hown:∀ i∈sh.keep,∀ p e (xs:den e.ty),A1 σ1.res i=some (.own p e xs)->A1 (B5 W sh σ x).res i=some (.own p e xs):=fun i hi p e xs h1=>by
  obtain⟨a1,a0,h2,h3,h4⟩:=hkept i hi
  rw[h1] at h2;cases h2
  rw[hτk i hi a0 h3]
  cases a0 with
  |row e l=>obtain⟨l',h5,_⟩:=h4;cases h5
  |own p' e' zs=>
   obtain⟨ys,h5,h6⟩:=h4
   cases h5
   simp only[ADW]
   cases h7:ABy (AFi i e) q with
   |some ys=>
    obtain⟨cp,h8,h9⟩:=ABk h7
    obtain⟨⟨a,c⟩,y⟩:=cp
    cases c with
    |d _=>cases h9
    |undef|it _|np _=>cases h9
    |own e2=>
     obtain⟨h10,h11⟩:=AN1 h9
     subst h10
     rcases U8 (hpk _ h8) with⟨j,p'',ha,hj⟩|⟨hnc,_⟩
     . cases ha
       rw[h1] at hj;cases hj
       obtain⟨he,h11⟩:=AAI h11
       have h11:y=ys:=h11
       subst h11;rfl
     . exact absurd rfl (hnc i)
   |none=>
    have:xs=zs:=h6 fun hc=>by
     rcases ABD (AFr b2 i 0 hc hi) with⟨c,hm,_⟩|⟨m,c,_,hm⟩
     . obtain⟨cp,hcp,he⟩:=hof _ hm
       obtain⟨⟨a,c'⟩,y⟩:=cp
       cases he
       have h8:=AFJ h7 _ hcp
       have h9:=hpk _ hcp
       cases c with
       |d t=>exact (A2 h9).elim
       |undef|it _|np _=>exact (A2 h9).elim
       |own e2=>
        rcases U8 h9 with⟨j,p'',ha,hj⟩|⟨hnc,_⟩
        . cases ha
          rw[h1] at hj;cases hj
          have h8:(match Nat.beq i i with
           |true=>castO e e y
           |false=>none)=none:=h8
          simp only[beq_self,castO,dif_pos] at h8
          cases h8
        . exact absurd rfl (hnc i)
     . omega
    rw[this]
 have hkex:∀ s v,Ok ρ (A1 σ1.res) (mm S M) w s v->Ok ρ2 (A1 (B5 W sh σ x).res) (mm (rsO (P:=P) O++sel S (sh.keep.map ι)) M) w (I5 sh.keep s) v:=fun s v hs=>
  Ok.kex (fun j hj=>hρ j (hids j hj)) (fun j hj p e t xs h1=>⟨xs,hown j hj p (.sl e t) xs h1,rfl⟩) s (Ok.adv (Adv.drop hM2) s hs)
 have hdat:∀ (cp:Cv) (t:Ty) (y:den t) (a:At),cp=⟨(a,.d t),y⟩->cp∈q->∀ s u,T9 σ1 a=some s->Ok ρ (A1 σ1.res) (mm S M) w s u->Ok ρ2 (A1 (B5 W sh σ x).res) (mm (rsO (P:=P) O++sel S (sh.keep.map ι)) M) w (F5 t y) u:=fun cp t y a he hcp s u hv hu=>by
  subst he
  obtain⟨s',h1,h2⟩:=ALi (hpk _ hcp)
  have h1:T9 σ1 a=some s':=h1
  rw[hv] at h1;cases h1
  refine D6 t (H3 hM2 t s (hread _ fun i hi=>?_) h2 hu)
  have:=AAq hi (hmem _ hcp) hv
  exact⟨fun hm=>AAK b6 i this hm,fun hm=>AAK b5 i this hm⟩
 have hslc:∀ (cp:Cv) (e:Oc) (y:den e.ty) (a:At),cp=⟨(a,.own e),y⟩->cp∈q->(∀ i,a≠.cont i)->∀ s u,T9 σ1 a=some s->Ok ρ (A1 σ1.res) (mm S M) w s u->∀ i,(i,AR.own false e y)∈ownV (.own e) y a->Ok ρ2 (A1 (B5 W sh σ x).res) (mm (rsO (P:=P) O++sel S (sh.keep.map ι)) M) w (.own i) u:=fun cp e y a he hcp hnc s u hv hu i hi=>by
  subst he
  have h1:ρ2 i=hvO ρ (T9 σ1 a):=hρO i (.own false e y) _ (by rw[<-hO];exact ownO_mem.2 ⟨_,hcp,hi,rfl⟩)
  rcases U8 (hpk _ hcp) with⟨j,p,ha,_⟩|⟨_,s',hs',hod⟩
  . exact absurd ha (hnc j)
  . have hs':T9 σ1 a=some s':=hs'
    rw[hv] at hs';cases hs'
    rw[hv] at h1
    rcases AAp hod with⟨j,rfl,hj⟩|⟨rfl,_⟩
    . exact⟨hu.1.trans h1.symm,hu.2⟩
    . have hu:u=.slice none 0 0:=hu
      subst hu
      exact⟨h1.symm,rfl,rfl⟩
 refine⟨rsO (P:=P) O++sel S (sh.keep.map ι),ρ2,γ,μ,ι2,hHp,fun i a ha=>?_,fun i j a b ha hb he=>?_,fun i a ha=>?_,fun t s2 ht=>?_,h.anch.adv (Adv.drop hM2)⟩
 ·
  rw[hτ] at ha
  cases hf:A1 (allV ownV q) i with
  |some r=>
   rw[hf] at ha
   have ha:r=a:=Option.some.inj ha
   subst ha
   have hf':=hf
   rw[<-hOv] at hf
   obtain⟨v,h1,h2⟩:=AFs hf
   have hm:i∈O.map (·.1):=by
    have:=List.mem_of_getElem? h2
    exact List.mem_map_of_mem (f:=(·.1)) this
   have hlt:pos (O.map (·.1)) i < O.length:=by have:=ANz hm;simpa using this
   simp only[ι2,if_pos hm]
   rw[List.getElem?_append_left (by simpa[rsO] using hlt)]
   simp only[rsO,List.getElem?_map,h2,Option.map_some]
   obtain⟨p,hp1,hp2⟩:=allV_mem.1 (ABS hf')
   obtain⟨e,hc,hr,_⟩:=AGm hp2
   rw[hr]
   have h3:ρ2 i=v:=by simp only[ρ2,h1]
   rw[h3];rfl
  |none=>
   rw[hf] at ha
   simp only at ha
   split at ha
   . rename_i hk
     obtain⟨a1,a0,h1,h2,h3⟩:=hkept i hk
     rw[h2] at ha
     have ha:ADW q sh.keep i a0=a:=Option.some.inj ha
     subst ha
     have hn:=hids i hk
     simp only[ι2,if_neg hn]
     rw[List.getElem?_append_right (by simp[rsO])]
     simp only[rsO,List.length_map,Nat.add_sub_cancel_left]
     rw[AIL hkr hk,h.res i a1 h1,hρ i hn]
     cases a1 with
     |own p e xs=>
      have h4:=hown i hk p e xs h1
      rw[hτk i hk a0 h2] at h4
      rw[Option.some.inj h4]
     |row e l1=>
      cases a0 with
      |own _ _ _=>obtain⟨_,h5,_⟩:=h3;cases h5
      |row e' l0=>obtain⟨_,h5,_⟩:=h3;cases h5;rfl
   . cases ha
 ·
  have key:∀ i a,A1 (B5 W sh σ x).res i=some a->i∈O.map (·.1)\/(i∉O.map (·.1)/\i∈sh.keep):=fun i a ha=>by
   by_cases hm:i∈O.map (·.1)
   . exact .inl hm
   . rw[hτ] at ha
     cases hf:A1 (allV ownV q) i with
     |some r=>
      rw[<-hOv] at hf
      obtain⟨v,_,h2⟩:=AFs hf
      exact .inl (List.mem_map_of_mem (f:=(·.1)) (List.mem_of_getElem? h2))
     |none=>
      rw[hf] at ha
      simp only at ha
      split at ha
      . rename_i hk;exact .inr ⟨hm,hk⟩
      . cases ha
  have hlt:∀ i,i∈O.map (·.1)->pos (O.map (·.1)) i < O.length:=fun i hm=>by have:=ANz hm;simpa using this
  rcases key i a ha with hi|⟨hi,hik⟩ <;> rcases key j b hb with hj|⟨hj,hjk⟩
  . simp only[ι2,if_pos hi,if_pos hj] at he
    exact ALh hi hj he
  . simp only[ι2,if_pos hi,if_neg hj] at he
    have:=hlt i hi;omega
  . simp only[ι2,if_neg hi,if_pos hj] at he
    have:=hlt j hj;omega
  . simp only[ι2,if_neg hi,if_neg hj] at he
    exact ALh hik hjk (by omega)
 ·
  rw[hτ] at ha
  cases hf:A1 (allV ownV q) i with
  |some r=>
   rw[hf] at ha
   have ha:r=a:=Option.some.inj ha
   subst ha
   obtain⟨p,hp1,hp2⟩:=allV_mem.1 (ABS hf)
   have hf2:=hf
   rw[<-hOv] at hf2
   obtain⟨v,_,h2⟩:=AFs hf2
   have hvm:(i,r,v)∈O:=List.mem_of_getElem? h2
   rw[hρO i r v hvm]
   rw[<-hO] at hvm
   obtain⟨cp,hcp,h5,h6⟩:=ownO_mem.1 hvm
   obtain⟨⟨a,c⟩,y⟩:=cp
   obtain⟨e,hc,hr,hal⟩:=AGm h5
   have hc:c=.own e:=hc
   subst hc
   have hr:r=.own false e y:=hr
   subst hr
   show Hnd v e
   rcases U8 (hpk _ hcp) with⟨j,p,ha,_⟩|⟨_,s,hs,hod⟩
   . have ha:a=.cont j:=ha
     subst ha
     rcases hal with ha|⟨_,_,ha,_⟩ <;> cases ha
   . have hs:T9 σ1 a=some s:=hs
     have h6:v=hvO ρ (T9 σ1 a):=h6
     rw[hs] at h6
     rcases AAp hod with⟨j,rfl,hj⟩|⟨rfl,hx⟩
     . rw[h6];exact h.row j _ hj
     . cases e with
       |sl _ _=>trivial
       |mp _ _ _=>cases hx
  |none=>
   rw[hf] at ha
   simp only at ha
   split at ha
   . rename_i hk
     obtain⟨a1,a0,h1,h2,h3⟩:=hkept i hk
     rw[h2] at ha
     have ha:ADW q sh.keep i a0=a:=Option.some.inj ha
     subst ha
     cases a0 with
     |own p e xs=>
      simp only[ADW]
      obtain⟨y,h5,_⟩:=h3
      have h6:Hnd (ρ2 i) e:=by
       rw[hρ i (hids i hk)]
       rw[h5] at h1
       exact h.row i _ h1
      cases ABy (AFi i e) q <;> exact h6
     |row e l0=>
      obtain⟨l1,h5,h6,h7⟩:=h3
      subst h5
      obtain⟨hb,hl⟩:=h.row i _ h1
      rw[hρ i (hids i hk)]
      refine⟨hb,OkL.map l1 _ (by rw[putN_len,h6]) hl fun n s u hs hu=>?_⟩
      have hlt:n < l0.length:=by
       rw[<-h6]
       rcases Nat.lt_or_ge n l1.length with h|h
       . exact h
       . rw[List.getElem?_eq_none h] at hs;cases hs
      rw[AGj,Nat.zero_add,List.getElem?_eq_getElem hlt]
      refine⟨_,rfl,?_⟩
      have hcell:ACF σ1 i n=some s:=by simp only[ACF,h1,AA4];exact hs
      cases hv:ABy (ADA i n) q with
      |none=>
       simp only
       have hnc:(i,n+1)∉σ1.ch:=fun hc=>by
        rcases ABD (AFr b2 i (n+1) hc hk) with⟨c,hm,hz⟩|⟨m,c,hm,hz⟩
        . omega
        . have:m=n:=by omega
          subst this
          obtain⟨cp,hcp,he⟩:=hof _ hm
          obtain⟨⟨a,c'⟩,y⟩:=cp
          cases he
          have h8:=AFJ hv _ hcp
          have h9:=hpk _ hcp
          cases c with
          |d t=>simp[ADA] at h8
          |undef|it _|np _=>exact (A2 h9).elim
          |own e2=>simp[ADA] at h8
       obtain⟨s0,h8,h9⟩:=h7 n s hs hnc
       rw[List.getElem?_eq_getElem hlt] at h8
       cases h8
       exact h9 sh.keep hlive _ _ _ _ _ (hkex s u hu)
      |some sv=>
       simp only
       obtain⟨cp,hcp,h8⟩:=ABk hv
       obtain⟨⟨a,c⟩,y⟩:=cp
       have h9:a=.cell i n:=AHZ h8
       subst h9
       cases c with
       |d t=>
        have h8:sv=F5 t y:=by simpa[ADA] using h8.symm
        subst h8
        exact hdat _ t y _ rfl hcp s u hcell hu
       |undef|it _|np _=>cases h8
       |own e=>
        have h8:sv=.own (ACi i n):=by simpa[ADA] using h8.symm
        subst h8
        exact hslc _ e y _ rfl hcp (fun j hj=>by cases hj) s u hcell hu (ACi i n) (by simp[ownV])
   . cases ha
 ·
  have ht:A1 (allV ABA (T8 sh.cs x)++ACG W sh.keep σ.env) t=some s2:=ht
  rw[hq,fnd_app] at ht
  cases hf:A1 (allV ABA q) t with
  |some r=>
   rw[hf] at ht
   have ht:r=s2:=Option.some.inj ht
   subst ht
   obtain⟨cp,hcp,h2⟩:=allV_mem.1 (ABS hf)
   obtain⟨⟨a,c⟩,y⟩:=cp
   have h3:a=.slot t:=AFK h2
   subst h3
   cases c with
   |d u=>
    have h2:r=F5 u y:=by simpa[ABA] using h2
    subst h2
    obtain⟨s,h4,_⟩:=ALi (hpk _ hcp)
    have h4:A1 σ1.env t=some s:=h4
    obtain⟨v,h5,h6⟩:=h.env t s h4
    exact⟨v,h5,hdat _ u y _ rfl hcp s v h4 h6⟩
   |it ts=>exact (A2 (hpk _ hcp)).elim
   |np t=>exact (A2 (hpk _ hcp)).elim
   |undef=>
    have h2:r=.undef:=by simpa[ABA] using h2
    subst h2
    obtain⟨s,he,h4⟩:=ALI (hpk _ hcp)
    cases he
    obtain⟨v,h5,h6⟩:=h.env t _ h4
    exact⟨v,h5,h6⟩
   |own e=>
    have h2:r=.own t:=by simpa[ABA] using h2
    subst h2
    rcases U8 (hpk _ hcp) with⟨j,p,ha,_⟩|⟨hnc,s,h4,_⟩
    . cases ha
    . have h4:A1 σ1.env t=some s:=h4
      obtain⟨v,h5,h6⟩:=h.env t s h4
      exact⟨v,h5,hslc _ e y _ rfl hcp hnc s v h4 h6 t (by simp[ownV])⟩
  |none=>
   rw[hf] at ht
   simp only at ht
   rw[fnd_keepE] at ht
   split at ht
   . cases ht
   . rename_i hW
     cases h1:A1 σ.env t with
     |none=>rw[h1] at ht;cases ht
     |some s0=>
      rw[h1] at ht
      have ht:I5 sh.keep s0=s2:=Option.some.inj ht
      subst ht
      obtain⟨s',h2,h3⟩:=hR.env t hW s0 h1
      obtain⟨v,h4,h5⟩:=h.env t s' h2
      exact⟨v,h4,h3 sh.keep hlive _ _ _ _ _ (hkex s' v h5)⟩
end
end Go.Rx
namespace Go.Rx
open Go Go.Sx Go.RowKit
variable [Trk] [Sg] [Sf]
def AAL:Option Rp->List Nat
 |some p=>AA6 p
 |none=>[]
mutual
def D9 (i:Nat) (p:Option Rp):SV->SV
 |.own j=>match p with
  |some p=>subS i p (.own j)
  |none=>.own j
 |.ptr j o=>match p with
  |some p=>subS i p (.ptr j o)
  |none=>.ptr j o
 |.ep j t x z o=>match p with
  |some p=>subS i p (.ep j t x z o)
  |none=>oldS i (.ep j t x z o)
 |.agg l=>.agg (trL i p l)
 |.tup l=>.tup (trL i p l)
 |.rp s o=>.rp (D9 i p s) o
 |.ap s n x k=>.ap (D9 i p s) n x k
 |.fn g l=>.fn g (trL i p l)
 |.int k x=>.int k x
 |.bool b=>.bool b
 |.dat t x=>.dat t x
 |.str n x=>.str n x
 |.ary k n x=>.ary k n x
 |.fv a r f=>.fv a r f
 |.nilS=>.nilS
 |.raw v=>.raw v
 |.it ts xs=>.it ts xs
 |.np t x=>.np t x
 |.undef=>.undef
 |.dead=>.dead
def trL (i:Nat) (p:Option Rp):List SV->List SV
 |[]=>[]
 |s :: l=>D9 i p s :: trL i p l
end
mutual
theorem AHb {i:Nat} {p:Rp}:∀ s:SV,D9 i (some p) s=subS i p s
 |.own _|.ptr _ _|.ep _ _ _ _ _=>rfl
 |.agg l=>congrArg SV.agg (ADt l)
 |.tup l=>congrArg SV.tup (ADt l)
 |.rp s o=>congrArg (fun x=>SV.rp x o) (AHb s)
 |.ap s n x k=>congrArg (fun y=>SV.ap y n x k) (AHb s)
 |.fn g l=>congrArg (SV.fn g) (ADt l)
 |.int _ _|.bool _|.dat _ _|.str _ _|.ary _ _ _|.fv _ _ _|.nilS|.np _ _|.it _ _|.raw _|.undef|.dead=>rfl
theorem ADt {i:Nat} {p:Rp}:∀ l:List SV,trL i (some p) l=subL i p l
 |[]=>rfl
 |s :: l=>by simp only[trL,subL,AHb s,ADt l]
end
mutual
theorem AHc {i:Nat}:∀ s:SV,D9 i none s=oldS i s
 |.own _|.ptr _ _|.ep _ _ _ _ _=>rfl
 |.agg l=>congrArg SV.agg (ADu l)
 |.tup l=>congrArg SV.tup (ADu l)
 |.rp s o=>congrArg (fun x=>SV.rp x o) (AHc s)
 |.ap s n x k=>congrArg (fun y=>SV.ap y n x k) (AHc s)
 |.fn g l=>congrArg (SV.fn g) (ADu l)
 |.int _ _|.bool _|.dat _ _|.str _ _|.ary _ _ _|.fv _ _ _|.nilS|.np _ _|.it _ _|.raw _|.undef|.dead=>rfl
theorem ADu {i:Nat}:∀ l:List SV,trL i none l=oldL i l
 |[]=>rfl
 |s :: l=>by simp only[trL,oldL,AHc s,ADu l]
end
mutual
theorem R6 {i:Nat} {p:Option Rp}:∀ s:SV,i∉A8 s->D9 i p s=s
 |.own j,h=>by
  have hne:i≠j:=fun e=>h (by simp[A8,e])
  cases p with
  |none=>rfl
  |some p=>simp only[D9,subS,W8 hne]
 |.ptr j o,h=>by
  have hne:i≠j:=fun e=>h (by simp[A8,e])
  cases p with
  |none=>rfl
  |some p=>simp only[D9,subS,W8 hne]
 |.ep j _ _ _ _,h=>by
  have hne:i≠j:=fun e=>h (by simp[A8,e])
  cases p with
  |none=>simp only[D9,oldS,W8 hne]
  |some p=>simp only[D9,subS,W8 hne]
 |.agg l,h=>congrArg SV.agg (AFL l h)
 |.tup l,h=>congrArg SV.tup (AFL l h)
 |.rp s o,h=>congrArg (fun x=>SV.rp x o) (R6 s h)
 |.ap s n x k,h=>congrArg (fun y=>SV.ap y n x k) (R6 s h)
 |.fn g l,h=>congrArg (SV.fn g) (AFL l h)
 |.int _ _,_|.bool _,_|.dat _ _,_|.str _ _,_|.ary _ _ _,_|.fv _ _ _,_|.nilS,_|.np _ _,_|.it _ _,_|.raw _,_|.undef,_|.dead,_=>rfl
theorem AFL {i:Nat} {p:Option Rp}:∀ l:List SV,i∉ownsLL l->trL i p l=l
 |[],_=>rfl
 |s :: l,h=>by
  have h:i∉A8 s++ownsLL l:=h
  rw[List.mem_append,not_or] at h
  simp only[trL,R6 s h.1,AFL l h.2]
end
section
variable {i j:Nat} {p q:Option Rp}
theorem AKW {i:Nat} {p:Rp} {j o:Nat}:(∃ l,subS i p (.ptr j o)=.rp (.agg l) o/\p=.rp l/\i=j)\/(subS i p (.ptr j o)=.dead/\i=j/\∀ l,p≠.rp l)\/(subS i p (.ptr j o)=.ptr j o/\i≠j):=by
 by_cases h:i=j
 . subst h
   cases p with
   |rp l=>exact .inl ⟨l,by simp[subS],rfl,rfl⟩
   |dead=>exact .inr (.inl ⟨by simp[subS],rfl,fun _ e=>by cases e⟩)
   |dat _ _=>exact .inr (.inl ⟨by simp[subS],rfl,fun _ e=>by cases e⟩)
 . exact .inr (.inr ⟨by simp only[subS,W8 h],h⟩)
theorem ADv {i:Nat} {p:Rp} {j:Nat}:(A8 (subS i p (.own j))=[]/\i=j)\/(subS i p (.own j)=.own j/\i≠j):=by
 by_cases h:i=j
 . subst h
   cases p <;> exact .inl ⟨by simp[subS,A8],rfl⟩
 . exact .inr ⟨by simp only[subS,W8 h],h⟩
theorem AS8 (hij:i≠j) (k:Nat):D9 i p (D9 j q (.own k))=D9 j q (D9 i p (.own k)):=by
 cases p with
 |none=>
  cases q with
  |none=>rfl
  |some q=>
   show D9 i none (subS j q (.own k))=subS j q (.own k)
   rcases ADv (i:=j) (p:=q) (j:=k) with⟨h,_⟩|⟨h,_⟩
   . exact R6 _ (by rw[h];simp)
   . rw[h];rfl
 |some p=>
  cases q with
  |none=>
   show subS i p (.own k)=D9 j none (subS i p (.own k))
   rcases ADv (i:=i) (p:=p) (j:=k) with⟨h,_⟩|⟨h,_⟩
   . exact (R6 _ (by rw[h];simp)).symm
   . rw[h];rfl
  |some q=>
   show D9 i (some p) (subS j q (.own k))=D9 j (some q) (subS i p (.own k))
   rcases ADv (i:=j) (p:=q) (j:=k) with⟨h,e⟩|⟨h,e⟩
   . rcases ADv (i:=i) (p:=p) (j:=k) with⟨_,e'⟩|⟨h',_⟩
     . exact absurd (e'.trans e.symm) hij
     . rw[h',R6 (subS j q (.own k)) (by rw[h];simp)];rfl
   . rw[h]
     show subS i p (.own k)=_
     rcases ADv (i:=i) (p:=p) (j:=k) with⟨h',_⟩|⟨h',_⟩
     . exact (R6 _ (by rw[h'];simp)).symm
     . rw[h'];exact h.symm
theorem AS9 (hij:i≠j) (hp:j∉AAL p) (hq:i∉AAL q) (k o:Nat):D9 i p (D9 j q (.ptr k o))=D9 j q (D9 i p (.ptr k o)):=by
 have key:∀ {i j:Nat} {p q:Rp},i≠j->j∉AA6 p->i=k->D9 i (some p) (.ptr k o)=D9 j (some q) (D9 i (some p) (.ptr k o)):=fun {i j p q} hij hp e=>by
  show subS i p (.ptr k o)=D9 j (some q) (subS i p (.ptr k o))
  rcases AKW (i:=i) (p:=p) (j:=k) (o:=o) with⟨l,h,hl,_⟩|⟨h,_⟩|⟨h,hne⟩
  . rw[h,R6];intro hm;exact hp (by rw[hl];exact hm)
  . rw[h];rfl
  . exact absurd e hne
 have old:∀ {i j:Nat} {p:Rp},j∉AA6 p->D9 j none (D9 i (some p) (.ptr k o))=D9 i (some p) (.ptr k o):=fun {i j p} hp=>by
  show D9 j none (subS i p (.ptr k o))=subS i p (.ptr k o)
  rcases AKW (i:=i) (p:=p) (j:=k) (o:=o) with⟨l,h,hl,_⟩|⟨h,_⟩|⟨h,hne⟩
  . rw[h,R6];intro hm;exact hp (by rw[hl];exact hm)
  . rw[h];rfl
  . rw[h];rfl
 cases p with
 |none=>
  cases q with
  |none=>rfl
  |some q=>exact old hq
 |some p=>
  cases q with
  |none=>exact (old hp).symm
  |some q=>
   by_cases e1:i=k
   . have h2:D9 j (some q) (.ptr k o)=.ptr k o:=R6 _ (by simp[A8];intro e;exact hij (e1.trans e.symm))
     rw[h2];exact key hij hp e1
   . have h1:D9 i (some p) (.ptr k o)=.ptr k o:=R6 _ (by simp[A8];exact e1)
     rw[h1]
     by_cases e2:j=k
     . exact (key (Ne.symm hij) hq e2).symm
     . have h2:D9 j (some q) (.ptr k o)=.ptr k o:=R6 _ (by simp[A8];exact e2)
       rw[h2,h1]
theorem AU9 (hij:i≠j) (k:Nat) (t:Ty) (x:Int) (z:Option (den t)) (o:Nat):D9 i p (D9 j q (.ep k t x z o))=D9 j q (D9 i p (.ep k t x z o)):=by
 have hit:∀ {i:Nat} {p:Option Rp},i=k->(D9 i p (.ep k t x z o)=.dead/\p≠none)\/(D9 i p (.ep k t x z o)=.ep k t x none o/\p=none):=fun {i p} e=>by
  subst e
  cases p with
  |none=>exact .inr ⟨by simp[D9,oldS],rfl⟩
  |some p=>exact .inl ⟨by simp[D9,subS],fun e=>by cases e⟩
 have miss:∀ {i:Nat} {p:Option Rp} {z:Option (den t)},i≠k->D9 i p (.ep k t x z o)=.ep k t x z o:=fun {i p z} e=>R6 _ (by simp[A8];exact e)
 by_cases e1:i=k
 . have e2:j≠k:=fun e=>hij (e1.trans e.symm)
   rw[miss e2]
   rcases hit (p:=p) e1 with⟨h,_⟩|⟨h,_⟩
   . rw[h];rfl
   . rw[h,miss e2]
 . rw[miss (p:=p) e1]
   by_cases e2:j=k
   . rcases hit (p:=q) e2 with⟨h,_⟩|⟨h,_⟩
     . rw[h];rfl
     . rw[h,miss e1]
   . rw[miss e2,miss e1]
end
mutual
theorem AJN {i j:Nat} {p q:Option Rp} (hij:i≠j) (hp:j∉AAL p) (hq:i∉AAL q):∀ s:SV,D9 i p (D9 j q s)=D9 j q (D9 i p s)
 |.own k=>AS8 hij k
 |.ptr k o=>AS9 hij hp hq k o
 |.ep k t x z o=>AU9 hij k t x z o
 |.agg l=>congrArg SV.agg (AFM hij hp hq l)
 |.tup l=>congrArg SV.tup (AFM hij hp hq l)
 |.rp s o=>congrArg (fun x=>SV.rp x o) (AJN hij hp hq s)
 |.ap s n x k=>congrArg (fun y=>SV.ap y n x k) (AJN hij hp hq s)
 |.fn g l=>congrArg (SV.fn g) (AFM hij hp hq l)
 |.int _ _|.bool _|.dat _ _|.str _ _|.ary _ _ _|.fv _ _ _|.nilS|.np _ _|.it _ _|.raw _|.undef|.dead=>rfl
theorem AFM {i j:Nat} {p q:Option Rp} (hij:i≠j) (hp:j∉AAL p) (hq:i∉AAL q):∀ l:List SV,trL i p (trL j q l)=trL j q (trL i p l)
 |[]=>rfl
 |s :: l=>by simp only[trL,AJN hij hp hq s,AFM hij hp hq l]
end
mutual
theorem AFt {i:Nat} {p:Option Rp}:∀ s:SV,∀ k∈A8 (D9 i p s),k∈A8 s\/k∈AAL p
 |.own j,k,h=>by
  cases p with
  |none=>exact .inl h
  |some p=>
   have h:k∈A8 (subS i p (.own j)):=h
   rcases ADv (i:=i) (p:=p) (j:=j) with⟨h',_⟩|⟨h',_⟩
   . rw[h'] at h;cases h
   . rw[h'] at h;exact .inl h
 |.ptr j o,k,h=>by
  cases p with
  |none=>exact .inl h
  |some p=>
   have h:k∈A8 (subS i p (.ptr j o)):=h
   rcases AKW (i:=i) (p:=p) (j:=j) (o:=o) with⟨l,h',hl,_⟩|⟨h',_⟩|⟨h',_⟩
   . rw[h'] at h;exact .inr (by show k∈AA6 p;rw[hl];exact h)
   . rw[h'] at h;cases h
   . rw[h'] at h;exact .inl h
 |.ep j t x z o,k,h=>by
  by_cases e:i=j
  . subst e
    cases p with
    |none=>simp only[D9,oldS,beq_self,A8] at h;exact .inl h
    |some p=>simp[D9,subS,A8] at h
  . rw[R6 _ (by simp[A8];exact e)] at h;exact .inl h
 |.agg l,k,h=>ACs l k h
 |.tup l,k,h=>ACs l k h
 |.rp s o,k,h=>AFt s k h
 |.ap s _ _ _,k,h=>AFt s k h
 |.fn g l,k,h=>ACs l k h
 |.int _ _,_,h|.bool _,_,h|.dat _ _,_,h|.str _ _,_,h|.ary _ _ _,_,h|.fv _ _ _,_,h|.nilS,_,h|.np _ _,_,h|.it _ _,_,h|.raw _,_,h|.undef,_,h|.dead,_,h=>.inl h
theorem ACs {i:Nat} {p:Option Rp}:∀ l:List SV,∀ k∈ownsLL (trL i p l),k∈ownsLL l\/k∈AAL p
 |[],_,h=>.inl h
 |s :: l,k,h=>by
  rcases List.mem_append.1 (show k∈A8 (D9 i p s)++ownsLL (trL i p l) from h) with h|h
  . exact (AFt s k h).imp (List.mem_append_left _) id
  . exact (ACs l k h).imp (List.mem_append_right _) id
end
theorem tr_wd {i:Nat} {p:Option Rp} (s:SV):wd (D9 i p s)=wd s:=by
 cases s with
 |own j=>
  cases p with
  |none=>rfl
  |some p=>
   show wd (subS i p (.own j))=1
   by_cases e:i=j
   . subst e;cases p <;> simp[subS,wd]
   . simp only[subS,W8 e,wd]
 |ptr j o=>
  cases p with
  |none=>rfl
  |some p=>
   show wd (subS i p (.ptr j o))=1
   by_cases e:i=j
   . subst e;cases p <;> simp[subS,wd]
   . simp only[subS,W8 e,wd]
 |ep j t x z o=>
  by_cases e:i=j
  . subst e
    cases p with
    |none=>simp[D9,oldS,wd]
    |some p=>simp[D9,subS,wd]
  . rw[R6 _ (by simp[A8];exact e)]
 |agg _|tup _|rp _ _|ap _ _ _ _|fn _ _|int _ _|bool _|dat _ _|str _ _|ary _ _ _|fv _ _ _|nilS|raw _|it _ _|np _ _|undef|dead=>rfl
theorem ALk {i:Nat} {p:Option Rp}:∀ (ns l:List SV),i∉ownsLL ns->overL (trL i p l) ns=(overL l ns).map (trL i p)
 |[],l,_=>by cases l <;> rfl
 |_ :: _,[],_=>rfl
 |n :: ns,s :: l,h=>by
  have h:i∉A8 n++ownsLL ns:=h
  rw[List.mem_append,not_or] at h
  simp only[trL,overL,tr_wd,ALk ns l h.2]
  cases Nat.beq (wd s) (wd n) with
  |false=>rfl
  |true=>
   cases wd n with
   |zero=>rfl
   |succ m=>
    simp only
    cases overL l ns with
    |none=>rfl
    |some x=>simp only[Option.map_some,trL,R6 n h.1]
theorem ALl {i:Nat} {p:Option Rp}:∀ (l:List SV) (o:Nat) (ns:List SV),i∉ownsLL ns->setW (trL i p l) o ns=(setW l o ns).map (trL i p)
 |l,0,ns,h=>by
  have e:∀ l:List SV,setW l 0 ns=overL l ns:=fun l=>by cases l <;> rfl
  rw[e,e];exact ALk ns l h
 |[],_+1,_,_=>rfl
 |s :: l,o+1,ns,h=>by
  simp only[trL,setW,tr_wd]
  cases wd s with
  |zero=>rfl
  |succ n=>
   simp only
   cases Nat.ble n o with
   |false=>rfl
   |true=>
    simp only[ALl l (o - n) ns h]
    cases setW l (o - n) ns with
    |none=>rfl
    |some x=>rfl
end Go.Rx
namespace Go.Rx
open Go Go.Sx Go.RowKit
variable [Trk] [Sg] [Sf]
def Eqv (σ σ':AS):Prop:=(∀ t,A1 σ.env t=A1 σ'.env t)/\∀ i,A1 σ.res i=A1 σ'.res i
theorem Eqv.refl (σ:AS):Eqv σ σ:=⟨fun _=>rfl,fun _=>rfl⟩
theorem Eqv.symm {σ σ':AS} (h:Eqv σ σ'):Eqv σ' σ:=⟨fun t=>(h.1 t).symm,fun i=>(h.2 i).symm⟩
theorem Eqv.trans {σ σ1 σ2:AS} (h:Eqv σ σ1) (k:Eqv σ1 σ2):Eqv σ σ2:=⟨fun t=>(h.1 t).trans (k.1 t),fun i=>(h.2 i).trans (k.2 i)⟩
def trA:Ac->Option (Nat×Option Rp)
 |.put _=>none
 |.new i _=>some (i,some .dead)
 |.sto i _ _=>some (i,none)
 |.cnt i _ _=>some (i,none)
 |.hnd i _=>some (i,some .dead)
 |.del i p=>some (i,some p)
def fA (a:Ac) (s:SV):SV:=match trA a with
 |some (i,p)=>D9 i p s
 |none=>s
def trR (i:Nat) (p:Option Rp):AR->AR
 |.row e l=>.row e (trL i p l)
 |.own q c x=>.own q c x
def hA:Ac->Option AR->Option AR
 |.new _ r,_=>some r
 |.sto _ o ns,a=>a.map (AAU o ns)
 |.cnt _ c x,a=>a.map (X9 c x)
 |.hnd _ r,a=>a.map fun _=>r
 |.del _ _,_=>none
 |.put _,a=>a
def AB0:Ac->Option Nat->Option (Nat×SV)
 |.put s,some d=>some (d,s)
 |_,_=>none
theorem ARL {i:Nat} {p:Rp} (a:AR):trR i (some p) a=a.sub i p:=by cases a <;> simp[trR,AR.sub,ADt]
theorem ARM {i:Nat} (a:AR):trR i none a=a.old i:=by cases a <;> simp[trR,AR.old,ADu]
theorem env_app {d:Option Nat} {σ:AS} {a:Ac} {t:Nat}:A1 (a.app d σ).env t=match AB0 a d with
  |some (d,s)=>if d=t then some s else (A1 σ.env t).map (fA a)
  |none=>(A1 σ.env t).map (fA a):=by
 have e1:∀ (i:Nat) (p:Rp),D9 i (some p)=subS i p:=fun i p=>funext AHb
 have e2:∀ (i:Nat),D9 i none=oldS i:=fun i=>funext AHc
 have e3:∀ x:Option SV,x.map (fun s=>s)=x:=fun x=>by cases x <;> rfl
 cases a with
 |put s=>
  cases d with
  |none=>exact (e3 _).symm
  |some d=>
   show A1 ((d,s) :: σ.env) t=if d=t then some s else (A1 σ.env t).map (fun s=>s)
   rw[fnd_cons,e3]
 |new i r=>
  show A1 (AA5 i .dead σ.env) t=(A1 σ.env t).map (D9 i (some .dead))
  rw[V3,e1]
 |sto i o ns=>
  show A1 (AE2 i σ.env) t=(A1 σ.env t).map (D9 i none)
  rw[ACk,e2]
 |cnt i u xs=>
  show A1 (AE2 i σ.env) t=(A1 σ.env t).map (D9 i none)
  rw[ACk,e2]
 |hnd i r=>
  show A1 (AA5 i .dead σ.env) t=(A1 σ.env t).map (D9 i (some .dead))
  rw[V3,e1]
 |del i p=>
  show A1 (AA5 i p σ.env) t=(A1 σ.env t).map (D9 i (some p))
  rw[V3,e1]
theorem res_app {d:Option Nat} {σ:AS} {a:Ac} {j:Nat}:A1 (a.app d σ).res j=match trA a with
  |some (i,p)=>if j=i then hA a (A1 σ.res j) else (A1 σ.res j).map (trR i p)
  |none=>A1 σ.res j:=by
 have e1:∀ (i:Nat) (p:Rp),trR i (some p)=AR.sub i p:=fun i p=>funext ARL
 have e2:∀ (i:Nat),trR i none=AR.old i:=fun i=>funext ARM
 cases a with
 |put s=>cases d <;> rfl
 |new i r=>
  show A1 ((i,r) :: T7 i (Q4 i .dead σ.res)) j=if j=i then some r else (A1 σ.res j).map (trR i (some .dead))
  rw[fnd_cons,fnd_rdel,fnd_subR,e1]
  by_cases h:j=i
  . subst h;rw[if_pos rfl,if_pos rfl]
  . rw[if_neg (fun e=>h e.symm),if_neg h,if_neg h]
 |sto i o ns=>
  show A1 (AEB i (AAU o ns) σ.res) j=if j=i then (A1 σ.res j).map (AAU o ns) else (A1 σ.res j).map (trR i none)
  rw[ACm,e2]
 |cnt i u xs=>
  show A1 (AEB i (X9 u xs) σ.res) j=if j=i then (A1 σ.res j).map (X9 u xs) else (A1 σ.res j).map (trR i none)
  rw[ACm,e2]
 |hnd i r=>
  show A1 (ADR i r (Q4 i .dead σ.res)) j=if j=i then (A1 σ.res j).map (fun _=>r) else (A1 σ.res j).map (trR i (some .dead))
  rw[ACl,fnd_subR,e1]
  by_cases h:j=i
  . rw[if_pos h,if_pos h];cases A1 σ.res j <;> rfl
  . rw[if_neg h,if_neg h]
 |del i p=>
  show A1 (T7 i (Q4 i p σ.res)) j=if j=i then none else (A1 σ.res j).map (trR i (some p))
  rw[fnd_rdel,fnd_subR,e1]
theorem Eqv.app {σ σ':AS} (h:Eqv σ σ') (d:Option Nat) (a:Ac):Eqv (a.app d σ) (a.app d σ'):=⟨fun t=>by rw[env_app,env_app,h.1],fun i=>by rw[res_app,res_app,h.2]⟩
theorem Eqv.apps {σ σ':AS} (h:Eqv σ σ') (d:Option Nat):∀ as_:List Ac,Eqv (apps d as_ σ) (apps d as_ σ')
 |[]=>h
 |a :: as_=>by
  show Eqv (Rx.apps d as_ (a.app d σ)) (Rx.apps d as_ (a.app d σ'))
  exact Eqv.apps (h.app d a) d as_
structure Ind (d:Option Nat) (x:Ac) (d':Option Nat) (y:Ac):Prop where
 w:∀ i p j q,trA x=some (i,p)->trA y=some (j,q)->i≠j
 cx:∀ j q,trA y=some (j,q)->j∉coA x
 cy:∀ i p,trA x=some (i,p)->i∉coA y
 dd:∀ t s t' s',AB0 x d=some (t,s)->AB0 y d'=some (t',s')->t≠t'
theorem Ind.symm {d d':Option Nat} {x y:Ac} (h:Ind d x d' y):Ind d' y d x:=⟨fun i p j q h1 h2 e=>h.w j q i p h2 h1 e.symm,h.cy,h.cx,fun t s t' s' h1 h2 e=>h.dd t' s' t s h2 h1 e.symm⟩
theorem AEW {a:Ac} {i:Nat} {p:Option Rp} (h:trA a=some (i,p)):∀ k∈AAL p,k∈coA a:=fun k hk=>by
 cases a <;> cases h <;> first|exact hk|cases hk
theorem AIM {a:Ac} {d:Option Nat} {t:Nat} {s:SV} (h:AB0 a d=some (t,s)):coA a=A8 s/\fA a=fun s=>s:=by
 cases a with
 |put s'=>
  cases d with
  |none=>cases h
  |some d=>cases h;exact⟨rfl,rfl⟩
 |_=>cases h
theorem AJO {a:Ac} {s:SV} (h:∀ i p,trA a=some (i,p)->i∉A8 s):fA a s=s:=by
 unfold fA
 cases ha:trA a with
 |none=>rfl
 |some q=>obtain⟨i,p⟩:=q;exact R6 s (h i p ha)
section
variable {d d':Option Nat} {x y:Ac}
theorem ARN (h:Ind d x d' y) (s:SV):fA y (fA x s)=fA x (fA y s):=by
 unfold fA
 cases hx:trA x with
 |none=>rfl
 |some q=>
  obtain⟨i,p⟩:=q
  cases hy:trA y with
  |none=>rfl
  |some r=>
   obtain⟨j,q⟩:=r
   exact (AJN (h.w i p j q hx hy) (fun hm=>h.cx j q hy (AEW hx j hm)) (fun hm=>h.cy i p hx (AEW hy i hm)) s).symm
theorem AKX {k:Nat} {q:Option Rp} {a:AR} (h:k∉AAF a):trR k q a=a:=by
 cases a with
 |own _ _ _=>rfl
 |row e l=>simp only[trR,AFL l h]
theorem AQO {k:Nat} {q:Option Rp} (h:k∉coA x) (a:Option AR):(hA x a).map (trR k q)=hA x (a.map (trR k q)):=by
 cases x with
 |put s=>rfl
 |new i r=>simp only[hA,Option.map_some,AKX (a:=r) h]
 |sto i o ns=>
  cases a with
  |none=>rfl
  |some a=>
   simp only[hA,Option.map_some]
   cases a with
   |own _ _ _=>rfl
   |row e l=>
    simp only[AAU,trR,ALl l o ns h]
    cases setW l o ns with
    |none=>rfl
    |some l'=>rfl
 |cnt i t xs=>
  cases a with
  |none=>rfl
  |some a=>
   simp only[hA,Option.map_some]
   cases a with
   |row _ _=>rfl
   |own p t' ys=>
    simp only[X9,trR]
    cases castO t t' xs with
    |none=>rfl
    |some zs=>rfl
 |hnd i r=>
  cases a with
  |none=>rfl
  |some a=>simp only[hA,Option.map_some,AKX (a:=r) h]
 |del i p=>rfl
theorem APL {i j:Nat} {p q:Option Rp} (hij:i≠j) (hp:j∉AAL p) (hq:i∉AAL q) (a:AR):trR i p (trR j q a)=trR j q (trR i p a):=by
 cases a with
 |own _ _ _=>rfl
 |row e l=>simp only[trR,AFM hij hp hq l]
theorem swap (h:Ind d x d' y) (σ:AS):Eqv (y.app d' (x.app d σ)) (x.app d (y.app d' σ)):=by
 refine⟨fun t=>?_,fun i=>?_⟩
 . rw[env_app,env_app,env_app (a:=x),env_app (a:=y)]
   have hc:((A1 σ.env t).map (fA x)).map (fA y)=((A1 σ.env t).map (fA y)).map (fA x):=by
    cases A1 σ.env t with
    |none=>rfl
    |some s=>simp only[Option.map_some,ARN h]
   cases hx:AB0 x d with
   |none=>
    cases hy:AB0 y d' with
    |none=>exact hc
    |some q=>
     obtain⟨e,s⟩:=q
     simp only
     split
     . obtain⟨h1,_⟩:=AIM hy
       have:fA x s=s:=AJO fun i p hi hm=>h.cy i p hi (by rw[h1];exact hm)
       simp only[Option.map_some,this]
     . exact hc
   |some r=>
    obtain⟨e,s⟩:=r
    obtain⟨h1,_⟩:=AIM hx
    have hs:fA y s=s:=AJO fun i p hi hm=>h.cx i p hi (by rw[h1];exact hm)
    cases hy:AB0 y d' with
    |none=>
     simp only
     split
     . simp only[Option.map_some,hs]
     . exact hc
    |some q=>
     obtain⟨e',s'⟩:=q
     obtain⟨h2,_⟩:=AIM hy
     have hs':fA x s'=s':=AJO fun i p hi hm=>h.cy i p hi (by rw[h2];exact hm)
     have hne:=h.dd e s e' s' hx hy
     simp only
     by_cases h3:e'=t
     . have h4:e≠t:=fun h=>hne (h.trans h3.symm)
       rw[if_pos h3,if_neg h4,if_pos h3,Option.map_some,hs']
     . rw[if_neg h3]
       by_cases h4:e=t
       . rw[if_pos h4,if_pos h4,Option.map_some,hs]
       . rw[if_neg h4,if_neg h4,if_neg h3];exact hc
 . rw[res_app,res_app,res_app (a:=x),res_app (a:=y)]
   cases hx:trA x with
   |none=>
    cases hy:trA y with
    |none=>rfl
    |some q=>rfl
   |some r=>
    obtain⟨k,p⟩:=r
    cases hy:trA y with
    |none=>rfl
    |some q=>
     obtain⟨j,q⟩:=q
     have hne:=h.w k p j q hx hy
     simp only
     by_cases h1:i=j
     . subst h1
       rw[if_pos rfl,if_neg (fun e=>hne e.symm),if_pos rfl,if_neg (fun e=>hne e.symm)]
       exact (AQO (h.cy k p hx) _).symm
     . rw[if_neg h1,if_neg h1]
       by_cases h2:i=k
       . subst h2
         rw[if_pos rfl,if_pos rfl]
         exact AQO (h.cx j q hy) _
       . rw[if_neg h2,if_neg h2]
         cases A1 σ.res i with
         |none=>rfl
         |some a=>simp only[Option.map_some,APL hne (fun hm=>h.cx j q hy (AEW hx j hm)) (fun hm=>h.cy k p hx (AEW hy k hm))]
theorem AVA (σ:AS):∀ (xs:List Ac),(∀ x∈xs,Ind d x d' y)->Eqv (y.app d' (apps d xs σ)) (apps d xs (y.app d' σ)):=by
 intro xs
 induction xs generalizing σ with
 |nil=>intro _;exact Eqv.refl _
 |cons x xs ih=>
  intro h
  exact (ih (x.app d σ) fun z hz=>h z (List.mem_cons_of_mem _ hz)).trans ((swap (h x (List.mem_cons_self ..)) σ).apps d xs)
theorem ATA (σ:AS) (xs:List Ac):∀ (ys:List Ac),(∀ x∈xs,∀ y∈ys,Ind d x d' y)->Eqv (apps d' ys (apps d xs σ)) (apps d xs (apps d' ys σ)):=by
 intro ys
 induction ys generalizing σ with
 |nil=>intro _;exact Eqv.refl _
 |cons y ys ih=>
  intro h
  exact ((AVA σ xs fun x hx=>h x hx y (List.mem_cons_self ..)).apps d' ys).trans (ih (y.app d' σ) fun x hx z hz=>h x hx z (List.mem_cons_of_mem _ hz))
end
end Go.Rx
namespace Go.Rx
open Go Go.Sx Go.RowKit
variable [Trk] [Sg] [Sf]
def Dr.run (r:Dr) (σ:AS):AS:=apps r.d r.as_ σ
def runE (T:List Dr):List Nat->AS->AS
 |[],σ=>σ
 |k :: e,σ=>runE T e (match T[k]? with
  |some r=>r.run σ
  |none=>σ)
theorem Eqv.runE {T:List Dr}:∀ (e:List Nat) {σ σ':AS},Eqv σ σ'->Eqv (runE T e σ) (runE T e σ')
 |[],_,_,h=>h
 |k :: e,σ,σ',h=>by
  simp only[Rx.runE]
  refine Eqv.runE e ?_
  cases T[k]? with
  |none=>exact h
  |some r=>exact h.apps r.d r.as_
theorem runE_app {T:List Dr}:∀ (e1 e2:List Nat) (σ:AS),runE T (e1++e2) σ=runE T e2 (runE T e1 σ)
 |[],_,_=>rfl
 |k :: e,e2,σ=>runE_app e e2 _
def IndR (a b:Dr):Prop:=∀ x∈a.as_,∀ y∈b.as_,Ind a.d x b.d y
theorem IndR.symm {a b:Dr} (h:IndR a b):IndR b a:=fun x hx y hy=>(h y hy x hx).symm
def IndT (T:List Dr) (j k:Nat):Prop:=∀ a b,T[j]?=some a->T[k]?=some b->IndR a b
theorem IndT.symm {T:List Dr} {j k:Nat} (h:IndT T j k):IndT T k j:=fun a b ha hb=>(h b a hb ha).symm
theorem IndT.swap {T:List Dr} {j k:Nat} (h:IndT T j k) (σ:AS):Eqv (runE T [j,k] σ) (runE T [k,j] σ):=by
 simp only[runE]
 cases ha:T[j]? with
 |none=>exact Eqv.refl _
 |some a=>
  cases hb:T[k]? with
  |none=>exact Eqv.refl _
  |some b=>exact ATA σ a.as_ b.as_ (h a b ha hb)
theorem AHd {T:List Dr} {k:Nat}:∀ (e:List Nat) (σ:AS),(∀ j∈e,IndT T j k)->Eqv (runE T (e++[k]) σ) (runE T (k :: e) σ)
 |[],σ,_=>Eqv.refl _
 |j :: e,σ,h=>by
  have h1:=AHd (T:=T) (k:=k) e (runE T [j] σ) fun i hi=>h i (List.mem_cons_of_mem _ hi)
  have h2:=Eqv.runE (T:=T) e ((h j (List.mem_cons_self ..)).swap σ)
  exact h1.trans h2
theorem ADI {T:List Dr} {O:Nat->Nat->Prop} (hO:∀ j k,j≠k->IndT T j k\/O j k\/O k j):∀ (e' e:List Nat) (σ:AS),e.Perm e'->e'.Nodup->e.Pairwise (fun j k=>¬ O k j)->e'.Pairwise (fun j k=>¬ O k j)->Eqv (runE T e σ) (runE T e' σ)
 |[],e,σ,hp,_,_,_=>by
  have:e=[]:=hp.eq_nil
  subst this;exact Eqv.refl _
 |k :: r,e,σ,hp,hn,h1,h2=>by
  have hk:k∈e:=hp.mem_iff.2 (List.mem_cons_self ..)
  obtain⟨e1,e2,rfl⟩:=List.append_of_mem hk
  obtain⟨hn1,hn2⟩:=List.nodup_cons.1 hn
  obtain⟨h3,h4⟩:=List.pairwise_cons.1 h2
  obtain⟨h5,h6,h7⟩:=List.pairwise_append.1 h1
  have hp':(e1++e2).Perm r:=by
   have:(k :: (e1++e2)).Perm (k :: r):=(List.perm_middle.symm).trans hp
   exact List.Perm.cons_inv this
  have hind:∀ j∈e1,IndT T j k:=fun j hj=>by
   have hjr:j∈r:=hp'.mem_iff.1 (List.mem_append_left _ hj)
   have hne:j≠k:=fun e=>hn1 (e▸hjr)
   rcases hO j k hne with h|h|h
   . exact h
   . exact absurd h (h3 j hjr)
   . exact absurd h (h7 j hj k (List.mem_cons_self ..))
  have s1:Eqv (runE T (e1++k :: e2) σ) (runE T (k :: (e1++e2)) σ):=by
   have h8:runE T (k :: (e1++e2)) σ=runE T e2 (runE T (k :: e1) σ):=runE_app (k :: e1) e2 σ
   rw[show e1++k :: e2=(e1++[k])++e2 by simp,runE_app (e1++[k]) e2,h8]
   exact (AHd e1 σ hind).runE e2
  refine s1.trans ?_
  show Eqv (runE T (e1++e2) (runE T [k] σ)) (runE T r (runE T [k] σ))
  exact ADI hO r (e1++e2) _ hp' hn2 (List.pairwise_append.2 ⟨h5,(List.pairwise_cons.1 h6).2,fun a ha b hb=>h7 a ha b (List.mem_cons_of_mem _ hb)⟩) h4
structure GInv (g:Gh) (σ:AS):Prop where
 o:∀ t s,A1 σ.env t=some s->∀ i∈A8 s,i∈g.o t
 r:∀ j a,A1 σ.res j=some a->∀ i∈AAF a,i∈g.r j
def GAct (g:Gh) (d:Option Nat):Ac->Prop
 |.put s=>∀ t,d=some t->∀ i∈A8 s,i∈g.o t
 |.new i r=>∀ k∈AAF r,k∈g.r i
 |.sto i _ ns=>∀ k∈ownsLL ns,k∈g.r i
 |.cnt _ _ _=>True
 |.hnd i r=>∀ k∈AAF r,k∈g.r i
 |.del _ p=>AA6 p=[]
theorem APM {i:Nat} {p:Option Rp} {a:AR} {k:Nat} (h:k∈AAF (trR i p a)):k∈AAF a\/k∈AAL p:=by
 cases a with
 |own _ _ _=>cases h
 |row e l=>exact ACs l k h
theorem GAct.none {g:Gh} {d:Option Nat} {a:Ac} (h:GAct g d a) {i:Nat} {p:Option Rp} (hp:trA a=some (i,p)):AAL p=[]:=by
 cases a <;> cases hp <;> first|rfl|exact h
theorem GInv.app {g:Gh} {σ:AS} {d:Option Nat} {a:Ac} (h:GInv g σ) (ha:GAct g d a):GInv g (a.app d σ):=by
 refine⟨fun t s hs i hi=>?_,fun j r hr i hi=>?_⟩
 . rw[env_app] at hs
   have key:(A1 σ.env t).map (fA a)=some s->i∈g.o t:=fun h1=>by
    cases h2:A1 σ.env t with
    |none=>rw[h2] at h1;cases h1
    |some s0=>
     rw[h2] at h1
     have h1:fA a s0=s:=Option.some.inj h1
     subst h1
     unfold fA at hi
     cases h3:trA a with
     |none=>rw[h3] at hi;exact h.o t s0 h2 i hi
     |some q=>
      obtain⟨j,p⟩:=q
      rw[h3] at hi
      rcases AFt s0 i hi with h4|h4
      . exact h.o t s0 h2 i h4
      . rw[ha.none h3] at h4;cases h4
   cases hp:AB0 a d with
   |none=>rw[hp] at hs;exact key hs
   |some q=>
    obtain⟨e,s'⟩:=q
    rw[hp] at hs
    simp only at hs
    split at hs
    . rename_i he
      cases hs
      cases a with
      |put s''=>
       cases d with
       |none=>cases hp
       |some d=>cases hp;exact ha t (by rw[he]) i hi
      |_=>cases hp
    . exact key hs
 . rw[res_app] at hr
   cases h3:trA a with
   |none=>rw[h3] at hr;exact h.r j r hr i hi
   |some q=>
    obtain⟨k,p⟩:=q
    rw[h3] at hr
    simp only at hr
    split at hr
    . rename_i he
      subst he
      cases a with
      |put _=>cases h3
      |new i' r'=>cases h3;cases hr;exact ha i hi
      |del _ _=>cases hr
      |hnd i' r'=>
       cases h3
       cases h4:A1 σ.res j with
       |none=>rw[h4] at hr;cases hr
       |some b=>rw[h4] at hr;cases hr;exact ha i hi
      |cnt i' t xs=>
       cases h3
       cases h4:A1 σ.res j with
       |none=>rw[h4] at hr;cases hr
       |some b=>
        rw[h4] at hr
        have hr:X9 t xs b=r:=Option.some.inj hr
        subst hr
        cases b with
        |row e l=>exact h.r j _ h4 i hi
        |own p t' ys=>
         simp only[X9] at hi
         cases hc:castO t t' xs with
         |none=>rw[hc] at hi;cases hi
         |some zs=>rw[hc] at hi;cases hi
      |sto i' o ns=>
       cases h3
       cases h4:A1 σ.res j with
       |none=>rw[h4] at hr;cases hr
       |some b=>
        rw[h4] at hr
        have hr:AAU o ns b=r:=Option.some.inj hr
        subst hr
        cases b with
        |own _ _ _=>cases hi
        |row e l=>
         cases hw:setW l o ns with
         |none=>simp only[AAU,hw] at hi;exact h.r j _ h4 i hi
         |some l'=>
          simp only[AAU,hw] at hi
          rcases AFI l o hw i hi with h5|h5
          . exact h.r j _ h4 i h5
          . exact ha i h5
    . cases h4:A1 σ.res j with
      |none=>rw[h4] at hr;cases hr
      |some b=>
       rw[h4] at hr
       have hr:trR k p b=r:=Option.some.inj hr
       subst hr
       rcases APM hi with h5|h5
       . exact h.r j b h4 i h5
       . rw[ha.none h3] at h5;cases h5
theorem GInv.run {g:Gh} {d:Option Nat}:∀ (as_:List Ac) (σ:AS),GInv g σ->(∀ a∈as_,GAct g d a)->GInv g (apps d as_ σ)
 |[],_,h,_=>h
 |a :: as_,σ,h,ha=>GInv.run as_ (a.app d σ) (h.app (ha a (List.mem_cons_self ..))) fun b hb=>ha b (List.mem_cons_of_mem _ hb)
def View (lk F:List Nat) (σ σ':AS):Prop:=(∀ t∈lk,A1 σ.env t=A1 σ'.env t)/\∀ i∈F,A1 σ.res i=A1 σ'.res i
theorem View.trans {lk F:List Nat} {σ σ1 σ2:AS} (h:View lk F σ σ1) (k:View lk F σ1 σ2):View lk F σ σ2:=⟨fun t ht=>(h.1 t ht).trans (k.1 t ht),fun i hi=>(h.2 i hi).trans (k.2 i hi)⟩
theorem View.symm {lk F:List Nat} {σ σ1:AS} (h:View lk F σ σ1):View lk F σ1 σ:=⟨fun t ht=>(h.1 t ht).symm,fun i hi=>(h.2 i hi).symm⟩
theorem Eqv.view {lk F:List Nat} {σ σ':AS} (h:Eqv σ σ'):View lk F σ σ':=⟨fun t _=>h.1 t,fun i _=>h.2 i⟩
structure Unseen (lk F:List Nat) (d:Option Nat) (a:Ac):Prop where
 w:∀ i p,trA a=some (i,p)->i∉F
 d:∀ t s,AB0 a d=some (t,s)->t∉lk
theorem View.app {g:Gh} {lk ft F:List Nat} {σ:AS} {d:Option Nat} {a:Ac} (hg:GInv g σ) (hl:∀ t∈lk,∀ i∈g.o t,i∈F) (hF:∀ j∈ft,∀ i∈g.r j,i∈F) (hs:∀ j∈ft,j∈F) (h:Unseen lk F d a):View lk ft (a.app d σ) σ:=by
 refine⟨fun t ht=>?_,fun j hj=>?_⟩
 . rw[env_app]
   have key:(A1 σ.env t).map (fA a)=A1 σ.env t:=by
    cases h2:A1 σ.env t with
    |none=>rfl
    |some s=>rw[Option.map_some,AJO fun i p hi hm=>h.w i p hi (hl t ht i (hg.o t s h2 i hm))]
   cases hp:AB0 a d with
   |none=>exact key
   |some q=>
    obtain⟨e,s⟩:=q
    simp only
    rw[if_neg (show ¬ e=t from fun he=>h.d e s hp (he▸ht))]
    exact key
 . rw[res_app]
   cases h3:trA a with
   |none=>rfl
   |some q=>
    obtain⟨k,p⟩:=q
    have hk:=h.w k p h3
    simp only
    rw[if_neg (show ¬ j=k from fun he=>hk (he▸hs j hj))]
    cases h2:A1 σ.res j with
    |none=>rfl
    |some b=>rw[Option.map_some,AKX fun hm=>hk (hF j hj k (hg.r j b h2 k hm))]
theorem View.apps {g:Gh} {lk ft F:List Nat} {d:Option Nat} (hl:∀ t∈lk,∀ i∈g.o t,i∈F) (hF:∀ j∈ft,∀ i∈g.r j,i∈F) (hs:∀ j∈ft,j∈F):∀ (as_:List Ac) (σ:AS),GInv g σ->(∀ a∈as_,GAct g d a)->(∀ a∈as_,Unseen lk F d a)->View lk ft (Rx.apps d as_ σ) σ
 |[],σ,_,_,_=>(Eqv.refl σ).view
 |a :: as_,σ,hg,ha,hu=>(View.apps hl hF hs as_ (a.app d σ) (hg.app (ha a (List.mem_cons_self ..))) (fun b hb=>ha b (List.mem_cons_of_mem _ hb)) fun b hb=>hu b (List.mem_cons_of_mem _ hb)).trans (View.app hg hl hF hs (hu a (List.mem_cons_self ..)))
theorem GInv.runE {g:Gh} {T:List Dr} (hT:∀ r∈T,∀ a∈r.as_,GAct g r.d a):∀ (e:List Nat) {σ:AS},GInv g σ->GInv g (runE T e σ)
 |[],_,h=>h
 |k :: e,σ,h=>by
  simp only[Rx.runE]
  refine GInv.runE hT e ?_
  cases hk:T[k]? with
  |none=>exact h
  |some r=>exact GInv.run r.as_ _ h (hT r (List.mem_of_getElem? hk))
theorem View.runE {g:Gh} {T:List Dr} (hT:∀ r∈T,∀ a∈r.as_,GAct g r.d a) {lk ft F:List Nat} (hl:∀ t∈lk,∀ i∈g.o t,i∈F) (hF:∀ j∈ft,∀ i∈g.r j,i∈F) (hs:∀ j∈ft,j∈F):∀ (e:List Nat) {σ:AS},GInv g σ->(∀ k∈e,∀ r,T[k]?=some r->∀ a∈r.as_,Unseen lk F r.d a)->View lk ft (Rx.runE T e σ) σ
 |[],σ,_,_=>(Eqv.refl σ).view
 |k :: e,σ,hg,hu=>by
  simp only[Rx.runE]
  have h1:=hu k (List.mem_cons_self ..)
  cases hk:T[k]? with
  |none=>exact View.runE hT hl hF hs e hg fun j hj=>hu j (List.mem_cons_of_mem _ hj)
  |some r=>
   have hr:=hT r (List.mem_of_getElem? hk)
   exact (View.runE hT hl hF hs e (GInv.run r.as_ _ hg hr) fun j hj=>hu j (List.mem_cons_of_mem _ hj)).trans (View.apps hl hF hs r.as_ _ hg hr (h1 r hk))
theorem APN {g:Gh} {T:List Dr} (hT:∀ r∈T,∀ a∈r.as_,GAct g r.d a) {O:Nat->Nat->Prop} (hO:∀ j k,j≠k->IndT T j k\/O j k\/O k j) (hlow:∀ j k,O j k->j < k) {k:Nat} {lk ft F:List Nat} (hl:∀ t∈lk,∀ i∈g.o t,i∈F) (hF:∀ j∈ft,∀ i∈g.r j,i∈F) (hs:∀ j∈ft,j∈F) (hu:∀ j,j≠k->O j k\/O k j\/∀ r,T[j]?=some r->∀ a∈r.as_,Unseen lk F r.d a)
  {D:List Nat} (hD:D.Nodup) (hDc:∀ d∈D,∀ j,O j d->j∈D) (hDo:D.Pairwise (fun j k=>¬ O k j)) (hk:k∉D) (hkr:∀ j,O j k->j∈D) {σ:AS} (hg:GInv g σ):View lk ft (runE T D σ) (runE T (List.range k) σ):=by
 let D1:=D.filter fun j=>decide (j < k)
 let D2:=D.filter fun j=>!decide (j < k)
 let U:=(List.range k).filter fun j=>!D.contains j
 have hu':∀ j,j≠k->¬ O j k->¬ O k j->∀ r,T[j]?=some r->∀ a∈r.as_,Unseen lk F r.d a:=fun j h1 h2 h3=>by
  rcases hu j h1 with h|h|h
  . exact absurd h h2
  . exact absurd h h3
  . exact h
 have a1:Eqv (runE T D σ) (runE T (D1++D2) σ):=by
  have hp:D.Perm (D1++D2):=(List.filter_append_perm _ _).symm
  refine ADI hO (D1++D2) D σ hp (hp.nodup_iff.1 hD) hDo ?_
  refine List.pairwise_append.2 ⟨hDo.sublist List.filter_sublist,hDo.sublist List.filter_sublist,fun a ha b hb ho=>?_⟩
  have h1:a < k:=by simpa using (List.mem_filter.1 ha).2
  have h2:¬ b < k:=by simpa using (List.mem_filter.1 hb).2
  have:=hlow b a ho;omega
 have a2:View lk ft (runE T (D1++D2) σ) (runE T D1 σ):=by
  rw[runE_app]
  refine View.runE hT hl hF hs D2 (GInv.runE hT D1 hg) fun j hj=>?_
  obtain⟨h1,h2⟩:=List.mem_filter.1 hj
  have h2:¬ j < k:=by simpa using h2
  have hne:j≠k:=fun e=>hk (e▸h1)
  exact hu' j hne (fun ho=>h2 (hlow j k ho)) fun ho=>hk (hDc j h1 k ho)
 have hmem:∀ j,j∈D1↔j∈D/\j < k:=fun j=>by simp[D1]
 have hmemU:∀ j,j∈U↔j < k/\j∉D:=fun j=>by simp[U]
 have a3:Eqv (runE T (List.range k) σ) (runE T (D1++U) σ):=by
  have hn:(D1++U).Nodup:=List.nodup_append.2 ⟨hD.sublist List.filter_sublist,(List.nodup_range).sublist List.filter_sublist,fun a ha b hb e=>by
   subst e;exact ((hmemU a).1 hb).2 ((hmem a).1 ha).1⟩
  have hp:(List.range k).Perm (D1++U):=by
   refine (List.perm_ext_iff_of_nodup List.nodup_range hn).2 fun j=>?_
   rw[List.mem_append,hmem,hmemU,List.mem_range]
   by_cases h:j∈D <;> simp[h]
  refine ADI hO (D1++U) (List.range k) σ hp hn ?_ ?_
  . refine List.Pairwise.imp (R:=fun a b=>a < b) (fun {a b} hab ho=>?_) List.pairwise_lt_range
    have:=hlow b a ho;omega
  . refine List.pairwise_append.2 ⟨hDo.sublist List.filter_sublist,?_,fun a ha b hb ho=>?_⟩
    . refine List.Pairwise.sublist List.filter_sublist ?_
      refine List.Pairwise.imp (R:=fun a b=>a < b) (fun {a b} hab ho=>?_) List.pairwise_lt_range
      have:=hlow b a ho;omega
    . exact ((hmemU b).1 hb).2 (hDc a ((hmem a).1 ha).1 b ho)
 have a4:View lk ft (runE T (D1++U) σ) (runE T D1 σ):=by
  rw[runE_app]
  refine View.runE hT hl hF hs U (GInv.runE hT D1 hg) fun j hj=>?_
  obtain⟨h1,h2⟩:=(hmemU j).1 hj
  exact hu' j (by omega) (fun ho=>h2 (hkr j ho)) fun ho=>by have:=hlow k j ho;omega
 exact (a1.view.trans a2).trans (a3.view.trans a4).symm
end Go.Rx
