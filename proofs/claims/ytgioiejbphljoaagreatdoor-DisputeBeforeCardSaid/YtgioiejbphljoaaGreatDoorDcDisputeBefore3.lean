/-
  What DisputeBefore stands on, part 3: memory, code, plain reckoning.
-/
import Derived.RangeFuncLeaves
import Derived.RangeFuncNested
import Derived.TacticsIn
import Derived.RangeFuncKeeps
import Derived.Test.YtgioiejbphljoaaGreatDoorDcDisputeBefore2
open List (mem_append mem_cons mem_map mem_singleton replicate toArray)
open Nat (beq blt)
set_option linter.unusedVariables false
set_option linter.unusedSectionVars false
namespace Go.Sx
open Go Go.RowKit
variable[Trk]
def FinM(P:Program)(fn:Func)(R:Ending->World->Prop)(ds:List Deferred)(L:A8)(w:World):Prop:=
 (ds=[]/\∃v,(∀a,Knows fn.ntmps ds L a->(results fn a.tmps).run P w=.ok v w)/\R (.returned v) w) \/
 ∃D w',ds=[{ target:=.collected D,args:=#[] }]/\(Instr.takeDeferred D).run P w=.ok [] w'/\∃v,(∀a,Knows fn.ntmps ds L a->(results fn a.tmps).run P w'=.ok v w')/\R (.returned v) w'
section
variable{P:Program}{fn:Func}{R:Ending->World->Prop}{w:World}
theorem FinM.of{ds:List Deferred}{L:A8}(h:ABs P fn R ds L w):FinM P fn R ds L w:=.inl h
theorem ABQ{f:FuncId}{c:Code}{l:List Value}{N:Nat}(hf:P.funcs[f]?=some fn)(hb:fn.body=some c)(hN:fn.ntmps=N)(hl:Nat.ble l.length N=true)(h:CW P N c [] (T7 0 l) w (FinM P fn R) (FinM P fn R) NoX NoZ):Calls P f l.toArray w R:=by
 subst hN;refine(callsIn_wide (n:=3)).1 (callsIn_of_wp_marks hf hb trivial (wpIn_wide.2 (wp_mono (h _ ⟨?_,rfl,?_⟩) ?_)) rfl)
 . have:l.length<=fn.ntmps:=Aat hl;simp;omega
 . intro t v ht;obtain⟨j,rfl,hj⟩:=AEA l 0 t v ht;have hlt:j<l.length:=by
    rcases Aag j l.length with h|h
    . exact h
    . simp[List.getElem?_eq_none h]at hj
   simp only[Nat.zero_add];rw[Array.getElem?_append_left (by simpa using hlt)];simpa using hj
 . intro e a w' hq;have fin:∀ds L,Knows fn.ntmps ds L a->FinM P fn R ds L w'->LeavesInM Fence.wide 3 P fn a.tmps R a.defers .returning w':=fun ds L ha hF=>by
    rcases hF with⟨rfl,v,hv,hR⟩|⟨D,w2,rfl,ht,v,hv,hR⟩
    . rw[ha.defers];exact⟨v,hv a ha,hR⟩
    . rw[ha.defers];exact⟨by simp,.inl ⟨D,w2,rfl,ht,⟨v,hv a ha,hR⟩⟩⟩
   cases e with
   |normal=>obtain⟨ds,L,ha,hF⟩:=hq;exact fin ds L ha hF
   |ret=>obtain⟨ds,L,ha,hF⟩:=hq;exact fin ds L ha hF
   |panic ch=>obtain⟨ds,L,ha,hF⟩:=hq;exact hF.elim
   |exit i=>obtain⟨ds,L,ha,hx⟩:=hq;exact hx.elim
   |goto l=>exact hq.elim
   |outgrown=>exact hq.elim
end
end Go.Sx
namespace Go.Sx
open Go Go.RowKit
variable[Trk]
def FW(l:Nat):Fence:=Fence.wide.inRound l
theorem AOB{l n:Nat}{P:Program}{f:FuncId}{args:Array Value}{w:World}{R:Ending->World->Prop}(h:Calls P f args w R):CallsIn (FW l) n P f args w R:=
 show CallsIn Fence.wide n P f args w R from callsIn_wide.2 h
theorem APW{l n:Nat}{P:Program}{o:Oper}{a:Act}{next next':Act->World->Prop}{Q:Exit->Act->World->Prop}(hn:∀a w,next a w->next' a w){r:Result Next}(h:o.upon P a next Q r):o.uponIn (FW l) n P a next' Q r:=by
 unfold Oper.upon at h;split at h
 . exact hn _ _ h
 . exact hn _ _ h
 . exact hn _ _ h
 . refine⟨fun e=>(by cases e),AOB (h.mono fun e w2 h2=>?_)⟩;cases e with
   |returned v=>exact hn _ _ h2
   |panicked c=>exact h2
   |outgrown=>exact h2
 . refine⟨fun e=>(by cases e),fun c cs _=>?_⟩;obtain⟨v,w2,h2,h3⟩:=h c cs;exact⟨v,w2,hn _ _ h2,(show StepsIn (Machine.fenced P Fence.wide) P _ _ from stepsIn_wide.2 h3)⟩
 . exact h
 . exact h.elim
def K5:Op->Bool
 |.defer _=>false
 |_=>true
theorem AG6{l n:Nat}{P:Program}{ops:Array Oper}{Q:Exit->Act->World->Prop}(hQ:¬LetsOut Q):∀{os:List Oper} {a:Act} {w:World},os.all (fun o=>K5 o.op)=true->wpList P ops Q os a w->wpListIn (FW l) n P ops Q os a w
 |[],_,_,_,h=>h
 |o::os,a,w,hd,h=>by
  simp only[List.all_cons,Bool.and_eq_true]at hd;have ih:∀a w,wpList P ops Q os a w->wpListIn (FW l) n P ops Q os a w:=fun a w=>AG6 hQ hd.2;unfold wpList at h;unfold wpListIn;split at h
  . rename_i hw;rw[Aac hw];rcases h with h|h
    . refine⟨fun _ _=>trivial,?_⟩;have hs:Oper.semAt (FW l).round a.eval o=execOp a.eval o:=Oper.semAt_eq _ _ _ fun c hc=>by rw[hc]at hd;simp[K5]at hd
      rw[hs];exact APW ih h
    . exact absurd h.2 hQ
  . rename_i hw;rw[if_neg hw];exact⟨fun _ _=>trivial,ih _ _ h⟩
def CI(l n:Nat)(P:Program)(N:Nat)(c:Code)(ds:List Deferred)(L:A8)(w:World)(A B:A5)(X:Nat->A5)(Z:List PanicEntry->A5):Prop:=∀a,Knows N ds L a->c.wpIn (FW l) n P (S7 N A B X Z) a w
section
variable{l n:Nat}{P:Program}{N:Nat}{ds:List Deferred}{L:A8}{w:World}{A B:A5}{X:Nat->A5}{Z:List PanicEntry->A5}
theorem AOC:¬LetsOut (S7 N A B X Z):=fun⟨_,_,h⟩=>h
theorem Z1{id:Nat}{os:List Oper}(hd:os.all (fun o=>K5 o.op)=true)(h:Reg P N os.toArray .seq os ds L w A B X Z):CI l n P N (.region id os.toArray false) ds L w A B X Z:=
 fun a ha=>wpIn_region_lit (AG6 AOC hd (h a ha))
theorem AFx{x y:Code}(h:CI l n P N x ds L w (fun ds' L' w'=>CI l n P N y ds' L' w' A B X Z) B X Z):CI l n P N (.seq x y) ds L w A B X Z:=fun a ha=>
 wpIn_seq (wpIn_mono (h a ha) fun e a' w' hq=>by
  cases e with
  |normal=>obtain⟨ds',L',ha',hk⟩:=hq;exact hk a' ha'
  |_=>exact hq)
theorem AJA(h:A ds L w):CI l n P N .skip ds L w A B X Z:=fun a ha=>wpIn_skip ⟨ds,L,ha,h⟩
theorem AJB{c:Operand}{x y:Code}{b:Bool}(hc:ev L c=some (.bool b))(ht:b=true->CI l n P N x ds L w A B X Z)(hf:b=false->CI l n P N y ds L w A B X Z):CI l n P N (.cond c x y) ds L w A B X Z:=fun a ha=>by
 cases b with
 |true=>exact wpIn_cond_true (ha.eval hc) (ht rfl a ha)
 |false=>exact wpIn_cond_false (ha.eval hc) (hf rfl a ha)
end
section
variable{l n:Nat}{P:Program}{N:Nat}{ds:List Deferred}{L:A8}{w:World}{A B:A5}{X:Nat->A5}{Z:List PanicEntry->A5}
theorem APX{c:Code}{L':A8}(hs:Sub L L')(h:CI l n P N c ds L w A B X Z):CI l n P N c ds L' w A B X Z:=fun a ha=>h a (ha.sub hs)
theorem ADG{id:Nat}{c:Code}(h:CI l n P N c ds L w A B (exB id A X) Z):CI l n P N (.block id c) ds L w A B X Z:=fun a ha=>
 wpIn_block (wpIn_mono (h a ha) fun e a' w' hq=>by
  cases e with
  |exit i=>
   obtain⟨ds',L',ha',hx⟩:=hq
   simp only[Exit.inBlock]
   by_cases hi:i=id
   . subst hi
     rw[Aac rfl]
     exact⟨ds',L',ha',by simpa[exB] using hx⟩
   . rw[if_neg hi]
     refine⟨ds',L',ha',?_⟩
     have hb:beq i id=false:=by
      cases hb:beq i id with
      |false=>rfl
      |true=>exact absurd (AaU hb) hi
     simpa[exB,hb] using hx
  |_=>exact hq)
end
end Go.Sx
namespace Go.Rx
open Go Go.Sx Go.RowKit
variable[Trk][Sg][Sf]
def AQt(k:IntKind)(n:Nat):Enc (List Int) where
 n:=max n 1
 pos:=by omega
 R:=fun _ _ cs x=>0<n/\x.length=n/\cs=x.map (Value.int k)/\∀y∈x,InK k y
 len:=fun⟨h0,h1,h2,_⟩=>by rw[h2,Aa1];omega
 kp:=fun _ h=>h
 mon:=fun _ h=>h
 one:=fun⟨_,_,h,_⟩ u hu=>by rw[h]at hu;obtain⟨y,_,rfl⟩:=mem_map.1 hu;rfl
def AE3:Enc Nat where
 n:=1
 pos:=by decide
 R:=fun _ _ cs x=>cs=[.func (.func x) #[] #[]]
 len:=fun h=>by rw[h];rfl
 kp:=fun _ h=>h
 mon:=fun _ h=>h
 one:=fun h u hu=>by rw[h]at hu;simp at hu;subst hu;rfl
def mpE{P:Program}{kt:TypeId}{κ α:Type}(K:Option (Ky P kt κ))(E:Enc α)(ag:Bool):Enc (A4 κ α) where
 n:=1
 pos:=by decide
 R:=fun M w cs f=>∃v k,cs=[v]/\K=some k/\RdF k E ag M w v f
 len:=fun⟨_,_,h,_⟩=>by rw[h];rfl
 kp:=fun {M w w' cs x} hk ⟨v,k,h1,h2,h3⟩=>⟨v,k,h1,h2,h3.adv (M':=M) ⟨hk,fun _ h=>.inl h⟩⟩
 mon:=fun {M M' w cs x} hm ⟨v,k,h1,h2,h3⟩=>⟨v,k,h1,h2,h3.adv ⟨Kp.refl _ _,hm⟩⟩
 one:=fun⟨v,k,h1,h2,h3⟩ u hu=>by rw[h1]at hu;simp at hu;subst hu;exact h3.oneC
class Se(P:outParam Program)where
 E:(n:Nat)->Enc (Sg.S n)
 ky:(m:Nat)->(k:Ty)->Option (Ky P m (den k))
variable{P:Program}[Se P]
def Ty.agg:Ty->Bool
 |.st _=>true
 |.arr _ _=>true
 |_=>false
def enc:(t:Ty)->Enc (den t)
 |.int k=>A9 k
 |.bool=>boolE
 |.sl t=>E6 (enc t)
 |.st n=>Se.E n
 |.arr k n=>AQt k n
 |.mp m k v=>mpE (Se.ky m k) (enc v) v.agg
 |.fno _=>AE3
def AFy:(l:List Ty)->Enc (P6 l)
 |[]=>{ n:=1,pos:=by decide,R:=fun _ _ _ _=>False,len:=fun h=>h.elim,kp:=fun _ h=>h,mon:=fun _ h=>h,one:=fun h=>h.elim }
 |[t]=>enc t
 |t::u::l=>B2 (enc t) (AFy (u::l))
class Sl:Prop where
 is:∀n M w cs (x:Sg.S n),(Se.E (P:=P) n).R M w cs x↔(AFy (P:=P) (Sf.ft n)).R M w cs (Sf.un n x)
def OkD(M:List Nat)(w:World)(t:Ty)(x:den t)(v:Value):Prop:=Vl (enc t) t.agg M w v x
def FnR(P:Program)[Se P](M:List Nat)(w:World)(v:Value):(a:List Ty)->(r:Ty)->Q5 a r->List Value->Prop
 |[],r,f,vs=>∀y,f=some y->CallsV P v vs w fun e w2=>∃u,e=.returned u/\OkD M w2 r y u/\Ext w w2
 |t::l,r,f,vs=>∀(x:den t) (u:Value),OkD M w t x u->FnR P M w v l r (f x) (vs++[u])
def FnOk(M:List Nat)(w:World)(v:Value)(a:List Ty)(r:Ty)(f:Q5 a r):Prop:=∀M1 w1,Adv M M1 w w1->MLt M1 w1->FnR P M1 w1 v a r f []
def AOD:(t:Ty)->den t->List Value
 |.int k,x=>[.int k x]
 |.bool,x=>[.bool x]
 |.arr k _,x=>List.map (Value.int k) x
 |_,_=>[undef]
def ALF:(l:List Ty)->P6 l->List Value
 |[],_=>[]
 |[t],x=>AOD t x
 |t::u::l,x=>AOD t x.1++ALF (u::l) x.2
def ok1:(t:Ty)->den t->Prop
 |.int k,x=>InK k x
 |.bool,_=>True
 |.arr k n,x=>0<n/\List.length x=n/\∀y∈(show List Int from x),InK k y
 |_,_=>False
def okT:(l:List Ty)->P6 l->Prop
 |[],_=>False
 |[t],x=>ok1 t x
 |t::u::l,x=>ok1 t x.1/\okT (u::l) x.2
def M8:(t:Ty)->den t->Value
 |.int k,x=>.int k x
 |.bool,x=>.bool x
 |.arr k _,x=>.agg (toArray (List.map (Value.int k) x))
 |.st n,x=>.agg (toArray (ALF (Sf.ft n) (Sf.un n x)))
 |_,_=>undef
def okI:(t:Ty)->den t->Prop
 |.st n,x=>okT (Sf.ft n) (Sf.un n x)
 |t,x=>ok1 t x
def ASN:(l:List Ty)->P6 l->List Value
 |[],_=>[]
 |[t],x=>[M8 t x]
 |t::u::l,x=>M8 t x.1::ASN (u::l) x.2
def AEG:(l:List Ty)->P6 l->Prop
 |[],_=>True
 |[t],x=>okI t x
 |t::u::l,x=>okI t x.1/\AEG (u::l) x.2
def KI(M:List Nat)(B:Nat)(W W':World):Prop:=W'.os=W.os/\W'.tape=W.tape/\W'.output=W.output/\W.heap.size<=W'.heap.size/\∀b,b<B->b∉M->W'.heap[b]?=W.heap[b]?
def ItV(P:Program)(M:List Nat)(w:World)(v:Value)(ts:List Ty)(xs:List (P6 ts)):Prop:=
 ∃gf lb,v=.func (.func gf) #[] lb/\(∀args w,(callFunc gf args).run P w=.ok (.enter gf args) w)/\(∀x∈xs,AEG ts x)/\∀M1 w1,Adv M M1 w w1->MLt M1 w1 ->
  ∀(α:Type) (val:α->P6 ts) (zs:List α),zs.map val=xs->SeqStopsK Fence.wide 2 P gf lb (fun a=>toArray (ASN ts (val a))) (KI M1 w1.heap.size) (fun ys=>ys=zs) (fun pre=>pre <+: zs) zs.length w1
def NpOk(M:List Nat)(w:World)(t:Ty)(x:Option (den t))(v:Value):Prop:=
 (x=none/\v=.pointer none)\/∃y b o vs,x=some y/\v=.pointer (some ⟨b,o,none⟩)/\RdC M w b o vs/\(enc t).R M w vs y
mutual
def Ok(ρ:Nat->Value)(R:Nat->Option AR)(M:List Nat)(w:World):SV->Value->Prop
 |.int k x,v=>v=.int k x/\InK k x
 |.bool b,v=>v=.bool b
 |.dat t x,v=>t.agg=false/\OkD M w t x v
 |.str n x,v=>OkD M w (.st n) x v
 |.ary k n x,v=>OkD M w (.arr k n) x v
 |.agg l,v=>∃vs,v=.agg (toArray vs)/\OkL ρ R M w l vs
 |.own i,v=>v=ρ i/\v.cells=#[v]/\v.oneCell'=true
 |.ptr i o,v=>∃b,ρ i=.pointer (some ⟨b,0,none⟩)/\v=.pointer (some ⟨b,o,none⟩)
 |.ep i t x z o,v=>∃g n c p e xs,ρ i=.slice (some ⟨g,0,none⟩) n c/\R i=some (.own p (.sl e t) xs)/\(0<=x/\x<(List.length xs:Nat))/\v=.pointer (some ⟨g,x.toNat*(enc t).n+o,none⟩)/\∀y,z=some y->ixo xs x=some y
 |.rp s o,v=>∃b o0 u vs,v=.pointer (some ⟨b,o0+o,none⟩)/\RdC M w b o0 vs/\Ok ρ R M w s u/\u.cells=toArray vs
 |.fv a r f,v=>FnOk M w v a r f/\v.cells=#[v]/\v.oneCell'=true
 |.it ts xs,v=>ItV P M w v ts xs/\v.cells=#[v]/\v.oneCell'=true
 |.np t x,v=>NpOk M w t x v
 |.fn g l,v=>∃vs,v=.func (.func g) #[] (toArray vs)/\OkV ρ R M w l vs
 |.nilS,v=>v=.slice none 0 0
 |.raw u,v=>v=u/\u.cells=#[u]/\u.oneCell'=true
 |.ap s n x k,v=>∃b o,Ok ρ R M w s (.pointer (some ⟨b,o,none⟩))/\v=.pointer (some ⟨b,o+x.toNat,none⟩)/\0<=x/\x+k<=n
 |.undef,v=>v=Go.undef
 |.dead,v=>v.cells=#[v]
 |.tup l,v=>∃vs,v=.tuple (toArray vs)/\OkV ρ R M w l vs
def OkL(ρ:Nat->Value)(R:Nat->Option AR)(M:List Nat)(w:World):List SV->List Value->Prop
 |[],vs=>vs=[]
 |s::l,vs=>∃u c r,vs=c++r/\Ok ρ R M w s u/\u.cells=toArray c/\OkL ρ R M w l r
def OkV(ρ:Nat->Value)(R:Nat->Option AR)(M:List Nat)(w:World):List SV->List Value->Prop
 |[],vs=>vs=[]
 |s::l,vs=>∃u r,vs=u::r/\Ok ρ R M w s u/\OkV ρ R M w l r
end
section
variable{M:List Nat}{M':List Nat}{w:World}{w':World}{t:Ty}{v:Value}{ts:List Ty}{xs:List (P6 ts)}{x:Option (den t)}
theorem OkD.adv{x:den t}(h:OkD M w t x v)(ha:Adv M M' w w'):OkD M' w' t x v:=Vl.adv ha h
theorem ItV.adv(h:ItV P M w v ts xs)(ha:Adv M M' w w'):ItV P M' w' v ts xs:=by
 obtain⟨gf,lb,h1,h2,h3,h4⟩:=h;exact⟨gf,lb,h1,h2,h3,fun M1 w1 h=>h4 M1 w1 (ha.trans h)⟩
theorem NpOk.adv(h:NpOk M w t x v)(ha:Adv M M' w w'):NpOk M' w' t x v:=by
 rcases h with h|⟨y,b,o,vs,h1,h2,h3,h4⟩
 . exact .inl h
 . exact .inr ⟨y,b,o,vs,h1,h2,h3.adv ha,(enc t).adv h4 ha⟩
theorem NpOk.mon(hM:∀b∈M',b∈M)(h:NpOk M w t x v):NpOk M' w t x v:=h.adv (Adv.drop hM)
theorem NpOk.one(h:NpOk M w t x v):v.cells=#[v]/\v.oneCell'=true:=by
 rcases h with⟨_,rfl⟩|⟨y,b,o,vs,h1,rfl,_⟩<;>exact⟨rfl,rfl⟩
theorem ItV.mon(hM:∀b∈M',b∈M)(h:ItV P M w v ts xs):ItV P M' w v ts xs:=by
 obtain⟨gf,lb,h1,h2,h3,h4⟩:=h;exact⟨gf,lb,h1,h2,h3,fun M1 w1 h=>h4 M1 w1 ⟨h.kp.mono fun b hb=>.inl (hM b hb),fun b hb=>(h.new b hb).imp (hM b) id⟩⟩
theorem FnOk.adv{a:List Ty}{r:Ty}{f:Q5 a r}(h:FnOk M w v a r f)(ha:Adv M M' w w'):FnOk M' w' v a r f:=fun M1 w1 h1=>h M1 w1 (ha.trans h1)
end
section
variable{ρ:Nat->Value}{R:Nat->Option AR}{M M':List Nat}{w w':World}
mutual
theorem Ok.adv(ha:Adv M M' w w'):∀(s:SV) {v:Value},Ok ρ R M w s v->Ok ρ R M' w' s v
 |.int _ _,_,h=>h
 |.bool _,_,h=>h
 |.dat _ _,_,h=>⟨h.1,OkD.adv h.2 ha⟩
 |.str _ _,_,h=>OkD.adv h ha
 |.ary _ _ _,_,h=>OkD.adv h ha
 |.agg l,_,⟨vs,h1,h2⟩=>⟨vs,h1,OkL.adv ha l h2⟩
 |.own _,_,h=>h
 |.ptr _ _,_,h=>h
 |.ep _ _ _ _ _,_,h=>h
 |.rp s _,_,⟨b,o0,u,vs,h1,h2,h3,h4⟩=>⟨b,o0,u,vs,h1,h2.adv ha,Ok.adv ha s h3,h4⟩
 |.fv _ _ _,_,h=>⟨FnOk.adv h.1 ha,h.2⟩
 |.it _ _,_,h=>⟨ItV.adv h.1 ha,h.2⟩
 |.np _ _,_,h=>NpOk.adv h ha
 |.fn _ l,_,⟨vs,h1,h2⟩=>⟨vs,h1,OkV.adv ha l h2⟩
 |.nilS,_,h=>h
 |.raw _,_,h=>h
 |.ap s _ _ _,_,⟨b,o,h1,h2⟩=>⟨b,o,Ok.adv ha s h1,h2⟩
 |.undef,_,h=>h
 |.dead,_,h=>h
 |.tup l,_,⟨vs,h1,h2⟩=>⟨vs,h1,OkV.adv ha l h2⟩
theorem OkL.adv(ha:Adv M M' w w'):∀(l:List SV) {vs:List Value},OkL ρ R M w l vs->OkL ρ R M' w' l vs
 |[],_,h=>h
 |s::l,_,⟨u,c,r,h1,h2,h3,h4⟩=>⟨u,c,r,h1,Ok.adv ha s h2,h3,OkL.adv ha l h4⟩
theorem OkV.adv(ha:Adv M M' w w'):∀(l:List SV) {vs:List Value},OkV ρ R M w l vs->OkV ρ R M' w' l vs
 |[],_,h=>h
 |s::l,_,⟨u,r,h1,h2,h3⟩=>⟨u,r,h1,Ok.adv ha s h2,OkV.adv ha l h3⟩
end
end
section
variable{ρ:Nat->Value}{R:Nat->Option AR}{M:List Nat}{w:World}
theorem ADr{v:Value}(h:v.oneCell'=true):v.cells=#[v]:=by
 cases v<;>first|rfl|cases h
theorem Ok.cells1:∀(s:SV) {v:Value},one s=true->Ok ρ R M w s v->v.cells=#[v]
 |.int _ _,_,_,h=>by rw[h.1];rfl
 |.bool _,_,_,h=>by rw[show _=_ from h];rfl
 |.dat _ _,_,_,h=>by
  obtain⟨h1,cs,h2,h3|h3⟩:=h
  . rw[h1]at h3;cases h3.1
  . obtain⟨_,rfl⟩:=h3;exact ADr ((enc _).one h2 _ (by simp))
 |.own _,_,_,h=>h.2.1
 |.ptr _ _,_,_,h=>by obtain⟨b,_,rfl⟩:=h;rfl
 |.ep _ _ _ _ _,_,_,h=>by obtain⟨g,n,c,p,e,xs,_,_,_,rfl,_⟩:=h;rfl
 |.rp _ _,_,_,h=>by obtain⟨b,o0,u,vs,rfl,_⟩:=h;rfl
 |.fv _ _ _,_,_,h=>h.2.1
 |.fn _ _,_,_,h=>by obtain⟨vs,rfl,_⟩:=h;rfl
 |.nilS,_,_,h=>by rw[show _=_ from h];rfl
 |.raw _,_,_,h=>by rw[h.1];exact h.2.1
 |.it _ _,_,_,h=>h.2.1
 |.np _ _,_,_,h=>(NpOk.one h).1
 |.ap _ _ _ _,_,_,h=>by obtain⟨b,o,_,rfl,_⟩:=h;rfl
 |.dead,_,_,h=>h
 |.str _ _,_,h,_=>by cases h
 |.ary _ _ _,_,h,_=>by cases h
 |.agg _,_,h,_=>by cases h
 |.tup _,_,h,_=>by cases h
 |.undef,_,h,_=>by cases h
theorem Ok.oneC:∀(s:SV) {v:Value},AUQ s=true->Ok ρ R M w s v->∀u∈v.cells.toList,u.oneCell'=true
 |.int _ _,_,_,h=>by rw[h.1];exact fun u hu=>by simp[Value.cells]at hu;rw[hu];rfl
 |.bool _,_,_,h=>by rw[show _=_ from h];exact fun u hu=>by simp[Value.cells]at hu;rw[hu];rfl
 |.dat _ _,_,_,h=>by
  obtain⟨h1,cs,h2,h3|h3⟩:=h
  . rw[h1]at h3;cases h3.1
  . obtain⟨_,rfl⟩:=h3;have h4:=(enc _).one h2 _ (mem_singleton.2 rfl);rw[ADr h4];exact fun u hu=>by simp at hu;rw[hu];exact h4
 |.own _,_,_,h=>by rw[h.2.1];exact fun u hu=>by simp at hu;rw[hu];exact h.2.2
 |.ptr _ _,_,_,h=>by obtain⟨b,_,rfl⟩:=h;exact fun u hu=>by simp[Value.cells]at hu;rw[hu];rfl
 |.ep _ _ _ _ _,_,_,h=>by obtain⟨g,n,c,p,e,xs,_,_,_,rfl,_⟩:=h;exact fun u hu=>by simp[Value.cells]at hu;rw[hu];rfl
 |.rp _ _,_,_,h=>by obtain⟨b,o0,u,vs,rfl,_⟩:=h;exact fun u hu=>by simp[Value.cells]at hu;rw[hu];rfl
 |.fv _ _ _,_,_,h=>by rw[h.2.1];exact fun u hu=>by simp at hu;rw[hu];exact h.2.2
 |.it _ _,_,_,h=>by rw[h.2.1];exact fun u hu=>by simp at hu;rw[hu];exact h.2.2
 |.np _ _,_,_,h=>by rw[(NpOk.one h).1];exact fun u hu=>by simp at hu;rw[hu];exact(NpOk.one h).2
 |.fn _ _,_,_,h=>by obtain⟨vs,rfl,_⟩:=h;exact fun u hu=>by simp[Value.cells]at hu;rw[hu];rfl
 |.raw _,_,_,h=>by rw[h.1,h.2.1];exact fun u hu=>by simp at hu;rw[hu];exact h.2.2
 |.ap _ _ _ _,_,_,h=>by obtain⟨b,o,_,rfl,_⟩:=h;exact fun u hu=>by simp[Value.cells]at hu;rw[hu];rfl
 |.nilS,_,_,h=>by rw[show _=_ from h];exact fun u hu=>by simp[Value.cells]at hu;rw[hu];rfl
 |.ary _ _ _,_,_,h=>by
  obtain⟨cs,h2,h3|h3⟩:=h
  . obtain⟨_,rfl⟩:=h3;exact fun u hu=>(AQt _ _).one h2 u (by simpa[Value.cells] using hu)
  . cases h3.1
 |.str _ _,_,h,_=>by cases h
 |.agg _,_,h,_=>by cases h
 |.tup _,_,h,_=>by cases h
 |.undef,_,h,_=>by cases h
 |.dead,_,h,_=>by cases h
end
end Go.Rx
namespace Go.Sx
open Go Go.RowKit
variable[Trk]
def Rgi(n:Nat)(P:Program)(N:Nat)(ops:Array Oper)(l:List Oper)(ds:List Deferred)(L:A8)(w:World)(A B:A5)(X:Nat->A5)(Z:List PanicEntry->A5):Prop:=
 ∀a,Knows N ds L a->wpListIn Fence.wide n P ops (S7 N A B X Z) l a w
section
variable{n:Nat}{P:Program}{N:Nat}{ops:Array Oper}{rest:List Oper}{ds:List Deferred}{L:A8}{w:World}{A B:A5}{X:Nat->A5}{Z:List PanicEntry->A5}
theorem AJC{id:Nat}{l:List Oper}(n:Nat)(h:Rgi n P N l.toArray l ds L w A B X Z):CW P N (.region id l.toArray false) ds L w A B X Z:=fun a ha=>wpIn_wide.1 (wpIn_region_lit (h a ha))
theorem Rgi.nil(h:A ds L w):Rgi n P N ops [] ds L w A B X Z:=fun a ha=>⟨ds,L,ha,h⟩
theorem Rgi.val{o:Oper}{d:Nat}(v:Value)(hg:o.guard=none)(hd:o.dst=some d)(hN:blt d N=true)(hdf:K5 o.op=true)(hr:∀a,Knows N ds L a->(execOp a.eval o).run P w=.ok (.value v) w)(h:Rgi n P N ops rest ds ((d,v)::L) w A B X Z):Rgi n P N ops (o::rest) ds L w A B X Z:=fun a ha=>by
 unfold wpListIn;rw[Aac (by unfold Region.wanted;rw[hg])];refine⟨fun _ _=>trivial,?_⟩;have hs:Oper.semAt Fence.wide.round a.eval o=execOp a.eval o:=Oper.semAt_eq _ _ _ fun c hc=>by rw[hc]at hdf;simp[K5]at hdf
 rw[hs,hr a ha];show wpListIn _ _ _ _ _ rest (a.put o.dst v) w;rw[hd];exact h _ (ha.put hN v)
theorem Rgi.yield{f x:Operand}{l d:Nat}{v:Value}{ts:Array TypeId}{ty:TypeId}{pos:String}{af:Array Edge}{R:Ending->World->Prop}(hf:ev L f=some (.func (.yield l) #[] #[]))(hx:ev L x=some v)(hN:blt d N=true)(hY:YieldAt Fence.wide (n-1) P l #[v] w R)(h:∀e w',R e w'->∃u,e=.returned u/\Rgi n P N ops rest ds ((d,u)::L) w' A B X Z):
  Rgi n P N ops (⟨some d,.call ⟨.value f,#[x],ts⟩,ty,pos,af,none⟩::rest) ds L w A B X Z:=fun a ha=>by
 obtain⟨fn,tmps,assign,body,hy,hR⟩:=hY
 unfold wpListIn
 rw[Aac (by rfl)]
 refine⟨fun _ _=>trivial,?_⟩
 have hs:∀o:Oper,K5 o.op=true->Oper.semAt Fence.wide.round a.eval o=execOp a.eval o:=fun o hdf=>Oper.semAt_eq _ _ _ fun c hc=>by rw[hc]at hdf;simp[K5]at hdf
 rw[hs _ rfl]
 have hrun:(execOp a.eval ⟨some d,.call ⟨.value f,#[x],ts⟩,ty,pos,af,none⟩).run P w=.ok (.round l fn tmps assign body) w:=by
  simp[execOp,resolve,ha.eval hf,ha.eval hx,Deferred.ofValue,invoke,hy]
 rw[hrun]
 refine⟨fun e=>(by cases e),hR.mono fun e w' h'=>?_⟩
 obtain⟨u,rfl,h2⟩:=h e w' h'
 exact h2 _ (ha.put hN u)
end
def gOf(w:World)(b:Nat):Option Nat:=match w.cell? ⟨b,0,none⟩ with
 |some v=>(ob v).head?
 |none=>none
structure KB(b2:Nat)(w w':World):Prop where
 size:w.heap.size<=w'.heap.size
 cell:∀b j v,b≠b2->gOf w b2≠some b->w.cell? ⟨b,j,none⟩=some v->w'.cell? ⟨b,j,none⟩=some v
 gof:∀g,gOf w' b2=some g->gOf w b2=some g\/w.heap.size<=g
theorem KB.refl(b2:Nat)(w:World):KB b2 w w:=⟨Aae _,fun _ _ _ _ _ h=>h,fun _ h=>.inl h⟩
theorem KB.trans{b2:Nat}{A B C:World}(h:KB b2 A B)(k:KB b2 B C):KB b2 A C:=
 ⟨Aad h.size k.size,fun b j v h1 h2 h3=>k.cell b j v h1 (fun e=>(h.gof b e).elim h2 fun h4=>by
  have:=AGV h3;have:b<A.heap.size:=this;omega) (h.cell b j v h1 h2 h3),fun g hg=>(k.gof g hg).elim (h.gof g) fun h4=>.inr (Aad h.size h4)⟩
theorem KB.of_ext{b2:Nat}{A B:World}(h:Ext A B)(hb:b2<A.heap.size):KB b2 A B:=
 ⟨h.size,fun b j v _ _ h3=>h.cell (p:=⟨b,j,none⟩) (by simp) h3,fun g hg=>.inl (by
  unfold gOf at hg ⊢;rw[World.cell?_of_block (a:=⟨b2,0,none⟩) (w:=A) (h.block b2 hb (by simp))]at hg;exact hg)⟩
theorem KB.putObj{b2 l:Nat}{o o':Obj}{W:World}(h:W.heap[l]?=some o)(ho:o.isCells=false)(hb:b2≠l):KB b2 W (W.putObj l o'):=by
 have hne:∀b,b≠l->(W.putObj l o').heap[b]?=W.heap[b]?:=fun b hb=>World.putObj_heap_other hb;refine⟨by simp,fun b j v _ _ h3=>?_,fun g hg=>.inl ?_⟩
 . by_cases e:b=l
   . subst e;unfold World.cell? at h3;simp only[h]at h3;cases o<;>simp[Obj.isCells]at ho h3
   . rw[World.cell?_of_block (a:=⟨b,j,none⟩) (w:=W) (hne b e)];exact h3
 . unfold gOf at hg ⊢;rw[World.cell?_of_block (a:=⟨b2,0,none⟩) (w:=W) (hne b2 hb)]at hg;exact hg
theorem ACT{a b:World}(h:Below a.heap.size a b)(t:¬Trk.t):Ext a b:=⟨h.os,h.tape,h.output,h.size,fun k hk _=>h.block k hk,fun h=>absurd h t⟩
theorem Ext.grownBy{a b:World}(h:Ext a b):a.grownBy b none:=⟨h.os,h.tape,h.output,h.size,fun k hk _=>h.block k hk (by simp)⟩
end Go.Sx
namespace Go.Sx
open Go Go.RowKit
variable[Trk]
def ALG{α:Type}(E:Enc α):Prop:=∀{M M':List Nat} {w w':World} {cs:List Value} {x:α},E.R M w cs x->E.R M' w' cs x
section
variable{α:Type}{E:Enc α}{M:List Nat}{M':List Nat}{w:World}{w':World}{e:TypeId}{Bb:Nat}{v:Value}{xs:List α}
theorem Chunks.flat(hE:ALG E):∀{cs:List Value} {xs:List α},Chunks E M w cs xs->Chunks E M' w' cs xs
 |_,[],h=>h
 |_,_::_,⟨c,rest,h,hR,hr⟩=>⟨c,rest,h,hE hR,Chunks.flat hE hr⟩
theorem Own.flat(hE:ALG E)(h:Own E e Bb M w v xs)(hb:∀b∈ob v,w'.heap[b]?=w.heap[b]?):Own E e Bb M' w' v xs:=by
 rcases h with h|⟨g,cap,cur,rfl,h1,h2,h3,h4,h5,h6⟩
 . exact .inl h
 . exact .inr ⟨g,cap,cur,rfl,h1,by rw[hb g (by simp[ob])];exact h2,h3,h4,h5,Chunks.flat hE h6⟩
theorem Own.isC(h:Own E e Bb M w v xs):∀b∈ob v,∃o,w.heap[b]?=some o/\o.isCells=true:=by
 rcases h with⟨a,rfl,_⟩|⟨g,cap,cur,rfl,h1,h2,h3,h4,h5,h6⟩
 . intro b hb;cases a<;>cases hb
 . intro b hb;have:b=g:=by simpa[ob] using hb
   subst this;exact⟨_,h2,rfl⟩
end
section
variable{α:Type}{E:Enc α}{e t:TypeId}{M:List Nat}{w0 W W':World}{b2:Nat}{v v':Value}{xs xs':List α}
abbrev D9(E:Enc α)(e t:TypeId)(b2:Nat)(v:Value)(xs:List α):List Res:=[ownR [] E e v xs,rowR t b2 [v]]
theorem Hp.turnG(hE:ALG E)(ht:¬Trk.t){row:Option Nat}(h:Hp w0 [] M (D9 E e t b2 v xs) W)(hg:W.grownBy W' row)(hr:∀r,row=some r->w0.heap.size<=r/\∃o:Obj,W.heap[r]?=some o/\o.isCells=false):Hp w0 [] M (D9 E e t b2 v xs) W':=by
 have hk:Kp [] w0 W':=⟨hg.os.trans h.kp.os,hg.tape.trans h.kp.tape,hg.output.trans h.kp.output,Aad h.kp.size hg.size,fun b hb hn=>(hg.block b (Aah hb h.kp.size) fun e=>by
  have:=(hr b e.symm).1;omega).trans (h.kp.block b hb hn),fun h=>absurd h ht⟩
 have ho:=h.ownAt 0 rfl;have hrw:=h.row 1 rfl;have hcell:∀(b:Nat) (o:Obj),W.heap[b]?=some o->o.isCells=true->W'.heap[b]?=W.heap[b]?:=fun b o hb hc=>hg.block b (G0 hb) fun e=>by
  obtain⟨_,o',h1,h2⟩:=hr b e.symm;rw[hb]at h1;cases h1;rw[hc]at h2;cases h2
 refine⟨hk,fun b hb=>Aah (h.mlt b hb) hg.size,⟨hk.mono fun x hx=>(by cases hx),h.adv.new⟩,h.base,h.sepM,h.own,h.dis,fun r hr'=>?_,(fun _ _ h=>by cases h)⟩;rcases mem_cons.1 hr' with rfl|hr'
 . exact Own.flat hE ho fun b hb=>by
    obtain⟨o,h1,h2⟩:=ho.isC b hb;exact hcell b o h1 h2
 . have:r=rowR t b2 [v]:=by simpa using hr'
   subst this;exact(hcell b2 _ hrw rfl).trans hrw
theorem Hp.gof(h:Hp w0 [] M (D9 E e t b2 v xs) W):gOf W b2=(ob v).head?:=by
 have:=(h.row 1 rfl).rd.cells.at 0 rfl;unfold gOf;rw[this]
theorem ob_head{v:Value}{b:Nat}:(ob v).head?=some b↔b∈ob v:=by
 unfold ob;split<;>simp[eq_comm]
theorem Hp.kb(h:Hp w0 [] M (D9 E e t b2 v xs) W)(h':Hp w0 [] M (D9 E e t b2 v' xs') W')(hA:Adv (mm (D9 E e t b2 v xs) M) (mm (D9 E e t b2 v' xs') M) W W'):KB b2 W W'/\KeepsFrom w0.heap.size W W':=by
 have ho:=h.ownAt 0 rfl;have hmem:∀b,b∈mm (D9 E e t b2 v xs) M->b∈ob v\/b=b2\/b∈M:=fun b hb=>by
  simp only[mm,ownR,rowR,mem_append,mem_cons,List.not_mem_nil,or_false]at hb;rcases hb with h1|h1|h1
  . exact .inl h1
  . exact .inr (.inl h1)
  . exact .inr (.inr h1)
 have hM:∀b∈M,W'.heap[b]?=W.heap[b]?:=fun b hb=>(h'.kp.block b (h.base0 b hb) (by simp)).trans (h.kp.block b (h.base0 b hb) (by simp)).symm;refine⟨⟨hA.kp.size,fun b j u hb hg hu=>?_,fun g hg=>?_⟩,⟨hA.kp.size,fun k o hk ho' hc=>?_⟩⟩
 . have hlt:b<W.heap.size:=AGV hu;have hsame:W'.heap[b]?=W.heap[b]?:=by
    by_cases hm:b∈mm (D9 E e t b2 v xs) M
    . rcases hmem b hm with h1|h1|h1
      . exact absurd (by rw[h.gof];exact ob_head.2 h1) hg
      . exact absurd h1 hb
      . exact hM b h1
    . exact hA.kp.block b hlt hm
   rw[World.cell?_of_block (a:=⟨b,j,none⟩) (w:=W) hsame];exact hu
 . rw[h'.gof]at hg;have hgo:=ob_head.1 hg;rcases hA.new g (mem_mm.2 (.inl ⟨_,AaT ..,hgo⟩)) with h1|h1
   . rcases hmem g h1 with h2|h2|h2
     . exact .inl (by rw[h.gof];exact ob_head.2 h2)
     . exact absurd (by rw[h2];simp[rowR]) (h'.dis 0 1 _ _ rfl rfl (by omega) g hgo)
     . exact absurd h2 (h'.sepM _ (AaT ..) g hgo)
   . exact .inr h1
 . refine(hA.kp.block k (G0 ho') fun hm=>?_).trans ho';rcases hmem k hm with h1|h1|h1
   . obtain⟨o2,h2,h3⟩:=ho.isC k h1;rw[ho']at h2;cases h2;rw[hc]at h3;cases h3
   . subst h1;have h2:W.heap[k]?=_:=h.row 1 rfl;rw[ho']at h2;cases h2;cases hc
   . have:=h.base0 k h1;omega
end
theorem AJo{P:Program}{N:Nat}{ds:List Deferred}{L:A8}{w:World}{A B:A5}{X:Nat->A5}{Z:List PanicEntry->A5}{g:Operand}{p:Nat}{assign body:Code}{gf:Nat}{lb:Array Value}{α:Type}{val:α->Value}{xs:List α}{K:World->World->Prop}(hg:ev L g=some (.func (.func gf) #[] lb))(eg:∀args w,(callFunc gf args).run P w=.ok (.enter gf args) w)(hp:blt p N=true)(hseq:SeqStopsK Fence.wide 2 P gf lb (fun x:α=>#[val x]) K (fun ys=>ys=xs) (fun pre=>pre <+: xs) xs.length w)(hKt:∀{A B C:World},K A B->K B C->K A C)(hKb:∀(W:World) (l:Nat) (o o':Obj),w.heap.size<=l->W.heap[l]?=some o->o.isCells=false->o.isWalk=false->K W (W.putObj l o'))(I Ix:List α->World->Prop)(hI:OwnFrom w.heap.size I)(hIx:OwnFrom w.heap.size Ix)(h0:I [] w)(AL:α->A8->World->Prop)(hAL:∀x L',OwnFrom w.heap.size fun (_:Unit) W=>AL x L' W)(hassign:∀(l:Nat) (pre:List α) (x:α) (W:World),I pre W->CI l 1 P N assign [] ((p,val x)::L) W (fun ds' L' W'=>ds'=[]/\KeepsFrom w.heap.size W W'/\K W W'/\I pre W'/\AL x L' W') (fun _ _ _=>False) NoX (fun _ _ _ _=>False))(hbody:∀(l:Nat) (pre:List α) (x:α) (L':A8) (W:World),I pre W->AL x L' W->pre.length<xs.length ->
   CI l 1 P N body [] L' W (fun _ _ W'=>KeepsFrom w.heap.size W W'/\K W W'/\I (pre++[x]) W') (fun _ _ W'=>KeepsFrom w.heap.size W W'/\Ix (pre++[x]) W') NoX (fun _ _ _ _=>False))(hdone:∀(D:Nat) (W:World),w.heap.size<=D->I xs W->W.heap[D]?=some (.deferred (some []))->A ({ target:=.collected D,args:=#[] }::ds) L W)(hstop:∀(D:Nat) (pre:List α) (W:World),w.heap.size<=D->pre <+: xs->Ix pre W->W.heap[D]?=some (.deferred (some []))->B ({ target:=.collected D,args:=#[] }::ds) L W):
  CW P N (.rangeFunc g #[p] assign body) ds L w A B X Z:=by
 intro a ha
 refine(wpIn_wide (n:=3)).1 ?_
 have hN:p<N:=by simpa[Nat.blt_eq] using hp
 refine wpIn_rangeFunc_ownH (F:=Fence.wide) (n:=3) rfl (by omega) (ha.eval hg) trivial eg hseq (fun h k=>hKt h k) hKb (Below.refl _ _) (fun x=>rfl) I (fun c pre W=>c=.ret/\Ix pre W) hI
  (fun c s W W' row hs hgr hr=>⟨hs.1,hIx s W W' row hs.2 hgr hr⟩) h0 (fun x a' W=>∃L',Knows N [] L' a'/\AL x L' W) (fun x a' s W W' row hs hgr hr=>?_) ?_ ?_ ?_ ?_
 . obtain⟨L',h1,h2⟩:=hs
   exact⟨L',h1,hAL x L' () W W' row h2 hgr hr⟩
 . intro l pre x W K' hi hK
   have hk:Knows N [] ((p,val x)::L) { tmps:=a.tmps.setIfInBounds p (val x),defers:=[] }:=by
    have:=(show Knows N [] L { a with defers:=[] } from⟨ha.size,rfl,ha.val⟩).put hp (val x);exact this
   have hz:(Array.foldl (fun (t:Array Value) (x:Tmp×Value)=>match x with|(p,v)=>t.setIfInBounds p v) a.tmps (#[p].zip #[val x]))=a.tmps.setIfInBounds p (val x):=by simp
   rw[hz]
   refine wpIn_mono (hassign l pre x W hi _ hk) fun e a' W' hq=>?_
   cases e with
   |normal=>obtain⟨ds',L',h1,rfl,h3,h4,h5,h6⟩:=hq;exact hK a' W' h3 h4 h5 ⟨L',h1,h6⟩
   |ret=>obtain⟨_,_,_,h⟩:=hq;exact h.elim
   |exit i=>obtain⟨_,_,_,h⟩:=hq;exact h.elim
   |panic c=>obtain⟨_,_,_,h⟩:=hq;exact h.elim
   |goto l=>exact hq.elim
   |outgrown=>exact hq.elim
 . intro l pre x a' W _ _ hi hA hl
   obtain⟨L',h1,h2⟩:=hA
   refine wpIn_mono (hbody l pre x L' W hi h2 hl a' h1) fun e a' W' hq=>?_
   cases e with
   |normal=>obtain⟨ds',L',h1,h3⟩:=hq;exact h3
   |ret=>obtain⟨ds',L',h1,h3,h4⟩:=hq;exact⟨h3,rfl,h4⟩
   |exit i=>obtain⟨_,_,_,h⟩:=hq;exact h.elim
   |panic c=>obtain⟨_,_,_,h⟩:=hq;exact h.elim
   |goto l=>exact hq.elim
   |outgrown=>exact hq.elim
 . intro D ys W hD hy hi hw
   subst hy
   exact⟨_,L,⟨ha.size,by rw[ha.defers],ha.val⟩,hdone D W hD hi hw⟩
 . intro D c pre W hD hy hi hw
   obtain⟨rfl,hi⟩:=hi
   exact wpIn_ret ⟨_,L,⟨ha.size,by rw[ha.defers],ha.val⟩,hstop D pre W hD hy hi hw⟩
end Go.Sx
namespace Go.Sx
open Go Go.RowKit
variable[Trk]
def Tn(w w':World):Prop:=w.heap.size<=w'.heap.size/\∀(b:Nat) (o:Obj),w.heap[b]?=some o->o.isCells=true->w'.heap[b]?=some o
theorem Tn.cell{w w':World}(h:Tn w w'){a:Addr}{v:Value}(hv:w.cell? a=some v):w'.cell? a=some v:=by
 have hlt:=AGV hv;obtain⟨o,ho⟩:∃o,w.heap[a.block]?=some o:=⟨_,Abd hlt⟩;have hc:o.isCells=true:=by
  unfold World.cell? at hv;rw[ho]at hv;cases o<;>simp[Obj.isCells]at hv ⊢
 rw[World.cell?_of_block (w:=w) ((h.2 _ o ho hc).trans ho.symm)];exact hv
theorem Tn.cells{w w':World}(h:Tn w w'){b o:Nat}{cs:List Value}(hc:Cells w b o cs):Cells w' b o cs:=fun j v hj=>h.cell (hc j v hj)
class TnE{α:Type}(E:Enc α):Prop where
 tn:∀{M:List Nat} {w w':World} {cs:List Value} {x:α},Tn w w'->E.R M w cs x->E.R M w' cs x
instance (k:IntKind):TnE (A9 k):=⟨fun _ h=>h⟩
instance:TnE boolE:=⟨fun _ h=>h⟩
theorem RdS.tn{α:Type}{E:Enc α}[hE:TnE E]{M:List Nat}{w w':World}{v:Value}{xs:List α}(h:Tn w w')(hr:RdS E M w v xs):RdS E M w' v xs:=by
 obtain⟨a,c,hv,h1,h2,h3⟩:=hr;refine⟨a,c,hv,h1,h2,?_⟩;rcases h3 with h3|⟨b,o,ha,hb,hlt,hc⟩
 . exact .inl h3
 . refine .inr ⟨b,o,ha,hb,Aah hlt h.1,fun i hi=>?_⟩;obtain⟨cs,hR,hC⟩:=hc i hi;exact⟨cs,hE.tn h hR,h.cells hC⟩
instance {α:Type} (E:Enc α) [TnE E]:TnE (E6 E):=⟨fun h ⟨v,e,hr⟩=>⟨v,e,hr.tn h⟩⟩
instance {α β:Type} (E:Enc α) (F:Enc β) [hE:TnE E] [hF:TnE F]:TnE (B2 E F):=⟨fun h hr=>by
 rw[prodE_R]at hr ⊢;obtain⟨a,b,e,h1,h2⟩:=hr;exact⟨a,b,e,hE.tn h h1,hF.tn h h2⟩⟩
instance {α β:Type} (f:β->α) (E:Enc α) [hE:TnE E]:TnE (S6 f E):=⟨fun h hr=>by
 rw[mapE_R]at hr ⊢;exact hE.tn h hr⟩
section
variable{α:Type}{E:Enc α}{M:List Nat}{w:World}{w':World}{v:Value}{ag:Bool}{P:Program}{kt:TypeId}{κ:Type}{B:Nat}
theorem Chunks.tn[hE:TnE E](h:Tn w w'):∀{cs:List Value} {xs:List α},Chunks E M w cs xs->Chunks E M w' cs xs
 |_,[],hc=>hc
 |_,_::_,⟨c,rest,e,hR,hr⟩=>⟨c,rest,e,hE.tn h hR,Chunks.tn h hr⟩
theorem Own.tn[TnE E]{e:TypeId}{Bb:Nat}{xs:List α}(ht:Tn w w')(h:Own E e Bb M w v xs):Own E e Bb M w' v xs:=by
 rcases h with h|⟨g,cap,cur,rfl,h1,h2,h3,h4,h5,h6⟩
 . exact .inl h
 . exact .inr ⟨g,cap,cur,rfl,h1,ht.2 g _ h2 rfl,h3,h4,h5,Chunks.tn ht h6⟩
theorem Vl.tn[hE:TnE E]{x:α}(ht:Tn w w')(h:Vl E ag M w v x):Vl E ag M w' v x:=by
 obtain⟨cs,h1,h2⟩:=h;exact⟨cs,hE.tn ht h1,h2⟩
theorem EntK.tn{K:Ky P kt κ}[TnE E](ht:Tn w w'):∀{es:List MapEntry} {xs:List (κ×α)},EntK K E ag M w es xs->EntK K E ag M w' es xs
 |[],[],h=>h
 |_::_,_::_,⟨h1,h2,h3⟩=>⟨h1,h2.tn ht,EntK.tn ht h3⟩
 |[],_::_,h=>h.elim
 |_::_,[],h=>h.elim
def TnR(B:Nat)(r:Res):Prop:=∀(M:List Nat) (w w':World),Tn w w'->(∀b,b<B->w'.heap[b]?=w.heap[b]?)->r.holds M w->r.holds M w'/\∀b∈r.fp,b<B\/∃o,w.heap[b]?=some o/\o.isCells=true
def TnL(B:Nat):List Res->Prop
 |[]=>True
 |r::σ=>TnR B r/\TnL B σ
theorem TnL.mem:∀{σ:List Res},TnL B σ->∀r∈σ,TnR B r
 |[],_,_,h=>by cases h
 |_::_,⟨h1,h2⟩,r,h=>by
  rcases mem_cons.1 h with rfl|h
  . exact h1
  . exact TnL.mem h2 r h
theorem tn0:TnL B []:=trivial
theorem ASO{K:Ky P kt κ}[TnE E]{b:Nat}{f:A4 κ α}{σ:List Res}(hb:b<B)(h:TnL B σ):TnL B (mapO K E ag b f::σ):=⟨fun M w w' ht ho hr=>by
 obtain⟨es,c,xs,h1,h2,h3,h4⟩:=hr;exact⟨⟨es,c,xs,(ho b hb).trans h1,h2,h3.tn ht,h4⟩,fun x hx=>by
  have:x=b:=by simpa[mapO] using hx
  subst this;exact .inl hb⟩,h⟩
theorem AEH{W W':World}{row:Option Nat}(hg:W.grownBy W' row)(hr:∀r,row=some r->B<=r/\∃o:Obj,W.heap[r]?=some o/\o.isCells=false):Tn W W'/\∀b,b<B->b<W.heap.size->W'.heap[b]?=W.heap[b]?:=by
 refine⟨⟨hg.size,fun b o ho hc=>?_⟩,fun b hb hl=>hg.block b hl fun e=>?_⟩
 . refine(hg.block b (G0 ho) fun e=>?_).trans ho;obtain⟨_,o',h1,h2⟩:=hr b e.symm;rw[ho]at h1;cases h1;rw[hc]at h2;cases h2
 . have:=(hr b e.symm).1;omega
end
section
variable{w0 W W':World}{M:List Nat}{σ:List Res}
theorem Hp.turn(ht:¬Trk.t){B:Nat}(hB:B<=W.heap.size)(h0:w0.heap.size<=B)(hT:TnL B σ){row:Option Nat}(h:Hp w0 [] M σ W)(hg:W.grownBy W' row)(hr:∀r,row=some r->B<=r/\∃o:Obj,W.heap[r]?=some o/\o.isCells=false):Hp w0 [] M σ W':=by
 obtain⟨htn,hold⟩:=AEH hg hr;have hk:Kp [] w0 W':=⟨hg.os.trans h.kp.os,hg.tape.trans h.kp.tape,hg.output.trans h.kp.output,Aad h.kp.size hg.size,fun b hb hn=>(hold b (by omega) (Aah hb h.kp.size)).trans (h.kp.block b hb hn),fun h=>absurd h ht⟩;refine⟨hk,fun b hb=>Aah (h.mlt b hb) hg.size,⟨hk.mono fun x hx=>(by cases hx),h.adv.new⟩,h.base,h.sepM,h.own,h.dis,fun r hr'=>?_,(fun _ _ h=>by cases h)⟩;exact(hT.mem r hr' _ _ _ htn (fun b hb=>hold b hb (by omega)) (h.all r hr')).1
theorem Adv.turn(ht:¬Trk.t){M1 M2:List Nat}{w:World}{row:Option Nat}(h:Adv M1 M2 w W)(hg:W.grownBy W' row)(hr:∀r,row=some r->w.heap.size<=r/\∃o:Obj,W.heap[r]?=some o/\o.isCells=false):Adv M1 M2 w W':=by
 obtain⟨_,hold⟩:=AEH hg hr;exact⟨⟨hg.os.trans h.kp.os,hg.tape.trans h.kp.tape,hg.output.trans h.kp.output,Aad h.kp.size hg.size,fun b hb hn=>(hold b hb (Aah hb h.kp.size)).trans (h.kp.block b hb hn),fun h=>absurd h ht⟩,h.new⟩
end
open Classical in
noncomputable def AB8{X S:Type}(body:S->X->Option S)(s0:S)(xs:List X):Option S:=
 if ∀ys:List X,ys.length<=xs.length->(∀y∈ys,y∈xs)->(ys.foldlM body s0).isSome=true then xs.foldlM body s0 else none
section
variable{X:Type}{S:Type}{body:S->X->Option S}{s0:S}{xs:List X}
theorem AFz{s0 r:S}(h:AB8 body s0 xs=some r):
  xs.foldlM body s0=some r/\∀(pre:List X) (x:X) (s:S),pre.length<xs.length->(∀y∈pre,y∈xs)->x∈xs->pre.foldlM body s0=some s->∃s',body s x=some s'/\(pre++[x]).foldlM body s0=some s':=by
 unfold AB8 at h
 split at h
 . rename_i hc
   refine⟨h,fun pre x s hl hp hx hs=>?_⟩
   have:=hc (pre++[x]) (by simp;omega) fun y hy=>by
    rcases mem_append.1 hy with hy|hy
    . exact hp y hy
    . rw[mem_singleton.1 hy];exact hx
   rw[Aba,hs]at this
   obtain⟨s',hs'⟩:=Option.isSome_iff_exists.1 this
   refine⟨s',?_,?_⟩
   . simpa using hs'
   . rw[Aba,hs];exact hs'
 . cases h
theorem Ret.over{Q:S->Prop}(I:List X->S->Prop)(h0:I [] s0)(step:∀pre x s,pre.length<xs.length->(∀y∈pre,y∈xs)->x∈xs->I pre s->Ret (body s x) (I (pre++[x])))(fin:∀s,I xs s->Q s):Ret (AB8 body s0 xs) Q:=by
 have key:∀(n:Nat) (ys:List X),ys.length=n->n<=xs.length->(∀y∈ys,y∈xs)->∃s,ys.foldlM body s0=some s/\I ys s:=by
  intro n;induction n with
  |zero=>intro ys hl _ _;rw[AbR hl];exact⟨s0,rfl,h0⟩
  |succ n ih=>
   intro ys hl hn hy
   obtain⟨pre,x,rfl⟩:∃pre x,ys=pre++[x]:=⟨ys.dropLast,ys.getLast (by intro e;rw[e]at hl;cases hl),(List.dropLast_concat_getLast _).symm⟩
   obtain⟨s,h1,h2⟩:=ih pre (by simpa using hl) (by omega) fun y h=>hy y (AaR _ h)
   obtain⟨s',h3,h4⟩:=step pre x s (by simp at hl;omega) (fun y h=>hy y (AaR _ h)) (hy x (by simp)) h2
   exact⟨s',by rw[Aba,h1];simpa using h3,h4⟩
 obtain⟨s,h1,h2⟩:=key xs.length xs rfl (Aae _) fun _ h=>h;refine⟨s,?_,fin s h2⟩;unfold AB8;rw[Aac]
 . exact h1
 . intro ys hl hy;obtain⟨s,h3,_⟩:=key ys.length ys rfl hl hy;rw[h3];rfl
theorem AOE{P:Program}{N:Nat}{ds:List Deferred}{L:A8}{w:World}{A B:A5}{X:Nat->A5}{Z:List PanicEntry->A5}{g:Operand}{p p2:Nat}{assign body:Code}{gf:Nat}{lb:Array Value}{α:Type}{val val2:α->Value}{xs:List α}{K:World->World->Prop}(hg:ev L g=some (.func (.func gf) #[] lb))(eg:∀args w,(callFunc gf args).run P w=.ok (.enter gf args) w)(hp:blt p N=true)(hp2:blt p2 N=true)(hseq:SeqStopsK Fence.wide 2 P gf lb (fun x:α=>#[val x,val2 x]) K (fun ys=>ys=xs) (fun pre=>pre <+: xs) xs.length w)(hKt:∀{A B C:World},K A B->K B C->K A C)(hKb:∀(W:World) (l:Nat) (o o':Obj),w.heap.size<=l->W.heap[l]?=some o->o.isCells=false->o.isWalk=false->K W (W.putObj l o'))(I Ix:List α->World->Prop)(hI:OwnFrom w.heap.size I)(hIx:OwnFrom w.heap.size Ix)(h0:I [] w)(AL:α->A8->World->Prop)(hAL:∀x L',OwnFrom w.heap.size fun (_:Unit) W=>AL x L' W)(hassign:∀(l:Nat) (pre:List α) (x:α) (W:World),I pre W->CI l 1 P N assign [] ((p2,val2 x)::(p,val x)::L) W (fun ds' L' W'=>ds'=[]/\KeepsFrom w.heap.size W W'/\K W W'/\I pre W'/\AL x L' W') (fun _ _ _=>False) NoX (fun _ _ _ _=>False))(hbody:∀(l:Nat) (pre:List α) (x:α) (L':A8) (W:World),I pre W->AL x L' W->pre.length<xs.length ->
   CI l 1 P N body [] L' W (fun _ _ W'=>KeepsFrom w.heap.size W W'/\K W W'/\I (pre++[x]) W') (fun _ _ W'=>KeepsFrom w.heap.size W W'/\Ix (pre++[x]) W') NoX (fun _ _ _ _=>False))(hdone:∀(D:Nat) (W:World),w.heap.size<=D->I xs W->W.heap[D]?=some (.deferred (some []))->A ({ target:=.collected D,args:=#[] }::ds) L W)(hstop:∀(D:Nat) (pre:List α) (W:World),w.heap.size<=D->pre <+: xs->Ix pre W->W.heap[D]?=some (.deferred (some []))->B ({ target:=.collected D,args:=#[] }::ds) L W):
  CW P N (.rangeFunc g #[p,p2] assign body) ds L w A B X Z:=by
 intro a ha
 refine(wpIn_wide (n:=3)).1 ?_
 refine wpIn_rangeFunc_ownH (F:=Fence.wide) (n:=3) rfl (by omega) (ha.eval hg) trivial eg hseq (fun h k=>hKt h k) hKb (Below.refl _ _) (fun x=>rfl) I (fun c pre W=>c=.ret/\Ix pre W) hI
  (fun c s W W' row hs hgr hr=>⟨hs.1,hIx s W W' row hs.2 hgr hr⟩) h0 (fun x a' W=>∃L',Knows N [] L' a'/\AL x L' W) (fun x a' s W W' row hs hgr hr=>?_) ?_ ?_ ?_ ?_
 . obtain⟨L',h1,h2⟩:=hs
   exact⟨L',h1,hAL x L' () W W' row h2 hgr hr⟩
 . intro l pre x W K' hi hK
   have hk:Knows N [] ((p2,val2 x)::(p,val x)::L) { tmps:=(a.tmps.setIfInBounds p (val x)).setIfInBounds p2 (val2 x),defers:=[] }:=by
    have h1:=(show Knows N [] L { a with defers:=[] } from⟨ha.size,rfl,ha.val⟩).put hp (val x);exact h1.put hp2 (val2 x)
   have hz:(Array.foldl (fun (t:Array Value) (x:Tmp×Value)=>match x with|(p,v)=>t.setIfInBounds p v) a.tmps (#[p,p2].zip #[val x,val2 x]))=(a.tmps.setIfInBounds p (val x)).setIfInBounds p2 (val2 x):=by simp
   rw[hz]
   refine wpIn_mono (hassign l pre x W hi _ hk) fun e a' W' hq=>?_
   cases e with
   |normal=>obtain⟨ds',L',h1,rfl,h3,h4,h5,h6⟩:=hq;exact hK a' W' h3 h4 h5 ⟨L',h1,h6⟩
   |ret=>obtain⟨_,_,_,h⟩:=hq;exact h.elim
   |exit i=>obtain⟨_,_,_,h⟩:=hq;exact h.elim
   |panic c=>obtain⟨_,_,_,h⟩:=hq;exact h.elim
   |goto l=>exact hq.elim
   |outgrown=>exact hq.elim
 . intro l pre x a' W _ _ hi hA hl
   obtain⟨L',h1,h2⟩:=hA
   refine wpIn_mono (hbody l pre x L' W hi h2 hl a' h1) fun e a' W' hq=>?_
   cases e with
   |normal=>obtain⟨ds',L',h1,h3⟩:=hq;exact h3
   |ret=>obtain⟨ds',L',h1,h3,h4⟩:=hq;exact⟨h3,rfl,h4⟩
   |exit i=>obtain⟨_,_,_,h⟩:=hq;exact h.elim
   |panic c=>obtain⟨_,_,_,h⟩:=hq;exact h.elim
   |goto l=>exact hq.elim
   |outgrown=>exact hq.elim
 . intro D ys W hD hy hi hw
   subst hy
   exact⟨_,L,⟨ha.size,by rw[ha.defers],ha.val⟩,hdone D W hD hi hw⟩
 . intro D c pre W hD hy hi hw
   obtain⟨rfl,hi⟩:=hi
   exact wpIn_ret ⟨_,L,⟨ha.size,by rw[ha.defers],ha.val⟩,hstop D pre W hD hy hi hw⟩
end
end Go.Sx
namespace Go.Rx
open Go Go.Sx Go.RowKit
noncomputable section
variable[Sg][Sf](G:Gx)
def T9(s:SV):Option (List SV):=match AGX (cellsOf s) with
 |true=>some (cellsOf s)
 |false=>none
def U0(t o:Nat)(v:SV):Option SV:=match lk G.tb.ag t with
 |some 0=>match Q6 (cellsOf v) o with
  |some s=>match one s with
   |true=>some s
   |false=>none
  |none=>none
 |some (n+1)=>match Q7 (cellsOf v) with
  |some m=>match beq m n,o with
   |true,0=>match AEE v with
    |true=>some v
    |false=>none
   |_,_=>match AGW (cellsOf v) o with
    |some l=>match AEz l n with
     |some r=>match lk G.ty t with
      |some (.arr _ _)=>match r with
       |[s]=>match AEE s with
        |true=>some s
        |false=>none
       |_=>none
      |_=>some (.agg r)
     |none=>none
    |none=>none
  |none=>none
 |none=>none
def ADs:Ty->Option SV
 |.int k=>some (.int k 0)
 |.bool=>some (.bool false)
 |.sl _=>some .nilS
 |.arr k n=>match n with
  |0=>none
  |m+1=>some (.ary k (m+1) (replicate (m+1) 0))
 |.mp _ _ _=>some (.raw (.map none))
 |_=>none
def ACo:List Ty->Option (List SV)
 |[]=>some []
 |t::l=>match ADs t with
  |some s=>match ACo l with
   |some r=>some (s::r)
   |none=>none
  |none=>none
def AB9(t:Nat):Option SV:=match lk G.ty t with
 |some (.st n)=>match ACo (Sf.ft n) with
  |some l=>some (.agg l)
  |none=>none
 |some u=>ADs u
 |none=>match lk G.pz t with
  |some n=>some (.raw (AN9 n))
  |none=>none
def szB(t:Nat)(ns:List SV):Bool:=match lk G.sz t with
 |some n=>match Q7 ns with
  |some m=>beq m n
  |none=>false
 |none=>false
def AOF(ns:List SV)(n:Nat):Bool:=match Q7 ns with
 |some m=>beq m n
 |none=>false
def AE4(pl:List (Nat×Nat))(E:Operand->Option SV):List (Nat×Operand)->List SV->Option (List SV)
 |[],l=>some l
 |(i,x)::r,l=>match nth pl i with
  |some (o,n)=>match E x with
   |some s=>match AOF (cellsOf s) n with
    |true=>match setW l o (cellsOf s) with
     |some l'=>AE4 pl E r l'
     |none=>none
    |false=>none
   |none=>none
  |none=>none
def AHP:Nat->List (Nat×Operand)->Bool
 |_,[]=>true
 |i,(j,_)::r=>beq i j&&AHP (i+1) r
def opB:Operand->Operand->Bool
 |.tmp t,.tmp u=>beq t u
 |.const (.int k n),.const (.int k' n')=>match kEq k k' with
  |true=>decide (n=n')
  |false=>false
 |_,_=>false
def AID:(u:Ty)->Option (den u)
 |.int _=>some (0:Int)
 |.bool=>some false
 |.sl _=>some []
 |_=>none
def arS{Z:Type}(K:List Ac->Option Z)(b:BinOp)(k:IntKind)(i j:Int):Option Z:=match cmp b i j with
 |some t=>K [.put (.bool t)]
 |none=>match b with
  |.add=>(chk k (i+j)).bind fun n=>K [.put (.int k n)]
  |.sub=>(chk k (i-j)).bind fun n=>K [.put (.int k n)]
  |.mul=>(chk k (i*j)).bind fun n=>K [.put (.int k n)]
  |.quo=>(AKm k i j).bind fun n=>K [.put (.int k n)]
  |.rem=>(AKo i j).bind fun n=>K [.put (.int k n)]
  |.and=>K [.put (.int k (AKy k i j))]
  |_=>none
def AOG{Z:Type}(R:Nat->Option AR)(K:List Ac->Option Z)(b:BinOp)(t:Nat)(s s':SV):Option Z:=match lk G.eq t with
 |some n=>match B3 s,B3 s' with
  |[],[]=>match C1 R (.st n) s with
   |some x=>match C1 R (.st n) s' with
    |some y=>match b with
     |.eql=>K [.put (.bool (Sf.eq n x y))]
     |.neq=>K [.put (.bool (!Sf.eq n x y))]
     |_=>none
    |none=>none
   |none=>none
  |_,_=>none
 |none=>none
def AOH{Z:Type}(R:Nat->Option AR)(K:List Ac->Option Z)(b:BinOp)(t:Nat):SV->SV->Option Z
 |.int k i,s=>match s with
  |.int k' j=>match b with
   |.shr=>(AHI i j k.bits).bind fun n=>K [.put (.int k n)]
   |.shl=>(AHJ k i j).bind fun n=>K [.put (.int k n)]
   |_=>match kEq k k' with
    |true=>arS K b k i j
    |false=>none
  |_=>none
 |.bool p,s=>match s with
  |.bool q=>match lk G.ty t with
   |some .bool=>match b with
    |.eql=>K [.put (.bool (p==q))]
    |.neq=>K [.put (.bool (!(p==q)))]
    |_=>none
   |_=>none
  |_=>none
 |.agg l,s=>AOG G R K b t (.agg l) s
 |.str n x,s=>AOG G R K b t (.str n x) s
 |_,_=>none
def iaS{Z:Type}(R:Nat->Option AR)(K:List Ac->Option Z)(e:Ty)(i:Int):SV->Option Z
 |.own j=>match C1 R (.sl e) (.own j) with
  |some xs=>(ixo (show List (den e) from xs) i).bind fun z=>K [.put (.ep j e i (some z) 0)]
  |none=>none
 |s=>match C1 R (.sl e) s with
  |some xs=>(ixo (show List (den e) from xs) i).bind fun z=>K [.put (.rp (F6 e z) 0)]
  |none=>none
def AUU(k:Nat):SV->Option SV
 |.rp v o=>some (.rp v (o+k))
 |.ptr i o=>some (.ptr i (o+k))
 |.ep i t ix z o=>some (.ep i t ix z (o+k))
 |_=>none
def AGa(R:Nat->Option AR)(t:Nat):SV->Option SV
 |.rp v o=>U0 G t o v
 |.ptr i o=>match R i with
  |some (.row _ l)=>U0 G t o (.agg l)
  |_=>none
 |.ep _ u _ z o=>match z with
  |some z=>U0 G t o (F6 u z)
  |none=>none
 |_=>none
def ixA(n i:Int):Option Int:=if 0<=i/\i<n then some i else none
def apS(len m:Nat)(i:Int):SV->Option SV
 |.rp v o=>some (.ap (.rp v o) (len*m) (i*Int.ofNat m) m)
 |.ptr j o=>some (.ap (.ptr j o) (len*m) (i*Int.ofNat m) m)
 |.ap s n x k=>match beq k (len*m) with
  |true=>some (.ap s n (x+i*Int.ofNat m) m)
  |false=>none
 |_=>none
def AE5(R:Nat->Option AR):SV->Option (IntKind×Nat×List Int)
 |.rp v o=>match Q6 (cellsOf v) o with
  |some (.ary k n l)=>some (k,n,l)
  |_=>none
 |.ptr i o=>match R i with
  |some (.row _ l)=>match Q6 l o with
   |some (.ary k n l)=>some (k,n,l)
   |_=>none
  |_=>none
 |_=>none
def iaA{Z:Type}(K:List Ac->Option Z)(t:Nat)(i:Int)(s:SV):Option Z:=match lk G.ar t with
 |some (len,m)=>(ixA (Int.ofNat len) i).bind fun j=>match apS len m j s with
  |some r=>K [.put r]
  |none=>none
 |none=>none
def ldA{Z:Type}(R:Nat->Option AR)(K:List Ac->Option Z)(t:Nat):SV->Option Z
 |.ap s n x k=>match lk G.tb.ag t,beq k 1 with
  |some 0,true=>match AE5 R s with
   |some (q,n',l)=>match beq n' n with
    |true=>(ixo l x).bind fun y=>K [.put (.int q y)]
    |false=>none
   |none=>none
  |_,_=>none
 |_=>none
def stA{Z:Type}(R:Nat->Option AR)(K:List Ac->Option Z)(ns:List SV)(n:Nat)(x:Int)(k:Nat):SV->Option Z
 |.ptr i o=>match R i with
  |some (.row _ l)=>match Q6 l o with
   |some (.ary q n' xs)=>match beq n' n,beq k 1,ns with
    |true,true,[.int q' v]=>match kEq q' q with
     |true=>(seto xs x v).bind fun m=>match setW l o [.ary q n m] with
      |some _=>K [.sto i o [.ary q n m]]
      |none=>none
     |false=>none
    |_,_,_=>none
   |_=>none
  |_=>none
 |_=>none
def AQu{Z:Type}(R:Nat->Option AR)(K:List Ac->Option Z)(ns:List SV):SV->Option Z
 |.ptr i o=>match R i with
  |some (.row e l)=>match setW l o ns with
   |some _=>K [.sto i o ns]
   |none=>none
  |_=>none
 |.ep i u ix z o=>match z with
  |some z=>match R i with
   |some (.own p (.sl e u') xs)=>match I2 (.sl u') (.sl u) xs with
    |some xs=>match setW (cellsOf (F6 u z)) o ns with
     |some l'=>match toP R u l' with
      |some z2=>match frz R (ownsLL ns) with
       |some fz=>match has (ownsLL ns) i with
        |true=>none
        |false=>(seto (show List (den u) from xs) ix z2).bind fun m=>K (fz++[.cnt i (.sl e u) m])
       |none=>none
      |none=>none
     |none=>none
    |none=>none
   |_=>none
  |none=>none
 |.ap s n x k=>stA R K ns n x k s
 |_=>none
def AUX{Z:Type}(R:Nat->Option AR)(K:List Ac->Option Z):SV->Option Z
 |.dat (.sl t) xs=>K [.put (.int .i64 (show List (den t) from xs).length)]
 |.own i=>match R i with
  |some (.own _ (.sl _ t) xs)=>K [.put (.int .i64 (show List (den t) from xs).length)]
  |_=>none
 |.nilS=>K [.put (.int .i64 0)]
 |_=>none
def AOI{Z:Type}(id:Nat)(R:Nat->Option AR)(K:List Ac->Option Z)(e:Nat)(u:Ty)(b:Nat)(fz:List Ac)(ow:List Nat)(ys:List (den u)):SV->Option Z
 |.nilS=>(appo b ([]:List (den u)) ys).bind fun l=>K (fz++[.new id (.own false (.sl e u) l),.put (.own id)])
 |.own i=>match R i with
  |some (.own p (.sl e' u') xs)=>match I2 (.sl u') (.sl u) xs with
   |some xs=>match has ow i with
    |true=>none
    |false=>match beq e' e with
     |true=>(appo b (show List (den u) from xs) ys).bind fun l=>K (fz++[.hnd i (.own p (.sl e u) l),.put (.own i)])
     |false=>none
   |none=>none
  |_=>none
 |_=>none
def mmS{Z:Type}(K:List Ac->Option Z)(f:Int->Int->Int):SV->SV->Option Z
 |.int k i,s=>match s with
  |.int k' j=>match kEq k k' with
   |true=>K [.put (.int k (f i j))]
   |false=>none
  |_=>none
 |_,_=>none
def zdS:Ty->Option SV
 |.st n=>match ACo (Sf.ft n) with
  |some l=>some (.agg l)
  |none=>none
 |.int k=>ADs (.int k)
 |.bool=>ADs .bool
 |.sl t=>ADs (.sl t)
 |.arr k n=>ADs (.arr k n)
 |.mp _ _ _=>none
 |.fno _=>none
def zdM(t:Ty):Option (den t):=match zdS t with
 |some s=>C1 (fun _=>none) t s
 |none=>none
def AQv{Z:Type}(id:Nat)(K:List Ac->Option Z)(t:TypeId):Option Z:=match lk G.mp t with
 |some (m,_,k,v)=>K [.new id (.own false (.mp m k v) (show A4 (den k) (den v) from fnone)),.put (.own id)]
 |none=>none
def lkR(cm:Bool)(v:Ty)(o:Option (den v))(z0:den v):SV:=match cm with
 |true=>.tup [F6 v (o.getD z0),.bool o.isSome]
 |false=>F6 v (o.getD z0)
def AOJ{Z:Type}(R:Nat->Option AR)(K:List Ac->Option Z)(t:TypeId)(cm:Bool)(sx sy:SV):Option Z:=match lk G.mp t with
 |some (m,_,k,v)=>match C1 R (.mp m k v) sx with
  |some f=>match B3 sy with
   |[]=>match C1 R k sy with
    |some a=>match zdM v with
     |some z0=>K [.put (lkR cm v ((show A4 (den k) (den v) from f) a) z0)]
     |none=>none
    |none=>none
   |_=>none
  |none=>none
 |none=>none
def ALI(R:Nat->Option AR)(m:Nat)(k v:Ty):SV->Option (Nat×A4 (den k) (den v))
 |.own i=>match R i with
  |some (.own false c f)=>match castO c (.mp m k v) f with
   |some f=>some (i,f)
   |none=>none
  |_=>none
 |_=>none
def AJD{Z:Type}(R:Nat->Option AR)(K:List Ac->Option Z)(t:TypeId)(sx sy su:SV):Option Z:=match lk G.mp t with
 |some (m,_,k,v)=>match ALI R m k v sx with
  |some (i,f)=>match B3 sy with
   |[]=>match C1 R k sy with
    |some a=>match has (B3 su) i with
     |false=>match C1 R v su with
      |some z=>match frz R (B3 su) with
       |some fz=>K (fz++[.cnt i (.mp m k v) (@B4 _ _ (AEU k) f a z)])
       |none=>none
      |none=>none
     |true=>none
    |none=>none
   |_=>none
  |none=>none
 |none=>none
def AQw{Z:Type}(R:Nat->Option AR)(K:List Ac->Option Z)(t:TypeId)(sx sy:SV):Option Z:=match lk G.mp t with
 |some (m,_,k,v)=>match ALI R m k v sx with
  |some (i,f)=>match B3 sy with
   |[]=>match C1 R k sy with
    |some a=>K [.cnt i (.mp m k v) (@Z7 _ _ (AEU k) f a)]
    |none=>none
   |_=>none
  |none=>none
 |none=>none
def AQx{Z:Type}(R:Nat->Option AR)(K:List Ac->Option Z)(t:TypeId)(s:SV):Option Z:=match lk G.mp t with
 |some (m,_,k,v)=>match C1 R (.mp m k v) s with
  |some f=>(chk .i64 (ALB (show A4 (den k) (den v) from f))).bind fun n=>K [.put (.int .i64 n)]
  |none=>none
 |none=>none
def AE6{Z:Type}(id:Nat)(R:Nat->Option AR)(K:List Ac->Option Z):Builtin->List SV->List TypeId->Option Z
 |.len,[s],[t]=>match lk G.sl t with
  |some _=>AUX R K s
  |none=>AQx G R K t s
 |.delete,[x,y],[t,_]=>AQw G R K t x y
 |.min,[x,y],_=>mmS K min x y
 |.max,[x,y],_=>mmS K max x y
 |.append,[x,y],[t,t']=>match beq t t',lk G.sl t with
  |true,some (e,u,b)=>match C1 R (.sl u) y with
   |some ys=>match frz R (B3 y) with
    |some fz=>AOI id R K e u b fz (B3 y) ys x
    |none=>none
   |none=>none
  |_,_=>none
 |_,_,_=>none
def U1{Z:Type}:List SV->(List SV->Option Z)->Option Z
 |[],K=>K []
 |s::l,K=>match s with
  |.np t x=>Option.bind x fun y=>U1 l fun r=>K (.rp (F6 t y) 0::r)
  |s=>U1 l fun r=>K (s::r)
def AF0(id:Nat)(E:Operand->Option SV)(R:Nat->Option AR){Z:Type}(K:List Ac->Option Z):Op->Option Z
 |.move x=>match E x with
  |some s=>K [.put s]
  |none=>none
 |.assign x=>match E x with
  |some s=>K [.put s]
  |none=>none
 |.pick c a b=>match E c with
  |some (.bool t)=>cond t (match E a with
   |some x=>K [.put x]
   |none=>none) (match E b with
   |some y=>K [.put y]
   |none=>none)
  |_=>none
 |.nilCheck x=>match E x with
  |some (.rp v o)=>K [.put (.rp v o)]
  |some (.ptr i o)=>K [.put (.ptr i o)]
  |some (.np t x)=>Option.bind x fun y=>K [.put (.rp (F6 t y) 0)]
  |_=>none
 |.unOp u _ x=>match u with
  |.not=>match E x with
   |some (.bool b)=>K [.put (.bool (!b))]
   |_=>none
  |.neg=>match E x with
   |some (.int k i)=>(chk k (-i)).bind fun n=>K [.put (.int k n)]
   |_=>none
  |_=>none
 |.convert s t x=>match lk G.ty s with
  |some (.int _)=>match lk G.ty t with
   |some (.int k)=>match E x with
    |some (.int _ i)=>(chk k i).bind fun n=>K [.put (.int k n)]
    |_=>none
   |_=>none
  |_=>none
 |.binOp b t x y _=>match E x with
  |some s=>match E y with
   |some s'=>AOH G R K b t s s'
   |none=>none
  |none=>none
 |.indexAddr t x y=>match lk G.sl t with
  |some (_,e,_)=>match E y with
   |some (.int _ i)=>match E x with
    |some s=>iaS R K e i s
    |none=>none
   |_=>none
  |none=>match E y with
   |some (.int _ i)=>match E x with
    |some s=>iaA G K t i s
    |none=>none
   |_=>none
 |.fieldAddr s x f=>match lk G.tb.st s with
  |some l=>match nth l f with
   |some (k,_)=>match E x with
    |some v=>match AUU k v with
     |some r=>K [.put r]
     |none=>none
    |none=>none
   |none=>none
  |none=>none
 |.field s x f=>match lk G.tb.st s with
  |some l=>match nth l f with
   |some (k,u)=>match E x with
    |some v=>match U0 G u k v with
     |some r=>match AEE v with
      |true=>K [.put r]
      |false=>none
     |none=>none
    |none=>none
   |none=>none
  |none=>none
 |.extract x i=>match E x with
  |some (.tup l)=>match nth l i with
   |some s=>K [.put s]
   |none=>none
  |_=>none
 |.load t x=>match E x with
  |some v=>match AGa G R t v with
   |some s=>K [.put s]
   |none=>ldA G R K t v
  |none=>none
 |.box t x=>match E x with
  |some s=>match T9 s with
   |some l=>K [.new id (.row t (subL id .dead l)),.put (.ptr id 0)]
   |none=>none
  |none=>none
 |.alloc t=>match AB9 G t with
  |some s=>match T9 s with
   |some l=>K [.new id (.row t (subL id .dead l)),.put (.ptr id 0)]
   |none=>none
  |none=>none
 |.store t x y=>match E y with
  |some s=>match T9 s with
   |some ns=>match szB G t ns with
    |true=>match E x with
     |some a=>AQu R K ns a
     |none=>none
    |false=>none
   |none=>none
  |none=>none
 |.build t ps=>match lk G.bd t with
  |some pl=>match AB9 G t with
   |some (.agg l)=>match AE4 pl E ps.toList l with
    |some l'=>K [.put (.agg l')]
    |none=>none
   |_=>none
  |none=>none
 |.buildSlice t n ps=>match lk G.sl t with
  |some (e,u,_)=>match lk G.sz e with
   |some m=>match evL E (ps.toList.map (·.2)) with
    |some ss=>match AA6 u R ss with
     |some xs=>match frz R (ownsLL ss) with
      |some fz=>match AHP 0 ps.toList&&beq n ps.toList.length&&Nat.ble (n*m) 16777216 with
       |true=>K (fz++[.new id (.own false (.sl e u) xs),.put (.own id)])
       |false=>none
      |none=>none
     |none=>none
    |none=>none
   |none=>none
  |none=>none
 |.makeMap t r=>match r with
  |none=>AQv G id K t
  |some _=>none
 |.lookup t x y cm=>match E x with
  |some sx=>match E y with
   |some sy=>AOJ G R K t cm sx sy
   |none=>none
  |none=>none
 |.mapUpdate t x y u=>match E x with
  |some sx=>match E y with
   |some sy=>match E u with
    |some su=>AJD G R K t sx sy su
    |none=>none
   |none=>none
  |none=>none
 |.insert t x y u=>match E x with
  |some sx=>match E y with
   |some sy=>match E u with
    |some su=>AJD G R K t sx sy su
    |none=>none
   |none=>none
  |none=>none
 |.makeSlice t x y=>match opB x y with
  |true=>match lk G.sl t with
   |some (e,u,b)=>match lk G.ty e with
    |some u'=>match decide (u'=u),AID u with
     |true,some z0=>match E x with
      |some (.int _ m)=>(mko b z0 m).bind fun xs=>K [.new id (.own false (.sl e u) xs),.put (.own id)]
      |_=>none
     |_,_=>none
    |none=>none
   |none=>none
  |false=>none
 |.slice t x lo hi mx=>match lk G.sl t with
  |some (e,u,_)=>match E x with
   |some s=>match C1 R (.sl u) s with
    |some xs=>match mx with
     |some m=>match lo with
      |none=>match B3 s with
       |[]=>match hi,m with
        |some (.const (.int _ i)),.const (.int _ j)=>match decide (i=0),decide (j=0) with
         |true,true=>K [.new id (.own false (.sl e u) []),.put (.own id)]
         |_,_=>none
        |_,_=>none
       |_=>none
      |some _=>none
     |none=>match frz R (B3 s) with
      |some fz=>match lo with
       |some y=>match hi with
        |none=>match E y with
         |some (.int _ i)=>(AA4 (show List (den u) from xs) i).bind fun l=>K (fz++[.put (.dat (.sl u) l)])
         |_=>none
        |some _=>none
       |none=>match hi with
        |some y=>match E y with
         |some (.int _ i)=>(AAG (show List (den u) from xs) i).bind fun l=>K (fz++[.put (.dat (.sl u) l)])
         |_=>none
        |none=>none
      |none=>none
    |none=>none
   |none=>none
  |none=>none
 |.makeFunc f fs cs=>match f with
  |.func g=>match fs.toList with
   |[]=>match evL E cs.toList with
    |some l=>K [.put (.fn g l)]
    |none=>none
   |_=>none
  |_=>none
 |.call ⟨.builtin b,args,ts⟩=>match evL E args.toList with
  |some ss=>AE6 G id R K b ss ts.toList
  |none=>none
 |.call ⟨.value f,args,_⟩=>match fvN G (E f) with
  |some (.fn g caps)=>match evL E args.toList with
   |some ss=>U1 (ss++caps) fun ss'=>AIA G id R K g ss'
   |none=>none
  |some (.fv a r f)=>match evL E args.toList with
   |some ss=>match AAH r a f R ss with
    |some o=>match frz R (ownsLL ss) with
     |some fz=>Option.bind o fun y=>K (fz++[.put (F6 r y)])
     |none=>none
    |none=>none
   |none=>none
  |_=>none
 |_=>none
def ACp(ops:List Oper)(j:Nat):Option Nat:=match nth ops j with
 |some o=>o.dst
 |none=>none
def ABe:Option Nat->Nat
 |some d=>d
 |none=>0
def ADH(N:Nat)(op:Op):Option Nat->Bool
 |some d=>match op with
  |.store _ _ _=>false
  |.mapUpdate _ _ _ _=>false
  |.insert _ _ _ _=>false
  |.call ⟨.builtin .delete,_,_⟩=>false
  |_=>blt d N
 |none=>match op with
  |.store _ _ _=>true
  |.mapUpdate _ _ _ _=>true
  |.insert _ _ _ _=>true
  |.call ⟨.builtin .delete,_,_⟩=>true
  |.call ⟨.value _,_,_⟩=>true
  |_=>false
def D3(N:Nat)(ops:List Oper){Z:Type}(K:AS->Option Z):List Oper->AS->Option Z
 |[],σ=>K σ
 |o::r,σ=>match ADH N o.op o.dst with
  |true=>match o.guard with
   |none=>AF0 G (ABe o.dst) (B5 σ.env) (A1 σ.res) (fun as_=>D3 N ops K r (apps o.dst as_ σ)) o.op
   |some (g,b)=>match ACp ops g with
    |some t=>match A1 σ.env t with
     |some (.bool c)=>cond c
      (cond b (AF0 G (ABe o.dst) (B5 ((t,.bool true)::σ.env)) (A1 σ.res) (fun as_=>D3 N ops K r (apps o.dst as_ { σ with env:=(t,.bool true)::σ.env })) o.op)
       (D3 N ops K r (apps o.dst [.put .undef] { σ with env:=(t,.bool true)::σ.env })))
      (cond b (D3 N ops K r (apps o.dst [.put .undef] { σ with env:=(t,.bool false)::σ.env }))
       (AF0 G (ABe o.dst) (B5 ((t,.bool false)::σ.env)) (A1 σ.res) (fun as_=>D3 N ops K r (apps o.dst as_ { σ with env:=(t,.bool false)::σ.env })) o.op))
     |some .undef=>D3 N ops K r (apps o.dst [.put .undef] σ)
     |_=>none
    |none=>none
  |false=>none
structure Dr where
 d:Option Nat
 lk:List Nat
 as_:List Ac
 ft:List Nat
def lkL:List Operand->List Nat
 |[]=>[]
 |.tmp t::l=>t::lkL l
 |_::l=>lkL l
def AUa(lk:List Nat)(f:Nat->Option SV):Operand->Option SV
 |.tmp t=>bif has lk t then f t else none
 |.const v=>AK6 v
 |.func g=>some (.fn g [])
 |.global g=>match Sf.gv g with
  |some s=>match B3 s with
   |[]=>some s
   |_=>none
  |none=>none
def G9(f:Nat->List Nat):List Nat->List Nat
 |[]=>[]
 |x::l=>f x++G9 f l
def AOK(f:Nat->Option SV)(t:Nat):List Nat:=match f t with
 |some s=>B3 s
 |none=>[]
def AWq(R:Nat->Option AR)(i:Nat):List Nat:=match R i with
 |some a=>AGY a
 |none=>[]
def AWr(f:Nat->Option SV)(R:Nat->Option AR)(lk:List Nat):List Nat:=G9 (AOK f) lk++G9 (AWq R) (G9 (AOK f) lk)
def AUb(F:List Nat)(R:Nat->Option AR):Nat->Option AR:=fun i=>bif has F i then R i else none
def ftO(op:Op)(f:Nat->Option SV)(R:Nat->Option AR)(lk:List Nat):List Nat:=match op with
 |.load _ _=>G9 (AOK f) lk
 |.move _=>[]
 |.fieldAddr _ _ _=>[]
 |_=>AWr f R lk
def AKV(id:Nat)(lk:List Nat)(σ:AS){Z:Type}(K:List Ac->Option Z)(op:Op):Option Z:=AF0 G id (AUa lk (A1 σ.env)) (AUb (ftO op (A1 σ.env) (A1 σ.res) lk) (A1 σ.res)) K op
def ABw(N:Nat)(ops:List Oper){Z:Type}(K:List Dr->AS->Option Z):List Oper->List Dr->AS->Option Z
 |[],T,σ=>K T σ
 |o::r,T,σ=>match ADH N o.op o.dst with
  |true=>match o.guard with
   |none=>AKV G (ABe o.dst) (lkL o.op.operands.toList) σ (fun as_=>ABw N ops K r (T++[⟨o.dst,lkL o.op.operands.toList,as_,ftO o.op (A1 σ.env) (A1 σ.res) (lkL o.op.operands.toList)⟩]) (apps o.dst as_ σ)) o.op
   |some (g,b)=>match ACp ops g with
    |some t=>match A1 σ.env t with
     |some (.bool c)=>cond c
      (cond b (AKV G (ABe o.dst) (t::lkL o.op.operands.toList) { σ with env:=(t,.bool true)::σ.env } (fun as_=>ABw N ops K r (T++[⟨o.dst,t::lkL o.op.operands.toList,as_,ftO o.op (A1 ((t,.bool true)::σ.env)) (A1 σ.res) (t::lkL o.op.operands.toList)⟩]) (apps o.dst as_ { σ with env:=(t,.bool true)::σ.env })) o.op)
       (ABw N ops K r (T++[⟨o.dst,[t],[.put .undef],[]⟩]) (apps o.dst [.put .undef] { σ with env:=(t,.bool true)::σ.env })))
      (cond b (ABw N ops K r (T++[⟨o.dst,[t],[.put .undef],[]⟩]) (apps o.dst [.put .undef] { σ with env:=(t,.bool false)::σ.env }))
       (AKV G (ABe o.dst) (t::lkL o.op.operands.toList) { σ with env:=(t,.bool false)::σ.env } (fun as_=>ABw N ops K r (T++[⟨o.dst,t::lkL o.op.operands.toList,as_,ftO o.op (A1 ((t,.bool false)::σ.env)) (A1 σ.res) (t::lkL o.op.operands.toList)⟩]) (apps o.dst as_ { σ with env:=(t,.bool false)::σ.env })) o.op))
     |some .undef=>ABw N ops K r (T++[⟨o.dst,[t],[.put .undef],[]⟩]) (apps o.dst [.put .undef] σ)
     |_=>none
    |none=>none
  |false=>none
def V5:List Edge->List Nat
 |[]=>[]
 |e::l=>bif Region.binds .any e then e.on::V5 l else V5 l
def AaM(l:List (List Nat))(j:Nat):List Nat:=match nth l j with
 |some x=>x
 |none=>[]
def ACG{Z:Type}:List Nat->(List Nat->Z)->Z
 |[],K=>K []
 |x::l,K=>ACG l fun l'=>K (x::l')
def AEX{Z:Type}:List (List Nat)->(List (List Nat)->Z)->Z
 |[],K=>K []
 |x::l,K=>ACG x fun x'=>AEX l fun l'=>K (x'::l')
def AQy(acc:List Nat):List Nat->List Nat
 |[]=>acc
 |x::l=>bif has acc x then AQy acc l else AQy (x::acc) l
def lkT:List (Nat×List Nat)->Nat->List Nat
 |[],_=>[]
 |(k,o)::r,t=>bif beq k t then o else lkT r t
def AUc:List (Nat×List Nat)->Nat->List Oper->List (List Nat)
 |_,_,[]=>[]
 |acc,k,o::r=>ACG (AQy [] (V5 o.after.toList++G9 (lkT acc) (V5 o.after.toList))) fun t=>t::AUc ((k,t)::acc) (k+1) r
def ABx(ops:List Oper):List (List Nat):=AUc [] 0 ops
def idA:Ac->Option Nat
 |.put _=>none
 |.new i _=>some i
 |.sto i _ _=>some i
 |.cnt i _ _=>some i
 |.hnd i _=>some i
 |.del i _=>some i
def coA:Ac->List Nat
 |.put s=>B3 s
 |.new _ r=>AGY r
 |.sto _ _ ns=>ownsLL ns
 |.cnt _ _ _=>[]
 |.hnd _ r=>AGY r
 |.del _ p=>ABc p
def c0(i:Nat):Nat:=Nat.add i i
def c1(i:Nat):Nat:=Nat.succ (Nat.add i i)
def dbl:List Nat->List Nat
 |[]=>[]
 |i::l=>c0 i::c1 i::dbl l
mutual
def U2:SV->List Nat
 |.own i=>[c0 i]
 |.ptr i _=>[c0 i]
 |.ep i _ _ _ _=>[c0 i,c1 i]
 |.agg l=>P2 l
 |.tup l=>P2 l
 |.fn _ l=>P2 l
 |.rp s _=>U2 s
 |.ap s _ _ _=>U2 s
 |_=>[]
def P2:List SV->List Nat
 |[]=>[]
 |s::l=>U2 s++P2 l
end
def ABy:AR->List Nat
 |.own _ _ _=>[]
 |.row _ l=>P2 l
def AOL(R:Nat->Option AR)(i:Nat):List Nat:=match R i with
 |some a=>ABy a
 |none=>[]
def coR:Ac->List Nat
 |.new _ r=>ABy r
 |.sto _ _ ns=>P2 ns
 |.hnd _ r=>ABy r
 |_=>[]
def AOM(f:Nat->Option SV)(t:Nat):List Nat:=match f t with
 |some s=>U2 s
 |none=>[]
def coC:Ac->List Nat
 |.put s=>U2 s
 |.new _ r=>dbl (AGY r)
 |.sto _ _ ns=>dbl (ownsLL ns)
 |.cnt _ _ _=>[]
 |.hnd _ r=>dbl (AGY r)
 |.del _ p=>dbl (ABc p)
def wcA:Ac->List Nat
 |.put _=>[]
 |.new i _=>[c0 i,c1 i]
 |.sto i _ _=>[c1 i]
 |.cnt i _ _=>[c1 i]
 |.hnd i _=>[c0 i,c1 i]
 |.del i _=>[c0 i,c1 i]
def wsC:List Ac->List Nat
 |[]=>[]
 |a::l=>wcA a++wsC l
def pOwn(t:Nat):List Dr->List Nat
 |[]=>[]
 |r::l=>(match r.d with
  |some d=>bif beq d t then unputs r.as_ else []
  |none=>[])++pOwn t l
where unputs:List Ac->List Nat
 |[]=>[]
 |.put s::l=>U2 s++unputs l
 |_::l=>unputs l
def rOwn(i:Nat):List Dr->List Nat
 |[]=>[]
 |r::l=>unrows r.as_++rOwn i l
where unrows:List Ac->List Nat
 |[]=>[]
 |a::l=>(match idA a with
  |some j=>bif beq j i then coR a else []
  |none=>[])++unrows l
structure Gh where
 o:Nat->List Nat
 r:Nat->List Nat
def ACq(σ:AS)(T:List Dr):Gh:=⟨fun t=>AOM (A1 σ.env) t++pOwn t T,fun i=>AOL (A1 σ.res) i++rOwn i T⟩
structure De where
 r:Dr
 F:List Nat
 tb:List Nat
 es:List Nat
def mkE(g:Gh):List Dr->List (List Nat)->List Oper->List De
 |r::T,t::tb,o::l=>⟨r,G9 g.o r.lk++(dbl r.ft++G9 g.r r.ft),t,V5 o.after.toList⟩::mkE g T tb l
 |_,_,_=>[]
def ABz(l F:List Nat):Bool:=l.all fun c=>has F c
def AON(g:Gh)(d:Option Nat):Ac->Bool
 |.put s=>match d with
  |some t=>ABz (U2 s) (g.o t)
  |none=>true
 |.new i r=>ABz (ABy r) (g.r i)
 |.sto i _ ns=>ABz (P2 ns) (g.r i)
 |.cnt _ _ _=>true
 |.hnd i r=>ABz (ABy r) (g.r i)
 |.del _ p=>match ABc p with
  |[]=>true
  |_=>false
def AOO(l F:List Nat):Bool:=l.all fun c=>!has F c
def AEI(a b:De):Bool:=(match a.r.d with
 |some x=>!has b.r.lk x&&(match b.r.d with
  |some y=>!Nat.beq x y
  |none=>true)
 |none=>true)&&(match b.r.d with
 |some y=>!has a.r.lk y
 |none=>true)&&AOO (wsC a.r.as_) b.F&&AOO (wsC b.r.as_) a.F&&AOO (wsC a.r.as_) (wsC b.r.as_)
def AQz(g:Gh)(E:List De)(k:Nat)(d:De):Bool:=
 (d.tb.all fun j=>blt j k&&(has d.es j||d.es.any fun e=>match nth E e with
  |some q=>has q.tb j
  |none=>false))&&(d.es.all fun e=>blt e k)&&(d.r.ft.all fun i=>has d.F (c1 i)&&ABz (g.r i) d.F)&&(d.r.lk.all fun t=>ABz (g.o t) d.F) &&
 (d.r.as_.all fun a=>AON g d.r.d a&&ABz (coC a) (d.F++wsC d.r.as_))
def AE7(d:De):Nat->List De->Bool
 |_,[]=>true
 |j,q::l=>(has d.tb j||AEI q d)&&AE7 d (j+1) l
def AHQ(f:Nat->De->Bool):Nat->List De->Bool
 |_,[]=>true
 |k,d::l=>f k d&&AHQ f (k+1) l
def AEY:List De->List De->Bool
 |_,[]=>true
 |prev,d::l=>AE7 d 0 prev&&AEY (prev++[d]) l
def AQ0(g:Gh)(n:Nat)(E:List De):Bool:=beq E.length n&&AHQ (AQz g E) 0 E&&AEY [] E
def AOP(ops:List Oper)(σ:AS)(T:List Dr):Bool:=AQ0 (ACq σ T) ops.length (mkE (ACq σ T) T (ABx ops) ops)
def AE8(t:List Nat):Nat->List Nat
 |0=>[]
 |k+1=>bif has t k then AE8 t k else k::AE8 t k
def AIF:Nat->List (List Nat)->List (List Nat)
 |_,[]=>[]
 |k,t::r=>AE8 t k::AIF (k+1) r
def AUd(tb:List (List Nat))(j e:Nat):Bool:=match nth tb e with
 |some q=>has q j
 |none=>false
def AGb(tb:List (List Nat)):Nat->List (List Nat)->List Oper->Bool
 |k,t::r,o::l=>(t.all fun j=>blt j k&&(has (V5 o.after.toList) j||(V5 o.after.toList).any (AUd tb j)))&&((V5 o.after.toList).all fun e=>blt e k)&&AGb tb (k+1) r l
 |_,[],[]=>true
 |_,_,_=>false
def AUe:Ac->Bool
 |.del _ p=>match ABc p with
  |[]=>true
  |_=>false
 |_=>true
def AWs(d:De):Bool:=d.r.as_.all fun a=>AUe a&&ABz (coC a) (d.F++wsC d.r.as_)
def AQ1(E:List De)(d:De)(j:Nat):Bool:=match nth E j with
 |some q=>AEI q d
 |none=>false
def AKW(E:List De):List De->List (List Nat)->Bool
 |[],_=>true
 |d::l,fr=>match fr with
  |f::r=>f.all (AQ1 E d)&&AKW E l r
  |[]=>false
def ASS(n:Nat)(E:List De)(fr:List (List Nat)):Bool:=beq E.length n&&E.all AWs&&AKW E E fr
def mkF{Z:Type}(g:Gh):List Dr->List (List Nat)->List Oper->(List De->Z)->Z
 |r::T,t::tb,o::l,K=>ACG r.lk fun lk=>ACG r.ft fun ft=>ACG (G9 g.o lk++(dbl ft++G9 g.r ft)) fun F=>mkF g T tb l fun E=>K (⟨⟨r.d,lk,r.as_,ft⟩,F,t,V5 o.after.toList⟩::E)
 |_,_,_,K=>K []
def AEZ(t:Nat):List (Nat×List Nat)->Bool
 |[]=>false
 |(k,_)::r=>beq k t||AEZ t r
def ALJ(t:Nat)(o:List Nat)(r:List (Nat×List Nat)):List (Nat×List Nat):=match o with
 |[]=>bif AEZ t r then(t,[])::r else r
 |x::l=>(t,x::l)::r
def AHR:List (Nat×SV)->List (Nat×List Nat)
 |[]=>[]
 |(t,s)::r=>ALJ t (U2 s) (AHR r)
def AHS:List (Nat×AR)->List (Nat×List Nat)
 |[]=>[]
 |(t,s)::r=>ALJ t (ABy s) (AHS r)
def ADJ{Z:Type}:List (Nat×List Nat)->(List (Nat×List Nat)->Z)->Z
 |[],K=>K []
 |(t,o)::r,K=>ACG o fun o'=>ADJ r fun r'=>K ((t,o')::r')
mutual
def F8{Z:Type}:SV->(SV->Z)->Z
 |.agg l,K=>ABR l fun l'=>K (.agg l')
 |.fn g l,K=>ABR l fun l'=>K (.fn g l')
 |.tup l,K=>ABR l fun l'=>K (.tup l')
 |.rp s o,K=>F8 s fun s'=>K (.rp s' o)
 |.ap s n x k,K=>F8 s fun s'=>K (.ap s' n x k)
 |.int k x,K=>K (.int k x)
 |.bool b,K=>K (.bool b)
 |.dat t x,K=>K (.dat t x)
 |.str n x,K=>K (.str n x)
 |.ary k n x,K=>K (.ary k n x)
 |.own i,K=>K (.own i)
 |.ptr i o,K=>K (.ptr i o)
 |.ep i t x z o,K=>K (.ep i t x z o)
 |.fv a r f,K=>K (.fv a r f)
 |.nilS,K=>K .nilS
 |.raw v,K=>K (.raw v)
 |.it ts xs,K=>K (.it ts xs)
 |.np t x,K=>K (.np t x)
 |.undef,K=>K .undef
 |.dead,K=>K .dead
def ABR{Z:Type}:List SV->(List SV->Z)->Z
 |[],K=>K []
 |s::l,K=>F8 s fun s'=>ABR l fun l'=>K (s'::l')
end
def AIG{Z:Type}:List (Nat×SV)->(List (Nat×SV)->Z)->Z
 |[],K=>K []
 |(t,s)::r,K=>F8 s fun s'=>AIG r fun r'=>K ((t,s')::r')
def AEa{Z:Type}:List (Nat×AR)->(List (Nat×AR)->Z)->Z
 |[],K=>K []
 |(i,a)::r,K=>match a with
  |.row e l=>ABR l fun l'=>AEa r fun r'=>K ((i,.row e l')::r')
  |.own p c x=>AEa r fun r'=>K ((i,.own p c x)::r')
def ALK{Z:Type}(σ:AS)(K:AS->Z):Z:=AIG σ.env fun e=>AEa σ.res fun r=>K ⟨e,r,σ.kl,σ.ch⟩
def AHT:List Dr->List (Nat×List Nat)
 |[]=>[]
 |r::l=>match r.d with
  |some d=>match pOwn.unputs r.as_ with
   |[]=>AHT l
   |x::q=>(d,x::q)::AHT l
  |none=>AHT l
def AE9:List Ac->List (Nat×List Nat)->List (Nat×List Nat)
 |[],z=>z
 |a::l,z=>match idA a with
  |some j=>match coR a with
   |[]=>AE9 l z
   |x::q=>(j,x::q)::AE9 l z
  |none=>AE9 l z
def ALL:List Dr->List (Nat×List Nat)
 |[]=>[]
 |r::l=>AE9 r.as_ (ALL l)
def ADK(t:Nat):List (Nat×List Nat)->List Nat
 |[]=>[]
 |(k,o)::r=>bif beq k t then o++ADK t r else ADK t r
def AIH{Z:Type}:List Dr->(List Dr->Z)->Z
 |[],K=>K []
 |r::l,K=>AIH l fun l'=>K (r::l')
def ghT(to tr pt rt:List (Nat×List Nat)):Gh:=⟨fun t=>lkT to t++ADK t pt,fun i=>lkT tr i++ADK i rt⟩
def AKX(ops:List Oper)(tb fr:List (List Nat))(to tr:List (Nat×List Nat))(T:List Dr):Bool:=AIH T fun T=>ADJ (AHT T) fun pt=>ADJ (ALL T) fun rt=>mkF (ghT to tr pt rt) T tb ops fun E=>ASS ops.length E fr
def AOQ(N:Nat)(ops:List Oper){Z:Type}(KN:AS->Option Z)(σ:AS):Option Z:=ALK σ fun σ=>ADJ (AHR σ.env) fun to=>ADJ (AHS σ.res) fun tr=>AEX (ABx ops) fun tb=>AEX (AIF 0 tb) fun fr=>match AGb tb 0 tb ops with
 |true=>ABw G N ops (fun T σ'=>match AKX ops tb fr to tr T with
  |true=>KN σ'
  |false=>none) ops [] σ
 |false=>none
inductive At where
 |slot (t:Nat)
 |cell (i n:Nat)
 |cont (i:Nat)
abbrev Cm:=At×Ck
structure Sh where
 cs:List Cm
 keep:List Nat
def O6(l:List Cm):Type:=H9 (l.map Prod.snd)
def nilO:(c:Oc)->Option (den c.ty)
 |.sl _ _=>some []
 |.mp _ _ _=>none
def AFA(R:Nat->Option AR)(c:Oc):SV->Option (den c.ty)
 |.own i=>match R i with
  |some (.own false c' x)=>castO c' c x
  |_=>none
 |.nilS=>nilO c
 |_=>none
def ACr(σ:AS)(i n:Nat):Option SV:=match A1 σ.res i with
 |some (.row _ l)=>nth l n
 |_=>none
def AAe(σ:AS):(c:Ck)->At->Option c.den
 |.d t,a=>match a with
  |.slot s=>match A1 σ.env s with
   |some v=>C1 (A1 σ.res) t v
   |none=>none
  |.cell i n=>match ACr σ i n with
   |some v=>C1 (A1 σ.res) t v
   |none=>none
  |.cont _=>none
 |.own c,a=>match a with
  |.slot s=>match A1 σ.env s with
   |some v=>AFA (A1 σ.res) c v
   |none=>none
  |.cell i n=>match ACr σ i n with
   |some v=>AFA (A1 σ.res) c v
   |none=>none
  |.cont i=>match A1 σ.res i with
   |some (.own _ c' x)=>castO c' c x
   |_=>none
 |.undef,a=>match a with
  |.slot s=>match A1 σ.env s with
   |some .undef=>some ()
   |_=>none
  |_=>none
 |.it _,_=>none
 |.np _,_=>none
def AJE(σ:AS):(l:List Cm)->Option (O6 l)
 |[]=>some ()
 |[c]=>AAe σ c.2 c.1
 |c::d::l=>match AAe σ c.2 c.1 with
  |some x=>match AJE σ (d::l) with
   |some r=>some (x,r)
   |none=>none
  |none=>none
mutual
def J9(kp:List Nat):SV->SV
 |.own j=>bif has kp j then .own j else .dead
 |.ptr j o=>bif has kp j then .ptr j o else .dead
 |.ep j t x _ o=>bif has kp j then .ep j t x none o else .dead
 |.agg l=>.agg (kexL kp l)
 |.tup l=>.tup (kexL kp l)
 |.fn g l=>.fn g (kexL kp l)
 |.rp s o=>.rp (J9 kp s) o
 |.ap s n x k=>.ap (J9 kp s) n x k
 |.int k x=>.int k x
 |.bool b=>.bool b
 |.dat t x=>.dat t x
 |.str n x=>.str n x
 |.ary k n x=>.ary k n x
 |.fv a r f=>.fv a r f
 |.nilS=>.nilS
 |.raw v=>.raw v
 |.it ts xs=>.it ts xs
 |.np t x=>.np t x
 |.undef=>.undef
 |.dead=>.dead
def kexL(kp:List Nat):List SV->List SV
 |[]=>[]
 |s::l=>J9 kp s::kexL kp l
end
def ACs(wr kp:List Nat):List (Nat×SV)->List (Nat×SV)
 |[]=>[]
 |(t,s)::r=>bif has wr t then ACs wr kp r else(t,J9 kp s)::ACs wr kp r
def gone(kp:List Nat):List (Nat×AR)->List Nat
 |[]=>[]
 |(i,_)::r=>bif has kp i then gone kp r else i::gone kp r
def ADL(i n:Nat):Nat:=10000+100*i+n
def ABf:(c:Ck)->c.den->At->List (Nat×SV)
 |.d t,x,.slot s=>[(s,F6 t x)]
 |.own _,_,.slot s=>[(s,.own s)]
 |.undef,_,.slot s=>[(s,.undef)]
 |_,_,_=>[]
def ownV:(c:Ck)->c.den->At->List (Nat×AR)
 |.own c,x,.slot s=>[(s,.own false c x)]
 |.own c,x,.cell i n=>[(ADL i n,.own false c x)]
 |_,_,_=>[]
def ADu(i n:Nat):(c:Ck)->c.den->At->Option SV
 |.d t,x,.cell j m=>match beq i j&&beq n m with
  |true=>some (F6 t x)
  |false=>none
 |.own _,_,.cell j m=>match beq i j&&beq n m with
  |true=>some (.own (ADL j m))
  |false=>none
 |_,_,_=>none
def AGc(i:Nat)(o:Oc):(c:Ck)->c.den->At->Option (den o.ty)
 |.own o',x,.cont j=>match beq i j with
  |true=>castO o' o x
  |false=>none
 |_,_,_=>none
abbrev Cv:=(c:Cm)×c.2.den
def W6:(l:List Cm)->O6 l->List Cv
 |[],_=>[]
 |[c],x=>[⟨c,x⟩]
 |c::d::l,x=>⟨c,x.1⟩::W6 (d::l) x.2
def allV{α:Type}(f:(c:Ck)->c.den->At->List α):List Cv->List α
 |[]=>[]
 |p::l=>f p.1.2 p.2 p.1.1++allV f l
def ACV{α:Type}(f:(c:Ck)->c.den->At->Option α):List Cv->Option α
 |[]=>none
 |p::l=>match f p.1.2 p.2 p.1.1 with
  |some y=>some y
  |none=>ACV f l
def AJF(f:Nat->Option SV)(kp:List Nat):Nat->List SV->List SV
 |_,[]=>[]
 |n,s::l=>(match f n with
  |some s'=>s'
  |none=>J9 kp s)::AJF f kp (n+1) l
def AEJ(q:List Cv)(kp:List Nat)(i:Nat):AR->AR
 |.row e l=>.row e (AJF (fun n=>ACV (ADu i n) q) kp 0 l)
 |.own p c x=>match ACV (AGc i c) q with
  |some y=>.own p c y
  |none=>.own p c x
def ACt(q:List Cv)(kp:List Nat):List (Nat×AR)->List (Nat×AR)
 |[]=>[]
 |(i,a)::r=>bif has kp i then(i,AEJ q kp i a)::ACt q kp r else ACt q kp r
def AQ2:List (Nat×AR)->List Nat
 |[]=>[]
 |(i,_)::l=>i::AQ2 l
def chV:List Cm->List (Nat×Nat)
 |[]=>[]
 |(.cell i n,_)::l=>(i,n+1)::chV l
 |(.cont i,_)::l=>(i,0)::chV l
 |_::l=>chV l
def B8(wr:List Nat)(sh:Sh)(σ:AS)(x:O6 sh.cs):AS:=
 { env:=allV ABf (W6 sh.cs x)++ACs wr sh.keep σ.env
   res:=allV ownV (W6 sh.cs x)++ACt (W6 sh.cs x) sh.keep σ.res
   kl:=AQ2 (allV ownV (W6 sh.cs x))++gone sh.keep σ.res++σ.kl
   ch:=chV sh.cs++σ.ch }
def AAz(i n:Nat):List Cm->Bool
 |[]=>false
 |(.cell j m,_)::r=>bif beq i j&&beq n (m+1) then true else AAz i n r
 |(.cont j,_)::r=>bif beq i j&&beq n 0 then true else AAz i n r
 |_::r=>AAz i n r
def okK(kp:List Nat):List Nat->Bool
 |[]=>true
 |i::r=>bif has kp i then false else okK kp r
def okC(kp:List Nat)(cs:List Cm):List (Nat×Nat)->Bool
 |[]=>true
 |(i,n)::r=>bif has kp i then(bif AAz i n cs then okC kp cs r else false) else okC kp cs r
def W7(σ:AS):At->Option SV
 |.slot s=>A1 σ.env s
 |.cell i n=>ACr σ i n
 |.cont _=>none
def G7(σ:AS):List Cm->List Nat
 |[]=>[]
 |(a,.own _)::r=>match W7 σ a with
  |some (.own i)=>i::G7 σ r
  |_=>G7 σ r
 |_::r=>G7 σ r
def lent(σ:AS):List Cm->List Nat
 |[]=>[]
 |(a,.d _)::r=>match W7 σ a with
  |some s=>B3 s++lent σ r
  |none=>lent σ r
 |_::r=>lent σ r
def AGd:List Nat->Bool
 |[]=>true
 |x::r=>bif has r x then false else AGd r
def AOR(R:Nat->Option AR):List Nat->Bool
 |[]=>true
 |i::r=>match R i with
  |some _=>AOR R r
  |none=>false
def AHU:List Cm->List Nat
 |[]=>[]
 |(.slot s,.own _)::l=>s::AHU l
 |(.cell i n,.own _)::l=>ADL i n::AHU l
 |_::l=>AHU l
def AKY(sh:Sh)(σ:AS):Bool:=
 okK sh.keep σ.kl&&okC sh.keep sh.cs σ.ch&&okK sh.keep (G7 σ sh.cs)&&AGd (G7 σ sh.cs)&&okK sh.keep (lent σ sh.cs)&&okK (G7 σ sh.cs) (lent σ sh.cs)&&AGd sh.keep&&AOR (A1 σ.res) sh.keep&&AGd (AHU sh.cs)&&okK sh.keep (AHU sh.cs)
def I3(sh:Sh)(σ:AS):Option (O6 sh.cs):=match AKY sh σ with
 |true=>AJE σ sh.cs
 |false=>none
inductive Key where
 |norm (sh:Sh)
 |exit (i:Nat) (sh:Sh)
 |ret
def AF3(ρ:Type):Key->Type
 |.norm sh=>O6 sh.cs
 |.exit _ sh=>O6 sh.cs
 |.ret=>ρ
def AFB(ρ:Type):List Key->Type
 |[]=>Unit
 |[k]=>AF3 ρ k
 |k::j::l=>AF3 ρ k⊕AFB ρ (j::l)
def ABg{ρ:Type}(f:(k:Key)->Option (AF3 ρ k)):(l:List Key)->Option (AFB ρ l)
 |[]=>none
 |[k]=>f k
 |k::j::l=>match f k with
  |some x=>some (Sum.inl x)
  |none=>match ABg f (j::l) with
   |some y=>some (Sum.inr y)
   |none=>none
def AUg{ρ:Type}(σ:AS):(k:Key)->Option (AF3 ρ k)
 |.norm sh=>I3 sh σ
 |_=>none
def AOS{ρ:Type}(i:Nat)(σ:AS):(k:Key)->Option (AF3 ρ k)
 |.exit j sh=>match beq i j with
  |true=>I3 sh σ
  |false=>none
 |_=>none
def AOT{ρ:Type}(r:ρ):(k:Key)->Option (AF3 ρ k)
 |.ret=>some r
 |_=>none
def AOU{ρ Z:Type}(wr:List Nat)(KN:AS->Option Z)(KX:Nat->AS->Option Z)(KR:ρ->Option Z)(σ:AS):(k:Key)->AF3 ρ k->Option Z
 |.norm sh,x=>KN (B8 wr sh σ x)
 |.exit i sh,x=>KX i (B8 wr sh σ x)
 |.ret,x=>KR x
def ADv{ρ Z:Type}(wr:List Nat)(KN:AS->Option Z)(KX:Nat->AS->Option Z)(KR:ρ->Option Z)(σ:AS):(l:List Key)->AFB ρ l->Option Z
 |[],_=>none
 |[k],x=>AOU wr KN KX KR σ k x
 |k::j::l,x=>Sum.elim (AOU wr KN KX KR σ k) (ADv wr KN KX KR σ (j::l)) x
inductive An where
 |x
 |nd (l r:An)
 |jn (ks:List Key) (a:An)
 |lp (hd:Sh) (ks:List Key) (a:An)
def An.l:An->An
 |.nd a _=>a
 |_=>.x
def An.r:An->An
 |.nd _ a=>a
 |_=>.x
def C2:List Oper->List Nat
 |[]=>[]
 |o::r=>match o.dst with
  |some d=>d::C2 r
  |none=>C2 r
def D6:Code->List Nat
 |.region _ ops _=>C2 ops.toList
 |.seq a b=>D6 a++D6 b
 |.cond _ a b=>D6 a++D6 b
 |.block _ a=>D6 a
 |.loop a=>D6 a
 |.scope a=>D6 a
 |_=>[]
def J4:List Cm->List Nat
 |[]=>[]
 |(.slot t,_)::l=>t::J4 l
 |_::l=>J4 l
def O7:List Key->List Nat
 |[]=>[]
 |.norm sh::l=>J4 sh.cs++O7 l
 |.exit _ sh::l=>J4 sh.cs++O7 l
 |.ret::l=>O7 l
def D5:An->List Nat
 |.x=>[]
 |.nd a b=>D5 a++D5 b
 |.jn ks a=>O7 ks++D5 a
 |.lp hd ks a=>J4 hd.cs++O7 ks++D5 a
def AS.start(σ:AS):AS:={ σ with kl:=[],ch:=[] }
def wrap{ρ Z:Type}(c:Code)(an:An)(run:An->{Y:Type}->(AS->Option Y)->(Nat->AS->Option Y)->(ρ->Option Y)->AS->Option Y)(KN:AS->Option Z)(KX:Nat->AS->Option Z)(KR:ρ->Option Z)(σ:AS):Option Z:=match an with
 |.jn ks l=>(run l (fun σ'=>ABg (AUg σ') ks) (fun i σ'=>ABg (AOS i σ') ks) (fun r=>ABg (AOT r) ks) σ.start).bind (ADv (D6 c++(O7 ks++D5 l)) KN KX KR σ ks)
 |an=>run an KN KX KR σ
def AQ3{α β:Type}:Option α->Option (α⊕β)
 |some x=>some (Sum.inl x)
 |none=>none
def ALM{α β:Type}:Option β->Option (α⊕β)
 |some x=>some (Sum.inr x)
 |none=>none
def ABI:Ty->Bool
 |.int _=>true
 |.bool=>true
 |.arr _ _=>true
 |.sl t=>ABI t
 |.st n=>Sf.nm n
 |.mp _ _ _=>false
 |.fno _=>true
def AYm:List Oper->List (Nat×SV)->Option (List (Nat×SV))
 |[],E=>some E
 |o::r,E=>match o.guard,o.dst,o.op with
  |none,some d,.assign x=>match B5 E x with
   |some s=>AYm r ((d,s)::E)
   |none=>none
  |_,_,_=>none
def APf:Op->Bool
 |.defer _=>false
 |_=>true
def AAS:List Oper->Bool
 |[]=>true
 |o::l=>APf o.op&&AAS l
def pnc:Nat:=1000003
def ADM(T t:Nat):Nat:=pnc*(T+1)+t
def AJG(m p:Oper):Option (TypeId×Operand×Nat):=match m.guard,m.dst,m.op,p.guard,p.op with
 |none,some t,.makeInterface T x,none,.panic (.tmp u)=>bif beq t u then some (T,x,t) else none
 |_,_,_,_,_=>none
def AF4:List Oper->Option (List Oper×TypeId×Operand×Nat)
 |[]=>none
 |o::r=>match r with
  |[]=>none
  |[p]=>match AJG o p with
   |some q=>some ([],q)
   |none=>none
  |_::_::_=>match AF4 r with
   |some (l,q)=>some (o::l,q)
   |none=>none
def AEb:Ty->Bool
 |.int _=>true
 |.bool=>true
 |_=>false
def AC1:Ty->Bool
 |.st n=>(Sf.ft n).all AEb
 |t=>AEb t
def ALN{ε Z:Type}(o:Option ε)(K:ε->Option Z)(z:Option Z):Option Z:=match z with
 |some r=>some r
 |none=>match o with
  |some e=>K e
  |none=>none
def ADw(o:Oper):Option (CtrP×List Operand):=match o.guard,o.op with
 |none,.call ⟨.value (.func g),args,_⟩=>match A1 G.pf g with
  |some c=>some (c,args.toList)
  |none=>none
 |_,_=>none
def AHV(o:Oper):Option (CtrM×List Operand):=match o.guard,o.op with
 |none,.call ⟨.value (.func g),args,_⟩=>match A1 G.fm g with
  |some c=>some (c,args.toList)
  |none=>none
 |_,_=>none
def agC(id:Nat)(R:Nat->Option AR)(c:CtrA){Z:Type}(K:List Ac->Option Z)(ss:List SV):Option Z:=match frz R (ownsLL ss),M5 G R c.ps ss with
 |some fz,some a=>(c.F a).bind fun r=>K (fz++(P7 id c.rs r).2++[.put (.agg (P7 id c.rs r).1)])
 |_,_=>none
def AOV(id:Nat)(R:Nat->Option AR)(c:CtrM){Z:Type}(K:List Ac->Option Z)(ss:List SV):Option Z:=match nth ss c.i with
 |some (.own j)=>match R j with
  |some (.own false c' x)=>match castO c' c.c x with
   |some x0=>match frz R (ownsLL (ss.eraseIdx c.i)),has (ownsLL (ss.eraseIdx c.i)) j,M5 G R c.ps (ss.eraseIdx c.i) with
    |some fz,false,some a=>(c.F a x0).bind fun r=>K (fz++[.cnt j c.c r.2,.put (bif c.self then .own j else AFs (P7 id c.rs r.1).1)])
    |_,_,_=>none
   |none=>none
  |_=>none
 |_=>none
def ALO(id:Nat)(R:Nat->Option AR)(c:CtrM){Z:Type}(K:List Ac->Option Z)(ss:List SV):Option Z:=match c.ag with
 |some q=>agC G id R q K ss
 |none=>AOV G id R c K ss
def AGe:List Oper->Bool
 |[]=>false
 |o::l=>match ADw G o with
  |some _=>true
  |none=>match AHV G o with
   |some _=>true
   |none=>AGe l
def AOW:List Oper->Option Nat
 |[]=>none
 |o::_=>o.dst
def AAu(N:Nat)(all:List Oper)(t:Nat){Z:Type}(KN:AS->Option Z)(KX:Nat->AS->Option Z):List Oper->AS->Option Z
 |[],σ=>KN σ
 |o::r,σ=>match AHV G o with
  |some (c,args)=>match ADH N o.op o.dst,evL (B5 σ.env) args with
   |true,some ss=>U1 ss fun ss'=>ALO G (ABe o.dst) (A1 σ.res) c (fun ac=>AAu N all t KN KX r (apps o.dst ac σ)) ss'
   |_,_=>none
  |none=>match ADw G o with
  |some (c,args)=>match AC1 c.t,evL (B5 σ.env) args with
   |true,some ss=>U1 ss fun ss'=>match M5 G (A1 σ.res) c.ps ss' with
    |some a=>ALN (c.F a) (fun e=>KX (ADM c.T t) (apps (some t) [.put (F6 c.t e)] σ)) (D3 G N all (AAu N all t KN KX r) [o] σ)
    |none=>none
   |_,_=>none
  |none=>D3 G N all (AAu N all t KN KX r) [o] σ
noncomputable def exec(N:Nat){ρ:Type}(pr:AS->Option ρ):Code->An->{Z:Type}->(AS->Option Z)->(Nat->AS->Option Z)->(ρ->Option Z)->AS->Option Z
 |.skip,_,_,KN,_,_,σ=>KN σ
 |.region i ops dr,an,_,KN,KX,KR,σ=>match dr with
  |false=>wrap (.region i ops false) an (fun _ _ KN KX _ σ=>match AAS ops.toList with
   |true=>match AF4 ops.toList with
    |some (l,T,x,t)=>match lk G.bd T,blt t N&&blt t pnc with
     |some _,true=>D3 G N ops.toList (fun σ'=>match B5 σ'.env x with
      |some s=>KX (ADM T t) (apps (some t) [.put s] σ')
      |none=>none) l σ
     |_,_=>none
    |none=>match AGe G ops.toList,AOW ops.toList with
     |true,some t=>match blt t N&&blt t pnc with
      |true=>AAu G N ops.toList t KN KX ops.toList σ
      |false=>none
     |_,_=>D3 G N ops.toList KN ops.toList σ
   |false=>none) KN KX KR σ
  |true=>wrap (.region i ops true) an (fun _ _ KN _ _ σ=>match AAS ops.toList with
   |true=>AOQ G N ops.toList KN σ
   |false=>none) KN KX KR σ
 |.seq a b,an,_,KN,KX,KR,σ=>wrap (.seq a b) an (fun an _ KN KX KR σ=>exec N pr a an.l (fun σ'=>exec N pr b an.r KN KX KR σ') KX KR σ) KN KX KR σ
 |.cond c a b,an,_,KN,KX,KR,σ=>wrap (.cond c a b) an (fun an _ KN KX KR σ=>match B5 σ.env c with
  |some (.bool t)=>cond t (exec N pr a an.l KN KX KR σ) (exec N pr b an.r KN KX KR σ)
  |_=>none) KN KX KR σ
 |.block i a,an,_,KN,KX,KR,σ=>wrap (.block i a) an (fun an _ KN KX KR σ=>match blt i pnc with
  |true=>exec N pr a an KN (fun j σ'=>bif beq j i then KN σ' else KX j σ') KR σ
  |false=>none) KN KX KR σ
 |.loop c,an,_,_,KX,KR,σ=>match an with
  |.lp hd ks l=>match I3 hd σ.start with
   |some s0=>(B7 (S:=O6 hd.cs) (R:=AFB ρ ks) (fun s=>exec N pr c l (fun σ'=>AQ3 (I3 hd σ')) (fun j σ'=>ALM (ABg (AOS j σ') ks)) (fun r=>ALM (ABg (AOT r) ks)) (B8 (D6 c++(J4 hd.cs++O7 ks++D5 l)) hd σ.start s)) s0).bind (ADv (D6 c++(J4 hd.cs++O7 ks++D5 l)) (fun _=>none) KX KR σ ks)
   |none=>none
  |_=>none
 |.scope a,an,_,KN,KX,KR,σ=>exec N pr a an KN KX KR σ
 |.label _,_,_,KN,_,_,σ=>KN σ
 |.exit i,_,_,_,KX,_,σ=>match blt i pnc with
  |true=>KX i σ
  |false=>none
 |.ret,_,_,_,_,KR,σ=>match pr σ with
  |some r=>KR r
  |none=>none
 |_,_,_,_,_,_,_=>none
end
end Go.Rx
namespace Go.Rx
open Go Go.Sx Go.RowKit
variable[Trk][Sg][Sf]{P:Program}[Se P]
def AOX(ρ:Nat->Value)(R:Nat->Option AR)(M:List Nat)(w:World)(v:Value):Rp->Prop
 |.dead=>True
 |.dat t x=>t.agg=false/\OkD M w t x v
 |.rp l=>∃b vs,v=.pointer (some ⟨b,0,none⟩)/\RdC M w b 0 vs/\OkL ρ R M w l vs
section
variable{ρ ρ':Nat->Value}{R R':Nat->Option AR}{M M':List Nat}{w w':World}{i:Nat}{p:Rp}
mutual
theorem Ok.sub(ha:Adv M M' w w')(hρ:∀j,j≠i->ρ' j=ρ j)(hR:∀j,j≠i->∀p e t xs,R j=some (.own p (.sl e t) xs)->R' j=some (.own p (.sl e t) xs))(hp:AOX ρ' R' M' w' (ρ i) p):∀(s:SV) {v:Value},Ok ρ R M w s v->Ok ρ' R' M' w' (subS i p s) v
 |.int _ _,_,h=>h
 |.bool _,_,h=>h
 |.dat _ _,_,h=>⟨h.1,OkD.adv h.2 ha⟩
 |.str _ _,_,h=>OkD.adv h ha
 |.ary _ _ _,_,h=>OkD.adv h ha
 |.agg l,_,⟨vs,h1,h2⟩=>⟨vs,h1,OkL.sub ha hρ hR hp l h2⟩
 |.own j,v,h=>by
  obtain⟨h1,h2,h3⟩:=h;simp only[subS];split
  . rename_i hb;have:=AaU hb;subst this;cases p with
    |dat t x=>exact⟨hp.1,by rw[h1];exact hp.2⟩
    |dead=>exact h2
    |rp l=>exact h2
  . rename_i hb;exact⟨by rw[h1,hρ j (fun e=>by subst e;simp at hb)],h2,h3⟩
 |.ptr j o,v,h=>by
  obtain⟨b,h1,h2⟩:=h;simp only[subS];split
  . rename_i hb;have:=AaU hb;subst this;cases p with
    |dat t x=>rw[h2];exact rfl
    |dead=>rw[h2];exact rfl
    |rp l=>
     obtain⟨b',vs,h3,h4,h5⟩:=hp
     rw[h1]at h3;cases h3
     exact⟨b,0,.agg (toArray vs),vs,by rw[h2,Aao],h4,⟨vs,rfl,h5⟩,rfl⟩
  . rename_i hb;exact⟨b,by rw[hρ j (fun e=>by subst e;simp at hb)];exact h1,h2⟩
 |.ep j t x z o,v,h=>by
  obtain⟨g,n,c,q,e,xs,h1,h2,h3,h4,h5⟩:=h;simp only[subS];split
  . rw[h4];exact rfl
  . rename_i hb;have hne:j≠i:=fun e=>by subst e;simp at hb
    exact⟨g,n,c,q,e,xs,by rw[hρ j hne];exact h1,hR j hne _ _ _ _ h2,h3,h4,h5⟩
 |.rp s _,_,⟨b,o0,u,vs,h1,h2,h3,h4⟩=>⟨b,o0,u,vs,h1,h2.adv ha,Ok.sub ha hρ hR hp s h3,h4⟩
 |.ap s _ _ _,_,⟨b,o,h1,h2⟩=>⟨b,o,Ok.sub ha hρ hR hp s h1,h2⟩
 |.fv _ _ _,_,h=>⟨FnOk.adv h.1 ha,h.2⟩
 |.it _ _,_,h=>⟨ItV.adv h.1 ha,h.2⟩
 |.np _ _,_,h=>NpOk.adv h ha
 |.fn _ l,_,⟨vs,h1,h2⟩=>⟨vs,h1,OkV.sub ha hρ hR hp l h2⟩
 |.nilS,_,h=>h
 |.raw _,_,h=>h
 |.undef,_,h=>h
 |.dead,_,h=>h
 |.tup l,_,⟨vs,h1,h2⟩=>⟨vs,h1,OkV.sub ha hρ hR hp l h2⟩
theorem OkL.sub(ha:Adv M M' w w')(hρ:∀j,j≠i->ρ' j=ρ j)(hR:∀j,j≠i->∀p e t xs,R j=some (.own p (.sl e t) xs)->R' j=some (.own p (.sl e t) xs))(hp:AOX ρ' R' M' w' (ρ i) p):∀(l:List SV) {vs:List Value},OkL ρ R M w l vs->OkL ρ' R' M' w' (subL i p l) vs
 |[],_,h=>h
 |s::l,_,⟨u,c,r,h1,h2,h3,h4⟩=>⟨u,c,r,h1,Ok.sub ha hρ hR hp s h2,h3,OkL.sub ha hρ hR hp l h4⟩
theorem OkV.sub(ha:Adv M M' w w')(hρ:∀j,j≠i->ρ' j=ρ j)(hR:∀j,j≠i->∀p e t xs,R j=some (.own p (.sl e t) xs)->R' j=some (.own p (.sl e t) xs))(hp:AOX ρ' R' M' w' (ρ i) p):∀(l:List SV) {vs:List Value},OkV ρ R M w l vs->OkV ρ' R' M' w' (subL i p l) vs
 |[],_,h=>h
 |s::l,_,⟨u,r,h1,h2,h3⟩=>⟨u,r,h1,Ok.sub ha hρ hR hp s h2,OkV.sub ha hρ hR hp l h3⟩
end
mutual
theorem Ok.old(hR:∀j,j≠i->∀p e t xs,R j=some (.own p (.sl e t) xs)->R' j=some (.own p (.sl e t) xs))(hi:∀p e t xs,R i=some (.own p (.sl e t) xs)->∃ys:List (den t),R' i=some (.own p (.sl e t) ys)/\ys.length=xs.length):∀(s:SV) {v:Value},Ok ρ R M w s v->Ok ρ R' M w (oldS i s) v
 |.int _ _,_,h=>h
 |.bool _,_,h=>h
 |.dat _ _,_,h=>h
 |.str _ _,_,h=>h
 |.ary _ _ _,_,h=>h
 |.agg l,_,⟨vs,h1,h2⟩=>⟨vs,h1,OkL.old hR hi l h2⟩
 |.own _,_,h=>h
 |.ptr _ _,_,h=>h
 |.ep j t x z o,v,h=>by
  obtain⟨g,n,c,q,e,xs,h1,h2,h3,h4,h5⟩:=h;simp only[oldS];split
  . rename_i hb;have:=AaU hb;subst this;obtain⟨ys,h6,h7⟩:=hi _ _ _ _ h2;exact⟨g,n,c,q,e,ys,h1,h6,by rw[h7];exact h3,h4,fun y hy=>by cases hy⟩
  . rename_i hb;exact⟨g,n,c,q,e,xs,h1,hR j (fun e=>by subst e;simp at hb) _ _ _ _ h2,h3,h4,h5⟩
 |.rp s _,_,⟨b,o0,u,vs,h1,h2,h3,h4⟩=>⟨b,o0,u,vs,h1,h2,Ok.old hR hi s h3,h4⟩
 |.ap s _ _ _,_,⟨b,o,h1,h2⟩=>⟨b,o,Ok.old hR hi s h1,h2⟩
 |.fv _ _ _,_,h=>h
 |.it _ _,_,h=>h
 |.np _ _,_,h=>h
 |.fn _ l,_,⟨vs,h1,h2⟩=>⟨vs,h1,OkV.old hR hi l h2⟩
 |.nilS,_,h=>h
 |.raw _,_,h=>h
 |.undef,_,h=>h
 |.dead,_,h=>h
 |.tup l,_,⟨vs,h1,h2⟩=>⟨vs,h1,OkV.old hR hi l h2⟩
theorem OkL.old(hR:∀j,j≠i->∀p e t xs,R j=some (.own p (.sl e t) xs)->R' j=some (.own p (.sl e t) xs))(hi:∀p e t xs,R i=some (.own p (.sl e t) xs)->∃ys:List (den t),R' i=some (.own p (.sl e t) ys)/\ys.length=xs.length):∀(l:List SV) {vs:List Value},OkL ρ R M w l vs->OkL ρ R' M w (oldL i l) vs
 |[],_,h=>h
 |s::l,_,⟨u,c,r,h1,h2,h3,h4⟩=>⟨u,c,r,h1,Ok.old hR hi s h2,h3,OkL.old hR hi l h4⟩
theorem OkV.old(hR:∀j,j≠i->∀p e t xs,R j=some (.own p (.sl e t) xs)->R' j=some (.own p (.sl e t) xs))(hi:∀p e t xs,R i=some (.own p (.sl e t) xs)->∃ys:List (den t),R' i=some (.own p (.sl e t) ys)/\ys.length=xs.length):∀(l:List SV) {vs:List Value},OkV ρ R M w l vs->OkV ρ R' M w (oldL i l) vs
 |[],_,h=>h
 |s::l,_,⟨u,r,h1,h2,h3⟩=>⟨u,r,h1,Ok.old hR hi s h2,OkV.old hR hi l h3⟩
end
end
theorem has_iff:∀{l:List Nat} {n:Nat},has l n=true↔n∈l
 |[],n=>by simp[has]
 |x::r,n=>by
  simp only[has];cases hb:beq x n with
  |true=>have:=AaU hb;subst this;simp
  |false=>
   have hne:n≠x:=fun e=>by subst e;simp at hb
   simp[has_iff (l:=r),hne]
section
variable{ρ ρ':Nat->Value}{R R':Nat->Option AR}{M:List Nat}{w:World}{kp:List Nat}
mutual
theorem Ok.kex(hρ:∀j∈kp,ρ' j=ρ j)(hR:∀j∈kp,∀p e t xs,R j=some (.own p (.sl e t) xs)->∃ys:List (den t),R' j=some (.own p (.sl e t) ys)/\ys.length=xs.length):∀(s:SV) {v:Value},Ok ρ R M w s v->Ok ρ' R' M w (J9 kp s) v
 |.int _ _,_,h=>h
 |.bool _,_,h=>h
 |.dat _ _,_,h=>h
 |.str _ _,_,h=>h
 |.ary _ _ _,_,h=>h
 |.agg l,_,⟨vs,h1,h2⟩=>⟨vs,h1,OkL.kex hρ hR l h2⟩
 |.own j,v,h=>by
  obtain⟨h1,h2,h3⟩:=h;simp only[J9];cases hb:has kp j with
  |true=>exact⟨by rw[h1,hρ j (has_iff.1 hb)],h2,h3⟩
  |false=>exact h2
 |.ptr j o,v,h=>by
  obtain⟨b,h1,h2⟩:=h;simp only[J9];cases hb:has kp j with
  |true=>exact⟨b,by rw[hρ j (has_iff.1 hb)];exact h1,h2⟩
  |false=>rw[h2];exact rfl
 |.ep j t x z o,v,h=>by
  obtain⟨g,n,c,q,e,xs,h1,h2,h3,h4,h5⟩:=h;simp only[J9];cases hb:has kp j with
  |true=>
   obtain⟨ys,h6,h7⟩:=hR j (has_iff.1 hb) _ _ _ _ h2
   exact⟨g,n,c,q,e,ys,by rw[hρ j (has_iff.1 hb)];exact h1,h6,by rw[h7];exact h3,h4,fun y hy=>by cases hy⟩
  |false=>rw[h4];exact rfl
 |.rp s _,_,⟨b,o0,u,vs,h1,h2,h3,h4⟩=>⟨b,o0,u,vs,h1,h2,Ok.kex hρ hR s h3,h4⟩
 |.ap s _ _ _,_,⟨b,o,h1,h2⟩=>⟨b,o,Ok.kex hρ hR s h1,h2⟩
 |.fv _ _ _,_,h=>h
 |.it _ _,_,h=>h
 |.np _ _,_,h=>h
 |.fn _ l,_,⟨vs,h1,h2⟩=>⟨vs,h1,OkV.kex hρ hR l h2⟩
 |.nilS,_,h=>h
 |.raw _,_,h=>h
 |.undef,_,h=>h
 |.dead,_,h=>h
 |.tup l,_,⟨vs,h1,h2⟩=>⟨vs,h1,OkV.kex hρ hR l h2⟩
theorem OkL.kex(hρ:∀j∈kp,ρ' j=ρ j)(hR:∀j∈kp,∀p e t xs,R j=some (.own p (.sl e t) xs)->∃ys:List (den t),R' j=some (.own p (.sl e t) ys)/\ys.length=xs.length):∀(l:List SV) {vs:List Value},OkL ρ R M w l vs->OkL ρ' R' M w (kexL kp l) vs
 |[],_,h=>h
 |s::l,_,⟨u,c,r,h1,h2,h3,h4⟩=>⟨u,c,r,h1,Ok.kex hρ hR s h2,h3,OkL.kex hρ hR l h4⟩
theorem OkV.kex(hρ:∀j∈kp,ρ' j=ρ j)(hR:∀j∈kp,∀p e t xs,R j=some (.own p (.sl e t) xs)->∃ys:List (den t),R' j=some (.own p (.sl e t) ys)/\ys.length=xs.length):∀(l:List SV) {vs:List Value},OkV ρ R M w l vs->OkV ρ' R' M w (kexL kp l) vs
 |[],_,h=>h
 |s::l,_,⟨u,r,h1,h2,h3⟩=>⟨u,r,h1,Ok.kex hρ hR s h2,OkV.kex hρ hR l h3⟩
end
variable{i:Nat}{p:Rp}
mutual
theorem Ok.kexSub(hi:has kp i=false):∀(s:SV) {v:Value},Ok ρ R M w (J9 kp (subS i p s)) v->Ok ρ R M w (J9 kp s) v
 |.int _ _,_,h=>h
 |.bool _,_,h=>h
 |.dat _ _,_,h=>h
 |.str _ _,_,h=>h
 |.ary _ _ _,_,h=>h
 |.agg l,_,⟨vs,h1,h2⟩=>⟨vs,h1,OkL.kexSub hi l h2⟩
 |.own j,v,h=>by
  simp only[subS]at h;split at h
  . rename_i hb;have:=AaU hb;subst this;simp only[J9,hi,cond_false];cases p with
    |dat t x=>exact Ok.cells1 (.dat t x) rfl h
    |dead=>exact h
    |rp l=>exact h
  . exact h
 |.ptr j o,v,h=>by
  simp only[subS]at h;split at h
  . rename_i hb;have:=AaU hb;subst this;simp only[J9,hi,cond_false];cases p with
    |dat t x=>exact h
    |dead=>exact h
    |rp l=>obtain⟨b,o0,u,vs,rfl,_⟩:=h;exact rfl
  . exact h
 |.ep j t x z o,v,h=>by
  simp only[subS]at h;split at h
  . rename_i hb;have:=AaU hb;subst this;simp only[J9,hi,cond_false];exact h
  . exact h
 |.rp s _,_,⟨b,o0,u,vs,h1,h2,h3,h4⟩=>⟨b,o0,u,vs,h1,h2,Ok.kexSub hi s h3,h4⟩
 |.ap s _ _ _,_,⟨b,o,h1,h2⟩=>⟨b,o,Ok.kexSub hi s h1,h2⟩
 |.fv _ _ _,_,h=>h
 |.it _ _,_,h=>h
 |.np _ _,_,h=>h
 |.fn _ l,_,⟨vs,h1,h2⟩=>⟨vs,h1,OkV.kexSub hi l h2⟩
 |.nilS,_,h=>h
 |.raw _,_,h=>h
 |.undef,_,h=>h
 |.dead,_,h=>h
 |.tup l,_,⟨vs,h1,h2⟩=>⟨vs,h1,OkV.kexSub hi l h2⟩
theorem OkL.kexSub(hi:has kp i=false):∀(l:List SV) {vs:List Value},OkL ρ R M w (kexL kp (subL i p l)) vs->OkL ρ R M w (kexL kp l) vs
 |[],_,h=>h
 |s::l,_,⟨u,c,r,h1,h2,h3,h4⟩=>⟨u,c,r,h1,Ok.kexSub hi s h2,h3,OkL.kexSub hi l h4⟩
theorem OkV.kexSub(hi:has kp i=false):∀(l:List SV) {vs:List Value},OkV ρ R M w (kexL kp (subL i p l)) vs->OkV ρ R M w (kexL kp l) vs
 |[],_,h=>h
 |s::l,_,⟨u,r,h1,h2,h3⟩=>⟨u,r,h1,Ok.kexSub hi s h2,OkV.kexSub hi l h3⟩
end
end
mutual
theorem AGf{kp:List Nat}{i:Nat}:∀s:SV,J9 kp (oldS i s)=J9 kp s
 |.ep j t x z o=>by
  simp only[oldS];split<;>rfl
 |.agg l=>AaX SV.agg (AFC l)
 |.tup l=>AaX SV.tup (AFC l)
 |.fn g l=>AaX (SV.fn g) (AFC l)
 |.rp s o=>AaX (fun x=>SV.rp x o) (AGf s)
 |.ap s n x k=>AaX (fun y=>SV.ap y n x k) (AGf s)
 |.int _ _|.bool _|.dat _ _|.str _ _|.ary _ _ _|.own _|.ptr _ _|.fv _ _ _|.nilS|.np _ _|.it _ _|.raw _|.undef|.dead=>rfl
theorem AFC{kp:List Nat}{i:Nat}:∀l:List SV,kexL kp (oldL i l)=kexL kp l
 |[]=>rfl
 |s::l=>by simp only[oldL,kexL,AGf s,AFC l]
end
mutual
theorem AGg{kp kq:List Nat}(h:∀i∈kp,i∈kq):∀s:SV,J9 kp (J9 kq s)=J9 kp s
 |.own j=>by
  simp only[J9];cases hb:has kq j with
  |true=>rfl
  |false=>
   cases hp:has kp j with
   |true=>rw[has_iff.2 (h j (has_iff.1 hp))]at hb;cases hb
   |false=>rfl
 |.ptr j o=>by
  simp only[J9];cases hb:has kq j with
  |true=>rfl
  |false=>
   cases hp:has kp j with
   |true=>rw[has_iff.2 (h j (has_iff.1 hp))]at hb;cases hb
   |false=>rfl
 |.ep j t x z o=>by
  simp only[J9];cases hb:has kq j with
  |true=>rfl
  |false=>
   cases hp:has kp j with
   |true=>rw[has_iff.2 (h j (has_iff.1 hp))]at hb;cases hb
   |false=>rfl
 |.agg l=>AaX SV.agg (AFD h l)
 |.tup l=>AaX SV.tup (AFD h l)
 |.fn g l=>AaX (SV.fn g) (AFD h l)
 |.rp s o=>AaX (fun x=>SV.rp x o) (AGg h s)
 |.ap s n x k=>AaX (fun y=>SV.ap y n x k) (AGg h s)
 |.int _ _|.bool _|.dat _ _|.str _ _|.ary _ _ _|.fv _ _ _|.nilS|.np _ _|.it _ _|.raw _|.undef|.dead=>rfl
theorem AFD{kp kq:List Nat}(h:∀i∈kp,i∈kq):∀l:List SV,kexL kp (kexL kq l)=kexL kp l
 |[]=>rfl
 |s::l=>by simp only[kexL,AGg h s,AFD h l]
end
end Go.Rx
namespace Go.Rx
open Go Go.Sx Go.RowKit
variable[Trk][Sg][Sf]{P:Program}[Se P]
section
variable{ρ:Nat->Value}{R:Nat->Option AR}{M M':List Nat}{w:World}
section
variable{t:Ty}{x:den t}{v:Value}{n:Nat}{t':Ty}{y:den t'}{s:SV}{ss:List SV}{u:Ty}
theorem E4:∀(t:Ty) {x:den t} {v:Value},OkD M w t x v->Ok ρ R M w (F6 t x) v
 |.int k,x,v,h=>by
  obtain⟨cs,h1,h2|h2⟩:=h
  . cases h2.1
  . obtain⟨_,rfl⟩:=h2;exact⟨by have:=h1.1;simpa using this,h1.2⟩
 |.bool,x,v,h=>by
  obtain⟨cs,h1,h2|h2⟩:=h
  . cases h2.1
  . obtain⟨_,rfl⟩:=h2;have h1:[v]=[Value.bool x]:=h1;show v=Value.bool x;simpa using h1
 |.sl t,x,v,h=>⟨rfl,h⟩
 |.st n,x,v,h=>h
 |.arr k n,x,v,h=>h
 |.mp m k u,x,v,h=>⟨rfl,h⟩
 |.fno i,x,v,h=>⟨rfl,h⟩
theorem OkD.cells(h:OkD M w t x v):(enc t).R M w v.cells.toList x:=by
 obtain⟨cs,h1,h2|h2⟩:=h
 . obtain⟨_,rfl⟩:=h2;exact h1
 . obtain⟨_,rfl⟩:=h2;rw[ADr ((enc t).one h1 _ (mem_singleton.2 rfl))];exact h1
theorem J5{cs:List Value}(h:(enc t).R M w cs x):∃v,OkD M w t x v/\v.cells=toArray cs:=by
 cases ht:t.agg with
 |true=>exact⟨.agg (toArray cs),⟨cs,h,.inl ⟨ht,rfl⟩⟩,rfl⟩
 |false=>
  have hn:cs.length=1:=by
   rw[(enc t).len h];cases t<;>first|rfl|cases ht
  obtain⟨v,rfl⟩:∃v,cs=[v]:=by
   cases cs with
   |nil=>cases hn
   |cons v r=>cases r with
    |nil=>exact⟨v,rfl⟩
    |cons u r=>simp at hn
  exact⟨v,⟨[v],h,.inr ⟨ht,rfl⟩⟩,ADr ((enc t).one h _ (mem_singleton.2 rfl))⟩
theorem AM3:∀(l:List Ty) {y:P6 l} {cs:List Value},(AFy l).R M w cs y->OkL ρ R M w (ofL l y) cs
 |[],_,_,h=>h.elim
 |[t],y,cs,h=>by
  obtain⟨v,h1,h2⟩:=J5 h;exact⟨v,cs,[],by simp,E4 t h1,h2,rfl⟩
 |t::u::l,y,cs,h=>by
  obtain⟨c1,c2,rfl,h1,h2⟩:=h;obtain⟨v,h3,h4⟩:=J5 h1;exact⟨v,c1,c2,rfl,E4 t h3,h4,AM3 (u::l) h2⟩
theorem AS5[Sl (P:=P)]{x:Sg.S n}(h:OkD M w (.st n) x v):∃vs,v=.agg (toArray vs)/\OkL ρ R M w (AUP n x) vs:=by
 obtain⟨cs,h1,h2|h2⟩:=h
 . obtain⟨_,rfl⟩:=h2;exact⟨cs,rfl,AM3 _ ((Sl.is n M w cs x).1 h1)⟩
 . cases h2.1
theorem Ok.cellsOf[Sl (P:=P)]:∀(s:SV) {v:Value},Ok ρ R M w s v->OkL ρ R M w (Rx.cellsOf s) v.cells.toList
 |.str n x,v,h=>by
  obtain⟨vs,rfl,h1⟩:=AS5 (ρ:=ρ) (R:=R) h;exact h1
 |.agg l,v,h=>by
  obtain⟨vs,rfl,h1⟩:=h;exact h1
 |.int _ _,v,h|.bool _,v,h|.dat _ _,v,h|.ary _ _ _,v,h|.own _,v,h|.ptr _ _,v,h|.ep _ _ _ _ _,v,h|.rp _ _,v,h|.fv _ _ _,v,h|.fn _ _,v,h|.nilS,v,h|.np _ _,v,h|.it _ _,v,h|.raw _,v,h|.ap _ _ _ _,v,h|.undef,v,h|.dead,v,h|.tup _,v,h=>
  ⟨v,v.cells.toList,[],by simp,h,by simp,rfl⟩
theorem O5(h:I2 t t' x=some y):∃e:t=t',e▸x=y:=by
 unfold I2 at h;split at h
 . rename_i e;exact⟨e,AaO h⟩
 . cases h
theorem AOY{n n':Nat}{x:Sg.S n}{y:Sg.S n'}(h:AKT n n' x=some y):∃e:n=n',e▸x=y:=by
 unfold AKT at h;split at h
 . rename_i e;exact⟨e,AaO h⟩
 . cases h
def Rds(ρ:Nat->Value)(R:Nat->Option AR)(M':List Nat)(w:World)(I:List Nat):Prop:=
 ∀i∈I,∀p c (x:den c.ty),R i=some (.own p c x)->OkD M' w c.ty x (ρ i)
theorem OkD.mon(hM:∀b∈M',b∈M)(h:OkD M w t x v):OkD M' w t x v:=h.adv (Adv.drop hM)
theorem ALP(h:I2 t t' x=some y)(hx:OkD M w t x v):OkD M w t' y v:=by
 obtain⟨e,rfl⟩:=O5 h;subst e;exact hx
theorem ABh{c c':Oc}{x:den c.ty}{y:den c'.ty}(h:castO c c' x=some y):∃e:c=c',e▸x=y:=by
 unfold castO at h;split at h
 . rename_i e;exact⟨e,AaO h⟩
 . cases h
theorem ABT(hM:∀b∈M',b∈M):∀(t:Ty) (s:SV) {x:den t} {v:Value},Rds ρ R M' w (B3 s)->AAs R t s=some x->Ok ρ R M w s v->OkD M' w t x v:=by
 intro t s x v hr hd h;cases t with
 |int k=>
  cases s<;>simp only[AAs]at hd<;>try cases hd
  rename_i k' y
  split at hd
  . rename_i hk
    have:=ADC hk;subst this
    cases hd
    exact⟨[v],⟨by rw[h.1],h.2⟩,.inr ⟨rfl,rfl⟩⟩
  . cases hd
 |bool=>
  cases s<;>simp only[AAs]at hd<;>try cases hd
  exact⟨[v],(by show [v]=[Value.bool _];rw[show v=_ from h]),.inr ⟨rfl,rfl⟩⟩
 |sl t=>
  cases s<;>simp only[AAs]at hd<;>try cases hd
  case dat t' y=>
   obtain⟨e,rfl⟩:=O5 hd
   subst e
   exact OkD.mon hM h.2
  case own i=>
   split at hd
   . rename_i p c xs hR
     rw[h.1]
     exact ALP hd (hr i (by simp[B3]) _ _ _ hR)
   . cases hd
  case sl.nilS.refl=>
   exact⟨[v],⟨v,rfl,by rw[show v=_ from h];exact RdS.nil _ _ _⟩,.inr ⟨rfl,rfl⟩⟩
 |st n=>cases hd
 |arr k n=>
  cases s<;>simp only[AAs]at hd<;>try cases hd
  rename_i k' n' y
  split at hd
  . rename_i hk
    have:=ADC hk;subst this
    split at hd
    . rename_i hn
      have:=AaU hn;subst this
      cases hd
      exact OkD.mon hM h
    . cases hd
  . cases hd
 |mp m k u=>
  cases s<;>simp only[AAs]at hd<;>try cases hd
  case dat t' y=>
   obtain⟨e,rfl⟩:=O5 hd
   subst e
   exact OkD.mon hM h.2
  case own i=>
   split at hd
   . rename_i p c xs hR
     rw[h.1]
     exact ALP hd (hr i (by simp[B3]) _ _ _ hR)
   . cases hd
 |fno i=>
  cases s<;>simp only[AAs]at hd<;>try cases hd
  case dat t' y=>
   obtain⟨e,rfl⟩:=O5 hd
   subst e
   exact OkD.mon hM h.2
  case fn g l=>
   split at hd
   . cases hd
     obtain⟨vs,rfl,h1⟩:=h
     have h1:vs=[]:=h1
     subst h1
     exact⟨[_],rfl,.inr ⟨rfl,rfl⟩⟩
   . cases hd
theorem Rds.mono{I J:List Nat}(h:Rds ρ R M' w J)(hs:∀i∈I,i∈J):Rds ρ R M' w I:=fun i hi=>h i (hs i hi)
theorem OkL.one{vs:List Value}(h:OkL ρ R M w [s] vs):∃u,vs=u.cells.toList/\Ok ρ R M w s u:=by
 obtain⟨u,c,r,h1,h2,h3,h4⟩:=h;have h4:r=[]:=h4;subst h4;exact⟨u,by rw[h1,h3];simp,h2⟩
theorem AM4:toL R [] ss=none:=rfl
theorem AUh:toL R [t] []=none:=rfl
theorem AUi{s u:SV}{l:List SV}:toL R [t] (s::u::l)=none:=rfl
theorem AUj{l:List Ty}:toL R (t::u::l) []=none:=rfl
theorem ASU{l:List Ty}{r:List SV}:toL R (t::u::l) (s::r)=(match AAs R t s with
 |some x=>match toL R (u::l) r with
  |some y=>some (x,y)
  |none=>none
 |none=>none):=rfl
theorem A2{α:Type}{x:α}(h:none=some x):False:=by cases h
theorem AM5{y:P6 [t]}(h:toL R [t] ss=some y):∃s,ss=[s]/\AAs R t s=some y:=by
 cases ss with
 |nil=>rw[AUh]at h;exact(A2 h).elim
 |cons s r=>cases r with
  |nil=>exact⟨s,rfl,h⟩
  |cons _ _=>rw[AUi]at h;exact(A2 h).elim
theorem AM6{l:List Ty}{y:P6 (t::u::l)}(h:toL R (t::u::l) ss=some y):∃s r x z,ss=s::r/\AAs R t s=some x/\toL R (u::l) r=some z/\y=(x,z):=by
 cases ss with
 |nil=>rw[AUj]at h;exact(A2 h).elim
 |cons s r=>
  rw[ASU]at h
  generalize h1:AAs R t s=o1 at h
  cases o1 with
  |none=>exact(A2 h).elim
  |some x=>
   generalize h2:toL R (u::l) r=o2 at h
   cases o2 with
   |none=>exact(A2 h).elim
   |some z=>exact⟨s,r,x,z,rfl,h1,h2,(AaO h).symm⟩
theorem AUk(hM:∀b∈M',b∈M)(l:List Ty):∀(ss:List SV) {y:P6 l} {vs:List Value},AFo l=true->Rds ρ R M' w (ownsLL ss)->toL R l ss=some y->OkL ρ R M w ss vs->(AFy l).R M' w vs y:=by
 induction l with
 |nil=>
  intro ss y vs _ _ h _
  rw[AM4]at h;exact(A2 h).elim
 |cons t l ih=>
  intro ss y vs hl hr h hk
  cases l with
  |nil=>
   obtain⟨s,rfl,h1⟩:=AM5 h
   obtain⟨u,rfl,h2⟩:=hk.one
   exact(ABT hM t s (hr.mono (by simp[ownsLL])) h1 h2).cells
  |cons u l=>
   obtain⟨s,r,x,z,rfl,h1,h2,rfl⟩:=AM6 h
   obtain⟨v,c,rv,rfl,h3,h4,h5⟩:=hk
   have h6:=(ABT hM t s (hr.mono (by simp only[ownsLL];intro i hi;exact AaR _ hi)) h1 h3).cells
   rw[h4]at h6
   have hl2:AFo (u::l)=true:=by
    have:(t.leaf&&AFo (u::l))=true:=hl;rw[Bool.and_eq_true]at this;exact this.2
   exact⟨c,rv,rfl,by simpa using h6,ih r hl2 (hr.mono (by simp only[ownsLL];intro i hi;exact AaS _ hi)) h2 h5⟩
theorem H8[Sl (P:=P)](hM:∀b∈M',b∈M)(t:Ty)(s:SV){x:den t}(hr:Rds ρ R M' w (B3 s))(hd:C1 R t s=some x)(h:Ok ρ R M w s v):OkD M' w t x v:=by
 cases t with
 |st n=>
  cases s with
  |str n' y=>
   have hd:AKT n' n y=some x:=hd
   obtain⟨e,rfl⟩:=AOY hd
   subst e
   exact OkD.mon hM h
  |agg l=>
   have hd:(match toL R (Sf.ft n) l with
    |some y=>some (Sf.mkS n y)
    |none=>none)=some x:=hd
   generalize hy:toL R (Sf.ft n) l=o at hd
   cases o with
   |none=>exact(A2 hd).elim
   |some y=>
    have hd:=AaO hd
    subst hd
    obtain⟨vs,rfl,h1⟩:=h
    have:=AUk hM _ l (Sf.leaf n) hr hy h1
    exact⟨vs,(Sl.is n M' w vs _).2 (by rw[Sf.un_mk];exact this),.inl ⟨rfl,rfl⟩⟩
  |int _ _|bool _|dat _ _|ary _ _ _|own _|ptr _ _|ep _ _ _ _ _|rp _ _|fv _ _ _|fn _ _|nilS|raw _|it _ _|np _ _|ap _ _ _ _|undef|dead|tup _=>exact(A2 hd).elim
 |int k=>exact ABT hM _ s hr hd h
 |bool=>exact ABT hM _ s hr hd h
 |sl t=>exact ABT hM _ s hr hd h
 |arr k n=>exact ABT hM _ s hr hd h
 |mp m k u=>exact ABT hM _ s hr hd h
 |fno i=>exact ABT hM _ s hr hd h
end
end
end Go.Rx
namespace Go.Rx
open Go Go.Sx Go.RowKit
variable[Trk][Sg][Sf]{P:Program}[Se P]
section
variable{α:Type}
theorem Q8{a b:Nat}(h:a≠b):beq a b=false:=by
 cases hb:beq a b with
 |false=>rfl
 |true=>exact absurd (AaU hb) h
theorem beq_self(a:Nat):beq a a=true:=by simp
theorem fnd_cons{k t:Nat}{v:α}{r:List (Nat×α)}:A1 ((k,v)::r) t=if k=t then some v else A1 r t:=by
 by_cases h:k=t
 . subst h;simp[A1]
 . simp[A1,Q8 h,h]
theorem AAT{i:Nat}{p:Rp}{t:Nat}:∀{l:List (Nat×SV)},A1 (ABu i p l) t=(A1 l t).map (subS i p)
 |[]=>rfl
 |(k,s)::r=>by
  simp only[ABu,fnd_cons,AAT (l:=r)];split<;>rfl
theorem ADN{i t:Nat}:∀{l:List (Nat×SV)},A1 (AFp i l) t=(A1 l t).map (oldS i)
 |[]=>rfl
 |(k,s)::r=>by
  simp only[AFp,fnd_cons,ADN (l:=r)];split<;>rfl
theorem fnd_subR{i:Nat}{p:Rp}{t:Nat}:∀{l:List (Nat×AR)},A1 (W0 i p l) t=(A1 l t).map (AR.sub i p)
 |[]=>rfl
 |(k,s)::r=>by
  simp only[W0,fnd_cons,fnd_subR (l:=r)];split<;>rfl
theorem fnd_rdel{i t:Nat}:∀{l:List (Nat×AR)},A1 (Z8 i l) t=if t=i then none else A1 l t
 |[]=>by simp[Z8,A1]
 |(k,s)::r=>by
  by_cases h:k=i
  . subst h;simp only[Z8,beq_self,cond_true,fnd_rdel (l:=r),fnd_cons];split
    . rfl
    . rename_i h;rw[if_neg (fun e=>h e.symm)]
  . simp only[Z8,Q8 h,cond_false,fnd_cons,fnd_rdel (l:=r)];split
    . rename_i h2;subst h2;rw[if_neg h]
    . rfl
theorem ADO{i t:Nat}{a:AR}:∀{l:List (Nat×AR)},A1 (AED i a l) t=if t=i then(A1 l t).map (fun _=>a) else A1 l t
 |[]=>by simp[AED,A1]
 |(k,s)::r=>by
  by_cases h:k=i
  . subst h;simp only[AED,beq_self,cond_true,ADO (l:=r),fnd_cons];split
    . rename_i h;subst h;simp
    . rfl
  . simp only[AED,Q8 h,cond_false,fnd_cons,ADO (l:=r)];split
    . rename_i h2;subst h2;rw[if_neg h]
    . rfl
end
section
variable{i:Nat}{v:Value}{cs:List Value}{mu:List Nat}
theorem ADP{i t:Nat}{g:AR->AR}:∀{l:List (Nat×AR)},A1 (AE0 i g l) t=if t=i then(A1 l t).map g else(A1 l t).map (AR.old i)
 |[]=>by simp[AE0,A1]
 |(k,s)::r=>by
  simp only[AE0,fnd_cons,ADP (l:=r)];by_cases h:k=t
  . subst h;rw[Aac rfl,Aac rfl];by_cases e:k=i
    . subst e;rw[Aac rfl,beq_self];rfl
    . rw[if_neg e,Q8 e];rfl
  . rw[if_neg h,if_neg h]
def blk:Value->Nat
 |.pointer (some a)=>a.block
 |.map (some b)=>b
 |_=>0
def mapRes(mu:List Nat)(m:Nat)(k v:Ty)(b:Nat)(f:A4 (den k) (den v)):Res:=match Se.ky (P:=P) m k with
 |some K=>{ mapO K (enc v) v.agg b f with mu:=mu }
 |none=>{ fp:=[b],mu:=mu,holds:=fun _ _=>False,adv:=fun _ _ h=>h.elim,lt:=fun h=>h.elim }
def G1(mu:List Nat)(v:Value):(c:Oc)->den c.ty->Res
 |.sl e t,x=>ownR mu (enc (P:=P) t) e v x
 |.mp m k u,x=>mapRes (P:=P) mu m k u (blk v) x
def Hnd(v:Value):Oc->Prop
 |.sl _ _=>True
 |.mp _ _ _=>∃b,v=.map (some b)
def I4(v:Value)(cs:List Value)(mu:List Nat):AR->Res
 |.own p c x=>G1 (P:=P) (bif p then mu else []) v c x
 |.row e _=>rowR e (blk v) cs
theorem AF5{p:Rp}:∀{a:AR},I4 (P:=P) v cs mu (a.sub i p)=I4 v cs mu a
 |.own _ _ _=>rfl
 |.row _ _=>rfl
theorem APg:∀{a:AR},I4 (P:=P) v cs mu (a.old i)=I4 v cs mu a
 |.own _ _ _=>rfl
 |.row _ _=>rfl
def RowOk(ρ:Nat->Value)(R:Nat->Option AR)(M:List Nat)(w:World)(v:Value)(cs:List Value):AR->Prop
 |.own _ c _=>Hnd v c
 |.row _ l=>(∃b,v=.pointer (some ⟨b,0,none⟩))/\OkL ρ R M w l cs
end
class Anch where
 Q:List Nat->World->Prop
 adv:∀{M M':List Nat} {w w':World},Q M w->Adv M M' w w'->Q M' w'
instance (priority:=50) anch0:Anch:=⟨fun _ _=>True,fun _ _=>trivial⟩
def GlOk(M:List Nat)(w:World):Prop:=∀g s,Sf.gv g=some s->∀ρ R,Ok (P:=P) ρ R M w s (.pointer (some ⟨g,0,none⟩))
theorem GlOk.adv{M M':List Nat}{w w':World}(h:GlOk (P:=P) M w)(ha:Adv M M' w w'):GlOk (P:=P) M' w':=fun g s hg ρ R=>Ok.adv ha s (h g s hg ρ R)
def AnOk[Anch](M:List Nat)(w:World):Prop:=Anch.Q M w/\GlOk (P:=P) M w
theorem AnOk.adv[Anch]{M M':List Nat}{w w':World}(h:AnOk (P:=P) M w)(ha:Adv M M' w w'):AnOk (P:=P) M' w':=⟨Anch.adv h.1 ha,h.2.adv ha⟩
variable[Anch]
structure HS[Fx](w0:World)(Mu M:List Nat)(σ:AS)(L:A8)(w:World)(S:List Res)(ρ:Nat->Value)(γ:Nat->List Value)(μ:Nat->List Nat)(ι:Nat->Nat):Prop where
 hp:Hp w0 Mu M S w
 res:∀i a,A1 σ.res i=some a->S[ι i]?=some (I4 (ρ i) (γ i) (μ i) a)
 inj:∀i j a b,A1 σ.res i=some a->A1 σ.res j=some b->ι i=ι j->i=j
 row:∀i a,A1 σ.res i=some a->RowOk ρ (A1 σ.res) (mm S M) w (ρ i) (γ i) a
 env:∀t s,A1 σ.env t=some s->∃v,Sx.A6 L t=some v/\Ok ρ (A1 σ.res) (mm S M) w s v
 anch:AnOk (P:=P) (mm S M) w
def Holds[Fx](w0:World)(Mu M:List Nat)(σ:AS)(L:A8)(w:World):Prop:=∃S ρ γ μ ι,HS w0 Mu M σ L w S ρ γ μ ι
def upf{α:Type}(f:Nat->α)(i:Nat)(x:α):Nat->α:=fun j=>if j=i then x else f j
theorem upf_self{α:Type}{f:Nat->α}{i:Nat}{x:α}:upf f i x i=x:=by simp[upf]
theorem Z2{α:Type}{f:Nat->α}{i j:Nat}{x:α}(h:j≠i):upf f i x j=f j:=by simp[upf,h]
section
variable{w0 w w':World}{Mu M:List Nat}{σ:AS}{L:A8}{S:List Res}{ρ:Nat->Value}{γ:Nat->List Value}{μ:Nat->List Nat}{ι:Nat->Nat}
section
variable{v:Value}{cs:List Value}{i:Nat}{a0:AR}
theorem HS.put[Fx](h:HS w0 Mu M σ L w S ρ γ μ ι){d:Nat}{s:SV}(hs:Ok ρ (A1 σ.res) (mm S M) w s v):HS w0 Mu M ((Ac.put s).app (some d) σ) ((d,v)::L) w S ρ γ μ ι:=
 ⟨h.hp,h.res,h.inj,h.row,fun t s' ht=>by
  have ht:A1 ((d,s)::σ.env) t=some s':=ht;rw[fnd_cons]at ht;rw[look_cons];split at ht
  . rename_i e;rw[Aac e];cases ht;exact⟨v,rfl,hs⟩
  . rename_i e;rw[if_neg e];exact h.env t s' ht,h.anch⟩
theorem RowOk.adv{R:Nat->Option AR}{M M':List Nat}(ha:Adv M M' w w'):∀{a:AR},RowOk ρ R M w v cs a->RowOk ρ R M' w' v cs a
 |.own _ _ _,h=>h
 |.row _ l,h=>⟨h.1,OkL.adv ha l h.2⟩
theorem HS.ext[Fx](h:HS w0 Mu M σ L w S ρ γ μ ι)(e:Ext w w'):HS w0 Mu M σ L w' S ρ γ μ ι:=
 ⟨h.hp.ext e,h.res,h.inj,fun i a hi=>(h.row i a hi).adv (Adv.of_ext e),fun t s ht=>by
  obtain⟨v,h1,h2⟩:=h.env t s ht;exact⟨v,h1,Ok.adv (Adv.of_ext e) s h2⟩,h.anch.adv (Adv.of_ext e)⟩
theorem HS.new[Fx](h:HS w0 Mu M σ L w S ρ γ μ ι){r:AR}{mu:List Nat}(hp:Hp w0 Mu M (I4 v cs mu r::S) w')(hA:Adv (mm S M) (mm (I4 v cs mu r::S) M) w w')(hr:RowOk (upf ρ i v) (A1 ((Ac.new i r).app none σ).res) (mm (I4 v cs mu r::S) M) w' v cs r):
  HS w0 Mu M ((Ac.new i r).app none σ) L w' (I4 v cs mu r::S) (upf ρ i v) (upf γ i cs) (upf μ i mu) (fun j=>if j=i then 0 else ι j+1):=by
 have hf:∀j,A1 ((Ac.new i r).app none σ).res j=if j=i then some r else(A1 σ.res j).map (AR.sub i .dead):=fun j=>by
  show A1 ((i,r)::Z8 i (W0 i .dead σ.res)) j=_;rw[fnd_cons,fnd_rdel,fnd_subR];by_cases e:j=i
  . subst e;simp
  . rw[if_neg (fun e'=>e e'.symm),if_neg e,if_neg e]
 have hρ:∀j,j≠i->upf ρ i v j=ρ j:=fun j hj=>Z2 hj
 have hR:∀j,j≠i->∀p e t xs,A1 σ.res j=some (.own p (.sl e t) xs)->A1 ((Ac.new i r).app none σ).res j=some (.own p (.sl e t) xs):=fun j hj p e t xs h1=>by
  rw[hf,if_neg hj,h1];rfl
 refine⟨hp,fun j a hj=>?_,fun j k a b hj hk he=>?_,fun j a hj=>?_,fun t s ht=>?_,h.anch.adv hA⟩
 . rw[hf]at hj
   by_cases e:j=i
   . subst e
     rw[Aac rfl]at hj;cases hj
     simp[upf]
   . rw[if_neg e]at hj
     simp only[if_neg e,Z2 e]
     cases h1:A1 σ.res j with
     |none=>rw[h1]at hj;cases hj
     |some a0=>
      rw[h1]at hj
      have hj:AR.sub i .dead a0=a:=AaO hj
      subst hj
      rw[AF5]
      simpa using h.res j a0 h1
 . rw[hf]at hj hk
   by_cases e:j=i
   . by_cases e2:k=i
     . rw[e,e2]
     . rw[Aac e,if_neg e2]at he;omega
   . by_cases e2:k=i
     . rw[if_neg e,Aac e2]at he;omega
     . rw[if_neg e,if_neg e2]at he
       rw[if_neg e]at hj;rw[if_neg e2]at hk
       cases h1:A1 σ.res j with
       |none=>rw[h1]at hj;cases hj
       |some a0=>
        cases h2:A1 σ.res k with
        |none=>rw[h2]at hk;cases hk
        |some b0=>exact h.inj j k a0 b0 h1 h2 (by omega)
 . have hj0:=hj
   rw[hf]at hj
   by_cases e:j=i
   . subst e
     rw[Aac rfl]at hj;cases hj
     rw[upf_self,upf_self];exact hr
   . rw[if_neg e]at hj
     rw[Z2 e,Z2 e]
     cases h1:A1 σ.res j with
     |none=>rw[h1]at hj;cases hj
     |some a0=>
      rw[h1]at hj
      have hj:AR.sub i .dead a0=a:=AaO hj
      subst hj
      have h2:=h.row j a0 h1
      cases a0 with
      |own _ _ _=>exact h2
      |row e l=>exact⟨h2.1,OkL.sub (p:=.dead) hA hρ hR trivial l h2.2⟩
 . have ht:A1 (ABu i .dead σ.env) t=some s:=ht
   rw[AAT]at ht
   cases h1:A1 σ.env t with
   |none=>rw[h1]at ht;cases ht
   |some s0=>
    rw[h1]at ht
    have ht:subS i .dead s0=s:=AaO ht
    subst ht
    obtain⟨u,h2,h3⟩:=h.env t s0 h1
    exact⟨u,h2,Ok.sub (p:=.dead) hA hρ hR trivial s0 h3⟩
theorem HS.upd[Fx](h:HS w0 Mu M σ L w S ρ γ μ ι){a0 r:AR}{c:List Nat}{g:AR->AR}(hi:A1 σ.res i=some a0)(hg:g a0=r)(hp:Hp w0 Mu M (S.set (ι i) (I4 (ρ i) cs (μ i) r)) w')(hA:Adv (mm S M) (mm (S.set (ι i) (I4 (ρ i) cs (μ i) r)) M) w w')(ht:∀p e t xs,a0=.own p (.sl e t) xs->∃ys:List (den t),r=.own p (.sl e t) ys/\ys.length=xs.length)(hr:RowOk ρ (A1 (σ.upd i g c).res) (mm (S.set (ι i) (I4 (ρ i) cs (μ i) r)) M) w' (ρ i) cs r):
  HS w0 Mu M (σ.upd i g c) L w' (S.set (ι i) (I4 (ρ i) cs (μ i) r)) ρ (upf γ i cs) μ ι:=by
 have hf:∀j,A1 (σ.upd i g c).res j=if j=i then some r else(A1 σ.res j).map (AR.old i):=fun j=>by
  show A1 (AE0 i g σ.res) j=_;rw[ADP];by_cases e:j=i
  . subst e;rw[Aac rfl,Aac rfl,hi,Aa0,hg]
  . rw[if_neg e,if_neg e]
 have hR:∀j,j≠i->∀p e t xs,A1 σ.res j=some (.own p (.sl e t) xs)->A1 (σ.upd i g c).res j=some (.own p (.sl e t) xs):=fun j hj p e t xs h1=>by
  rw[hf,if_neg hj,h1];rfl
 have hR2:∀p e t xs,A1 σ.res i=some (.own p (.sl e t) xs)->∃ys:List (den t),A1 (σ.upd i g c).res i=some (.own p (.sl e t) ys)/\ys.length=xs.length:=fun p e t xs h1=>by
  rw[hi]at h1;obtain⟨ys,h2,h3⟩:=ht p e t xs (AaO h1);exact⟨ys,by rw[hf,Aac rfl,h2],h3⟩
 have hil:ι i<S.length:=by
  have:=h.res i a0 hi;rcases Aag (ι i) S.length with h1|h1
  . exact h1
  . rw[Aaa h1]at this;cases this
 refine⟨hp,fun j a hj=>?_,fun j k a b hj hk he=>?_,fun j a hj=>?_,fun t s ht=>?_,h.anch.adv hA⟩
 . rw[hf]at hj
   by_cases e:j=i
   . subst e
     rw[Aac rfl]at hj;cases hj
     rw[upf_self];simp[hil]
   . rw[if_neg e]at hj
     rw[Z2 e]
     cases h1:A1 σ.res j with
     |none=>rw[h1]at hj;cases hj
     |some b0=>
      rw[h1]at hj
      have hj:AR.old i b0=a:=AaO hj
      subst hj
      rw[APg,AbA (fun e2=>e (h.inj j i b0 a0 h1 hi e2.symm))]
      exact h.res j b0 h1
 . rw[hf]at hj hk
   have hx:∀j (a:AR),(if j=i then some r else(A1 σ.res j).map (AR.old i))=some a->∃a',A1 σ.res j=some a':=fun j a hj=>by
    by_cases e:j=i
    . subst e;exact⟨a0,hi⟩
    . rw[if_neg e]at hj;cases h1:A1 σ.res j with
      |none=>rw[h1]at hj;cases hj
      |some b0=>exact⟨b0,rfl⟩
   obtain⟨a',h1⟩:=hx j a hj
   obtain⟨b',h2⟩:=hx k b hk
   exact h.inj j k a' b' h1 h2 he
 . rw[hf]at hj
   by_cases e:j=i
   . subst e
     rw[Aac rfl]at hj;cases hj
     rw[upf_self];exact hr
   . rw[if_neg e]at hj
     rw[Z2 e]
     cases h1:A1 σ.res j with
     |none=>rw[h1]at hj;cases hj
     |some b0=>
      rw[h1]at hj
      have hj:AR.old i b0=a:=AaO hj
      subst hj
      have h2:=h.row j b0 h1
      cases b0 with
      |own _ _ _=>exact h2
      |row e l=>exact⟨h2.1,OkL.adv hA _ (OkL.old hR hR2 l h2.2)⟩
 . have ht:A1 (AFp i σ.env) t=some s:=ht
   rw[ADN]at ht
   cases h1:A1 σ.env t with
   |none=>rw[h1]at ht;cases ht
   |some s0=>
    rw[h1]at ht
    have ht:oldS i s0=s:=AaO ht
    subst ht
    obtain⟨u,h2,h3⟩:=h.env t s0 h1
    exact⟨u,h2,Ok.adv hA _ (Ok.old hR hR2 s0 h3)⟩
theorem HS.hnd[Fx](h:HS w0 Mu M σ L w S ρ γ μ ι){a0 r:AR}(hi:A1 σ.res i=some a0)(hp:Hp w0 Mu M (S.set (ι i) (I4 v cs (μ i) r)) w')(hA:Adv (mm S M) (mm (S.set (ι i) (I4 v cs (μ i) r)) M) w w')(hr:RowOk (upf ρ i v) (A1 ((Ac.hnd i r).app none σ).res) (mm (S.set (ι i) (I4 v cs (μ i) r)) M) w' v cs r):
  HS w0 Mu M ((Ac.hnd i r).app none σ) L w' (S.set (ι i) (I4 v cs (μ i) r)) (upf ρ i v) (upf γ i cs) μ ι:=by
 have hf:∀j,A1 ((Ac.hnd i r).app none σ).res j=if j=i then some r else(A1 σ.res j).map (AR.sub i .dead):=fun j=>by
  show A1 (AED i r (W0 i .dead σ.res)) j=_;rw[ADO,fnd_subR];by_cases e:j=i
  . subst e;rw[Aac rfl,Aac rfl,hi];rfl
  . rw[if_neg e,if_neg e]
 have hρ:∀j,j≠i->upf ρ i v j=ρ j:=fun j hj=>Z2 hj
 have hR:∀j,j≠i->∀p e t xs,A1 σ.res j=some (.own p (.sl e t) xs)->A1 ((Ac.hnd i r).app none σ).res j=some (.own p (.sl e t) xs):=fun j hj p e t xs h1=>by
  rw[hf,if_neg hj,h1];rfl
 have hil:ι i<S.length:=by
  have:=h.res i a0 hi;rcases Aag (ι i) S.length with h1|h1
  . exact h1
  . rw[Aaa h1]at this;cases this
 refine⟨hp,fun j a hj=>?_,fun j k a b hj hk he=>?_,fun j a hj=>?_,fun t s ht=>?_,h.anch.adv hA⟩
 . rw[hf]at hj
   by_cases e:j=i
   . subst e
     rw[Aac rfl]at hj;cases hj
     rw[upf_self,upf_self];simp[hil]
   . rw[if_neg e]at hj
     rw[Z2 e,Z2 e]
     cases h1:A1 σ.res j with
     |none=>rw[h1]at hj;cases hj
     |some b0=>
      rw[h1]at hj
      have hj:AR.sub i .dead b0=a:=AaO hj
      subst hj
      rw[AF5,AbA (fun e2=>e (h.inj j i b0 a0 h1 hi e2.symm))]
      exact h.res j b0 h1
 . rw[hf]at hj hk
   have hx:∀j (a:AR),(if j=i then some r else(A1 σ.res j).map (AR.sub i .dead))=some a->∃a',A1 σ.res j=some a':=fun j a hj=>by
    by_cases e:j=i
    . subst e;exact⟨a0,hi⟩
    . rw[if_neg e]at hj;cases h1:A1 σ.res j with
      |none=>rw[h1]at hj;cases hj
      |some b0=>exact⟨b0,rfl⟩
   obtain⟨a',h1⟩:=hx j a hj
   obtain⟨b',h2⟩:=hx k b hk
   exact h.inj j k a' b' h1 h2 he
 . rw[hf]at hj
   by_cases e:j=i
   . subst e
     rw[Aac rfl]at hj;cases hj
     rw[upf_self,upf_self];exact hr
   . rw[if_neg e]at hj
     rw[Z2 e,Z2 e]
     cases h1:A1 σ.res j with
     |none=>rw[h1]at hj;cases hj
     |some b0=>
      rw[h1]at hj
      have hj:AR.sub i .dead b0=a:=AaO hj
      subst hj
      have h2:=h.row j b0 h1
      cases b0 with
      |own _ _ _=>exact h2
      |row e l=>exact⟨h2.1,OkL.sub (p:=.dead) hA hρ hR trivial l h2.2⟩
 . have ht:A1 (ABu i .dead σ.env) t=some s:=ht
   rw[AAT]at ht
   cases h1:A1 σ.env t with
   |none=>rw[h1]at ht;cases ht
   |some s0=>
    rw[h1]at ht
    have ht:subS i .dead s0=s:=AaO ht
    subst ht
    obtain⟨u,h2,h3⟩:=h.env t s0 h1
    exact⟨u,h2,Ok.sub (p:=.dead) hA hρ hR trivial s0 h3⟩
theorem HS.del[Fx](h:HS w0 Mu M σ L w S ρ γ μ ι){p:Rp}(hi:A1 σ.res i=some a0)(hp:AOX ρ (A1 ((Ac.del i p).app none σ).res) (mm (S.eraseIdx (ι i)) M) w (ρ i) p):
  HS w0 Mu M ((Ac.del i p).app none σ) L w (S.eraseIdx (ι i)) ρ γ μ (fun j=>if ι j<ι i then ι j else ι j-1):=by
 have hf:∀j,A1 ((Ac.del i p).app none σ).res j=if j=i then none else(A1 σ.res j).map (AR.sub i p):=fun j=>by
  show A1 (Z8 i (W0 i p σ.res)) j=_;rw[fnd_rdel,fnd_subR]
 have hA:Adv (mm S M) (mm (S.eraseIdx (ι i)) M) w w:=E3 (ι i)
 have hR:∀j,j≠i->∀q e t xs,A1 σ.res j=some (.own q (.sl e t) xs)->A1 ((Ac.del i p).app none σ).res j=some (.own q (.sl e t) xs):=fun j hj q e t xs h1=>by
  rw[hf,if_neg hj,h1];rfl
 have hx:∀j (a:AR),A1 ((Ac.del i p).app none σ).res j=some a->j≠i/\∃b0,A1 σ.res j=some b0/\AR.sub i p b0=a:=fun j a hj=>by
  rw[hf]at hj;by_cases e:j=i
  . rw[Aac e]at hj;cases hj
  . rw[if_neg e]at hj;cases h1:A1 σ.res j with
    |none=>rw[h1]at hj;cases hj
    |some b0=>rw[h1]at hj;exact⟨e,b0,rfl,AaO hj⟩
 refine⟨h.hp.erase (ι i),fun j a hj=>?_,fun j k a b hj hk he=>?_,fun j a hj=>?_,fun t s ht=>?_,h.anch.adv hA⟩
 . obtain⟨e,b0,h1,rfl⟩:=hx j a hj
   rw[AF5]
   have hne:ι j≠ι i:=fun e2=>e (h.inj j i b0 a0 h1 hi e2)
   have h2:=h.res j b0 h1
   rw[Abu]
   show(if (if ι j<ι i then ι j else ι j-1)<ι i then _ else _)=_
   by_cases hlt:ι j<ι i
   . rw[Aac (by rw[Aac hlt];exact hlt),Aac hlt];exact h2
   . rw[if_neg (by rw[if_neg hlt];omega),if_neg hlt,show ι j-1+1=ι j by omega];exact h2
 . obtain⟨e1,a',h1,_⟩:=hx j a hj
   obtain⟨e2,b',h2,_⟩:=hx k b hk
   have hn1:ι j≠ι i:=fun e=>e1 (h.inj j i a' a0 h1 hi e)
   have hn2:ι k≠ι i:=fun e=>e2 (h.inj k i b' a0 h2 hi e)
   refine h.inj j k a' b' h1 h2 ?_
   have he:(if ι j<ι i then ι j else ι j-1)=(if ι k<ι i then ι k else ι k-1):=he
   split at he<;>split at he<;>omega
 . obtain⟨e,b0,h1,rfl⟩:=hx j a hj
   have h2:=h.row j b0 h1
   cases b0 with
   |own _ _ _=>exact h2
   |row e l=>exact⟨h2.1,OkL.sub hA (fun _ _=>rfl) hR hp l h2.2⟩
 . have ht:A1 (ABu i p σ.env) t=some s:=ht
   rw[AAT]at ht
   cases h1:A1 σ.env t with
   |none=>rw[h1]at ht;cases ht
   |some s0=>
    rw[h1]at ht
    have ht:subS i p s0=s:=AaO ht
    subst ht
    obtain⟨u,h2,h3⟩:=h.env t s0 h1
    exact⟨u,h2,Ok.sub hA (fun _ _=>rfl) hR hp s0 h3⟩
end
end
end Go.Rx
namespace Go.Rx
open Go Go.Sx Go.RowKit
variable[Trk][Sg][Sf]{P:Program}[Se P]
def Q9:Oc->Value->List Nat
 |.sl _ _,v=>ob v
 |.mp _ _ _,v=>[blk v]
section
variable{mu:List Nat}{v:Value}{c:Oc}{x:den c.ty}
theorem AAU:(G1 (P:=P) mu v c x).fp=Q9 c v:=by
 cases c with
 |sl e t=>rfl
 |mp m k u=>simp only[G1,mapRes,Q9];split<;>rfl
theorem AGh{b:Nat}(h:b∈Q9 c v):b∈(G1 (P:=P) mu v c x).fp:=AAU (P:=P) (mu:=mu) (v:=v) (c:=c) (x:=x)▸h
theorem AM7{b:Nat}(h:b∈(G1 (P:=P) mu v c x).fp):b∈Q9 c v:=AAU (P:=P)▸h
theorem AII:(G1 (P:=P) mu v c x).mu=mu:=by
 cases c with
 |sl e t=>rfl
 |mp m k u=>simp only[G1,mapRes];split<;>rfl
theorem APh{M:List Nat}{w:World}(hh:Hnd v c)(h:(G1 (P:=P) mu v c x).holds M w):v.cells=#[v]/\v.oneCell'=true:=by
 cases c with
 |sl e t=>
  have h:Sx.Own (enc (P:=P) t) e 0 M w v x:=h
  exact⟨by rw[h.cells1],h.oneC⟩
 |mp m k u=>obtain⟨b,rfl⟩:=hh;exact⟨rfl,rfl⟩
theorem ASV{M M':List Nat}{w:World}(hh:Hnd v c)(h:(G1 (P:=P) mu v c x).holds M w)(hM:∀b∈M',b∈M)(ha:∀b∈Q9 c v,b∉M')(hsl:∀e t (y:List (den t)),c=.sl e t->Sx.Own (enc (P:=P) t) e 0 M w v y->(∀b∈ob v,b∉M')->RdS (enc t) M' w v y):OkD (P:=P) M' w c.ty x v:=by
 cases c with
 |sl e t=>exact⟨[v],⟨v,rfl,hsl e t x rfl h ha⟩,.inr ⟨rfl,rfl⟩⟩
 |mp m k u=>
  obtain⟨b,rfl⟩:=hh
  simp only[G1,mapRes]at h
  cases hK:Se.ky (P:=P) m k with
  |none=>rw[hK]at h;exact h.elim
  |some K=>
   rw[hK]at h
   have h:MapH K (enc (P:=P) u) u.agg M w b x:=h
   have h2:MapH K (enc (P:=P) u) u.agg M' w b x:=by
    obtain⟨es,c,xs,h1,h2,h3,h4⟩:=h;exact⟨es,c,xs,h1,h2,h3.adv (Adv.drop hM),h4⟩
   exact⟨[.map (some b)],⟨_,K,rfl,hK,b,rfl,ha b (AaT ..),h2⟩,.inr ⟨rfl,rfl⟩⟩
end
section
variable{w0 w:World}{Mu M:List Nat}{S:List Res}{mu:List Nat}{v:Value}{c:Oc}{x:den c.ty}
theorem AUl[Fx](h:Hp w0 Mu M S w)(k:Nat)(hh:Hnd v c)(hi:S[k]?=some (G1 (P:=P) mu v c x)):OkD (P:=P) (mm (S.eraseIdx k) M) w c.ty x v:=by
 cases c with
 |sl e t=>
  have:=h.freeze k (E:=enc (P:=P) t) (e:=e) (v:=v) (xs:=x) (mu:=mu) hi
  exact⟨[v],⟨v,rfl,this⟩,.inr ⟨rfl,rfl⟩⟩
 |mp m k' u=>
  refine ASV hh (h.get k hi) (fun b hb=>AAQ (Aal S k) hb) (fun b hb=>h.apart k hi b (by rw[AAU];exact hb)) fun e t y hc=>by cases hc
theorem AJH[Fx](h:Hp w0 Mu M S w)(l:List Nat)(k:Nat)(hl:l.contains k=false)(hh:Hnd v c)(hi:S[k]?=some (G1 (P:=P) mu v c x)):OkD (P:=P) (mm (sel S l) M) w c.ty x v:=by
 cases c with
 |sl e t=>
  have:=h.lendRd l k (E:=enc (P:=P) t) (e:=e) (v:=v) (xs:=x) (mu:=mu) hl hi
  exact⟨[v],⟨v,rfl,this⟩,.inr ⟨rfl,rfl⟩⟩
 |mp m k' u=>
  refine ASV hh (h.get k hi) (fun b hb=>AES hb) (fun b hb hm=>?_) fun e t y hc=>by cases hc
  have hb:b∈(G1 (P:=P) mu v (.mp m k' u) x).fp:=by rw[AAU];exact hb
  rcases mem_mm.1 hm with⟨r,hr,hm⟩|hm
  . obtain⟨j,hj,hr⟩:=Z6 hr
    have hne:k≠j:=fun e=>by
     subst e;have:l.contains k=true:=by simp[hj]
     rw[this]at hl;cases hl
    exact h.dis k j _ r hi hr hne b hb hm
  . exact h.sepM _ (AaP hi) b hb hm
theorem ALQ[Fx](h:Hp w0 Mu M S w)(k:Nat)(hi:S[k]?=some (G1 (P:=P) [] v c x)):(G1 (P:=P) [] v c x).holds (Q9 c v++M) w/\∀b∈Q9 c v,w0.heap.size<=b:=
 ⟨(G1 (P:=P) [] v c x).adv (Adv.drop fun b hb=>(mem_append.1 hb).elim (fun hb=>mem_mm.2 (.inl ⟨_,AaP hi,by rw[AAU];exact hb⟩)) fun hb=>mem_mm.2 (.inr hb)) (fun _ _=>rfl) (h.get k hi),fun b hb=>((h.own _ (AaP hi)).2 b (by rw[AAU];exact hb)).elim (fun hm=>by rw[AII]at hm;cases hm) id⟩
end
end Go.Rx
namespace Go.Rx
open Go Go.Sx Go.RowKit
variable[Trk][Sg][Sf]{P:Program}[Se P]
def BOk(M:List Nat)(w:World):(b:Bool)->(t:Ty)->AFq b t->Value->Prop
 |false,t,x,v=>∃b o vs,v=.pointer (some ⟨b,o,none⟩)/\RdC M w b o vs/\(enc t).R M w vs x
 |true,t,x,v=>∃b o u,v=.pointer (some ⟨b,o,none⟩)/\RdC M w b o [u]/\NpOk M w t x u
def BsOk(M:List Nat)(w:World):(cs:List (Bool×Ty))->AA5 cs->List Value->Prop
 |[],_,vs=>vs=[]
 |(b,t)::cs,x,vs=>∃v r,vs=v::r/\BOk M w b t x.1 v/\BsOk M w cs x.2 r
def PtOk(M:List Nat)(w:World):(p:Pt)->p.den->Value->Prop
 |.d t,x,v=>OkD M w t x v
 |.pt t,x,v=>∃b o vs,v=.pointer (some ⟨b,o,none⟩)/\RdC M w b o vs/\(enc t).R M w vs x
 |.fn a r,f,v=>FnOk M w v a r f/\v.cells=#[v]/\v.oneCell'=true
 |.pp t,x,v=>BOk M w true t x v
 |.cl g cs,x,v=>∃b o caps,v=.pointer (some ⟨b,o,none⟩)/\RdC M w b o [.func (.func g) #[] (toArray caps)]/\BsOk M w cs x caps
 |.nl,_,v=>v=.slice none 0 0
def ArgsOk(M:List Nat)(w:World):(ps:List Pt)->E9 ps->List Value->Prop
 |[],_,vs=>vs=[]
 |p::ps,x,vs=>∃v r,vs=v::r/\PtOk M w p x.1 v/\ArgsOk M w ps x.2 r
def obK:List Ck->List Value->List Nat
 |.own c::l,v::vs=>Q9 c v++obK l vs
 |_::l,_::vs=>obK l vs
 |_,_=>[]
def CkOk(M Mo:List Nat)(w w':World):(c:Ck)->c.den->Value->Prop
 |.d t,x,v=>OkD Mo w' t x v
 |.own c,x,v=>Hnd v c/\(G1 (P:=P) [] v c x).holds (Q9 c v++M) w'/\∀b∈Q9 c v,w.heap.size<=b
 |.undef,_,_=>False
 |.it ts,x,v=>ItV P Mo w' v ts x/\v.cells=#[v]/\v.oneCell'=true
 |.np t,x,v=>NpOk Mo w' t x v
def KsOk(M Mo:List Nat)(w w':World):(rs:List Ck)->H9 rs->List Value->Prop
 |[],_,vs=>vs=[]
 |[c],x,vs=>∃v,vs=[v]/\CkOk M Mo w w' c x v
 |c::d::l,x,vs=>∃v r,vs=v::r/\CkOk M Mo w w' c x.1 v/\KsOk M Mo w w' (d::l) x.2 r
def ACW:List Value->Value
 |[v]=>v
 |l=>.tuple (toArray l)
def AEK:List Ck->Nat
 |[]=>0
 |.own _::l=>AEK l+1
 |_::l=>AEK l
def CtrM.ok1(P:Program)[Se P](k:Nat)(c:CtrM):Prop:=AEK c.rs=0/\∀(M:List Nat) (w:World) (a:E9 c.ps) (x:den c.c.ty) (v:Value) (vals us:List Value) (r:H9 c.rs) (x':den c.c.ty),MLt (Q9 c.c v++M) w->GlOk (P:=P) (Q9 c.c v++M) w->(∀b∈Q9 c.c v,b∉M)->ArgsOk (Q9 c.c v++M) w c.ps a vals->us[c.i]?=some v->us.eraseIdx c.i=vals->Hnd v c.c->(G1 (P:=P) [] v c.c x).holds (Q9 c.c v++M) w->c.F a x=some (r,x') ->
 Calls P k (toArray us) w fun e w'=>∃vs,e=.returned (bif c.self then v else ACW vs)/\KsOk M (Q9 c.c v++M) w w' c.rs r vs/\Kp (Q9 c.c v) w w'/\(G1 (P:=P) [] v c.c x').holds (Q9 c.c v++M) w'
def CtrM.ok(P:Program)[Se P](k:Nat)(c:CtrM):Prop:=match c.ag with
 |some _=>False
 |none=>CtrM.ok1 P k c
def Ctr.ok(P:Program)[Se P](k:Nat)(c:Ctr):Prop:=AEK c.rs<=1/\∀(M:List Nat) (w:World) (a:E9 c.ps) (vals:List Value) (r:H9 c.rs),MLt M w->GlOk (P:=P) M w->ArgsOk M w c.ps a vals->c.F a=some r ->
 Calls P k (toArray vals) w fun e w'=>∃vs,e=.returned (ACW vs)/\KsOk M (obK c.rs vs++M) w w' c.rs r vs/\Ext w w'
def CtrP.ok(P:Program)[Se P](k:Nat)(c:CtrP):Prop:=∀(M:List Nat) (w:World) (a:E9 c.ps) (vals:List Value) (r:den c.t),MLt M w->GlOk (P:=P) M w->ArgsOk M w c.ps a vals->c.F a=some r ->
 Calls P k (toArray vals) w fun e w'=>∃v,e=.panicked [{ v:=.iface c.T v,recovered:=false }]/\OkD (P:=P) M w' c.t r v/\Ext w w'
def FmOk(P:Program)[Se P]:List (Nat×CtrM)->Prop
 |[]=>True
 |(k,c)::r=>(c.ok P k/\∀args w,(callFunc k args).run P w=.ok (.enter k args) w)/\FmOk P r
def PfOk(P:Program)[Se P]:List (Nat×CtrP)->Prop
 |[]=>True
 |(k,c)::r=>(c.ok P k/\∀args w,(callFunc k args).run P w=.ok (.enter k args) w)/\PfOk P r
def SlOk(P:Program)[Se P]:List (Nat×Nat×Ty×Nat)->Prop
 |[]=>True
 |(t,e,u,b)::r=>SlT P t e (enc u).n b/\SlOk P r
def zv:Ty->Value
 |.int k=>.int k 0
 |.bool=>.bool false
 |.sl _=>.slice none 0 0
 |.arr k n=>.agg (toArray (replicate n (.int k 0)))
 |.st n=>.agg (toArray (zvL (Sf.ft n)))
 |.mp _ _ _=>.map none
 |.fno _=>.nilFunc
where zvL:List Ty->List Value
 |[]=>[]
 |.int k::l=>.int k 0::zvL l
 |.bool::l=>.bool false::zvL l
 |.sl _::l=>.slice none 0 0::zvL l
 |.arr k n::l=>replicate n (.int k 0)++zvL l
 |.st _::l=>zvL l
 |.mp _ _ _::l=>.map none::zvL l
 |.fno _::l=>.nilFunc::zvL l
def TyOk(P:Program)[Se P]:List (Nat×Ty)->Prop
 |[]=>True
 |(t,u)::r=>((∀k,u=.int k->P.underlying t=some (.int k))/\(u=.bool->P.underlying t=some .bool)/\∀w,(zeroValue t).run P w=.ok (zv u) w)/\TyOk P r
def SzOk(P:Program):List (Nat×Nat)->Prop
 |[]=>True
 |(t,n)::r=>(∀w,(sizeOf t).run P w=.ok n w)/\SzOk P r
theorem SzOk.at:∀{l:List (Nat×Nat)} {t n:Nat},SzOk P l->lk l t=some n->∀w,(sizeOf t).run P w=.ok n w
 |[],_,_,_,h=>by cases h
 |(k,_)::r,t,_,h,e=>by
  simp only[lk]at e;cases hb:beq k t with
  |true=>rw[hb]at e;cases e;cases AaU hb;exact h.1
  |false=>rw[hb]at e;exact SzOk.at h.2 e
def FsOk(P:Program)[Se P]:List (Nat×Ctr)->Prop
 |[]=>True
 |(k,c)::r=>(c.ok P k/\∀args w,(callFunc k args).run P w=.ok (.enter k args) w)/\FsOk P r
def BdOk(P:Program):List (Nat×List (Nat×Nat))->Prop
 |[]=>True
 |(t,pl)::r=>(∃fields:Array Field,P.underlying t=some (.struct fields)/\∀w,(fields.mapM (fun f=>Prod.mk f.offset <$> sizeOf f.type):Sem (Array (Nat×Nat))).run P w=.ok (toArray pl) w)/\BdOk P r
def EqOk(P:Program)[Se P]:List (Nat×Nat)->Prop
 |[]=>True
 |(t,n)::r=>(P.eqGuardType P.depth t=false/\∀M w cs cs' (x y:Sg.S n),(enc (P:=P) (.st n)).R M w cs x->(enc (P:=P) (.st n)).R M w cs' y->∀w,(Op.equalIn 10000 t (.agg (toArray cs)) (.agg (toArray cs'))).run P w=.ok (Sf.eq n x y) w)/\EqOk P r
theorem EqOk.at:∀{l:List (Nat×Nat)} {t n:Nat},EqOk P l->lk l t=some n->P.eqGuardType P.depth t=false/\∀M w cs cs' (x y:Sg.S n),(enc (P:=P) (.st n)).R M w cs x->(enc (P:=P) (.st n)).R M w cs' y->∀w,(Op.equalIn 10000 t (.agg (toArray cs)) (.agg (toArray cs'))).run P w=.ok (Sf.eq n x y) w
 |[],_,_,_,h=>by cases h
 |(k,_)::r,t,_,h,e=>by
  simp only[lk]at e;cases hb:beq k t with
  |true=>rw[hb]at e;cases e;cases AaU hb;exact h.1
  |false=>rw[hb]at e;exact EqOk.at h.2 e
def ArOk(P:Program):List (Nat×Nat×Nat)->Prop
 |[]=>True
 |(t,len,m)::r=>(∃e,P.underlying t=some (.array len e)/\∀w,(sizeOf e).run P w=.ok m w)/\ArOk P r
theorem ArOk.at{P:Program}:∀{l:List (Nat×Nat×Nat)} {t len m:Nat},ArOk P l->lk l t=some (len,m)->∃e,P.underlying t=some (.array len e)/\∀w,(sizeOf e).run P w=.ok m w
 |[],_,_,_,_,h=>by cases h
 |(j,_,_)::r,t,_,_,h,e=>by
  simp only[lk]at e;cases hb:beq j t with
  |true=>rw[hb]at e;cases e;cases AaU hb;exact h.1
  |false=>rw[hb]at e;exact ArOk.at h.2 e
def PzOk(P:Program):List (Nat×Nat)->Prop
 |[]=>True
 |(t,n)::r=>(∀w,(zeroValue t).run P w=.ok (AN9 n) w)/\PzOk P r
theorem PzOk.at{P:Program}:∀{l:List (Nat×Nat)} {t n:Nat},PzOk P l->lk l t=some n->∀w,(zeroValue t).run P w=.ok (AN9 n) w
 |[],_,_,_,h=>by cases h
 |(j,_)::r,t,_,h,e=>by
  simp only[lk]at e;cases hb:beq j t with
  |true=>rw[hb]at e;cases e;cases AaU hb;exact h.1
  |false=>rw[hb]at e;exact PzOk.at h.2 e
def MpOk(P:Program)[Se P]:List (Nat×Nat×Nat×Ty×Ty)->Prop
 |[]=>True
 |(t,m,e,k,v)::r=>(∃K,Se.ky (P:=P) m k=some K/\(∀M w (a:den k) u,OkD (P:=P) M w k a u->u=K.val a/\K.ok a)/\P.underlying t=some (.map m e)/\(∀w,(zeroValue e).run P w=.ok (zv v) w)/\∀M w (a:den k),K.ok a->OkD (P:=P) M w k a (K.val a))/\MpOk P r
theorem AHW:∀{l:List (Nat×Nat×Nat×Ty×Ty)} {t m e:Nat} {k v:Ty},MpOk P l->lk l t=some (m,e,k,v)->∃K,Se.ky (P:=P) m k=some K/\(∀M w (a:den k) u,OkD (P:=P) M w k a u->u=K.val a/\K.ok a)/\P.underlying t=some (.map m e)/\(∀w,(zeroValue e).run P w=.ok (zv v) w)/\∀M w (a:den k),K.ok a->OkD (P:=P) M w k a (K.val a)
 |[],_,_,_,_,_,_,h=>by cases h
 |(j,_,_,_,_)::r,t,_,_,_,_,h,e=>by
  simp only[lk]at e;cases hb:beq j t with
  |true=>rw[hb]at e;cases e;cases AaU hb;exact h.1
  |false=>rw[hb]at e;exact AHW h.2 e
theorem MpOk.at{l:List (Nat×Nat×Nat×Ty×Ty)}{t m e:Nat}{k v:Ty}(h:MpOk P l)(hl:lk l t=some (m,e,k,v)):∃K,Se.ky (P:=P) m k=some K/\(∀M w (a:den k) u,OkD (P:=P) M w k a u->u=K.val a/\K.ok a)/\P.underlying t=some (.map m e)/\∀w,(zeroValue e).run P w=.ok (zv v) w:=by
 obtain⟨K,h1,h2,h3,h4,_⟩:=AHW h hl;exact⟨K,h1,h2,h3,h4⟩
theorem AC2{m:Nat}{q:IntKind}{hk:P.underlying m=some (.int q)}:∀M w (a:den (.int q)) u,OkD (P:=P) M w (.int q) a u->u=(V6 q hk).val a/\(V6 q hk).ok a:=fun M w a u h=>by
 obtain⟨cs,h1,⟨h2,_⟩|⟨_,h2⟩⟩:=h
 . cases h2
 . subst h2;obtain⟨h3,h4⟩:=h1;exact⟨List.singleton_inj.1 h3,h4⟩
def FdOk(P:Program)[Se P]:List (Nat×Fd)->Prop
 |[]=>True
 |(_,q)::r=>(∀n M w,GlOk (P:=P) M w->FnOk (P:=P) M w (.func (.func n) #[] #[]) q.a q.r (q.D n))/\FdOk P r
theorem FdOk.at:∀{l:List (Nat×Fd)} {k:Nat} {q:Fd},FdOk P l->A1 l k=some q->∀n M w,GlOk (P:=P) M w->FnOk (P:=P) M w (.func (.func n) #[] #[]) q.a q.r (q.D n)
 |[],_,_,_,h=>by cases h
 |(j,_)::r,k,_,h,e=>by
  rw[fnd_cons]at e;split at e
  . rename_i hb;subst hb;cases e;exact h.1
  . exact FdOk.at h.2 e
theorem int_key2{m:Nat}{q:IntKind}{hk:P.underlying m=some (.int q)}:∀M w (a:den (.int q)),(V6 q hk).ok a->OkD (P:=P) M w (.int q) a ((V6 q hk).val a):=fun _ _ _ h=>⟨[_],⟨rfl,h⟩,.inr ⟨rfl,rfl⟩⟩
structure GxOk(P:Program)[Se P](G:Gx):Prop where
 st:StOk P G.tb.st
 ag:AgOk P G.tb.ag
 sl:SlOk P G.sl
 sz:SzOk P G.sz
 ty:TyOk P G.ty
 fs:FsOk P G.fs
 bd:BdOk P G.bd
 eq:EqOk P G.eq
 mp:MpOk P G.mp
 ar:ArOk P G.ar
 pz:PzOk P G.pz
 pf:PfOk P G.pf
 fm:FmOk P G.fm
 mix:P.follows .mixedOrders=true
 fd:FdOk P G.fd
theorem SlOk.at:∀{l:List (Nat×Nat×Ty×Nat)} {t e:Nat} {u:Ty} {b:Nat},SlOk P l->lk l t=some (e,u,b)->SlT P t e (enc u).n b
 |[],_,_,_,_,_,h=>by cases h
 |(k,_,_,_)::r,t,_,_,_,h,e=>by
  simp only[lk]at e;cases hb:beq k t with
  |true=>rw[hb]at e;cases e;cases AaU hb;exact h.1
  |false=>rw[hb]at e;exact SlOk.at h.2 e
theorem BdOk.at:∀{l:List (Nat×List (Nat×Nat))} {t:Nat} {pl:List (Nat×Nat)},BdOk P l->lk l t=some pl->∃fields:Array Field,P.underlying t=some (.struct fields)/\∀w,(fields.mapM (fun f=>Prod.mk f.offset <$> sizeOf f.type):Sem (Array (Nat×Nat))).run P w=.ok (toArray pl) w
 |[],_,_,_,h=>by cases h
 |(k,_)::r,t,_,h,e=>by
  simp only[lk]at e;cases hb:beq k t with
  |true=>rw[hb]at e;cases e;cases AaU hb;exact h.1
  |false=>rw[hb]at e;exact BdOk.at h.2 e
theorem TyOk.at:∀{l:List (Nat×Ty)} {t:Nat} {u:Ty},TyOk P l->lk l t=some u->(∀k,u=.int k->P.underlying t=some (.int k))/\(u=.bool->P.underlying t=some .bool)/\∀w,(zeroValue t).run P w=.ok (zv u) w
 |[],_,_,_,h=>by cases h
 |(k,_)::r,t,_,h,e=>by
  simp only[lk]at e;cases hb:beq k t with
  |true=>rw[hb]at e;cases e;cases AaU hb;exact h.1
  |false=>rw[hb]at e;exact TyOk.at h.2 e
theorem FsOk.at:∀{l:List (Nat×Ctr)} {k:Nat} {c:Ctr},FsOk P l->A1 l k=some c->c.ok P k/\∀args w,(callFunc k args).run P w=.ok (.enter k args) w
 |[],_,_,_,h=>by cases h
 |(j,_)::r,k,_,h,e=>by
  rw[fnd_cons]at e;split at e
  . rename_i hb;subst hb;cases e;exact h.1
  . exact FsOk.at h.2 e
theorem FmOk.at:∀{l:List (Nat×CtrM)} {k:Nat} {c:CtrM},FmOk P l->A1 l k=some c->c.ok P k/\∀args w,(callFunc k args).run P w=.ok (.enter k args) w
 |[],_,_,_,h=>by cases h
 |(j,_)::r,k,_,h,e=>by
  rw[fnd_cons]at e;split at e
  . rename_i hb;subst hb;cases e;exact h.1
  . exact FmOk.at h.2 e
theorem PfOk.at:∀{l:List (Nat×CtrP)} {k:Nat} {c:CtrP},PfOk P l->A1 l k=some c->c.ok P k/\∀args w,(callFunc k args).run P w=.ok (.enter k args) w
 |[],_,_,_,h=>by cases h
 |(j,_)::r,k,_,h,e=>by
  rw[fnd_cons]at e;split at e
  . rename_i hb;subst hb;cases e;exact h.1
  . exact PfOk.at h.2 e
mutual
theorem AHX{i:Nat}{p:Rp}:∀s:SV,B3 s=[]->subS i p s=s
 |.agg l,h=>AaX SV.agg (ACH l h)
 |.tup l,h=>AaX SV.tup (ACH l h)
 |.fn g l,h=>AaX (SV.fn g) (ACH l h)
 |.rp s o,h=>AaX (fun x=>SV.rp x o) (AHX s h)
 |.ap s n x k,h=>AaX (fun y=>SV.ap y n x k) (AHX s h)
 |.own _,h|.ptr _ _,h|.ep _ _ _ _ _,h=>by cases h
 |.int _ _,_|.bool _,_|.dat _ _,_|.str _ _,_|.ary _ _ _,_|.fv _ _ _,_|.nilS,_|.np _ _,_|.it _ _,_|.raw _,_|.undef,_|.dead,_=>rfl
theorem ACH{i:Nat}{p:Rp}:∀l:List SV,ownsLL l=[]->subL i p l=l
 |[],_=>rfl
 |s::l,h=>by
  have h:B3 s++ownsLL l=[]:=h;rw[List.append_eq_nil_iff]at h;simp only[subL,AHX s h.1,ACH l h.2]
end
section
variable{ρ ρ':Nat->Value}{R R':Nat->Option AR}{M:List Nat}{w:World}
mutual
theorem Ok.any:∀(s:SV) {v:Value},B3 s=[]->Ok ρ R M w s v->Ok ρ' R' M w s v
 |.int _ _,_,_,h|.bool _,_,_,h|.dat _ _,_,_,h|.str _ _,_,_,h|.ary _ _ _,_,_,h|.fv _ _ _,_,_,h|.nilS,_,_,h|.np _ _,_,_,h|.it _ _,_,_,h|.raw _,_,_,h|.undef,_,_,h|.dead,_,_,h=>h
 |.own _,_,e,_|.ptr _ _,_,e,_|.ep _ _ _ _ _,_,e,_=>by cases e
 |.agg l,_,e,⟨vs,h1,h2⟩=>⟨vs,h1,OkL.any l e h2⟩
 |.rp s _,_,e,⟨b,o0,u,vs,h1,h2,h3,h4⟩=>⟨b,o0,u,vs,h1,h2,Ok.any s e h3,h4⟩
 |.ap s _ _ _,_,e,⟨b,o,h1,h2⟩=>⟨b,o,Ok.any s e h1,h2⟩
 |.fn _ l,_,e,⟨vs,h1,h2⟩=>⟨vs,h1,OkV.any l e h2⟩
 |.tup l,_,e,⟨vs,h1,h2⟩=>⟨vs,h1,OkV.any l e h2⟩
theorem OkL.any:∀(l:List SV) {vs:List Value},ownsLL l=[]->OkL ρ R M w l vs->OkL ρ' R' M w l vs
 |[],_,_,h=>h
 |s::l,_,e,⟨u,c,r,h1,h2,h3,h4⟩=>
  have e':=List.append_eq_nil_iff.1 (show B3 s++ownsLL l=[] from e)
  ⟨u,c,r,h1,Ok.any s e'.1 h2,h3,OkL.any l e'.2 h4⟩
theorem OkV.any:∀(l:List SV) {vs:List Value},ownsLL l=[]->OkV ρ R M w l vs->OkV ρ' R' M w l vs
 |[],_,_,h=>h
 |s::l,_,e,⟨u,r,h1,h2,h3⟩=>
  have e':=List.append_eq_nil_iff.1 (show B3 s++ownsLL l=[] from e)
  ⟨u,r,h1,Ok.any s e'.1 h2,OkV.any l e'.2 h3⟩
end
end
section
variable[Anch]
variable{w0 w w':World}{Mu M:List Nat}{σ:AS}{L:A8}{S:List Res}{ρ:Nat->Value}{γ:Nat->List Value}{μ:Nat->List Nat}{ι:Nat->Nat}
def RdN(ρ:Nat->Value)(γ:Nat->List Value)(R:Nat->Option AR)(M':List Nat)(w:World):Nat->List Nat->Prop
 |0,I=>Rds ρ R M' w I
 |n+1,I=>Rds ρ R M' w I/\∀i∈I,∀e l,R i=some (.row e l)->RdN ρ γ R M' w n (ownsLL l)/\∃b,ρ i=.pointer (some ⟨b,0,none⟩)/\RdC M' w b 0 (γ i)/\OkL ρ R M' w l (γ i)
def RdR(ρ:Nat->Value)(γ:Nat->List Value)(R:Nat->Option AR)(M':List Nat)(w:World)(I:List Nat):Prop:=RdN ρ γ R M' w 4 I
section
variable{R:Nat->Option AR}{M':List Nat}{M'':List Nat}{I:List Nat}{i:Nat}{p:Rp}
theorem RdN.rds:∀{n:Nat} {I:List Nat},RdN ρ γ R M' w n I->Rds ρ R M' w I
 |0,_,h=>h
 |_+1,_,h=>h.1
theorem RdN.nil:∀{n:Nat},RdN ρ γ R M' w n []
 |0=>fun _ hi=>by cases hi
 |_+1=>⟨(fun _ hi=>by cases hi),fun _ hi=>by cases hi⟩
theorem RdN.mono:∀{n:Nat} {I J:List Nat},RdN ρ γ R M' w n J->(∀i∈I,i∈J)->RdN ρ γ R M' w n I
 |0,_,_,h,hs=>fun i hi=>h i (hs i hi)
 |_+1,_,_,h,hs=>⟨h.1.mono hs,fun i hi=>h.2 i (hs i hi)⟩
theorem RdN.drop(hs:∀b∈M'',b∈M'):∀{n:Nat} {I:List Nat},RdN ρ γ R M' w n I->RdN ρ γ R M'' w n I
 |0,_,h=>fun i hi p c x hR=>(h i hi p c x hR).adv (Adv.drop hs)
 |_+1,_,h=>⟨fun i hi p c x hR=>(h.1 i hi p c x hR).adv (Adv.drop hs),fun i hi e l hR=>by
  obtain⟨h0,b,h1,h2,h3⟩:=h.2 i hi e l hR;exact⟨RdN.drop hs h0,b,h1,h2.adv (Adv.drop hs),OkL.adv (Adv.drop hs) l h3⟩⟩
theorem RdR.drop(h:RdR ρ γ R M' w I)(hs:∀b∈M'',b∈M'):RdR ρ γ R M'' w I:=RdN.drop hs h
theorem RdR.cons(h1:RdR ρ γ R M' w [i])(h2:RdR ρ γ R M' w I):RdR ρ γ R M' w (i::I):=
 ⟨fun j hj=>(mem_cons.1 hj).elim (fun e=>h1.1 j (by simp[e])) (h2.1 j),fun j hj=>(mem_cons.1 hj).elim (fun e=>h1.2 j (by simp[e])) (h2.2 j)⟩
theorem AS6{i j:Nat}:A1 ((Ac.del i p).app none σ).res j=if j=i then none else(A1 σ.res j).map (AR.sub i p):=by
 show A1 (Z8 i (W0 i p σ.res)) j=_;rw[fnd_rdel,fnd_subR]
def Still(R R':Nat->Option AR)(I:List Nat):Prop:=∀i∈I,(∀p c (x:den c.ty),R i=some (.own p c x)->R' i=some (.own p c x))/\∀e l,R i=some (.row e l)->ownsLL l=[]->R' i=some (.row e l)
theorem Still.del(h:Still R (A1 σ.res) I)(hi:i∉I):Still R (A1 ((Ac.del i p).app none σ).res) I:=fun j hj=>by
 have hne:j≠i:=fun e=>hi (e▸hj);rw[AS6,if_neg hne];refine⟨fun q c x hR=>?_,fun e l hR hl=>?_⟩
 . rw[(h j hj).1 q c x hR];rfl
 . rw[(h j hj).2 e l hR hl];show some (AR.row e (subL i p l))=_;rw[ACH l hl]
theorem APi[Fx]:∀(I:List Nat) {as_:List Ac} {σ:AS} {S:List Res} {ι:Nat->Nat} (R:Nat->Option AR),Still R (A1 σ.res) I->HS w0 Mu M σ L w S ρ γ μ ι->frz R I=some as_ ->
  ∃S1 ι1,HS w0 Mu M (apps none as_ σ) L w S1 ρ γ μ ι1/\RdR ρ γ R (mm S1 M) w I/\∀b∈mm S1 M,b∈mm S M:=by
 intro I
 induction I with
 |nil=>
  intro as_ σ S ι R _ h hf
  cases hf
  exact⟨S,ι,h,RdN.nil,fun _ hb=>hb⟩
 |cons i I ih=>
  intro as_ σ S ι R hR h hf
  have hRI:Still R (A1 σ.res) I:=fun j hj=>hR j (AaQ _ hj)
  simp only[frz]at hf
  cases hh:has I i with
  |true=>
   rw[hh,cond_true]at hf
   obtain⟨S1,ι1,h1,h2,h3⟩:=ih R hRI h hf
   refine⟨S1,ι1,h1,RdR.cons ⟨fun j hj=>h2.1 j ?_,fun j hj=>h2.2 j ?_⟩ h2,h3⟩<;>(have:j=i:=by simpa using hj)<;>(subst this;exact has_iff.1 hh)
  |false=>
   have hni:i∉I:=fun hm=>by rw[has_iff.2 hm]at hh;cases hh
   rw[hh,cond_false]at hf
   generalize hg:ADD R i=o at hf
   cases o with
   |none=>exact(A2 hf).elim
   |some a1=>
    generalize hg2:frz R I=o2 at hf
    cases o2 with
    |none=>exact(A2 hf).elim
    |some r=>
     have hf:a1++r=as_:=AaO hf
     subst hf
     unfold ADD at hg
     cases hRi:R i with
     |none=>rw[hRi]at hg;exact(A2 hg).elim
     |some a=>
      rw[hRi]at hg
      cases a with
      |own p c xs=>
       cases p with
       |true=>exact(A2 hg).elim
       |false=>
        have hg:[Ac.del i (.dat c.ty xs)]=a1:=AaO hg
        subst hg
        have h0:=(hR i (AaT ..)).1 _ _ _ hRi
        have h4:OkD (mm (S.eraseIdx (ι i)) M) w c.ty xs (ρ i):=AUl h.hp (ι i) (h.row i _ h0) (h.res i _ h0)
        have h5:=h.del (p:=.dat c.ty xs) h0 ⟨by cases c<;>rfl,h4⟩
        obtain⟨S1,ι1,h1,h2,h3⟩:=ih R (hRI.del hni) h5 hg2
        refine⟨S1,ι1,h1,RdR.cons ⟨fun j hj q c' ys hq=>?_,fun j hj e' l hq=>?_⟩ h2,fun b hb=>AAQ (Aal S (ι i)) (h3 b hb)⟩
        . have:j=i:=by simpa using hj
          subst this
          rw[hRi]at hq;cases hq
          exact h4.adv (Adv.drop h3)
        . have:j=i:=by simpa using hj
          subst this
          rw[hRi]at hq;cases hq
      |row e l=>
       have hg:(match ownsLL l with
        |[]=>some [Ac.del i (.rp l)]
        |_=>none)=some a1:=hg
       cases hl:ownsLL l with
       |cons x y=>rw[hl]at hg;exact(A2 hg).elim
       |nil=>
        rw[hl]at hg
        have hg:[Ac.del i (.rp l)]=a1:=AaO hg
        subst hg
        have h0:=(hR i (AaT ..)).2 _ _ hRi hl
        obtain⟨⟨b,hb⟩,hc⟩:=h.row i _ h0
        have h6:=h.res i _ h0
        have h4:RdC (mm (S.eraseIdx (ι i)) M) w b 0 (γ i):=by
         have:=h.hp.freezeRow (ι i) (b:=blk (ρ i)) h6;rw[hb]at this;exact this
        have hs:∀b∈mm (S.eraseIdx (ι i)) M,b∈mm S M:=fun b hb=>AAQ (Aal S (ι i)) hb
        have h7:OkL ρ (A1 ((Ac.del i (.rp l)).app none σ).res) (mm (S.eraseIdx (ι i)) M) w l (γ i):=OkL.any l hl (OkL.adv (Adv.drop hs) l hc)
        have h5:=h.del (p:=.rp l) h0 ⟨b,γ i,hb,h4,h7⟩
        obtain⟨S1,ι1,h1,h2,h3⟩:=ih R (hRI.del hni) h5 hg2
        refine⟨S1,ι1,h1,RdR.cons ⟨fun j hj q c' ys hq=>?_,fun j hj e' l' hq=>?_⟩ h2,fun b hb=>hs b (h3 b hb)⟩
        . have:j=i:=by simpa using hj
          subst this
          rw[hRi]at hq;cases hq
        . have:j=i:=by simpa using hj
          subst this
          rw[hRi]at hq;cases hq
          exact⟨by rw[hl];exact RdN.nil,b,hb,h4.adv (Adv.drop h3),OkL.any l hl (OkL.adv (Adv.drop h3) l h7)⟩
end
end
end Go.Rx
