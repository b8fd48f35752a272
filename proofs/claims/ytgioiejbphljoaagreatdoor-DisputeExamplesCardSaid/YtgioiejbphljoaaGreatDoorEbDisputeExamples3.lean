/-
  Part DisputeExamples 3 of the texts that the statement's proof stands on: what memory holds, how code is walked, what the functions reckon. In the order in which they build.
-/
import Derived.RangeFuncLeaves
import Derived.RangeFuncNested
import Derived.TacticsIn
import Derived.RangeFuncKeeps
import Derived.Test.YtgioiejbphljoaaGreatDoorEbDisputeExamples2
open List (mem_append mem_cons mem_map mem_singleton replicate toArray)
open Nat (beq blt)
set_option linter.unusedVariables false
set_option linter.unusedSectionVars false
namespace Go.Sx
open Go Go.RowKit
variable[Trk]
def FinM(P:Program)(fn:Func)(R:Ending->World->Prop)(ds:List Deferred)(L:A7)(w:World):Prop:=
 (ds=[]/\∃v,(∀a,Knows fn.ntmps ds L a->(results fn a.tmps).run P w=.ok v w)/\R (.returned v) w) \/
 ∃D w',ds=[{ target:=.collected D,args:=#[] }]/\(Instr.takeDeferred D).run P w=.ok [] w'/\∃v,(∀a,Knows fn.ntmps ds L a->(results fn a.tmps).run P w'=.ok v w')/\R (.returned v) w'
variable{P:Program}{fn:Func}{R:Ending->World->Prop}{w:World}
theorem FinM.of{ds:List Deferred}{L:A7}(h:ABC P fn R ds L w):FinM P fn R ds L w:=.inl h
theorem ABZ{f:FuncId}{c:Code}{l:List Value}{N:Nat}(E:P.funcs[f]?=some fn)(F:fn.body=some c)(hN:fn.ntmps=N)(hl:Nat.ble l.length N=true)(h:CW P N c [] (P6 0 l) w (FinM P fn R) (FinM P fn R) NoX NoZ):Calls P f l.toArray w R:=by
 subst hN;refine(callsIn_wide (n:=3)).1 (callsIn_of_wp_marks E F trivial (wpIn_wide.2 (wp_mono (h _ ⟨?_,rfl,?_⟩) ?_)) rfl)
 . have:l.length<=fn.ntmps:=AYT hl;simp;omega
 . intro t v U;obtain⟨j,rfl,C⟩:=ADG l 0 t v U;have V:j<l.length:=by
    rcases AYF j l.length with h|h
    . exact h
    . simp[List.getElem?_eq_none h]at C
   simp only[Nat.zero_add];rw[Array.getElem?_append_left (by simpa using V)];simpa using C
 . intro e a w' J;have fin:∀ds L,Knows fn.ntmps ds L a->FinM P fn R ds L w'->LeavesInM Fence.wide 3 P fn a.tmps R a.defers .returning w':=fun ds L H I=>by
    rcases I with⟨rfl,v,hv,W⟩|⟨D,w2,rfl,U,v,hv,W⟩
    . rw[H.defers];exact⟨v,hv a H,W⟩
    . rw[H.defers];exact⟨by simp,.inl ⟨D,w2,rfl,U,v,hv a H,W⟩⟩
   cases e with
   |normal=>obtain⟨ds,L,H,I⟩:=J;exact fin ds L H I
   |ret=>obtain⟨ds,L,H,I⟩:=J;exact fin ds L H I
   |panic ch=>obtain⟨ds,L,H,I⟩:=J;exact I.elim
   |exit i=>obtain⟨ds,L,H,hx⟩:=J;exact hx.elim
   |goto l=>exact J.elim
   |outgrown=>exact J.elim
end Go.Sx
namespace Go.Sx
open Go Go.RowKit
variable[Trk]
def FW(l:Nat):Fence:=Fence.wide.inRound l
theorem AMb{l n:Nat}{P:Program}{f:FuncId}{args:Array Value}{w:World}{R:Ending->World->Prop}(h:Calls P f args w R):CallsIn (FW l) n P f args w R:=
 show CallsIn Fence.wide n P f args w R from callsIn_wide.2 h
theorem ANq{l n:Nat}{P:Program}{o:Oper}{a:Act}{next next':Act->World->Prop}{Q:Exit->Act->World->Prop}(H:∀a w,next a w->next' a w){r:Result Next}(h:o.upon P a next Q r):o.uponIn (FW l) n P a next' Q r:=by
 unfold Oper.upon at h;split at h
 . exact H _ _ h
 . exact H _ _ h
 . exact H _ _ h
 . refine⟨fun e=>(by cases e),AMb (h.mono fun e w2 I=>?_)⟩;cases e with
   |returned v=>exact H _ _ I
   |panicked c=>exact I
   |outgrown=>exact I
 . refine⟨fun e=>(by cases e),fun c cs _=>?_⟩;obtain⟨v,w2,I,J⟩:=h c cs;exact⟨v,w2,H _ _ I,(show StepsIn (Machine.fenced P Fence.wide) P _ _ from stepsIn_wide.2 J)⟩
 . exact h
 . exact h.elim
def K8:Op->Bool
 |.defer _=>false
 |_=>true
theorem AF1{l n:Nat}{P:Program}{ops:Array Oper}{Q:Exit->Act->World->Prop}(I:¬LetsOut Q):∀{os:List Oper} {a:Act} {w:World},os.all (fun o=>K8 o.op)=true->wpList P ops Q os a w->wpListIn (FW l) n P ops Q os a w
 |[],_,_,_,h=>h
 |o::os,a,w,hd,h=>by
  simp only[List.all_cons,Bool.and_eq_true]at hd;have ih:∀a w,wpList P ops Q os a w->wpListIn (FW l) n P ops Q os a w:=fun a w=>AF1 I hd.2;unfold wpList at h;unfold wpListIn;split at h
  . rename_i H;rw[AYB H];rcases h with h|h
    . refine⟨fun _ _=>trivial,?_⟩;have J:Oper.semAt (FW l).round a.eval o=execOp a.eval o:=Oper.semAt_eq _ _ _ fun c U=>by rw[U]at hd;simp[K8]at hd
      rw[J];exact ANq ih h
    . exact absurd h.2 I
  . rename_i H;rw[if_neg H];exact⟨fun _ _=>trivial,ih _ _ h⟩
def CI(l n:Nat)(P:Program)(N:Nat)(c:Code)(ds:List Deferred)(L:A7)(w:World)(A B:A3)(X:Nat->A3)(Z:List PanicEntry->A3):Prop:=∀a,Knows N ds L a->c.wpIn (FW l) n P (R1 N A B X Z) a w
variable{l n:Nat}{P:Program}{N:Nat}{ds:List Deferred}{L:A7}{w:World}{A B:A3}{X:Nat->A3}{Z:List PanicEntry->A3}
theorem AMc:¬LetsOut (R1 N A B X Z):=fun⟨_,_,h⟩=>h
theorem AAw{id:Nat}{os:List Oper}(hd:os.all (fun o=>K8 o.op)=true)(h:Reg P N os.toArray .seq os ds L w A B X Z):CI l n P N (.region id os.toArray false) ds L w A B X Z:=
 fun a H=>wpIn_region_lit (AF1 AMc hd (h a H))
theorem AG3{x y:Code}(h:CI l n P N x ds L w (fun ds' L' w'=>CI l n P N y ds' L' w' A B X Z) B X Z):CI l n P N (.seq x y) ds L w A B X Z:=fun a J=>
 wpIn_seq (wpIn_mono (h a J) fun e a' w' I=>by
  cases e with
  |normal=>obtain⟨ds',L',H,hk⟩:=I;exact hk a' H
  |_=>exact I)
theorem ARG(h:A ds L w):CI l n P N .skip ds L w A B X Z:=fun a H=>wpIn_skip ⟨ds,L,H,h⟩
theorem ARH{c:Operand}{x y:Code}{b:Bool}(I:ev L c=some (.bool b))(J:b=true->CI l n P N x ds L w A B X Z)(U:b=false->CI l n P N y ds L w A B X Z):CI l n P N (.cond c x y) ds L w A B X Z:=fun a H=>by
 cases b with
 |true=>exact wpIn_cond_true (H.eval I) (J rfl a H)
 |false=>exact wpIn_cond_false (H.eval I) (U rfl a H)
theorem ASk{c:Code}{L':A7}(H:Sub L L')(h:CI l n P N c ds L w A B X Z):CI l n P N c ds L' w A B X Z:=fun a I=>h a (I.sub H)
theorem AD6{id:Nat}{c:Code}(h:CI l n P N c ds L w A B (exB id A X) Z):CI l n P N (.block id c) ds L w A B X Z:=fun a U=>
 wpIn_block (wpIn_mono (h a U) fun e a' w' J=>by
  cases e with
  |exit i=>
   obtain⟨ds',L',H,hx⟩:=J
   simp only[Exit.inBlock]
   by_cases hi:i=id
   . subst hi
     rw[AYB rfl]
     exact⟨ds',L',H,by simpa[exB] using hx⟩
   . rw[if_neg hi]
     refine⟨ds',L',H,?_⟩
     have I:beq i id=false:=by
      cases I:beq i id with
      |false=>rfl
      |true=>exact absurd (AX5 I) hi
     simpa[exB,I] using hx
  |_=>exact J)
end Go.Sx
namespace Go.Rx
open Go Go.Sx Go.RowKit
variable[Trk][Sg][Sf]
def APE(k:IntKind)(n:Nat):Enc (List Int) where
 n:=max n 1
 pos:=by omega
 R:=fun _ _ cs x=>0<n/\x.length=n/\cs=x.map (Value.int k)/\∀y∈x,InK k y
 len:=fun⟨h0,h1,h2,_⟩=>by rw[h2,AYZ];omega
 kp:=fun _ h=>h
 mon:=fun _ h=>h
 one:=fun⟨_,_,h,_⟩ u hu=>by rw[h]at hu;obtain⟨y,_,rfl⟩:=mem_map.1 hu;rfl
def AD7:Enc Nat where
 n:=1
 pos:=by decide
 R:=fun _ _ cs x=>cs=[.func (.func x) #[] #[]]
 len:=fun h=>by rw[h];rfl
 kp:=fun _ h=>h
 mon:=fun _ h=>h
 one:=fun h u hu=>by rw[h]at hu;simp at hu;subst hu;rfl
def mpE{P:Program}{kt:TypeId}{κ α:Type}(K:Option (Ky P kt κ))(E:Enc α)(ag:Bool):Enc (A4 κ α) where
 n:=1
 pos:=by decide
 R:=fun M w cs f=>∃v k,cs=[v]/\K=some k/\RdF k E ag M w v f
 len:=fun⟨_,_,h,_⟩=>by rw[h];rfl
 kp:=fun {M w w' cs x} hk ⟨v,k,h1,h2,h3⟩=>⟨v,k,h1,h2,h3.adv (M':=M) ⟨hk,fun _ h=>.inl h⟩⟩
 mon:=fun {M M' w cs x} hm ⟨v,k,h1,h2,h3⟩=>⟨v,k,h1,h2,h3.adv ⟨Kp.refl _ _,hm⟩⟩
 one:=fun⟨v,k,h1,h2,h3⟩ u hu=>by rw[h1]at hu;simp at hu;subst hu;exact h3.oneC
class Se(P:outParam Program)where
 E:(n:Nat)->Enc (Sg.S n)
 ky:(m:Nat)->(k:Ty)->Option (Ky P m (den k))
variable{P:Program}[Se P]
def Ty.agg:Ty->Bool
 |.st _=>true
 |.arr _ _=>true
 |_=>false
def enc:(t:Ty)->Enc (den t)
 |.int k=>B1 k
 |.bool=>boolE
 |.sl t=>K5 (enc t)
 |.st n=>Se.E n
 |.arr k n=>APE k n
 |.mp m k v=>mpE (Se.ky m k) (enc v) v.agg
 |.fno _=>AD7
def AE2:(l:List Ty)->Enc (P2 l)
 |[]=>{ n:=1,pos:=by decide,R:=fun _ _ _ _=>False,len:=fun h=>h.elim,kp:=fun _ h=>h,mon:=fun _ h=>h,one:=fun h=>h.elim }
 |[t]=>enc t
 |t::u::l=>B0 (enc t) (AE2 (u::l))
class Sl:Prop where
 is:∀n M w cs (x:Sg.S n),(Se.E (P:=P) n).R M w cs x↔(AE2 (P:=P) (Sf.ft n)).R M w cs (Sf.un n x)
def OkD(M:List Nat)(w:World)(t:Ty)(x:den t)(v:Value):Prop:=Vl (enc t) t.agg M w v x
def FnR(P:Program)[Se P](M:List Nat)(w:World)(v:Value):(a:List Ty)->(r:Ty)->P7 a r->List Value->Prop
 |[],r,f,vs=>∀y,f=some y->CallsV P v vs w fun e w2=>∃u,e=.returned u/\OkD M w2 r y u/\Ext w w2
 |t::l,r,f,vs=>∀(x:den t) (u:Value),OkD M w t x u->FnR P M w v l r (f x) (vs++[u])
def FnOk(M:List Nat)(w:World)(v:Value)(a:List Ty)(r:Ty)(f:P7 a r):Prop:=∀M1 w1,Adv M M1 w w1->MLt M1 w1->FnR P M1 w1 v a r f []
def AMd:(t:Ty)->den t->List Value
 |.int k,x=>[.int k x]
 |.bool,x=>[.bool x]
 |.arr k _,x=>List.map (Value.int k) x
 |_,_=>[undef]
def AJs:(l:List Ty)->P2 l->List Value
 |[],_=>[]
 |[t],x=>AMd t x
 |t::u::l,x=>AMd t x.1++AJs (u::l) x.2
def ok1:(t:Ty)->den t->Prop
 |.int k,x=>InK k x
 |.bool,_=>True
 |.arr k n,x=>0<n/\List.length x=n/\∀y∈(show List Int from x),InK k y
 |_,_=>False
def okT:(l:List Ty)->P2 l->Prop
 |[],_=>False
 |[t],x=>ok1 t x
 |t::u::l,x=>ok1 t x.1/\okT (u::l) x.2
def M8:(t:Ty)->den t->Value
 |.int k,x=>.int k x
 |.bool,x=>.bool x
 |.arr k _,x=>.agg (toArray (List.map (Value.int k) x))
 |.st n,x=>.agg (toArray (AJs (Sf.ft n) (Sf.un n x)))
 |_,_=>undef
def okI:(t:Ty)->den t->Prop
 |.st n,x=>okT (Sf.ft n) (Sf.un n x)
 |t,x=>ok1 t x
def AQX:(l:List Ty)->P2 l->List Value
 |[],_=>[]
 |[t],x=>[M8 t x]
 |t::u::l,x=>M8 t x.1::AQX (u::l) x.2
def ADK:(l:List Ty)->P2 l->Prop
 |[],_=>True
 |[t],x=>okI t x
 |t::u::l,x=>okI t x.1/\ADK (u::l) x.2
def KI(M:List Nat)(B:Nat)(W W':World):Prop:=W'.os=W.os/\W'.tape=W.tape/\W'.output=W.output/\W.heap.size<=W'.heap.size/\∀b,b<B->b∉M->W'.heap[b]?=W.heap[b]?
def ItV(P:Program)(M:List Nat)(w:World)(v:Value)(ts:List Ty)(xs:List (P2 ts)):Prop:=
 ∃gf lb,v=.func (.func gf) #[] lb/\(∀args w,(callFunc gf args).run P w=.ok (.enter gf args) w)/\(∀x∈xs,ADK ts x)/\∀M1 w1,Adv M M1 w w1->MLt M1 w1 ->
  ∀(α:Type) (val:α->P2 ts) (zs:List α),zs.map val=xs->SeqStopsK Fence.wide 2 P gf lb (fun a=>toArray (AQX ts (val a))) (KI M1 w1.heap.size) (fun ys=>ys=zs) (fun pre=>pre <+: zs) zs.length w1
def NpOk(M:List Nat)(w:World)(t:Ty)(x:Option (den t))(v:Value):Prop:=
 (x=none/\v=.pointer none)\/∃y b o vs,x=some y/\v=.pointer (some ⟨b,o,none⟩)/\RdC M w b o vs/\(enc t).R M w vs y
mutual
def Ok(ρ:Nat->Value)(R:Nat->Option AR)(M:List Nat)(w:World):SV->Value->Prop
 |.int k x,v=>v=.int k x/\InK k x
 |.bool b,v=>v=.bool b
 |.dat t x,v=>t.agg=false/\OkD M w t x v
 |.str n x,v=>OkD M w (.st n) x v
 |.ary k n x,v=>OkD M w (.arr k n) x v
 |.agg l,v=>∃vs,v=.agg (toArray vs)/\OkL ρ R M w l vs
 |.own i,v=>v=ρ i/\v.cells=#[v]/\v.oneCell'=true
 |.ptr i o,v=>∃b,ρ i=.pointer (some ⟨b,0,none⟩)/\v=.pointer (some ⟨b,o,none⟩)
 |.ep i t x z o,v=>∃g n c p e xs,ρ i=.slice (some ⟨g,0,none⟩) n c/\R i=some (.own p (.sl e t) xs)/\(0<=x/\x<(List.length xs:Nat))/\v=.pointer (some ⟨g,x.toNat*(enc t).n+o,none⟩)/\∀y,z=some y->ixo xs x=some y
 |.rp s o,v=>∃b o0 u vs,v=.pointer (some ⟨b,o0+o,none⟩)/\RdC M w b o0 vs/\Ok ρ R M w s u/\u.cells=toArray vs
 |.fv a r f,v=>FnOk M w v a r f/\v.cells=#[v]/\v.oneCell'=true
 |.it ts xs,v=>ItV P M w v ts xs/\v.cells=#[v]/\v.oneCell'=true
 |.np t x,v=>NpOk M w t x v
 |.fn g l,v=>∃vs,v=.func (.func g) #[] (toArray vs)/\OkV ρ R M w l vs
 |.nilS,v=>v=.slice none 0 0
 |.raw u,v=>v=u/\u.cells=#[u]/\u.oneCell'=true
 |.ap s n x k,v=>∃b o,Ok ρ R M w s (.pointer (some ⟨b,o,none⟩))/\v=.pointer (some ⟨b,o+x.toNat,none⟩)/\0<=x/\x+k<=n
 |.undef,v=>v=Go.undef
 |.dead,v=>v.cells=#[v]
 |.tup l,v=>∃vs,v=.tuple (toArray vs)/\OkV ρ R M w l vs
def OkL(ρ:Nat->Value)(R:Nat->Option AR)(M:List Nat)(w:World):List SV->List Value->Prop
 |[],vs=>vs=[]
 |s::l,vs=>∃u c r,vs=c++r/\Ok ρ R M w s u/\u.cells=toArray c/\OkL ρ R M w l r
def OkV(ρ:Nat->Value)(R:Nat->Option AR)(M:List Nat)(w:World):List SV->List Value->Prop
 |[],vs=>vs=[]
 |s::l,vs=>∃u r,vs=u::r/\Ok ρ R M w s u/\OkV ρ R M w l r
end
variable{M:List Nat}{M':List Nat}{w:World}{w':World}{t:Ty}{v:Value}{ts:List Ty}{xs:List (P2 ts)}{x:Option (den t)}
theorem OkD.adv{x:den t}(h:OkD M w t x v)(H:Adv M M' w w'):OkD M' w' t x v:=Vl.adv H h
theorem ItV.adv(h:ItV P M w v ts xs)(H:Adv M M' w w'):ItV P M' w' v ts xs:=by
 obtain⟨gf,lb,V,U,J,I⟩:=h;exact⟨gf,lb,V,U,J,fun M1 w1 h=>I M1 w1 (H.trans h)⟩
theorem NpOk.adv(h:NpOk M w t x v)(H:Adv M M' w w'):NpOk M' w' t x v:=by
 rcases h with h|⟨y,b,o,vs,V,U,J,I⟩
 . exact .inl h
 . exact .inr ⟨y,b,o,vs,V,U,J.adv H,(enc t).adv I H⟩
theorem NpOk.mon(H:∀b∈M',b∈M)(h:NpOk M w t x v):NpOk M' w t x v:=h.adv (Adv.drop H)
theorem NpOk.one(h:NpOk M w t x v):v.cells=#[v]/\v.oneCell'=true:=by
 rcases h with⟨_,rfl⟩|⟨y,b,o,vs,H,rfl,_⟩<;>exact⟨rfl,rfl⟩
theorem ItV.mon(I:∀b∈M',b∈M)(h:ItV P M w v ts xs):ItV P M' w v ts xs:=by
 obtain⟨gf,lb,W,V,U,J⟩:=h;exact⟨gf,lb,W,V,U,fun M1 w1 h=>J M1 w1 ⟨h.kp.mono fun b H=>.inl (I b H),fun b H=>(h.new b H).imp (I b) id⟩⟩
theorem FnOk.adv{a:List Ty}{r:Ty}{f:P7 a r}(h:FnOk M w v a r f)(H:Adv M M' w w'):FnOk M' w' v a r f:=fun M1 w1 I=>h M1 w1 (H.trans I)
variable{ρ:Nat->Value}{R:Nat->Option AR}
mutual
theorem Ok.adv(H:Adv M M' w w'):∀(s:SV) {v:Value},Ok ρ R M w s v->Ok ρ R M' w' s v
 |.int _ _,_,h=>h
 |.bool _,_,h=>h
 |.dat _ _,_,h=>⟨h.1,OkD.adv h.2 H⟩
 |.str _ _,_,h=>OkD.adv h H
 |.ary _ _ _,_,h=>OkD.adv h H
 |.agg l,_,⟨vs,J,I⟩=>⟨vs,J,OkL.adv H l I⟩
 |.own _,_,h=>h
 |.ptr _ _,_,h=>h
 |.ep _ _ _ _ _,_,h=>h
 |.rp s _,_,⟨b,o0,u,vs,J,I,V,U⟩=>⟨b,o0,u,vs,J,I.adv H,Ok.adv H s V,U⟩
 |.fv _ _ _,_,h=>⟨FnOk.adv h.1 H,h.2⟩
 |.it _ _,_,h=>⟨ItV.adv h.1 H,h.2⟩
 |.np _ _,_,h=>NpOk.adv h H
 |.fn _ l,_,⟨vs,J,I⟩=>⟨vs,J,OkV.adv H l I⟩
 |.nilS,_,h=>h
 |.raw _,_,h=>h
 |.ap s _ _ _,_,⟨b,o,J,I⟩=>⟨b,o,Ok.adv H s J,I⟩
 |.undef,_,h=>h
 |.dead,_,h=>h
 |.tup l,_,⟨vs,J,I⟩=>⟨vs,J,OkV.adv H l I⟩
theorem OkL.adv(H:Adv M M' w w'):∀(l:List SV) {vs:List Value},OkL ρ R M w l vs->OkL ρ R M' w' l vs
 |[],_,h=>h
 |s::l,_,⟨u,c,r,V,U,J,I⟩=>⟨u,c,r,V,Ok.adv H s U,J,OkL.adv H l I⟩
theorem OkV.adv(H:Adv M M' w w'):∀(l:List SV) {vs:List Value},OkV ρ R M w l vs->OkV ρ R M' w' l vs
 |[],_,h=>h
 |s::l,_,⟨u,r,U,J,I⟩=>⟨u,r,U,Ok.adv H s J,OkV.adv H l I⟩
end
theorem ACz{v:Value}(h:v.oneCell'=true):v.cells=#[v]:=by
 cases v<;>first|rfl|cases h
theorem Ok.cells1:∀(s:SV) {v:Value},one s=true->Ok ρ R M w s v->v.cells=#[v]
 |.int _ _,_,_,h=>by rw[h.1];rfl
 |.bool _,_,_,h=>by rw[show _=_ from h];rfl
 |.dat _ _,_,_,h=>by
  obtain⟨J,cs,I,H|H⟩:=h
  . rw[J]at H;cases H.1
  . obtain⟨_,rfl⟩:=H;exact ACz ((enc _).one I _ (by simp))
 |.own _,_,_,h=>h.2.1
 |.ptr _ _,_,_,h=>by obtain⟨b,_,rfl⟩:=h;rfl
 |.ep _ _ _ _ _,_,_,h=>by obtain⟨g,n,c,p,e,xs,_,_,_,rfl,_⟩:=h;rfl
 |.rp _ _,_,_,h=>by obtain⟨b,o0,u,vs,rfl,_⟩:=h;rfl
 |.fv _ _ _,_,_,h=>h.2.1
 |.fn _ _,_,_,h=>by obtain⟨vs,rfl,_⟩:=h;rfl
 |.nilS,_,_,h=>by rw[show _=_ from h];rfl
 |.raw _,_,_,h=>by rw[h.1];exact h.2.1
 |.it _ _,_,_,h=>h.2.1
 |.np _ _,_,_,h=>(NpOk.one h).1
 |.ap _ _ _ _,_,_,h=>by obtain⟨b,o,_,rfl,_⟩:=h;rfl
 |.dead,_,_,h=>h
 |.str _ _,_,h,_=>by cases h
 |.ary _ _ _,_,h,_=>by cases h
 |.agg _,_,h,_=>by cases h
 |.tup _,_,h,_=>by cases h
 |.undef,_,h,_=>by cases h
theorem Ok.oneC:∀(s:SV) {v:Value},ASe s=true->Ok ρ R M w s v->∀u∈v.cells.toList,u.oneCell'=true
 |.int _ _,_,_,h=>by rw[h.1];exact fun u H=>by simp[Value.cells]at H;rw[H];rfl
 |.bool _,_,_,h=>by rw[show _=_ from h];exact fun u H=>by simp[Value.cells]at H;rw[H];rfl
 |.dat _ _,_,_,h=>by
  obtain⟨V,cs,J,I|I⟩:=h
  . rw[V]at I;cases I.1
  . obtain⟨_,rfl⟩:=I;have U:=(enc _).one J _ (mem_singleton.2 rfl);rw[ACz U];exact fun u H=>by simp at H;rw[H];exact U
 |.own _,_,_,h=>by rw[h.2.1];exact fun u H=>by simp at H;rw[H];exact h.2.2
 |.ptr _ _,_,_,h=>by obtain⟨b,_,rfl⟩:=h;exact fun u H=>by simp[Value.cells]at H;rw[H];rfl
 |.ep _ _ _ _ _,_,_,h=>by obtain⟨g,n,c,p,e,xs,_,_,_,rfl,_⟩:=h;exact fun u H=>by simp[Value.cells]at H;rw[H];rfl
 |.rp _ _,_,_,h=>by obtain⟨b,o0,u,vs,rfl,_⟩:=h;exact fun u H=>by simp[Value.cells]at H;rw[H];rfl
 |.fv _ _ _,_,_,h=>by rw[h.2.1];exact fun u H=>by simp at H;rw[H];exact h.2.2
 |.it _ _,_,_,h=>by rw[h.2.1];exact fun u H=>by simp at H;rw[H];exact h.2.2
 |.np _ _,_,_,h=>by rw[(NpOk.one h).1];exact fun u H=>by simp at H;rw[H];exact(NpOk.one h).2
 |.fn _ _,_,_,h=>by obtain⟨vs,rfl,_⟩:=h;exact fun u H=>by simp[Value.cells]at H;rw[H];rfl
 |.raw _,_,_,h=>by rw[h.1,h.2.1];exact fun u H=>by simp at H;rw[H];exact h.2.2
 |.ap _ _ _ _,_,_,h=>by obtain⟨b,o,_,rfl,_⟩:=h;exact fun u H=>by simp[Value.cells]at H;rw[H];rfl
 |.nilS,_,_,h=>by rw[show _=_ from h];exact fun u H=>by simp[Value.cells]at H;rw[H];rfl
 |.ary _ _ _,_,_,h=>by
  obtain⟨cs,J,I|I⟩:=h
  . obtain⟨_,rfl⟩:=I;exact fun u H=>(APE _ _).one J u (by simpa[Value.cells] using H)
  . cases I.1
 |.str _ _,_,h,_=>by cases h
 |.agg _,_,h,_=>by cases h
 |.tup _,_,h,_=>by cases h
 |.undef,_,h,_=>by cases h
 |.dead,_,h,_=>by cases h
end Go.Rx
namespace Go.Sx
open Go Go.RowKit
variable[Trk]
def Rgi(n:Nat)(P:Program)(N:Nat)(ops:Array Oper)(l:List Oper)(ds:List Deferred)(L:A7)(w:World)(A B:A3)(X:Nat->A3)(Z:List PanicEntry->A3):Prop:=
 ∀a,Knows N ds L a->wpListIn Fence.wide n P ops (R1 N A B X Z) l a w
variable{n:Nat}{P:Program}{N:Nat}{ops:Array Oper}{rest:List Oper}{ds:List Deferred}{L:A7}{w:World}{A B:A3}{X:Nat->A3}{Z:List PanicEntry->A3}
theorem AHy{id:Nat}{l:List Oper}(n:Nat)(h:Rgi n P N l.toArray l ds L w A B X Z):CW P N (.region id l.toArray false) ds L w A B X Z:=fun a H=>wpIn_wide.1 (wpIn_region_lit (h a H))
theorem Rgi.nil(h:A ds L w):Rgi n P N ops [] ds L w A B X Z:=fun a H=>⟨ds,L,H,h⟩
theorem Rgi.val{o:Oper}{d:Nat}(v:Value)(V:o.guard=none)(hd:o.dst=some d)(hN:blt d N=true)(H:K8 o.op=true)(U:∀a,Knows N ds L a->(execOp a.eval o).run P w=.ok (.value v) w)(h:Rgi n P N ops rest ds ((d,v)::L) w A B X Z):Rgi n P N ops (o::rest) ds L w A B X Z:=fun a I=>by
 unfold wpListIn;rw[AYB (by unfold Region.wanted;rw[V])];refine⟨fun _ _=>trivial,?_⟩;have J:Oper.semAt Fence.wide.round a.eval o=execOp a.eval o:=Oper.semAt_eq _ _ _ fun c W=>by rw[W]at H;simp[K8]at H
 rw[J,U a I];show wpListIn _ _ _ _ _ rest (a.put o.dst v) w;rw[hd];exact h _ (I.put hN v)
theorem Rgi.yield{f x:Operand}{l d:Nat}{v:Value}{ts:Array TypeId}{ty:TypeId}{pos:String}{af:Array Edge}{R:Ending->World->Prop}(V:ev L f=some (.func (.yield l) #[] #[]))(hx:ev L x=some v)(hN:blt d N=true)(C:YieldAt Fence.wide (n-1) P l #[v] w R)(h:∀e w',R e w'->∃u,e=.returned u/\Rgi n P N ops rest ds ((d,u)::L) w' A B X Z):
  Rgi n P N ops (⟨some d,.call ⟨.value f,#[x],ts⟩,ty,pos,af,none⟩::rest) ds L w A B X Z:=fun a J=>by
 obtain⟨fn,tmps,assign,body,hy,D⟩:=C
 unfold wpListIn
 rw[AYB (by rfl)]
 refine⟨fun _ _=>trivial,?_⟩
 have U:∀o:Oper,K8 o.op=true->Oper.semAt Fence.wide.round a.eval o=execOp a.eval o:=fun o I=>Oper.semAt_eq _ _ _ fun c W=>by rw[W]at I;simp[K8]at I
 rw[U _ rfl]
 have H:(execOp a.eval ⟨some d,.call ⟨.value f,#[x],ts⟩,ty,pos,af,none⟩).run P w=.ok (.round l fn tmps assign body) w:=by
  simp[execOp,resolve,J.eval V,J.eval hx,Deferred.ofValue,invoke,hy]
 rw[H]
 refine⟨fun e=>(by cases e),D.mono fun e w' F=>?_⟩
 obtain⟨u,rfl,E⟩:=h e w' F
 exact E _ (J.put hN u)
def gOf(w:World)(b:Nat):Option Nat:=match w.cell? ⟨b,0,none⟩ with
 |some v=>(ob v).head?
 |none=>none
structure KB(b2:Nat)(w w':World):Prop where
 size:w.heap.size<=w'.heap.size
 cell:∀b j v,b≠b2->gOf w b2≠some b->w.cell? ⟨b,j,none⟩=some v->w'.cell? ⟨b,j,none⟩=some v
 gof:∀g,gOf w' b2=some g->gOf w b2=some g\/w.heap.size<=g
theorem KB.refl(b2:Nat)(w:World):KB b2 w w:=⟨AYE _,fun _ _ _ _ _ h=>h,fun _ h=>.inl h⟩
theorem KB.trans{b2:Nat}{A B C:World}(h:KB b2 A B)(k:KB b2 B C):KB b2 A C:=
 ⟨AYG h.size k.size,fun b j v U J I=>k.cell b j v U (fun e=>(h.gof b e).elim J fun H=>by
  have:=AHo I;have:b<A.heap.size:=this;omega) (h.cell b j v U J I),fun g V=>(k.gof g V).elim (h.gof g) fun H=>.inr (AYG h.size H)⟩
theorem KB.of_ext{b2:Nat}{A B:World}(h:Ext A B)(I:b2<A.heap.size):KB b2 A B:=
 ⟨h.size,fun b j v _ _ J=>h.cell (p:=⟨b,j,none⟩) (by simp) J,fun g H=>.inl (by
  unfold gOf at H ⊢;rw[World.cell?_of_block (a:=⟨b2,0,none⟩) (w:=A) (h.block b2 I (by simp))]at H;exact H)⟩
theorem KB.putObj{b2 l:Nat}{o o':Obj}{W:World}(h:W.heap[l]?=some o)(V:o.isCells=false)(U:b2≠l):KB b2 W (W.putObj l o'):=by
 have H:∀b,b≠l->(W.putObj l o').heap[b]?=W.heap[b]?:=fun b U=>World.putObj_heap_other U;refine⟨by simp,fun b j v _ _ I=>?_,fun g J=>.inl ?_⟩
 . by_cases e:b=l
   . subst e;unfold World.cell? at I;simp only[h]at I;cases o<;>simp[Obj.isCells]at V I
   . rw[World.cell?_of_block (a:=⟨b,j,none⟩) (w:=W) (H b e)];exact I
 . unfold gOf at J ⊢;rw[World.cell?_of_block (a:=⟨b2,0,none⟩) (w:=W) (H b2 U)]at J;exact J
theorem ABp{a b:World}(h:Below a.heap.size a b)(t:¬Trk.t):Ext a b:=⟨h.os,h.tape,h.output,h.size,fun k hk _=>h.block k hk,fun h=>absurd h t⟩
theorem Ext.grownBy{a b:World}(h:Ext a b):a.grownBy b none:=⟨h.os,h.tape,h.output,h.size,fun k hk _=>h.block k hk (by simp)⟩
end Go.Sx
namespace Go.Sx
open Go Go.RowKit
variable[Trk]
def AJt{α:Type}(E:Enc α):Prop:=∀{M M':List Nat} {w w':World} {cs:List Value} {x:α},E.R M w cs x->E.R M' w' cs x
variable{α:Type}{E:Enc α}{M:List Nat}{M':List Nat}{w:World}{w':World}{e:TypeId}{Bb:Nat}{v:Value}{xs:List α}
theorem Chunks.flat(H:AJt E):∀{cs:List Value} {xs:List α},Chunks E M w cs xs->Chunks E M' w' cs xs
 |_,[],h=>h
 |_,_::_,⟨c,rest,h,J,I⟩=>⟨c,rest,h,H J,Chunks.flat H I⟩
theorem Own.flat(I:AJt E)(h:Own E e Bb M w v xs)(H:∀b∈ob v,w'.heap[b]?=w.heap[b]?):Own E e Bb M' w' v xs:=by
 rcases h with h|⟨g,cap,cur,rfl,D,C,W,V,U,J⟩
 . exact .inl h
 . exact .inr ⟨g,cap,cur,rfl,D,by rw[H g (by simp[ob])];exact C,W,V,U,Chunks.flat I J⟩
theorem Own.isC(h:Own E e Bb M w v xs):∀b∈ob v,∃o,w.heap[b]?=some o/\o.isCells=true:=by
 rcases h with⟨a,rfl,_⟩|⟨g,cap,cur,rfl,C,I,W,V,U,J⟩
 . intro b H;cases a<;>cases H
 . intro b H;have:b=g:=by simpa[ob] using H
   subst this;exact⟨_,I,rfl⟩
variable{t:TypeId}{w0 W W':World}{b2:Nat}{v':Value}{xs':List α}
abbrev F5(E:Enc α)(e t:TypeId)(b2:Nat)(v:Value)(xs:List α):List Res:=[ownR [] E e v xs,rowR t b2 [v]]
theorem Hp.turnG(T:AJt E)(K:¬Trk.t){row:Option Nat}(h:Hp w0 [] M (F5 E e t b2 v xs) W)(J:W.grownBy W' row)(D:∀r,row=some r->w0.heap.size<=r/\∃o:Obj,W.heap[r]?=some o/\o.isCells=false):Hp w0 [] M (F5 E e t b2 v xs) W':=by
 have hk:Kp [] w0 W':=⟨J.os.trans h.kp.os,J.tape.trans h.kp.tape,J.output.trans h.kp.output,AYG h.kp.size J.size,fun b H O=>(J.block b (AYH H h.kp.size) fun e=>by
  have:=(D b e.symm).1;omega).trans (h.kp.block b H O),fun h=>absurd h K⟩
 have F:=h.ownAt 0 rfl;have U:=h.row 1 rfl;have hcell:∀(b:Nat) (o:Obj),W.heap[b]?=some o->o.isCells=true->W'.heap[b]?=W.heap[b]?:=fun b o H Q=>J.block b (K7 H) fun e=>by
  obtain⟨_,o',C,V⟩:=D b e.symm;rw[H]at C;cases C;rw[Q]at V;cases V
 refine⟨hk,fun b H=>AYH (h.mlt b H) J.size,⟨hk.mono fun x hx=>(by cases hx),h.adv.new⟩,h.base,h.sepM,h.own,h.dis,fun r I=>?_,(fun _ _ h=>by cases h)⟩;rcases mem_cons.1 I with rfl|I
 . exact Own.flat T F fun b H=>by
    obtain⟨o,C,V⟩:=F.isC b H;exact hcell b o C V
 . have:r=rowR t b2 [v]:=by simpa using I
   subst this;exact(hcell b2 _ U rfl).trans U
theorem Hp.gof(h:Hp w0 [] M (F5 E e t b2 v xs) W):gOf W b2=(ob v).head?:=by
 have:=(h.row 1 rfl).rd.cells.at 0 rfl;unfold gOf;rw[this]
theorem ob_head{v:Value}{b:Nat}:(ob v).head?=some b↔b∈ob v:=by
 unfold ob;split<;>simp[eq_comm]
theorem Hp.kb(h:Hp w0 [] M (F5 E e t b2 v xs) W)(F:Hp w0 [] M (F5 E e t b2 v' xs') W')(hA:Adv (mm (F5 E e t b2 v xs) M) (mm (F5 E e t b2 v' xs') M) W W'):KB b2 W W'/\KeepsFrom w0.heap.size W W':=by
 have Y:=h.ownAt 0 rfl;have I:∀b,b∈mm (F5 E e t b2 v xs) M->b∈ob v\/b=b2\/b∈M:=fun b C=>by
  simp only[mm,ownR,rowR,mem_append,mem_cons,List.not_mem_nil,or_false]at C;rcases C with H|H|H
  . exact .inl H
  . exact .inr (.inl H)
  . exact .inr (.inr H)
 have A:∀b∈M,W'.heap[b]?=W.heap[b]?:=fun b C=>(F.kp.block b (h.base0 b C) (by simp)).trans (h.kp.block b (h.base0 b C) (by simp)).symm;refine⟨⟨hA.kp.size,fun b j u C D O=>?_,fun g D=>?_⟩,hA.kp.size,fun k o hk U Q=>?_⟩
 . have K:b<W.heap.size:=AHo O;have hsame:W'.heap[b]?=W.heap[b]?:=by
    by_cases hm:b∈mm (F5 E e t b2 v xs) M
    . rcases I b hm with H|H|H
      . exact absurd (by rw[h.gof];exact ob_head.2 H) D
      . exact absurd H C
      . exact A b H
    . exact hA.kp.block b K hm
   rw[World.cell?_of_block (a:=⟨b,j,none⟩) (w:=W) hsame];exact O
 . rw[F.gof]at D;have V:=ob_head.1 D;rcases hA.new g (mem_mm.2 (.inl ⟨_,AX4 ..,V⟩)) with H|H
   . rcases I g H with J|J|J
     . exact .inl (by rw[h.gof];exact ob_head.2 J)
     . exact absurd (by rw[J];simp[rowR]) (F.dis 0 1 _ _ rfl rfl (by omega) g V)
     . exact absurd J (F.sepM _ (AX4 ..) g V)
   . exact .inr H
 . refine(hA.kp.block k (K7 U) fun hm=>?_).trans U;rcases I k hm with H|H|H
   . obtain⟨o2,J,T⟩:=Y.isC k H;rw[U]at J;cases J;rw[Q]at T;cases T
   . subst H;have J:W.heap[k]?=_:=h.row 1 rfl;rw[U]at J;cases J;cases Q
   . have:=h.base0 k H;omega
theorem ANr{P:Program}{N:Nat}{ds:List Deferred}{L:A7}{w:World}{A B:A3}{X:Nat->A3}{Z:List PanicEntry->A3}{g:Operand}{p:Nat}{assign body:Code}{gf:Nat}{lb:Array Value}{α:Type}{val:α->Value}{xs:List α}{K:World->World->Prop}(m:ev L g=some (.func (.func gf) #[] lb))(eg:∀args w,(callFunc gf args).run P w=.ok (.enter gf args) w)(f:blt p N=true)(E:SeqStopsK Fence.wide 2 P gf lb (fun x:α=>#[val x]) K (fun ys=>ys=xs) (fun pre=>pre <+: xs) xs.length w)(G:∀{A B C:World},K A B->K B C->K A C)(R:∀(W:World) (l:Nat) (o o':Obj),w.heap.size<=l->W.heap[l]?=some o->o.isCells=false->o.isWalk=false->K W (W.putObj l o'))(I Ix:List α->World->Prop)(q:OwnFrom w.heap.size I)(S:OwnFrom w.heap.size Ix)(y:I [] w)(AL:α->A7->World->Prop)(M:∀x L',OwnFrom w.heap.size fun (_:Unit) W=>AL x L' W)(hassign:∀(l:Nat) (pre:List α) (x:α) (W:World),I pre W->CI l 1 P N assign [] ((p,val x)::L) W (fun ds' L' W'=>ds'=[]/\KeepsFrom w.heap.size W W'/\K W W'/\I pre W'/\AL x L' W') (fun _ _ _=>False) NoX (fun _ _ _ _=>False))(hbody:∀(l:Nat) (pre:List α) (x:α) (L':A7) (W:World),I pre W->AL x L' W->pre.length<xs.length ->
   CI l 1 P N body [] L' W (fun _ _ W'=>KeepsFrom w.heap.size W W'/\K W W'/\I (pre++[x]) W') (fun _ _ W'=>KeepsFrom w.heap.size W W'/\Ix (pre++[x]) W') NoX (fun _ _ _ _=>False))(hdone:∀(D:Nat) (W:World),w.heap.size<=D->I xs W->W.heap[D]?=some (.deferred (some []))->A ({ target:=.collected D,args:=#[] }::ds) L W)(hstop:∀(D:Nat) (pre:List α) (W:World),w.heap.size<=D->pre <+: xs->Ix pre W->W.heap[D]?=some (.deferred (some []))->B ({ target:=.collected D,args:=#[] }::ds) L W):
  CW P N (.rangeFunc g #[p] assign body) ds L w A B X Z:=by
 intro a J
 refine(wpIn_wide (n:=3)).1 ?_
 have hN:p<N:=by simpa[Nat.blt_eq] using f
 refine wpIn_rangeFunc_ownH (F:=Fence.wide) (n:=3) rfl (by omega) (J.eval m) trivial eg E (fun h k=>G h k) R (Below.refl _ _) (fun x=>rfl) I (fun c pre W=>c=.ret/\Ix pre W) q
  (fun c s W W' row Q U Y=>⟨Q.1,S s W W' row Q.2 U Y⟩) y (fun x a' W=>∃L',Knows N [] L' a'/\AL x L' W) (fun x a' s W W' row Q U Y=>?_) ?_ ?_ ?_ ?_
 . obtain⟨L',V,d⟩:=Q
   exact⟨L',V,M x L' () W W' row d U Y⟩
 . intro l pre x W K' hi hK
   have hk:Knows N [] ((p,val x)::L) { tmps:=a.tmps.setIfInBounds p (val x),defers:=[] }:=by
    have:=(show Knows N [] L { a with defers:=[] } from⟨J.size,rfl,J.val⟩).put f (val x);exact this
   have j:(Array.foldl (fun (t:Array Value) (x:Tmp×Value)=>match x with|(p,v)=>t.setIfInBounds p v) a.tmps (#[p].zip #[val x]))=a.tmps.setIfInBounds p (val x):=by simp
   rw[j]
   refine wpIn_mono (hassign l pre x W hi _ hk) fun e a' W' H=>?_
   cases e with
   |normal=>obtain⟨ds',L',V,rfl,O,b,u,r⟩:=H;exact hK a' W' O b u ⟨L',V,r⟩
   |ret=>obtain⟨_,_,_,h⟩:=H;exact h.elim
   |exit i=>obtain⟨_,_,_,h⟩:=H;exact h.elim
   |panic c=>obtain⟨_,_,_,h⟩:=H;exact h.elim
   |goto l=>exact H.elim
   |outgrown=>exact H.elim
 . intro l pre x a' W _ _ hi hA hl
   obtain⟨L',V,d⟩:=hA
   refine wpIn_mono (hbody l pre x L' W hi d hl a' V) fun e a' W' H=>?_
   cases e with
   |normal=>obtain⟨ds',L',V,O⟩:=H;exact O
   |ret=>obtain⟨ds',L',V,O,b⟩:=H;exact⟨O,rfl,b⟩
   |exit i=>obtain⟨_,_,_,h⟩:=H;exact h.elim
   |panic c=>obtain⟨_,_,_,h⟩:=H;exact h.elim
   |goto l=>exact H.elim
   |outgrown=>exact H.elim
 . intro D ys W hD hy hi T
   subst hy
   exact⟨_,L,⟨J.size,by rw[J.defers],J.val⟩,hdone D W hD hi T⟩
 . intro D c pre W hD hy hi T
   obtain⟨rfl,hi⟩:=hi
   exact wpIn_ret ⟨_,L,⟨J.size,by rw[J.defers],J.val⟩,hstop D pre W hD hy hi T⟩
end Go.Sx
namespace Go.Sx
open Go Go.RowKit
variable[Trk]
def Tn(w w':World):Prop:=w.heap.size<=w'.heap.size/\∀(b:Nat) (o:Obj),w.heap[b]?=some o->o.isCells=true->w'.heap[b]?=some o
theorem Tn.cell{w w':World}(h:Tn w w'){a:Addr}{v:Value}(hv:w.cell? a=some v):w'.cell? a=some v:=by
 have I:=AHo hv;obtain⟨o,H⟩:∃o,w.heap[a.block]?=some o:=⟨_,AY3 I⟩;have J:o.isCells=true:=by
  unfold World.cell? at hv;rw[H]at hv;cases o<;>simp[Obj.isCells]at hv ⊢
 rw[World.cell?_of_block (w:=w) ((h.2 _ o H J).trans H.symm)];exact hv
theorem Tn.cells{w w':World}(h:Tn w w'){b o:Nat}{cs:List Value}(I:Cells w b o cs):Cells w' b o cs:=fun j v H=>h.cell (I j v H)
class TnE{α:Type}(E:Enc α):Prop where
 tn:∀{M:List Nat} {w w':World} {cs:List Value} {x:α},Tn w w'->E.R M w cs x->E.R M w' cs x
instance (k:IntKind):TnE (B1 k):=⟨fun _ h=>h⟩
instance:TnE boolE:=⟨fun _ h=>h⟩
theorem RdS.tn{α:Type}{E:Enc α}[D:TnE E]{M:List Nat}{w w':World}{v:Value}{xs:List α}(h:Tn w w')(J:RdS E M w v xs):RdS E M w' v xs:=by
 obtain⟨a,c,hv,O,K,I⟩:=J;refine⟨a,c,hv,O,K,?_⟩;rcases I with I|⟨b,o,W,V,H,U⟩
 . exact .inl I
 . refine .inr ⟨b,o,W,V,AYH H h.1,fun i hi=>?_⟩;obtain⟨cs,C,F⟩:=U i hi;exact⟨cs,D.tn h C,h.cells F⟩
instance {α:Type} (E:Enc α) [TnE E]:TnE (K5 E):=⟨fun h ⟨v,e,hr⟩=>⟨v,e,hr.tn h⟩⟩
instance {α β:Type} (E:Enc α) (F:Enc β) [hE:TnE E] [hF:TnE F]:TnE (B0 E F):=⟨fun h hr=>by
 rw[prodE_R]at hr ⊢;obtain⟨a,b,e,h1,h2⟩:=hr;exact⟨a,b,e,hE.tn h h1,hF.tn h h2⟩⟩
instance {α β:Type} (f:β->α) (E:Enc α) [hE:TnE E]:TnE (U4 f E):=⟨fun h hr=>by
 rw[mapE_R]at hr ⊢;exact hE.tn h hr⟩
variable{α:Type}{E:Enc α}{M:List Nat}{w:World}{w':World}{v:Value}{ag:Bool}{P:Program}{kt:TypeId}{κ:Type}{K:Ky P kt κ}{B:Nat}
theorem Chunks.tn[U:TnE E](h:Tn w w'):∀{cs:List Value} {xs:List α},Chunks E M w cs xs->Chunks E M w' cs xs
 |_,[],I=>I
 |_,_::_,⟨c,rest,e,J,H⟩=>⟨c,rest,e,U.tn h J,Chunks.tn h H⟩
theorem Own.tn[TnE E]{e:TypeId}{Bb:Nat}{xs:List α}(H:Tn w w')(h:Own E e Bb M w v xs):Own E e Bb M w' v xs:=by
 rcases h with h|⟨g,cap,cur,rfl,C,W,V,U,J,I⟩
 . exact .inl h
 . exact .inr ⟨g,cap,cur,rfl,C,H.2 g _ W rfl,V,U,J,Chunks.tn H I⟩
theorem Vl.tn[I:TnE E]{x:α}(H:Tn w w')(h:Vl E ag M w v x):Vl E ag M w' v x:=by
 obtain⟨cs,U,J⟩:=h;exact⟨cs,I.tn H U,J⟩
theorem EntK.tn[TnE E](H:Tn w w'):∀{es:List MapEntry} {xs:List (κ×α)},EntK K E ag M w es xs->EntK K E ag M w' es xs
 |[],[],h=>h
 |_::_,_::_,⟨U,J,I⟩=>⟨U,J.tn H,EntK.tn H I⟩
 |[],_::_,h=>h.elim
 |_::_,[],h=>h.elim
def TnR(B:Nat)(r:Res):Prop:=∀(M:List Nat) (w w':World),Tn w w'->(∀b,b<B->w'.heap[b]?=w.heap[b]?)->r.holds M w->r.holds M w'/\∀b∈r.fp,b<B\/∃o,w.heap[b]?=some o/\o.isCells=true
def TnL(B:Nat):List Res->Prop
 |[]=>True
 |r::σ=>TnR B r/\TnL B σ
theorem TnL.mem:∀{σ:List Res},TnL B σ->∀r∈σ,TnR B r
 |[],_,_,h=>by cases h
 |_::_,⟨I,H⟩,r,h=>by
  rcases mem_cons.1 h with rfl|h
  . exact I
  . exact TnL.mem H r h
theorem tn0:TnL B []:=trivial
theorem AQY[TnE E]{b:Nat}{f:A4 κ α}{σ:List Res}(H:b<B)(h:TnL B σ):TnL B (mapO K E ag b f::σ):=⟨fun M w w' I U J=>by
 obtain⟨es,c,xs,D,C,W,V⟩:=J;exact⟨⟨es,c,xs,(U b H).trans D,C,W.tn I,V⟩,fun x hx=>by
  have:x=b:=by simpa[mapO] using hx
  subst this;exact .inl H⟩,h⟩
theorem ADL{W W':World}{row:Option Nat}(I:W.grownBy W' row)(J:∀r,row=some r->B<=r/\∃o:Obj,W.heap[r]?=some o/\o.isCells=false):Tn W W'/\∀b,b<B->b<W.heap.size->W'.heap[b]?=W.heap[b]?:=by
 refine⟨⟨I.size,fun b o H C=>?_⟩,fun b D hl=>I.block b hl fun e=>?_⟩
 . refine(I.block b (K7 H) fun e=>?_).trans H;obtain⟨_,o',V,U⟩:=J b e.symm;rw[H]at V;cases V;rw[C]at U;cases U
 . have:=(J b e.symm).1;omega
variable{w0 W W':World}{σ:List Res}
theorem Hp.turn(C:¬Trk.t){B:Nat}(K:B<=W.heap.size)(O:w0.heap.size<=B)(F:TnL B σ){row:Option Nat}(h:Hp w0 [] M σ W)(I:W.grownBy W' row)(D:∀r,row=some r->B<=r/\∃o:Obj,W.heap[r]?=some o/\o.isCells=false):Hp w0 [] M σ W':=by
 obtain⟨V,H⟩:=ADL I D;have hk:Kp [] w0 W':=⟨I.os.trans h.kp.os,I.tape.trans h.kp.tape,I.output.trans h.kp.output,AYG h.kp.size I.size,fun b J E=>(H b (by omega) (AYH J h.kp.size)).trans (h.kp.block b J E),fun h=>absurd h C⟩;refine⟨hk,fun b J=>AYH (h.mlt b J) I.size,⟨hk.mono fun x hx=>(by cases hx),h.adv.new⟩,h.base,h.sepM,h.own,h.dis,fun r U=>?_,(fun _ _ h=>by cases h)⟩;exact(F.mem r U _ _ _ V (fun b J=>H b J (by omega)) (h.all r U)).1
theorem Adv.turn(U:¬Trk.t){M1 M2:List Nat}{w:World}{row:Option Nat}(h:Adv M1 M2 w W)(I:W.grownBy W' row)(V:∀r,row=some r->w.heap.size<=r/\∃o:Obj,W.heap[r]?=some o/\o.isCells=false):Adv M1 M2 w W':=by
 obtain⟨_,H⟩:=ADL I V;exact⟨⟨I.os.trans h.kp.os,I.tape.trans h.kp.tape,I.output.trans h.kp.output,AYG h.kp.size I.size,fun b J C=>(H b J (AYH J h.kp.size)).trans (h.kp.block b J C),fun h=>absurd h U⟩,h.new⟩
open Classical in
noncomputable def ABT{X S:Type}(body:S->X->Option S)(s0:S)(xs:List X):Option S:=
 if ∀ys:List X,ys.length<=xs.length->(∀y∈ys,y∈xs)->(ys.foldlM body s0).isSome=true then xs.foldlM body s0 else none
variable{X:Type}{S:Type}{body:S->X->Option S}{s0:S}{xs:List X}
theorem AE3{s0 r:S}(h:ABT body s0 xs=some r):
  xs.foldlM body s0=some r/\∀(pre:List X) (x:X) (s:S),pre.length<xs.length->(∀y∈pre,y∈xs)->x∈xs->pre.foldlM body s0=some s->∃s',body s x=some s'/\(pre++[x]).foldlM body s0=some s':=by
 unfold ABT at h
 split at h
 . rename_i U
   refine⟨h,fun pre x s hl J hx I=>?_⟩
   have:=U (pre++[x]) (by simp;omega) fun y hy=>by
    rcases mem_append.1 hy with hy|hy
    . exact J y hy
    . rw[mem_singleton.1 hy];exact hx
   rw[AY2,I]at this
   obtain⟨s',H⟩:=Option.isSome_iff_exists.1 this
   refine⟨s',?_,?_⟩
   . simpa using H
   . rw[AY2,I];exact H
 . cases h
theorem Ret.over{Q:S->Prop}(I:List X->S->Prop)(W:I [] s0)(step:∀pre x s,pre.length<xs.length->(∀y∈pre,y∈xs)->x∈xs->I pre s->Ret (body s x) (I (pre++[x])))(fin:∀s,I xs s->Q s):Ret (ABT body s0 xs) Q:=by
 have key:∀(n:Nat) (ys:List X),ys.length=n->n<=xs.length->(∀y∈ys,y∈xs)->∃s,ys.foldlM body s0=some s/\I ys s:=by
  intro n;induction n with
  |zero=>intro ys hl _ _;rw[AYw hl];exact⟨s0,rfl,W⟩
  |succ n ih=>
   intro ys hl C hy
   obtain⟨pre,x,rfl⟩:∃pre x,ys=pre++[x]:=⟨ys.dropLast,ys.getLast (by intro e;rw[e]at hl;cases hl),(List.dropLast_concat_getLast _).symm⟩
   obtain⟨s,U,J⟩:=ih pre (by simpa using hl) (by omega) fun y h=>hy y (AX2 _ h)
   obtain⟨s',H,V⟩:=step pre x s (by simp at hl;omega) (fun y h=>hy y (AX2 _ h)) (hy x (by simp)) J
   exact⟨s',by rw[AY2,U];simpa using H,V⟩
 obtain⟨s,U,J⟩:=key xs.length xs rfl (AYE _) fun _ h=>h;refine⟨s,?_,fin s J⟩;unfold ABT;rw[AYB]
 . exact U
 . intro ys hl hy;obtain⟨s,H,_⟩:=key ys.length ys rfl hl hy;rw[H];rfl
theorem AMe{P:Program}{N:Nat}{ds:List Deferred}{L:A7}{w:World}{A B:A3}{X:Nat->A3}{Z:List PanicEntry->A3}{g:Operand}{p p2:Nat}{assign body:Code}{gf:Nat}{lb:Array Value}{α:Type}{val val2:α->Value}{xs:List α}{K:World->World->Prop}(q:ev L g=some (.func (.func gf) #[] lb))(eg:∀args w,(callFunc gf args).run P w=.ok (.enter gf args) w)(m:blt p N=true)(G:blt p2 N=true)(E:SeqStopsK Fence.wide 2 P gf lb (fun x:α=>#[val x,val2 x]) K (fun ys=>ys=xs) (fun pre=>pre <+: xs) xs.length w)(R:∀{A B C:World},K A B->K B C->K A C)(S:∀(W:World) (l:Nat) (o o':Obj),w.heap.size<=l->W.heap[l]?=some o->o.isCells=false->o.isWalk=false->K W (W.putObj l o'))(I Ix:List α->World->Prop)(r:OwnFrom w.heap.size I)(M:OwnFrom w.heap.size Ix)(z:I [] w)(AL:α->A7->World->Prop)(b:∀x L',OwnFrom w.heap.size fun (_:Unit) W=>AL x L' W)(hassign:∀(l:Nat) (pre:List α) (x:α) (W:World),I pre W->CI l 1 P N assign [] ((p2,val2 x)::(p,val x)::L) W (fun ds' L' W'=>ds'=[]/\KeepsFrom w.heap.size W W'/\K W W'/\I pre W'/\AL x L' W') (fun _ _ _=>False) NoX (fun _ _ _ _=>False))(hbody:∀(l:Nat) (pre:List α) (x:α) (L':A7) (W:World),I pre W->AL x L' W->pre.length<xs.length ->
   CI l 1 P N body [] L' W (fun _ _ W'=>KeepsFrom w.heap.size W W'/\K W W'/\I (pre++[x]) W') (fun _ _ W'=>KeepsFrom w.heap.size W W'/\Ix (pre++[x]) W') NoX (fun _ _ _ _=>False))(hdone:∀(D:Nat) (W:World),w.heap.size<=D->I xs W->W.heap[D]?=some (.deferred (some []))->A ({ target:=.collected D,args:=#[] }::ds) L W)(hstop:∀(D:Nat) (pre:List α) (W:World),w.heap.size<=D->pre <+: xs->Ix pre W->W.heap[D]?=some (.deferred (some []))->B ({ target:=.collected D,args:=#[] }::ds) L W):
  CW P N (.rangeFunc g #[p,p2] assign body) ds L w A B X Z:=by
 intro a J
 refine(wpIn_wide (n:=3)).1 ?_
 refine wpIn_rangeFunc_ownH (F:=Fence.wide) (n:=3) rfl (by omega) (J.eval q) trivial eg E (fun h k=>R h k) S (Below.refl _ _) (fun x=>rfl) I (fun c pre W=>c=.ret/\Ix pre W) r
  (fun c s W W' row Q V Y=>⟨Q.1,M s W W' row Q.2 V Y⟩) z (fun x a' W=>∃L',Knows N [] L' a'/\AL x L' W) (fun x a' s W W' row Q V Y=>?_) ?_ ?_ ?_ ?_
 . obtain⟨L',U,f⟩:=Q
   exact⟨L',U,b x L' () W W' row f V Y⟩
 . intro l pre x W K' hi hK
   have hk:Knows N [] ((p2,val2 x)::(p,val x)::L) { tmps:=(a.tmps.setIfInBounds p (val x)).setIfInBounds p2 (val2 x),defers:=[] }:=by
    have U:=(show Knows N [] L { a with defers:=[] } from⟨J.size,rfl,J.val⟩).put m (val x);exact U.put G (val2 x)
   have j:(Array.foldl (fun (t:Array Value) (x:Tmp×Value)=>match x with|(p,v)=>t.setIfInBounds p v) a.tmps (#[p,p2].zip #[val x,val2 x]))=(a.tmps.setIfInBounds p (val x)).setIfInBounds p2 (val2 x):=by simp
   rw[j]
   refine wpIn_mono (hassign l pre x W hi _ hk) fun e a' W' H=>?_
   cases e with
   |normal=>obtain⟨ds',L',U,rfl,O,d,y,u⟩:=H;exact hK a' W' O d y ⟨L',U,u⟩
   |ret=>obtain⟨_,_,_,h⟩:=H;exact h.elim
   |exit i=>obtain⟨_,_,_,h⟩:=H;exact h.elim
   |panic c=>obtain⟨_,_,_,h⟩:=H;exact h.elim
   |goto l=>exact H.elim
   |outgrown=>exact H.elim
 . intro l pre x a' W _ _ hi hA hl
   obtain⟨L',U,f⟩:=hA
   refine wpIn_mono (hbody l pre x L' W hi f hl a' U) fun e a' W' H=>?_
   cases e with
   |normal=>obtain⟨ds',L',U,O⟩:=H;exact O
   |ret=>obtain⟨ds',L',U,O,d⟩:=H;exact⟨O,rfl,d⟩
   |exit i=>obtain⟨_,_,_,h⟩:=H;exact h.elim
   |panic c=>obtain⟨_,_,_,h⟩:=H;exact h.elim
   |goto l=>exact H.elim
   |outgrown=>exact H.elim
 . intro D ys W hD hy hi T
   subst hy
   exact⟨_,L,⟨J.size,by rw[J.defers],J.val⟩,hdone D W hD hi T⟩
 . intro D c pre W hD hy hi T
   obtain⟨rfl,hi⟩:=hi
   exact wpIn_ret ⟨_,L,⟨J.size,by rw[J.defers],J.val⟩,hstop D pre W hD hy hi T⟩
end Go.Sx
namespace Go.Rx
open Go Go.Sx Go.RowKit
noncomputable section
variable[Sg][Sf](G:Gx)
def R9(s:SV):Option (List SV):=match AFS (cellsOf s) with
 |true=>some (cellsOf s)
 |false=>none
def S6(t o:Nat)(v:SV):Option SV:=match lk G.tb.ag t with
 |some 0=>match P8 (cellsOf v) o with
  |some s=>match one s with
   |true=>some s
   |false=>none
  |none=>none
 |some (n+1)=>match P9 (cellsOf v) with
  |some m=>match beq m n,o with
   |true,0=>match ADJ v with
    |true=>some v
    |false=>none
   |_,_=>match AFR (cellsOf v) o with
    |some l=>match AD2 l n with
     |some r=>match lk G.ty t with
      |some (.arr _ _)=>match r with
       |[s]=>match ADJ s with
        |true=>some s
        |false=>none
       |_=>none
      |_=>some (.agg r)
     |none=>none
    |none=>none
  |none=>none
 |none=>none
def AC0:Ty->Option SV
 |.int k=>some (.int k 0)
 |.bool=>some (.bool false)
 |.sl _=>some .nilS
 |.arr k n=>match n with
  |0=>none
  |m+1=>some (.ary k (m+1) (replicate (m+1) 0))
 |.mp _ _ _=>some (.raw (.map none))
 |_=>none
def AB4:List Ty->Option (List SV)
 |[]=>some []
 |t::l=>match AC0 t with
  |some s=>match AB4 l with
   |some r=>some (s::r)
   |none=>none
  |none=>none
def ABU(t:Nat):Option SV:=match lk G.ty t with
 |some (.st n)=>match AB4 (Sf.ft n) with
  |some l=>some (.agg l)
  |none=>none
 |some u=>AC0 u
 |none=>match lk G.pz t with
  |some n=>some (.raw (AMZ n))
  |none=>none
def szB(t:Nat)(ns:List SV):Bool:=match lk G.sz t with
 |some n=>match P9 ns with
  |some m=>beq m n
  |none=>false
 |none=>false
def AMf(ns:List SV)(n:Nat):Bool:=match P9 ns with
 |some m=>beq m n
 |none=>false
def AD8(pl:List (Nat×Nat))(E:Operand->Option SV):List (Nat×Operand)->List SV->Option (List SV)
 |[],l=>some l
 |(i,x)::r,l=>match nth pl i with
  |some (o,n)=>match E x with
   |some s=>match AMf (cellsOf s) n with
    |true=>match setW l o (cellsOf s) with
     |some l'=>AD8 pl E r l'
     |none=>none
    |false=>none
   |none=>none
  |none=>none
def AGH:Nat->List (Nat×Operand)->Bool
 |_,[]=>true
 |i,(j,_)::r=>beq i j&&AGH (i+1) r
def opB:Operand->Operand->Bool
 |.tmp t,.tmp u=>beq t u
 |.const (.int k n),.const (.int k' n')=>match kEq k k' with
  |true=>decide (n=n')
  |false=>false
 |_,_=>false
def AG4:(u:Ty)->Option (den u)
 |.int _=>some (0:Int)
 |.bool=>some false
 |.sl _=>some []
 |_=>none
def arS{Z:Type}(K:List Ac->Option Z)(b:BinOp)(k:IntKind)(i j:Int):Option Z:=match cmp b i j with
 |some t=>K [.put (.bool t)]
 |none=>match b with
  |.add=>(chk k (i+j)).bind fun n=>K [.put (.int k n)]
  |.sub=>(chk k (i-j)).bind fun n=>K [.put (.int k n)]
  |.mul=>(chk k (i*j)).bind fun n=>K [.put (.int k n)]
  |.quo=>(AJX k i j).bind fun n=>K [.put (.int k n)]
  |.rem=>(AJZ i j).bind fun n=>K [.put (.int k n)]
  |.and=>K [.put (.int k (AJh k i j))]
  |_=>none
def AMg{Z:Type}(R:Nat->Option AR)(K:List Ac->Option Z)(b:BinOp)(t:Nat)(s s':SV):Option Z:=match lk G.eq t with
 |some n=>match A9 s,A9 s' with
  |[],[]=>match B9 R (.st n) s with
   |some x=>match B9 R (.st n) s' with
    |some y=>match b with
     |.eql=>K [.put (.bool (Sf.eq n x y))]
     |.neq=>K [.put (.bool (!Sf.eq n x y))]
     |_=>none
    |none=>none
   |none=>none
  |_,_=>none
 |none=>none
def AMh{Z:Type}(R:Nat->Option AR)(K:List Ac->Option Z)(b:BinOp)(t:Nat):SV->SV->Option Z
 |.int k i,s=>match s with
  |.int k' j=>match b with
   |.shr=>(AGC i j k.bits).bind fun n=>K [.put (.int k n)]
   |.shl=>(AGD k i j).bind fun n=>K [.put (.int k n)]
   |_=>match kEq k k' with
    |true=>arS K b k i j
    |false=>none
  |_=>none
 |.bool p,s=>match s with
  |.bool q=>match lk G.ty t with
   |some .bool=>match b with
    |.eql=>K [.put (.bool (p==q))]
    |.neq=>K [.put (.bool (!(p==q)))]
    |_=>none
   |_=>none
  |_=>none
 |.agg l,s=>AMg G R K b t (.agg l) s
 |.str n x,s=>AMg G R K b t (.str n x) s
 |_,_=>none
def iaS{Z:Type}(R:Nat->Option AR)(K:List Ac->Option Z)(e:Ty)(i:Int):SV->Option Z
 |.own j=>match B9 R (.sl e) (.own j) with
  |some xs=>(ixo (show List (den e) from xs) i).bind fun z=>K [.put (.ep j e i (some z) 0)]
  |none=>none
 |s=>match B9 R (.sl e) s with
  |some xs=>(ixo (show List (den e) from xs) i).bind fun z=>K [.put (.rp (G0 e z) 0)]
  |none=>none
def ASn(k:Nat):SV->Option SV
 |.rp v o=>some (.rp v (o+k))
 |.ptr i o=>some (.ptr i (o+k))
 |.ep i t ix z o=>some (.ep i t ix z (o+k))
 |_=>none
def AFU(R:Nat->Option AR)(t:Nat):SV->Option SV
 |.rp v o=>S6 G t o v
 |.ptr i o=>match R i with
  |some (.row _ l)=>S6 G t o (.agg l)
  |_=>none
 |.ep _ u _ z o=>match z with
  |some z=>S6 G t o (G0 u z)
  |none=>none
 |_=>none
def ixA(n i:Int):Option Int:=if 0<=i/\i<n then some i else none
def apS(len m:Nat)(i:Int):SV->Option SV
 |.rp v o=>some (.ap (.rp v o) (len*m) (i*Int.ofNat m) m)
 |.ptr j o=>some (.ap (.ptr j o) (len*m) (i*Int.ofNat m) m)
 |.ap s n x k=>match beq k (len*m) with
  |true=>some (.ap s n (x+i*Int.ofNat m) m)
  |false=>none
 |_=>none
def AD9(R:Nat->Option AR):SV->Option (IntKind×Nat×List Int)
 |.rp v o=>match P8 (cellsOf v) o with
  |some (.ary k n l)=>some (k,n,l)
  |_=>none
 |.ptr i o=>match R i with
  |some (.row _ l)=>match P8 l o with
   |some (.ary k n l)=>some (k,n,l)
   |_=>none
  |_=>none
 |_=>none
def iaA{Z:Type}(K:List Ac->Option Z)(t:Nat)(i:Int)(s:SV):Option Z:=match lk G.ar t with
 |some (len,m)=>(ixA (Int.ofNat len) i).bind fun j=>match apS len m j s with
  |some r=>K [.put r]
  |none=>none
 |none=>none
def ldA{Z:Type}(R:Nat->Option AR)(K:List Ac->Option Z)(t:Nat):SV->Option Z
 |.ap s n x k=>match lk G.tb.ag t,beq k 1 with
  |some 0,true=>match AD9 R s with
   |some (q,n',l)=>match beq n' n with
    |true=>(ixo l x).bind fun y=>K [.put (.int q y)]
    |false=>none
   |none=>none
  |_,_=>none
 |_=>none
def stA{Z:Type}(R:Nat->Option AR)(K:List Ac->Option Z)(ns:List SV)(n:Nat)(x:Int)(k:Nat):SV->Option Z
 |.ptr i o=>match R i with
  |some (.row _ l)=>match P8 l o with
   |some (.ary q n' xs)=>match beq n' n,beq k 1,ns with
    |true,true,[.int q' v]=>match kEq q' q with
     |true=>(ABE xs x v).bind fun m=>match setW l o [.ary q n m] with
      |some _=>K [.sto i o [.ary q n m]]
      |none=>none
     |false=>none
    |_,_,_=>none
   |_=>none
  |_=>none
 |_=>none
def APF{Z:Type}(R:Nat->Option AR)(K:List Ac->Option Z)(ns:List SV):SV->Option Z
 |.ptr i o=>match R i with
  |some (.row e l)=>match setW l o ns with
   |some _=>K [.sto i o ns]
   |none=>none
  |_=>none
 |.ep i u ix z o=>match z with
  |some z=>match R i with
   |some (.own p (.sl e u') xs)=>match G8 (.sl u') (.sl u) xs with
    |some xs=>match setW (cellsOf (G0 u z)) o ns with
     |some l'=>match toP R u l' with
      |some z2=>match frz R (ownsLL ns) with
       |some fz=>match has (ownsLL ns) i with
        |true=>none
        |false=>(ABE (show List (den u) from xs) ix z2).bind fun m=>K (fz++[.cnt i (.sl e u) m])
       |none=>none
      |none=>none
     |none=>none
    |none=>none
   |_=>none
  |none=>none
 |.ap s n x k=>stA R K ns n x k s
 |_=>none
def ASq{Z:Type}(R:Nat->Option AR)(K:List Ac->Option Z):SV->Option Z
 |.dat (.sl t) xs=>K [.put (.int .i64 (show List (den t) from xs).length)]
 |.own i=>match R i with
  |some (.own _ (.sl _ t) xs)=>K [.put (.int .i64 (show List (den t) from xs).length)]
  |_=>none
 |.nilS=>K [.put (.int .i64 0)]
 |_=>none
def AMi{Z:Type}(id:Nat)(R:Nat->Option AR)(K:List Ac->Option Z)(e:Nat)(u:Ty)(b:Nat)(fz:List Ac)(ow:List Nat)(ys:List (den u)):SV->Option Z
 |.nilS=>(appo b ([]:List (den u)) ys).bind fun l=>K (fz++[.new id (.own false (.sl e u) l),.put (.own id)])
 |.own i=>match R i with
  |some (.own p (.sl e' u') xs)=>match G8 (.sl u') (.sl u) xs with
   |some xs=>match has ow i with
    |true=>none
    |false=>match beq e' e with
     |true=>(appo b (show List (den u) from xs) ys).bind fun l=>K (fz++[.hnd i (.own p (.sl e u) l),.put (.own i)])
     |false=>none
   |none=>none
  |_=>none
 |_=>none
def mmS{Z:Type}(K:List Ac->Option Z)(f:Int->Int->Int):SV->SV->Option Z
 |.int k i,s=>match s with
  |.int k' j=>match kEq k k' with
   |true=>K [.put (.int k (f i j))]
   |false=>none
  |_=>none
 |_,_=>none
def zdS:Ty->Option SV
 |.st n=>match AB4 (Sf.ft n) with
  |some l=>some (.agg l)
  |none=>none
 |.int k=>AC0 (.int k)
 |.bool=>AC0 .bool
 |.sl t=>AC0 (.sl t)
 |.arr k n=>AC0 (.arr k n)
 |.mp _ _ _=>none
 |.fno _=>none
def zdM(t:Ty):Option (den t):=match zdS t with
 |some s=>B9 (fun _=>none) t s
 |none=>none
def APG{Z:Type}(id:Nat)(K:List Ac->Option Z)(t:TypeId):Option Z:=match lk G.mp t with
 |some (m,_,k,v)=>K [.new id (.own false (.mp m k v) (show A4 (den k) (den v) from fnone)),.put (.own id)]
 |none=>none
def lkR(cm:Bool)(v:Ty)(o:Option (den v))(z0:den v):SV:=match cm with
 |true=>.tup [G0 v (o.getD z0),.bool o.isSome]
 |false=>G0 v (o.getD z0)
def AMj{Z:Type}(R:Nat->Option AR)(K:List Ac->Option Z)(t:TypeId)(cm:Bool)(sx sy:SV):Option Z:=match lk G.mp t with
 |some (m,_,k,v)=>match B9 R (.mp m k v) sx with
  |some f=>match A9 sy with
   |[]=>match B9 R k sy with
    |some a=>match zdM v with
     |some z0=>K [.put (lkR cm v ((show A4 (den k) (den v) from f) a) z0)]
     |none=>none
    |none=>none
   |_=>none
  |none=>none
 |none=>none
def AJv(R:Nat->Option AR)(m:Nat)(k v:Ty):SV->Option (Nat×A4 (den k) (den v))
 |.own i=>match R i with
  |some (.own false c f)=>match castO c (.mp m k v) f with
   |some f=>some (i,f)
   |none=>none
  |_=>none
 |_=>none
def AHz{Z:Type}(R:Nat->Option AR)(K:List Ac->Option Z)(t:TypeId)(sx sy su:SV):Option Z:=match lk G.mp t with
 |some (m,_,k,v)=>match AJv R m k v sx with
  |some (i,f)=>match A9 sy with
   |[]=>match B9 R k sy with
    |some a=>match has (A9 su) i with
     |false=>match B9 R v su with
      |some z=>match frz R (A9 su) with
       |some fz=>K (fz++[.cnt i (.mp m k v) (@B5 _ _ (ADY k) f a z)])
       |none=>none
      |none=>none
     |true=>none
    |none=>none
   |_=>none
  |none=>none
 |none=>none
def APH{Z:Type}(R:Nat->Option AR)(K:List Ac->Option Z)(t:TypeId)(sx sy:SV):Option Z:=match lk G.mp t with
 |some (m,_,k,v)=>match AJv R m k v sx with
  |some (i,f)=>match A9 sy with
   |[]=>match B9 R k sy with
    |some a=>K [.cnt i (.mp m k v) (@Z2 _ _ (ADY k) f a)]
    |none=>none
   |_=>none
  |none=>none
 |none=>none
def API{Z:Type}(R:Nat->Option AR)(K:List Ac->Option Z)(t:TypeId)(s:SV):Option Z:=match lk G.mp t with
 |some (m,_,k,v)=>match B9 R (.mp m k v) s with
  |some f=>(chk .i64 (AJq (show A4 (den k) (den v) from f))).bind fun n=>K [.put (.int .i64 n)]
  |none=>none
 |none=>none
def AEA{Z:Type}(id:Nat)(R:Nat->Option AR)(K:List Ac->Option Z):Builtin->List SV->List TypeId->Option Z
 |.len,[s],[t]=>match lk G.sl t with
  |some _=>ASq R K s
  |none=>API G R K t s
 |.delete,[x,y],[t,_]=>APH G R K t x y
 |.min,[x,y],_=>mmS K min x y
 |.max,[x,y],_=>mmS K max x y
 |.append,[x,y],[t,t']=>match beq t t',lk G.sl t with
  |true,some (e,u,b)=>match B9 R (.sl u) y with
   |some ys=>match frz R (A9 y) with
    |some fz=>AMi id R K e u b fz (A9 y) ys x
    |none=>none
   |none=>none
  |_,_=>none
 |_,_,_=>none
def S7{Z:Type}:List SV->(List SV->Option Z)->Option Z
 |[],K=>K []
 |s::l,K=>match s with
  |.np t x=>Option.bind x fun y=>S7 l fun r=>K (.rp (G0 t y) 0::r)
  |s=>S7 l fun r=>K (s::r)
def tkQ(ct:List Nat)(d:Nat)(R:Nat->Option AR)(e:Nat)(u:Ty):SV->Option (Nat×Bool)
 |.own i=>match has ct d with
  |true=>match R i with
   |some (.own p c _)=>match decide (c=.sl e u) with
    |true=>some (i,p)
    |false=>none
   |_=>none
  |false=>none
 |_=>none
def AE4(id:Nat)(E:Operand->Option SV)(R:Nat->Option AR){Z:Type}(K:List Ac->Option Z):Op->Option Z
 |.move x=>match E x with
  |some s=>K [.put s]
  |none=>none
 |.assign x=>match E x with
  |some s=>K [.put s]
  |none=>none
 |.pick c a b=>match E c with
  |some (.bool t)=>cond t (match E a with
   |some x=>K [.put x]
   |none=>none) (match E b with
   |some y=>K [.put y]
   |none=>none)
  |_=>none
 |.nilCheck x=>match E x with
  |some (.rp v o)=>K [.put (.rp v o)]
  |some (.ptr i o)=>K [.put (.ptr i o)]
  |some (.np t x)=>Option.bind x fun y=>K [.put (.rp (G0 t y) 0)]
  |_=>none
 |.unOp u _ x=>match u with
  |.not=>match E x with
   |some (.bool b)=>K [.put (.bool (!b))]
   |_=>none
  |.neg=>match E x with
   |some (.int k i)=>(chk k (-i)).bind fun n=>K [.put (.int k n)]
   |_=>none
  |_=>none
 |.convert s t x=>match lk G.ty s with
  |some (.int _)=>match lk G.ty t with
   |some (.int k)=>match E x with
    |some (.int _ i)=>(chk k i).bind fun n=>K [.put (.int k n)]
    |_=>none
   |_=>none
  |_=>none
 |.binOp b t x y _=>match E x with
  |some s=>match E y with
   |some s'=>AMh G R K b t s s'
   |none=>none
  |none=>none
 |.indexAddr t x y=>match lk G.sl t with
  |some (_,e,_)=>match E y with
   |some (.int _ i)=>match E x with
    |some s=>iaS R K e i s
    |none=>none
   |_=>none
  |none=>match E y with
   |some (.int _ i)=>match E x with
    |some s=>iaA G K t i s
    |none=>none
   |_=>none
 |.fieldAddr s x f=>match lk G.tb.st s with
  |some l=>match nth l f with
   |some (k,_)=>match E x with
    |some v=>match ASn k v with
     |some r=>K [.put r]
     |none=>none
    |none=>none
   |none=>none
  |none=>none
 |.field s x f=>match lk G.tb.st s with
  |some l=>match nth l f with
   |some (k,u)=>match E x with
    |some v=>match S6 G u k v with
     |some r=>match ADJ v with
      |true=>K [.put r]
      |false=>none
     |none=>none
    |none=>none
   |none=>none
  |none=>none
 |.extract x i=>match E x with
  |some (.tup l)=>match nth l i with
   |some s=>K [.put s]
   |none=>none
  |_=>none
 |.load t x=>match E x with
  |some v=>match AFU G R t v with
   |some s=>K [.put s]
   |none=>ldA G R K t v
  |none=>none
 |.box t x=>match E x with
  |some s=>match R9 s with
   |some l=>K [.new id (.row t (subL id .dead l)),.put (.ptr id 0)]
   |none=>none
  |none=>none
 |.alloc t=>match ABU G t with
  |some s=>match R9 s with
   |some l=>K [.new id (.row t (subL id .dead l)),.put (.ptr id 0)]
   |none=>none
  |none=>none
 |.store t x y=>match E y with
  |some s=>match R9 s with
   |some ns=>match szB G t ns with
    |true=>match E x with
     |some a=>APF R K ns a
     |none=>none
    |false=>none
   |none=>none
  |none=>none
 |.build t ps=>match lk G.bd t with
  |some pl=>match ABU G t with
   |some (.agg l)=>match AD8 pl E ps.toList l with
    |some l'=>K [.put (.agg l')]
    |none=>none
   |_=>none
  |none=>none
 |.buildSlice t n ps=>match lk G.sl t with
  |some (e,u,_)=>match lk G.sz e with
   |some m=>match evL E (ps.toList.map (·.2)) with
    |some ss=>match AAX u R ss with
     |some xs=>match frz R (ownsLL ss) with
      |some fz=>match AGH 0 ps.toList&&beq n ps.toList.length&&Nat.ble (n*m) 16777216 with
       |true=>K (fz++[.new id (.own false (.sl e u) xs),.put (.own id)])
       |false=>none
      |none=>none
     |none=>none
    |none=>none
   |none=>none
  |none=>none
 |.makeMap t r=>match r with
  |none=>APG G id K t
  |some _=>none
 |.lookup t x y cm=>match E x with
  |some sx=>match E y with
   |some sy=>AMj G R K t cm sx sy
   |none=>none
  |none=>none
 |.mapUpdate t x y u=>match E x with
  |some sx=>match E y with
   |some sy=>match E u with
    |some su=>AHz G R K t sx sy su
    |none=>none
   |none=>none
  |none=>none
 |.insert t x y u=>match E x with
  |some sx=>match E y with
   |some sy=>match E u with
    |some su=>AHz G R K t sx sy su
    |none=>none
   |none=>none
  |none=>none
 |.makeSlice t x y=>match opB x y with
  |true=>match lk G.sl t with
   |some (e,u,b)=>match lk G.ty e with
    |some u'=>match decide (u'=u),AG4 u with
     |true,some z0=>match E x with
      |some (.int _ m)=>(mko b z0 m).bind fun xs=>K [.new id (.own false (.sl e u) xs),.put (.own id)]
      |_=>none
     |_,_=>none
    |none=>none
   |none=>none
  |false=>none
 |.slice t x lo hi mx=>match lk G.sl t with
  |some (e,u,_)=>match E x with
   |some s=>match B9 R (.sl u) s with
    |some xs=>match mx with
     |some m=>match lo with
      |none=>match A9 s with
       |[]=>match hi,m with
        |some (.const (.int _ i)),.const (.int _ j)=>match decide (i=0),decide (j=0) with
         |true,true=>K [.new id (.own false (.sl e u) []),.put (.own id)]
         |_,_=>none
        |_,_=>none
       |_=>none
      |some _=>none
     |none=>match frz R (A9 s) with
      |some fz=>match lo with
       |some y=>match hi with
        |none=>match E y with
         |some (.int _ i)=>(AGx (show List (den u) from xs) i).bind fun l=>K (fz++[.put (.dat (.sl u) l)])
         |_=>none
        |some _=>none
       |none=>match hi with
        |some y=>match E y with
         |some (.int _ i)=>(ABR (show List (den u) from xs) i).bind fun l=>match tkQ G.ct id R e u s with
          |some (j,p)=>K [.hnd j (.own p (.sl e u) l),.put (.own j)]
          |none=>K (fz++[.put (.dat (.sl u) l)])
         |_=>none
        |none=>none
      |none=>none
    |none=>none
   |none=>none
  |none=>none
 |.makeFunc f fs cs=>match f with
  |.func g=>match fs.toList with
   |[]=>match evL E cs.toList with
    |some l=>K [.put (.fn g l)]
    |none=>none
   |_=>none
  |_=>none
 |.call ⟨.builtin b,args,ts⟩=>match evL E args.toList with
  |some ss=>AEA G id R K b ss ts.toList
  |none=>none
 |.call ⟨.value f,args,_⟩=>match fvN G (E f) with
  |some (.fn g caps)=>match evL E args.toList with
   |some ss=>S7 (ss++caps) fun ss'=>AG1 G id R K g ss'
   |none=>none
  |some (.fv a r f)=>match evL E args.toList with
   |some ss=>match Y4 r a f R ss with
    |some o=>match frz R (ownsLL ss) with
     |some fz=>Option.bind o fun y=>K (fz++[.put (G0 r y)])
     |none=>none
    |none=>none
   |none=>none
  |_=>none
 |_=>none
def AB5(ops:List Oper)(j:Nat):Option Nat:=match nth ops j with
 |some o=>o.dst
 |none=>none
def AAx:Option Nat->Nat
 |some d=>d
 |none=>0
def ACU(N:Nat)(op:Op):Option Nat->Bool
 |some d=>match op with
  |.store _ _ _=>false
  |.mapUpdate _ _ _ _=>false
  |.insert _ _ _ _=>false
  |.call ⟨.builtin .delete,_,_⟩=>false
  |_=>blt d N
 |none=>match op with
  |.store _ _ _=>true
  |.mapUpdate _ _ _ _=>true
  |.insert _ _ _ _=>true
  |.call ⟨.builtin .delete,_,_⟩=>true
  |.call ⟨.value _,_,_⟩=>true
  |_=>false
def C6(N:Nat)(ops:List Oper){Z:Type}(K:AS->Option Z):List Oper->AS->Option Z
 |[],σ=>K σ
 |o::r,σ=>match ACU N o.op o.dst with
  |true=>match o.guard with
   |none=>AE4 G (AAx o.dst) (B2 σ.env) (A1 σ.res) (fun as_=>C6 N ops K r (apps o.dst as_ σ)) o.op
   |some (g,b)=>match AB5 ops g with
    |some t=>match A1 σ.env t with
     |some (.bool c)=>cond c
      (cond b (AE4 G (AAx o.dst) (B2 ((t,.bool true)::σ.env)) (A1 σ.res) (fun as_=>C6 N ops K r (apps o.dst as_ { σ with env:=(t,.bool true)::σ.env })) o.op)
       (C6 N ops K r (apps o.dst [.put .undef] { σ with env:=(t,.bool true)::σ.env })))
      (cond b (C6 N ops K r (apps o.dst [.put .undef] { σ with env:=(t,.bool false)::σ.env }))
       (AE4 G (AAx o.dst) (B2 ((t,.bool false)::σ.env)) (A1 σ.res) (fun as_=>C6 N ops K r (apps o.dst as_ { σ with env:=(t,.bool false)::σ.env })) o.op))
     |some .undef=>C6 N ops K r (apps o.dst [.put .undef] σ)
     |_=>none
    |none=>none
  |false=>none
structure Dr where
 d:Option Nat
 lk:List Nat
 as_:List Ac
 ft:List Nat
def lkL:List Operand->List Nat
 |[]=>[]
 |.tmp t::l=>t::lkL l
 |_::l=>lkL l
def ASt(lk:List Nat)(f:Nat->Option SV):Operand->Option SV
 |.tmp t=>bif has lk t then f t else none
 |.const v=>AJm v
 |.func g=>some (.fn g [])
 |.global g=>match Sf.gv g with
  |some s=>match A9 s with
   |[]=>some s
   |_=>none
  |none=>none
def H5(f:Nat->List Nat):List Nat->List Nat
 |[]=>[]
 |x::l=>f x++H5 f l
def AMk(f:Nat->Option SV)(t:Nat):List Nat:=match f t with
 |some s=>A9 s
 |none=>[]
def AU4(R:Nat->Option AR)(i:Nat):List Nat:=match R i with
 |some a=>AFT a
 |none=>[]
def AU5(f:Nat->Option SV)(R:Nat->Option AR)(lk:List Nat):List Nat:=H5 (AMk f) lk++H5 (AU4 R) (H5 (AMk f) lk)
def ASu(F:List Nat)(R:Nat->Option AR):Nat->Option AR:=fun i=>bif has F i then R i else none
def ftO(op:Op)(f:Nat->Option SV)(R:Nat->Option AR)(lk:List Nat):List Nat:=match op with
 |.load _ _=>H5 (AMk f) lk
 |.move _=>[]
 |.fieldAddr _ _ _=>[]
 |_=>AU5 f R lk
def AJD(id:Nat)(lk:List Nat)(σ:AS){Z:Type}(K:List Ac->Option Z)(op:Op):Option Z:=AE4 G id (ASt lk (A1 σ.env)) (ASu (ftO op (A1 σ.env) (A1 σ.res) lk) (A1 σ.res)) K op
def ABG(N:Nat)(ops:List Oper){Z:Type}(K:List Dr->AS->Option Z):List Oper->List Dr->AS->Option Z
 |[],T,σ=>K T σ
 |o::r,T,σ=>match ACU N o.op o.dst with
  |true=>match o.guard with
   |none=>AJD G (AAx o.dst) (lkL o.op.operands.toList) σ (fun as_=>ABG N ops K r (T++[⟨o.dst,lkL o.op.operands.toList,as_,ftO o.op (A1 σ.env) (A1 σ.res) (lkL o.op.operands.toList)⟩]) (apps o.dst as_ σ)) o.op
   |some (g,b)=>match AB5 ops g with
    |some t=>match A1 σ.env t with
     |some (.bool c)=>cond c
      (cond b (AJD G (AAx o.dst) (t::lkL o.op.operands.toList) { σ with env:=(t,.bool true)::σ.env } (fun as_=>ABG N ops K r (T++[⟨o.dst,t::lkL o.op.operands.toList,as_,ftO o.op (A1 ((t,.bool true)::σ.env)) (A1 σ.res) (t::lkL o.op.operands.toList)⟩]) (apps o.dst as_ { σ with env:=(t,.bool true)::σ.env })) o.op)
       (ABG N ops K r (T++[⟨o.dst,[t],[.put .undef],[]⟩]) (apps o.dst [.put .undef] { σ with env:=(t,.bool true)::σ.env })))
      (cond b (ABG N ops K r (T++[⟨o.dst,[t],[.put .undef],[]⟩]) (apps o.dst [.put .undef] { σ with env:=(t,.bool false)::σ.env }))
       (AJD G (AAx o.dst) (t::lkL o.op.operands.toList) { σ with env:=(t,.bool false)::σ.env } (fun as_=>ABG N ops K r (T++[⟨o.dst,t::lkL o.op.operands.toList,as_,ftO o.op (A1 ((t,.bool false)::σ.env)) (A1 σ.res) (t::lkL o.op.operands.toList)⟩]) (apps o.dst as_ { σ with env:=(t,.bool false)::σ.env })) o.op))
     |some .undef=>ABG N ops K r (T++[⟨o.dst,[t],[.put .undef],[]⟩]) (apps o.dst [.put .undef] σ)
     |_=>none
    |none=>none
  |false=>none
def U1:List Edge->List Nat
 |[]=>[]
 |e::l=>bif Region.binds .any e then e.on::U1 l else U1 l
def AXy(l:List (List Nat))(j:Nat):List Nat:=match nth l j with
 |some x=>x
 |none=>[]
def ABb{Z:Type}:List Nat->(List Nat->Z)->Z
 |[],K=>K []
 |x::l,K=>ABb l fun l'=>K (x::l')
def ADa{Z:Type}:List (List Nat)->(List (List Nat)->Z)->Z
 |[],K=>K []
 |x::l,K=>ABb x fun x'=>ADa l fun l'=>K (x'::l')
def APJ(acc:List Nat):List Nat->List Nat
 |[]=>acc
 |x::l=>bif has acc x then APJ acc l else APJ (x::acc) l
def lkT:List (Nat×List Nat)->Nat->List Nat
 |[],_=>[]
 |(k,o)::r,t=>bif beq k t then o else lkT r t
def ASv:List (Nat×List Nat)->Nat->List Oper->List (List Nat)
 |_,_,[]=>[]
 |acc,k,o::r=>ABb (APJ [] (U1 o.after.toList++H5 (lkT acc) (U1 o.after.toList))) fun t=>t::ASv ((k,t)::acc) (k+1) r
def ABH(ops:List Oper):List (List Nat):=ASv [] 0 ops
def idA:Ac->Option Nat
 |.put _=>none
 |.new i _=>some i
 |.sto i _ _=>some i
 |.cnt i _ _=>some i
 |.hnd i _=>some i
 |.del i _=>some i
def coA:Ac->List Nat
 |.put s=>A9 s
 |.new _ r=>AFT r
 |.sto _ _ ns=>ownsLL ns
 |.cnt _ _ _=>[]
 |.hnd _ r=>AFT r
 |.del _ p=>AAv p
def c0(i:Nat):Nat:=Nat.add i i
def c1(i:Nat):Nat:=Nat.succ (Nat.add i i)
def dbl:List Nat->List Nat
 |[]=>[]
 |i::l=>c0 i::c1 i::dbl l
mutual
def S8:SV->List Nat
 |.own i=>[c0 i]
 |.ptr i _=>[c0 i]
 |.ep i _ _ _ _=>[c0 i,c1 i]
 |.agg l=>O7 l
 |.tup l=>O7 l
 |.fn _ l=>O7 l
 |.rp s _=>S8 s
 |.ap s _ _ _=>S8 s
 |_=>[]
def O7:List SV->List Nat
 |[]=>[]
 |s::l=>S8 s++O7 l
end
def ABI:AR->List Nat
 |.own _ _ _=>[]
 |.row _ l=>O7 l
def AMl(R:Nat->Option AR)(i:Nat):List Nat:=match R i with
 |some a=>ABI a
 |none=>[]
def coR:Ac->List Nat
 |.new _ r=>ABI r
 |.sto _ _ ns=>O7 ns
 |.hnd _ r=>ABI r
 |_=>[]
def AMm(f:Nat->Option SV)(t:Nat):List Nat:=match f t with
 |some s=>S8 s
 |none=>[]
def coC:Ac->List Nat
 |.put s=>S8 s
 |.new _ r=>dbl (AFT r)
 |.sto _ _ ns=>dbl (ownsLL ns)
 |.cnt _ _ _=>[]
 |.hnd _ r=>dbl (AFT r)
 |.del _ p=>dbl (AAv p)
def wcA:Ac->List Nat
 |.put _=>[]
 |.new i _=>[c0 i,c1 i]
 |.sto i _ _=>[c1 i]
 |.cnt i _ _=>[c1 i]
 |.hnd i _=>[c0 i,c1 i]
 |.del i _=>[c0 i,c1 i]
def wsC:List Ac->List Nat
 |[]=>[]
 |a::l=>wcA a++wsC l
def pOwn(t:Nat):List Dr->List Nat
 |[]=>[]
 |r::l=>(match r.d with
  |some d=>bif beq d t then unputs r.as_ else []
  |none=>[])++pOwn t l
where unputs:List Ac->List Nat
 |[]=>[]
 |.put s::l=>S8 s++unputs l
 |_::l=>unputs l
def rOwn(i:Nat):List Dr->List Nat
 |[]=>[]
 |r::l=>unrows r.as_++rOwn i l
where unrows:List Ac->List Nat
 |[]=>[]
 |a::l=>(match idA a with
  |some j=>bif beq j i then coR a else []
  |none=>[])++unrows l
structure Gh where
 o:Nat->List Nat
 r:Nat->List Nat
def AB6(σ:AS)(T:List Dr):Gh:=⟨fun t=>AMm (A1 σ.env) t++pOwn t T,fun i=>AMl (A1 σ.res) i++rOwn i T⟩
structure De where
 r:Dr
 F:List Nat
 tb:List Nat
 es:List Nat
def mkE(g:Gh):List Dr->List (List Nat)->List Oper->List De
 |r::T,t::tb,o::l=>⟨r,H5 g.o r.lk++(dbl r.ft++H5 g.r r.ft),t,U1 o.after.toList⟩::mkE g T tb l
 |_,_,_=>[]
def ABJ(l F:List Nat):Bool:=l.all fun c=>has F c
def AMn(g:Gh)(d:Option Nat):Ac->Bool
 |.put s=>match d with
  |some t=>ABJ (S8 s) (g.o t)
  |none=>true
 |.new i r=>ABJ (ABI r) (g.r i)
 |.sto i _ ns=>ABJ (O7 ns) (g.r i)
 |.cnt _ _ _=>true
 |.hnd i r=>ABJ (ABI r) (g.r i)
 |.del _ p=>match AAv p with
  |[]=>true
  |_=>false
def AMo(l F:List Nat):Bool:=l.all fun c=>!has F c
def ADM(a b:De):Bool:=(match a.r.d with
 |some x=>!has b.r.lk x&&(match b.r.d with
  |some y=>!Nat.beq x y
  |none=>true)
 |none=>true)&&(match b.r.d with
 |some y=>!has a.r.lk y
 |none=>true)&&AMo (wsC a.r.as_) b.F&&AMo (wsC b.r.as_) a.F&&AMo (wsC a.r.as_) (wsC b.r.as_)
def APK(g:Gh)(E:List De)(k:Nat)(d:De):Bool:=
 (d.tb.all fun j=>blt j k&&(has d.es j||d.es.any fun e=>match nth E e with
  |some q=>has q.tb j
  |none=>false))&&(d.es.all fun e=>blt e k)&&(d.r.ft.all fun i=>has d.F (c1 i)&&ABJ (g.r i) d.F)&&(d.r.lk.all fun t=>ABJ (g.o t) d.F) &&
 (d.r.as_.all fun a=>AMn g d.r.d a&&ABJ (coC a) (d.F++wsC d.r.as_))
def AEB(d:De):Nat->List De->Bool
 |_,[]=>true
 |j,q::l=>(has d.tb j||ADM q d)&&AEB d (j+1) l
def AGI(f:Nat->De->Bool):Nat->List De->Bool
 |_,[]=>true
 |k,d::l=>f k d&&AGI f (k+1) l
def ADb:List De->List De->Bool
 |_,[]=>true
 |prev,d::l=>AEB d 0 prev&&ADb (prev++[d]) l
def APL(g:Gh)(n:Nat)(E:List De):Bool:=beq E.length n&&AGI (APK g E) 0 E&&ADb [] E
def AMp(ops:List Oper)(σ:AS)(T:List Dr):Bool:=APL (AB6 σ T) ops.length (mkE (AB6 σ T) T (ABH ops) ops)
def AEC(t:List Nat):Nat->List Nat
 |0=>[]
 |k+1=>bif has t k then AEC t k else k::AEC t k
def AG6:Nat->List (List Nat)->List (List Nat)
 |_,[]=>[]
 |k,t::r=>AEC t k::AG6 (k+1) r
def ASw(tb:List (List Nat))(j e:Nat):Bool:=match nth tb e with
 |some q=>has q j
 |none=>false
def AFV(tb:List (List Nat)):Nat->List (List Nat)->List Oper->Bool
 |k,t::r,o::l=>(t.all fun j=>blt j k&&(has (U1 o.after.toList) j||(U1 o.after.toList).any (ASw tb j)))&&((U1 o.after.toList).all fun e=>blt e k)&&AFV tb (k+1) r l
 |_,[],[]=>true
 |_,_,_=>false
def ASx:Ac->Bool
 |.del _ p=>match AAv p with
  |[]=>true
  |_=>false
 |_=>true
def AU6(d:De):Bool:=d.r.as_.all fun a=>ASx a&&ABJ (coC a) (d.F++wsC d.r.as_)
def APM(E:List De)(d:De)(j:Nat):Bool:=match nth E j with
 |some q=>ADM q d
 |none=>false
def AJE(E:List De):List De->List (List Nat)->Bool
 |[],_=>true
 |d::l,fr=>match fr with
  |f::r=>f.all (APM E d)&&AJE E l r
  |[]=>false
def AQd(n:Nat)(E:List De)(fr:List (List Nat)):Bool:=beq E.length n&&E.all AU6&&AJE E E fr
def mkF{Z:Type}(g:Gh):List Dr->List (List Nat)->List Oper->(List De->Z)->Z
 |r::T,t::tb,o::l,K=>ABb r.lk fun lk=>ABb r.ft fun ft=>ABb (H5 g.o lk++(dbl ft++H5 g.r ft)) fun F=>mkF g T tb l fun E=>K (⟨⟨r.d,lk,r.as_,ft⟩,F,t,U1 o.after.toList⟩::E)
 |_,_,_,K=>K []
def ADc(t:Nat):List (Nat×List Nat)->Bool
 |[]=>false
 |(k,_)::r=>beq k t||ADc t r
def AJw(t:Nat)(o:List Nat)(r:List (Nat×List Nat)):List (Nat×List Nat):=match o with
 |[]=>bif ADc t r then(t,[])::r else r
 |x::l=>(t,x::l)::r
def AGJ:List (Nat×SV)->List (Nat×List Nat)
 |[]=>[]
 |(t,s)::r=>AJw t (S8 s) (AGJ r)
def AGK:List (Nat×AR)->List (Nat×List Nat)
 |[]=>[]
 |(t,s)::r=>AJw t (ABI s) (AGK r)
def ACW{Z:Type}:List (Nat×List Nat)->(List (Nat×List Nat)->Z)->Z
 |[],K=>K []
 |(t,o)::r,K=>ABb o fun o'=>ACW r fun r'=>K ((t,o')::r')
mutual
def G2{Z:Type}:SV->(SV->Z)->Z
 |.agg l,K=>AAi l fun l'=>K (.agg l')
 |.fn g l,K=>AAi l fun l'=>K (.fn g l')
 |.tup l,K=>AAi l fun l'=>K (.tup l')
 |.rp s o,K=>G2 s fun s'=>K (.rp s' o)
 |.ap s n x k,K=>G2 s fun s'=>K (.ap s' n x k)
 |.int k x,K=>K (.int k x)
 |.bool b,K=>K (.bool b)
 |.dat t x,K=>K (.dat t x)
 |.str n x,K=>K (.str n x)
 |.ary k n x,K=>K (.ary k n x)
 |.own i,K=>K (.own i)
 |.ptr i o,K=>K (.ptr i o)
 |.ep i t x z o,K=>K (.ep i t x z o)
 |.fv a r f,K=>K (.fv a r f)
 |.nilS,K=>K .nilS
 |.raw v,K=>K (.raw v)
 |.it ts xs,K=>K (.it ts xs)
 |.np t x,K=>K (.np t x)
 |.undef,K=>K .undef
 |.dead,K=>K .dead
def AAi{Z:Type}:List SV->(List SV->Z)->Z
 |[],K=>K []
 |s::l,K=>G2 s fun s'=>AAi l fun l'=>K (s'::l')
end
def AG7{Z:Type}:List (Nat×SV)->(List (Nat×SV)->Z)->Z
 |[],K=>K []
 |(t,s)::r,K=>G2 s fun s'=>AG7 r fun r'=>K ((t,s')::r')
def ADd{Z:Type}:List (Nat×AR)->(List (Nat×AR)->Z)->Z
 |[],K=>K []
 |(i,a)::r,K=>match a with
  |.row e l=>AAi l fun l'=>ADd r fun r'=>K ((i,.row e l')::r')
  |.own p c x=>ADd r fun r'=>K ((i,.own p c x)::r')
def AJx{Z:Type}(σ:AS)(K:AS->Z):Z:=AG7 σ.env fun e=>ADd σ.res fun r=>K ⟨e,r,σ.kl,σ.ch⟩
def AGL:List Dr->List (Nat×List Nat)
 |[]=>[]
 |r::l=>match r.d with
  |some d=>match pOwn.unputs r.as_ with
   |[]=>AGL l
   |x::q=>(d,x::q)::AGL l
  |none=>AGL l
def AED:List Ac->List (Nat×List Nat)->List (Nat×List Nat)
 |[],z=>z
 |a::l,z=>match idA a with
  |some j=>match coR a with
   |[]=>AED l z
   |x::q=>(j,x::q)::AED l z
  |none=>AED l z
def AJy:List Dr->List (Nat×List Nat)
 |[]=>[]
 |r::l=>AED r.as_ (AJy l)
def ACX(t:Nat):List (Nat×List Nat)->List Nat
 |[]=>[]
 |(k,o)::r=>bif beq k t then o++ACX t r else ACX t r
def AG8{Z:Type}:List Dr->(List Dr->Z)->Z
 |[],K=>K []
 |r::l,K=>AG8 l fun l'=>K (r::l')
def ghT(to tr pt rt:List (Nat×List Nat)):Gh:=⟨fun t=>lkT to t++ACX t pt,fun i=>lkT tr i++ACX i rt⟩
def AJF(ops:List Oper)(tb fr:List (List Nat))(to tr:List (Nat×List Nat))(T:List Dr):Bool:=AG8 T fun T=>ACW (AGL T) fun pt=>ACW (AJy T) fun rt=>mkF (ghT to tr pt rt) T tb ops fun E=>AQd ops.length E fr
def AMq(N:Nat)(ops:List Oper){Z:Type}(KN:AS->Option Z)(σ:AS):Option Z:=AJx σ fun σ=>ACW (AGJ σ.env) fun to=>ACW (AGK σ.res) fun tr=>ADa (ABH ops) fun tb=>ADa (AG6 0 tb) fun fr=>match AFV tb 0 tb ops with
 |true=>ABG G N ops (fun T σ'=>match AJF ops tb fr to tr T with
  |true=>KN σ'
  |false=>none) ops [] σ
 |false=>none
inductive At where
 |slot (t:Nat)
 |cell (i n:Nat)
 |cont (i:Nat)
abbrev Cm:=At×Ck
structure Sh where
 cs:List Cm
 keep:List Nat
def O2(l:List Cm):Type:=E2 (l.map Prod.snd)
def nilO:(c:Oc)->Option (den c.ty)
 |.sl _ _=>some []
 |.mp _ _ _=>none
def AEE(R:Nat->Option AR)(c:Oc):SV->Option (den c.ty)
 |.own i=>match R i with
  |some (.own false c' x)=>castO c' c x
  |_=>none
 |.nilS=>nilO c
 |_=>none
def AB7(σ:AS)(i n:Nat):Option SV:=match A1 σ.res i with
 |some (.row _ l)=>nth l n
 |_=>none
def AAE(σ:AS):(c:Ck)->At->Option c.den
 |.d t,a=>match a with
  |.slot s=>match A1 σ.env s with
   |some v=>B9 (A1 σ.res) t v
   |none=>none
  |.cell i n=>match AB7 σ i n with
   |some v=>B9 (A1 σ.res) t v
   |none=>none
  |.cont _=>none
 |.own c,a=>match a with
  |.slot s=>match A1 σ.env s with
   |some v=>AEE (A1 σ.res) c v
   |none=>none
  |.cell i n=>match AB7 σ i n with
   |some v=>AEE (A1 σ.res) c v
   |none=>none
  |.cont i=>match A1 σ.res i with
   |some (.own _ c' x)=>castO c' c x
   |_=>none
 |.undef,a=>match a with
  |.slot s=>match A1 σ.env s with
   |some .undef=>some ()
   |_=>none
  |_=>none
 |.it _,_=>none
 |.np _,_=>none
def AH0(σ:AS):(l:List Cm)->Option (O2 l)
 |[]=>some ()
 |[c]=>AAE σ c.2 c.1
 |c::d::l=>match AAE σ c.2 c.1 with
  |some x=>match AH0 σ (d::l) with
   |some r=>some (x,r)
   |none=>none
  |none=>none
mutual
def J9(kp:List Nat):SV->SV
 |.own j=>bif has kp j then .own j else .dead
 |.ptr j o=>bif has kp j then .ptr j o else .dead
 |.ep j t x _ o=>bif has kp j then .ep j t x none o else .dead
 |.agg l=>.agg (kexL kp l)
 |.tup l=>.tup (kexL kp l)
 |.fn g l=>.fn g (kexL kp l)
 |.rp s o=>.rp (J9 kp s) o
 |.ap s n x k=>.ap (J9 kp s) n x k
 |.int k x=>.int k x
 |.bool b=>.bool b
 |.dat t x=>.dat t x
 |.str n x=>.str n x
 |.ary k n x=>.ary k n x
 |.fv a r f=>.fv a r f
 |.nilS=>.nilS
 |.raw v=>.raw v
 |.it ts xs=>.it ts xs
 |.np t x=>.np t x
 |.undef=>.undef
 |.dead=>.dead
def kexL(kp:List Nat):List SV->List SV
 |[]=>[]
 |s::l=>J9 kp s::kexL kp l
end
def AB8(wr kp:List Nat):List (Nat×SV)->List (Nat×SV)
 |[]=>[]
 |(t,s)::r=>bif has wr t then AB8 wr kp r else(t,J9 kp s)::AB8 wr kp r
def gone(kp:List Nat):List (Nat×AR)->List Nat
 |[]=>[]
 |(i,_)::r=>bif has kp i then gone kp r else i::gone kp r
def ACY(i n:Nat):Nat:=10000+100*i+n
def AAy:(c:Ck)->c.den->At->List (Nat×SV)
 |.d t,x,.slot s=>[(s,G0 t x)]
 |.own _,_,.slot s=>[(s,.own s)]
 |.undef,_,.slot s=>[(s,.undef)]
 |_,_,_=>[]
def ownV:(c:Ck)->c.den->At->List (Nat×AR)
 |.own c,x,.slot s=>[(s,.own false c x)]
 |.own c,x,.cell i n=>[(ACY i n,.own false c x)]
 |_,_,_=>[]
def AC2(i n:Nat):(c:Ck)->c.den->At->Option SV
 |.d t,x,.cell j m=>match beq i j&&beq n m with
  |true=>some (G0 t x)
  |false=>none
 |.own _,_,.cell j m=>match beq i j&&beq n m with
  |true=>some (.own (ACY j m))
  |false=>none
 |_,_,_=>none
def AFW(i:Nat)(o:Oc):(c:Ck)->c.den->At->Option (den o.ty)
 |.own o',x,.cont j=>match beq i j with
  |true=>castO o' o x
  |false=>none
 |_,_,_=>none
abbrev Cv:=(c:Cm)×c.2.den
def U7:(l:List Cm)->O2 l->List Cv
 |[],_=>[]
 |[c],x=>[⟨c,x⟩]
 |c::d::l,x=>⟨c,x.1⟩::U7 (d::l) x.2
def allV{α:Type}(f:(c:Ck)->c.den->At->List α):List Cv->List α
 |[]=>[]
 |p::l=>f p.1.2 p.2 p.1.1++allV f l
def ABr{α:Type}(f:(c:Ck)->c.den->At->Option α):List Cv->Option α
 |[]=>none
 |p::l=>match f p.1.2 p.2 p.1.1 with
  |some y=>some y
  |none=>ABr f l
def AH1(f:Nat->Option SV)(kp:List Nat):Nat->List SV->List SV
 |_,[]=>[]
 |n,s::l=>(match f n with
  |some s'=>s'
  |none=>J9 kp s)::AH1 f kp (n+1) l
def ADN(q:List Cv)(kp:List Nat)(i:Nat):AR->AR
 |.row e l=>.row e (AH1 (fun n=>ABr (AC2 i n) q) kp 0 l)
 |.own p c x=>match ABr (AFW i c) q with
  |some y=>.own p c y
  |none=>.own p c x
def AB9(q:List Cv)(kp:List Nat):List (Nat×AR)->List (Nat×AR)
 |[]=>[]
 |(i,a)::r=>bif has kp i then(i,ADN q kp i a)::AB9 q kp r else AB9 q kp r
def APN:List (Nat×AR)->List Nat
 |[]=>[]
 |(i,_)::l=>i::APN l
def chV:List Cm->List (Nat×Nat)
 |[]=>[]
 |(.cell i n,_)::l=>(i,n+1)::chV l
 |(.cont i,_)::l=>(i,0)::chV l
 |_::l=>chV l
def B6(wr:List Nat)(sh:Sh)(σ:AS)(x:O2 sh.cs):AS:=
 { env:=allV AAy (U7 sh.cs x)++AB8 wr sh.keep σ.env
   res:=allV ownV (U7 sh.cs x)++AB9 (U7 sh.cs x) sh.keep σ.res
   kl:=APN (allV ownV (U7 sh.cs x))++gone sh.keep σ.res++σ.kl
   ch:=chV sh.cs++σ.ch }
def AAS(i n:Nat):List Cm->Bool
 |[]=>false
 |(.cell j m,_)::r=>bif beq i j&&beq n (m+1) then true else AAS i n r
 |(.cont j,_)::r=>bif beq i j&&beq n 0 then true else AAS i n r
 |_::r=>AAS i n r
def okK(kp:List Nat):List Nat->Bool
 |[]=>true
 |i::r=>bif has kp i then false else okK kp r
def okC(kp:List Nat)(cs:List Cm):List (Nat×Nat)->Bool
 |[]=>true
 |(i,n)::r=>bif has kp i then(bif AAS i n cs then okC kp cs r else false) else okC kp cs r
def U8(σ:AS):At->Option SV
 |.slot s=>A1 σ.env s
 |.cell i n=>AB7 σ i n
 |.cont _=>none
def H2(σ:AS):List Cm->List Nat
 |[]=>[]
 |(a,.own _)::r=>match U8 σ a with
  |some (.own i)=>i::H2 σ r
  |_=>H2 σ r
 |_::r=>H2 σ r
def lent(σ:AS):List Cm->List Nat
 |[]=>[]
 |(a,.d _)::r=>match U8 σ a with
  |some s=>A9 s++lent σ r
  |none=>lent σ r
 |_::r=>lent σ r
def AFX:List Nat->Bool
 |[]=>true
 |x::r=>bif has r x then false else AFX r
def AMr(R:Nat->Option AR):List Nat->Bool
 |[]=>true
 |i::r=>match R i with
  |some _=>AMr R r
  |none=>false
def AGM:List Cm->List Nat
 |[]=>[]
 |(.slot s,.own _)::l=>s::AGM l
 |(.cell i n,.own _)::l=>ACY i n::AGM l
 |_::l=>AGM l
def AJG(sh:Sh)(σ:AS):Bool:=
 okK sh.keep σ.kl&&okC sh.keep sh.cs σ.ch&&okK sh.keep (H2 σ sh.cs)&&AFX (H2 σ sh.cs)&&okK sh.keep (lent σ sh.cs)&&okK (H2 σ sh.cs) (lent σ sh.cs)&&AFX sh.keep&&AMr (A1 σ.res) sh.keep&&AFX (AGM sh.cs)&&okK sh.keep (AGM sh.cs)
def I8(sh:Sh)(σ:AS):Option (O2 sh.cs):=match AJG sh σ with
 |true=>AH0 σ sh.cs
 |false=>none
inductive Key where
 |norm (sh:Sh)
 |exit (i:Nat) (sh:Sh)
 |ret
def AE7(ρ:Type):Key->Type
 |.norm sh=>O2 sh.cs
 |.exit _ sh=>O2 sh.cs
 |.ret=>ρ
def AEF(ρ:Type):List Key->Type
 |[]=>Unit
 |[k]=>AE7 ρ k
 |k::j::l=>AE7 ρ k⊕AEF ρ (j::l)
def AAz{ρ:Type}(f:(k:Key)->Option (AE7 ρ k)):(l:List Key)->Option (AEF ρ l)
 |[]=>none
 |[k]=>f k
 |k::j::l=>match f k with
  |some x=>some (Sum.inl x)
  |none=>match AAz f (j::l) with
   |some y=>some (Sum.inr y)
   |none=>none
def ASz{ρ:Type}(σ:AS):(k:Key)->Option (AE7 ρ k)
 |.norm sh=>I8 sh σ
 |_=>none
def AMs{ρ:Type}(i:Nat)(σ:AS):(k:Key)->Option (AE7 ρ k)
 |.exit j sh=>match beq i j with
  |true=>I8 sh σ
  |false=>none
 |_=>none
def AMt{ρ:Type}(r:ρ):(k:Key)->Option (AE7 ρ k)
 |.ret=>some r
 |_=>none
def AMu{ρ Z:Type}(wr:List Nat)(KN:AS->Option Z)(KX:Nat->AS->Option Z)(KR:ρ->Option Z)(σ:AS):(k:Key)->AE7 ρ k->Option Z
 |.norm sh,x=>KN (B6 wr sh σ x)
 |.exit i sh,x=>KX i (B6 wr sh σ x)
 |.ret,x=>KR x
def AC3{ρ Z:Type}(wr:List Nat)(KN:AS->Option Z)(KX:Nat->AS->Option Z)(KR:ρ->Option Z)(σ:AS):(l:List Key)->AEF ρ l->Option Z
 |[],_=>none
 |[k],x=>AMu wr KN KX KR σ k x
 |k::j::l,x=>Sum.elim (AMu wr KN KX KR σ k) (AC3 wr KN KX KR σ (j::l)) x
inductive An where
 |x
 |nd (l r:An)
 |jn (ks:List Key) (a:An)
 |lp (hd:Sh) (ks:List Key) (a:An)
def An.l:An->An
 |.nd a _=>a
 |_=>.x
def An.r:An->An
 |.nd _ a=>a
 |_=>.x
def C1:List Oper->List Nat
 |[]=>[]
 |o::r=>match o.dst with
  |some d=>d::C1 r
  |none=>C1 r
def D4:Code->List Nat
 |.region _ ops _=>C1 ops.toList
 |.seq a b=>D4 a++D4 b
 |.cond _ a b=>D4 a++D4 b
 |.block _ a=>D4 a
 |.loop a=>D4 a
 |.scope a=>D4 a
 |_=>[]
def J5:List Cm->List Nat
 |[]=>[]
 |(.slot t,_)::l=>t::J5 l
 |_::l=>J5 l
def O3:List Key->List Nat
 |[]=>[]
 |.norm sh::l=>J5 sh.cs++O3 l
 |.exit _ sh::l=>J5 sh.cs++O3 l
 |.ret::l=>O3 l
def C9:An->List Nat
 |.x=>[]
 |.nd a b=>C9 a++C9 b
 |.jn ks a=>O3 ks++C9 a
 |.lp hd ks a=>J5 hd.cs++O3 ks++C9 a
def AS.start(σ:AS):AS:={ σ with kl:=[],ch:=[] }
def wrap{ρ Z:Type}(c:Code)(an:An)(run:An->{Y:Type}->(AS->Option Y)->(Nat->AS->Option Y)->(ρ->Option Y)->AS->Option Y)(KN:AS->Option Z)(KX:Nat->AS->Option Z)(KR:ρ->Option Z)(σ:AS):Option Z:=match an with
 |.jn ks l=>(run l (fun σ'=>AAz (ASz σ') ks) (fun i σ'=>AAz (AMs i σ') ks) (fun r=>AAz (AMt r) ks) σ.start).bind (AC3 (D4 c++(O3 ks++C9 l)) KN KX KR σ ks)
 |an=>run an KN KX KR σ
def APO{α β:Type}:Option α->Option (α⊕β)
 |some x=>some (Sum.inl x)
 |none=>none
def AJz{α β:Type}:Option β->Option (α⊕β)
 |some x=>some (Sum.inr x)
 |none=>none
def AAc:Ty->Bool
 |.int _=>true
 |.bool=>true
 |.arr _ _=>true
 |.sl t=>AAc t
 |.st n=>Sf.nm n
 |.mp _ _ _=>false
 |.fno _=>true
def AWi:List Oper->List (Nat×SV)->Option (List (Nat×SV))
 |[],E=>some E
 |o::r,E=>match o.guard,o.dst,o.op with
  |none,some d,.assign x=>match B2 E x with
   |some s=>AWi r ((d,s)::E)
   |none=>none
  |_,_,_=>none
def ANz:Op->Bool
 |.defer _=>false
 |_=>true
def Z4:List Oper->Bool
 |[]=>true
 |o::l=>ANz o.op&&Z4 l
def pnc:Nat:=1000003
def ACZ(T t:Nat):Nat:=pnc*(T+1)+t
def AH2(m p:Oper):Option (TypeId×Operand×Nat):=match m.guard,m.dst,m.op,p.guard,p.op with
 |none,some t,.makeInterface T x,none,.panic (.tmp u)=>bif beq t u then some (T,x,t) else none
 |_,_,_,_,_=>none
def AE8:List Oper->Option (List Oper×TypeId×Operand×Nat)
 |[]=>none
 |o::r=>match r with
  |[]=>none
  |[p]=>match AH2 o p with
   |some q=>some ([],q)
   |none=>none
  |_::_::_=>match AE8 r with
   |some (l,q)=>some (o::l,q)
   |none=>none
def ADe:Ty->Bool
 |.int _=>true
 |.bool=>true
 |_=>false
def ACG:Ty->Bool
 |.st n=>(Sf.ft n).all ADe
 |t=>ADe t
def AJ0{ε Z:Type}(o:Option ε)(K:ε->Option Z)(z:Option Z):Option Z:=match z with
 |some r=>some r
 |none=>match o with
  |some e=>K e
  |none=>none
def AC4(o:Oper):Option (CtrP×List Operand):=match o.guard,o.op with
 |none,.call ⟨.value (.func g),args,_⟩=>match A1 G.pf g with
  |some c=>some (c,args.toList)
  |none=>none
 |_,_=>none
def AGN(o:Oper):Option (CtrM×List Operand):=match o.guard,o.op with
 |none,.call ⟨.value (.func g),args,_⟩=>match A1 G.fm g with
  |some c=>some (c,args.toList)
  |none=>none
 |_,_=>none
def agC(id:Nat)(R:Nat->Option AR)(c:CtrA){Z:Type}(K:List Ac->Option Z)(ss:List SV):Option Z:=match frz R (ownsLL ss),I7 G R c.ps ss with
 |some fz,some a=>(c.F a).bind fun r=>K (fz++(H1 id c.rs r).2++[.put (.agg (H1 id c.rs r).1)])
 |_,_=>none
def AMv(id:Nat)(R:Nat->Option AR)(c:CtrM){Z:Type}(K:List Ac->Option Z)(ss:List SV):Option Z:=match nth ss c.i with
 |some (.own j)=>match R j with
  |some (.own false c' x)=>match castO c' c.c x with
   |some x0=>match frz R (ownsLL (ss.eraseIdx c.i)),has (ownsLL (ss.eraseIdx c.i)) j,I7 G R c.ps (ss.eraseIdx c.i) with
    |some fz,false,some a=>(c.F a x0).bind fun r=>K (fz++[.cnt j c.c r.2,.put (bif c.self then .own j else AEx (H1 id c.rs r.1).1)])
    |_,_,_=>none
   |none=>none
  |_=>none
 |_=>none
def AJ1(id:Nat)(R:Nat->Option AR)(c:CtrM){Z:Type}(K:List Ac->Option Z)(ss:List SV):Option Z:=match c.ag with
 |some q=>agC G id R q K ss
 |none=>AMv G id R c K ss
def AFY:List Oper->Bool
 |[]=>false
 |o::l=>match AC4 G o with
  |some _=>true
  |none=>match AGN G o with
   |some _=>true
   |none=>AFY l
def AMw:List Oper->Option Nat
 |[]=>none
 |o::_=>o.dst
def AAQ(N:Nat)(all:List Oper)(t:Nat){Z:Type}(KN:AS->Option Z)(KX:Nat->AS->Option Z):List Oper->AS->Option Z
 |[],σ=>KN σ
 |o::r,σ=>match AGN G o with
  |some (c,args)=>match ACU N o.op o.dst,evL (B2 σ.env) args with
   |true,some ss=>S7 ss fun ss'=>AJ1 G (AAx o.dst) (A1 σ.res) c (fun ac=>AAQ N all t KN KX r (apps o.dst ac σ)) ss'
   |_,_=>none
  |none=>match AC4 G o with
  |some (c,args)=>match ACG c.t,evL (B2 σ.env) args with
   |true,some ss=>S7 ss fun ss'=>match I7 G (A1 σ.res) c.ps ss' with
    |some a=>AJ0 (c.F a) (fun e=>KX (ACZ c.T t) (apps (some t) [.put (G0 c.t e)] σ)) (C6 G N all (AAQ N all t KN KX r) [o] σ)
    |none=>none
   |_,_=>none
  |none=>C6 G N all (AAQ N all t KN KX r) [o] σ
noncomputable def exec(N:Nat){ρ:Type}(pr:AS->Option ρ):Code->An->{Z:Type}->(AS->Option Z)->(Nat->AS->Option Z)->(ρ->Option Z)->AS->Option Z
 |.skip,_,_,KN,_,_,σ=>KN σ
 |.region i ops dr,an,_,KN,KX,KR,σ=>match dr with
  |false=>wrap (.region i ops false) an (fun _ _ KN KX _ σ=>match Z4 ops.toList with
   |true=>match AE8 ops.toList with
    |some (l,T,x,t)=>match lk G.bd T,blt t N&&blt t pnc with
     |some _,true=>C6 G N ops.toList (fun σ'=>match B2 σ'.env x with
      |some s=>KX (ACZ T t) (apps (some t) [.put s] σ')
      |none=>none) l σ
     |_,_=>none
    |none=>match AFY G ops.toList,AMw ops.toList with
     |true,some t=>match blt t N&&blt t pnc with
      |true=>AAQ G N ops.toList t KN KX ops.toList σ
      |false=>none
     |_,_=>C6 G N ops.toList KN ops.toList σ
   |false=>none) KN KX KR σ
  |true=>wrap (.region i ops true) an (fun _ _ KN _ _ σ=>match Z4 ops.toList with
   |true=>AMq G N ops.toList KN σ
   |false=>none) KN KX KR σ
 |.seq a b,an,_,KN,KX,KR,σ=>wrap (.seq a b) an (fun an _ KN KX KR σ=>exec N pr a an.l (fun σ'=>exec N pr b an.r KN KX KR σ') KX KR σ) KN KX KR σ
 |.cond c a b,an,_,KN,KX,KR,σ=>wrap (.cond c a b) an (fun an _ KN KX KR σ=>match B2 σ.env c with
  |some (.bool t)=>cond t (exec N pr a an.l KN KX KR σ) (exec N pr b an.r KN KX KR σ)
  |_=>none) KN KX KR σ
 |.block i a,an,_,KN,KX,KR,σ=>wrap (.block i a) an (fun an _ KN KX KR σ=>match blt i pnc with
  |true=>exec N pr a an KN (fun j σ'=>bif beq j i then KN σ' else KX j σ') KR σ
  |false=>none) KN KX KR σ
 |.loop c,an,_,_,KX,KR,σ=>match an with
  |.lp hd ks l=>match I8 hd σ.start with
   |some s0=>(C0 (S:=O2 hd.cs) (R:=AEF ρ ks) (fun s=>exec N pr c l (fun σ'=>APO (I8 hd σ')) (fun j σ'=>AJz (AAz (AMs j σ') ks)) (fun r=>AJz (AAz (AMt r) ks)) (B6 (D4 c++(J5 hd.cs++O3 ks++C9 l)) hd σ.start s)) s0).bind (AC3 (D4 c++(J5 hd.cs++O3 ks++C9 l)) (fun _=>none) KX KR σ ks)
   |none=>none
  |_=>none
 |.scope a,an,_,KN,KX,KR,σ=>exec N pr a an KN KX KR σ
 |.label _,_,_,KN,_,_,σ=>KN σ
 |.exit i,_,_,_,KX,_,σ=>match blt i pnc with
  |true=>KX i σ
  |false=>none
 |.ret,_,_,_,_,KR,σ=>match pr σ with
  |some r=>KR r
  |none=>none
 |_,_,_,_,_,_,_=>none
end
end Go.Rx
namespace Go.Rx
open Go Go.Sx Go.RowKit
variable[Trk][Sg][Sf]{P:Program}[Se P]
def AMx(ρ:Nat->Value)(R:Nat->Option AR)(M:List Nat)(w:World)(v:Value):Rp->Prop
 |.dead=>True
 |.dat t x=>t.agg=false/\OkD M w t x v
 |.rp l=>∃b vs,v=.pointer (some ⟨b,0,none⟩)/\RdC M w b 0 vs/\OkL ρ R M w l vs
variable{ρ ρ':Nat->Value}{R R':Nat->Option AR}{M M':List Nat}{w w':World}{i:Nat}{p:Rp}
mutual
theorem Ok.sub(J:Adv M M' w w')(hρ:∀j,j≠i->ρ' j=ρ j)(C:∀j,j≠i->∀p e t xs,R j=some (.own p (.sl e t) xs)->R' j=some (.own p (.sl e t) xs))(V:AMx ρ' R' M' w' (ρ i) p):∀(s:SV) {v:Value},Ok ρ R M w s v->Ok ρ' R' M' w' (subS i p s) v
 |.int _ _,_,h=>h
 |.bool _,_,h=>h
 |.dat _ _,_,h=>⟨h.1,OkD.adv h.2 J⟩
 |.str _ _,_,h=>OkD.adv h J
 |.ary _ _ _,_,h=>OkD.adv h J
 |.agg l,_,⟨vs,I,H⟩=>⟨vs,I,OkL.sub J hρ C V l H⟩
 |.own j,v,h=>by
  obtain⟨I,H,W⟩:=h;simp only[subS];split
  . rename_i U;have:=AX5 U;subst this;cases p with
    |dat t x=>exact⟨V.1,by rw[I];exact V.2⟩
    |dead=>exact H
    |rp l=>exact H
  . rename_i U;exact⟨by rw[I,hρ j (fun e=>by subst e;simp at U)],H,W⟩
 |.ptr j o,v,h=>by
  obtain⟨b,I,H⟩:=h;simp only[subS];split
  . rename_i U;have:=AX5 U;subst this;cases p with
    |dat t x=>rw[H];exact rfl
    |dead=>rw[H];exact rfl
    |rp l=>
     obtain⟨b',vs,W,D,F⟩:=V
     rw[I]at W;cases W
     exact⟨b,0,.agg (toArray vs),vs,by rw[H,AYQ],D,⟨vs,rfl,F⟩,rfl⟩
  . rename_i U;exact⟨b,by rw[hρ j (fun e=>by subst e;simp at U)];exact I,H⟩
 |.ep j t x z o,v,h=>by
  obtain⟨g,n,c,q,e,xs,I,H,W,D,F⟩:=h;simp only[subS];split
  . rw[D];exact rfl
  . rename_i U;have E:j≠i:=fun e=>by subst e;simp at U
    exact⟨g,n,c,q,e,xs,by rw[hρ j E];exact I,C j E _ _ _ _ H,W,D,F⟩
 |.rp s _,_,⟨b,o0,u,vs,I,H,W,D⟩=>⟨b,o0,u,vs,I,H.adv J,Ok.sub J hρ C V s W,D⟩
 |.ap s _ _ _,_,⟨b,o,I,H⟩=>⟨b,o,Ok.sub J hρ C V s I,H⟩
 |.fv _ _ _,_,h=>⟨FnOk.adv h.1 J,h.2⟩
 |.it _ _,_,h=>⟨ItV.adv h.1 J,h.2⟩
 |.np _ _,_,h=>NpOk.adv h J
 |.fn _ l,_,⟨vs,I,H⟩=>⟨vs,I,OkV.sub J hρ C V l H⟩
 |.nilS,_,h=>h
 |.raw _,_,h=>h
 |.undef,_,h=>h
 |.dead,_,h=>h
 |.tup l,_,⟨vs,I,H⟩=>⟨vs,I,OkV.sub J hρ C V l H⟩
theorem OkL.sub(I:Adv M M' w w')(hρ:∀j,j≠i->ρ' j=ρ j)(J:∀j,j≠i->∀p e t xs,R j=some (.own p (.sl e t) xs)->R' j=some (.own p (.sl e t) xs))(H:AMx ρ' R' M' w' (ρ i) p):∀(l:List SV) {vs:List Value},OkL ρ R M w l vs->OkL ρ' R' M' w' (subL i p l) vs
 |[],_,h=>h
 |s::l,_,⟨u,c,r,C,W,V,U⟩=>⟨u,c,r,C,Ok.sub I hρ J H s W,V,OkL.sub I hρ J H l U⟩
theorem OkV.sub(I:Adv M M' w w')(hρ:∀j,j≠i->ρ' j=ρ j)(J:∀j,j≠i->∀p e t xs,R j=some (.own p (.sl e t) xs)->R' j=some (.own p (.sl e t) xs))(H:AMx ρ' R' M' w' (ρ i) p):∀(l:List SV) {vs:List Value},OkV ρ R M w l vs->OkV ρ' R' M' w' (subL i p l) vs
 |[],_,h=>h
 |s::l,_,⟨u,r,W,V,U⟩=>⟨u,r,W,Ok.sub I hρ J H s V,OkV.sub I hρ J H l U⟩
end
mutual
theorem Ok.old(J:∀j,j≠i->∀p e t xs,R j=some (.own p (.sl e t) xs)->R' j=some (.own p (.sl e t) xs))(hi:∀p e t xs,R i=some (.own p (.sl e t) xs)->∃ys:List (den t),R' i=some (.own p (.sl e t) ys)/\ys.length=xs.length):∀(s:SV) {v:Value},Ok ρ R M w s v->Ok ρ R' M w (oldS i s) v
 |.int _ _,_,h=>h
 |.bool _,_,h=>h
 |.dat _ _,_,h=>h
 |.str _ _,_,h=>h
 |.ary _ _ _,_,h=>h
 |.agg l,_,⟨vs,I,H⟩=>⟨vs,I,OkL.old J hi l H⟩
 |.own _,_,h=>h
 |.ptr _ _,_,h=>h
 |.ep j t x z o,v,h=>by
  obtain⟨g,n,c,q,e,xs,I,H,V,U,E⟩:=h;simp only[oldS];split
  . rename_i W;have:=AX5 W;subst this;obtain⟨ys,D,C⟩:=hi _ _ _ _ H;exact⟨g,n,c,q,e,ys,I,D,by rw[C];exact V,U,fun y hy=>by cases hy⟩
  . rename_i W;exact⟨g,n,c,q,e,xs,I,J j (fun e=>by subst e;simp at W) _ _ _ _ H,V,U,E⟩
 |.rp s _,_,⟨b,o0,u,vs,I,H,V,U⟩=>⟨b,o0,u,vs,I,H,Ok.old J hi s V,U⟩
 |.ap s _ _ _,_,⟨b,o,I,H⟩=>⟨b,o,Ok.old J hi s I,H⟩
 |.fv _ _ _,_,h=>h
 |.it _ _,_,h=>h
 |.np _ _,_,h=>h
 |.fn _ l,_,⟨vs,I,H⟩=>⟨vs,I,OkV.old J hi l H⟩
 |.nilS,_,h=>h
 |.raw _,_,h=>h
 |.undef,_,h=>h
 |.dead,_,h=>h
 |.tup l,_,⟨vs,I,H⟩=>⟨vs,I,OkV.old J hi l H⟩
theorem OkL.old(H:∀j,j≠i->∀p e t xs,R j=some (.own p (.sl e t) xs)->R' j=some (.own p (.sl e t) xs))(hi:∀p e t xs,R i=some (.own p (.sl e t) xs)->∃ys:List (den t),R' i=some (.own p (.sl e t) ys)/\ys.length=xs.length):∀(l:List SV) {vs:List Value},OkL ρ R M w l vs->OkL ρ R' M w (oldL i l) vs
 |[],_,h=>h
 |s::l,_,⟨u,c,r,V,U,J,I⟩=>⟨u,c,r,V,Ok.old H hi s U,J,OkL.old H hi l I⟩
theorem OkV.old(H:∀j,j≠i->∀p e t xs,R j=some (.own p (.sl e t) xs)->R' j=some (.own p (.sl e t) xs))(hi:∀p e t xs,R i=some (.own p (.sl e t) xs)->∃ys:List (den t),R' i=some (.own p (.sl e t) ys)/\ys.length=xs.length):∀(l:List SV) {vs:List Value},OkV ρ R M w l vs->OkV ρ R' M w (oldL i l) vs
 |[],_,h=>h
 |s::l,_,⟨u,r,U,J,I⟩=>⟨u,r,U,Ok.old H hi s J,OkV.old H hi l I⟩
end
theorem has_iff:∀{l:List Nat} {n:Nat},has l n=true↔n∈l
 |[],n=>by simp[has]
 |x::r,n=>by
  simp only[has];cases I:beq x n with
  |true=>have:=AX5 I;subst this;simp
  |false=>
   have H:n≠x:=fun e=>by subst e;simp at I
   simp[has_iff (l:=r),H]
variable{kp:List Nat}
mutual
theorem Ok.kex(hρ:∀j∈kp,ρ' j=ρ j)(U:∀j∈kp,∀p e t xs,R j=some (.own p (.sl e t) xs)->∃ys:List (den t),R' j=some (.own p (.sl e t) ys)/\ys.length=xs.length):∀(s:SV) {v:Value},Ok ρ R M w s v->Ok ρ' R' M w (J9 kp s) v
 |.int _ _,_,h=>h
 |.bool _,_,h=>h
 |.dat _ _,_,h=>h
 |.str _ _,_,h=>h
 |.ary _ _ _,_,h=>h
 |.agg l,_,⟨vs,I,H⟩=>⟨vs,I,OkL.kex hρ U l H⟩
 |.own j,v,h=>by
  obtain⟨I,H,V⟩:=h;simp only[J9];cases J:has kp j with
  |true=>exact⟨by rw[I,hρ j (has_iff.1 J)],H,V⟩
  |false=>exact H
 |.ptr j o,v,h=>by
  obtain⟨b,I,H⟩:=h;simp only[J9];cases J:has kp j with
  |true=>exact⟨b,by rw[hρ j (has_iff.1 J)];exact I,H⟩
  |false=>rw[H];exact rfl
 |.ep j t x z o,v,h=>by
  obtain⟨g,n,c,q,e,xs,I,H,V,W,E⟩:=h;simp only[J9];cases J:has kp j with
  |true=>
   obtain⟨ys,D,C⟩:=U j (has_iff.1 J) _ _ _ _ H
   exact⟨g,n,c,q,e,ys,by rw[hρ j (has_iff.1 J)];exact I,D,by rw[C];exact V,W,fun y hy=>by cases hy⟩
  |false=>rw[W];exact rfl
 |.rp s _,_,⟨b,o0,u,vs,I,H,V,W⟩=>⟨b,o0,u,vs,I,H,Ok.kex hρ U s V,W⟩
 |.ap s _ _ _,_,⟨b,o,I,H⟩=>⟨b,o,Ok.kex hρ U s I,H⟩
 |.fv _ _ _,_,h=>h
 |.it _ _,_,h=>h
 |.np _ _,_,h=>h
 |.fn _ l,_,⟨vs,I,H⟩=>⟨vs,I,OkV.kex hρ U l H⟩
 |.nilS,_,h=>h
 |.raw _,_,h=>h
 |.undef,_,h=>h
 |.dead,_,h=>h
 |.tup l,_,⟨vs,I,H⟩=>⟨vs,I,OkV.kex hρ U l H⟩
theorem OkL.kex(hρ:∀j∈kp,ρ' j=ρ j)(H:∀j∈kp,∀p e t xs,R j=some (.own p (.sl e t) xs)->∃ys:List (den t),R' j=some (.own p (.sl e t) ys)/\ys.length=xs.length):∀(l:List SV) {vs:List Value},OkL ρ R M w l vs->OkL ρ' R' M w (kexL kp l) vs
 |[],_,h=>h
 |s::l,_,⟨u,c,r,V,U,J,I⟩=>⟨u,c,r,V,Ok.kex hρ H s U,J,OkL.kex hρ H l I⟩
theorem OkV.kex(hρ:∀j∈kp,ρ' j=ρ j)(H:∀j∈kp,∀p e t xs,R j=some (.own p (.sl e t) xs)->∃ys:List (den t),R' j=some (.own p (.sl e t) ys)/\ys.length=xs.length):∀(l:List SV) {vs:List Value},OkV ρ R M w l vs->OkV ρ' R' M w (kexL kp l) vs
 |[],_,h=>h
 |s::l,_,⟨u,r,U,J,I⟩=>⟨u,r,U,Ok.kex hρ H s J,OkV.kex hρ H l I⟩
end
variable{i:Nat}{p:Rp}
mutual
theorem Ok.kexSub(hi:has kp i=false):∀(s:SV) {v:Value},Ok ρ R M w (J9 kp (subS i p s)) v->Ok ρ R M w (J9 kp s) v
 |.int _ _,_,h=>h
 |.bool _,_,h=>h
 |.dat _ _,_,h=>h
 |.str _ _,_,h=>h
 |.ary _ _ _,_,h=>h
 |.agg l,_,⟨vs,I,H⟩=>⟨vs,I,OkL.kexSub hi l H⟩
 |.own j,v,h=>by
  simp only[subS]at h;split at h
  . rename_i J;have:=AX5 J;subst this;simp only[J9,hi,cond_false];cases p with
    |dat t x=>exact Ok.cells1 (.dat t x) rfl h
    |dead=>exact h
    |rp l=>exact h
  . exact h
 |.ptr j o,v,h=>by
  simp only[subS]at h;split at h
  . rename_i J;have:=AX5 J;subst this;simp only[J9,hi,cond_false];cases p with
    |dat t x=>exact h
    |dead=>exact h
    |rp l=>obtain⟨b,o0,u,vs,rfl,_⟩:=h;exact rfl
  . exact h
 |.ep j t x z o,v,h=>by
  simp only[subS]at h;split at h
  . rename_i J;have:=AX5 J;subst this;simp only[J9,hi,cond_false];exact h
  . exact h
 |.rp s _,_,⟨b,o0,u,vs,I,H,V,U⟩=>⟨b,o0,u,vs,I,H,Ok.kexSub hi s V,U⟩
 |.ap s _ _ _,_,⟨b,o,I,H⟩=>⟨b,o,Ok.kexSub hi s I,H⟩
 |.fv _ _ _,_,h=>h
 |.it _ _,_,h=>h
 |.np _ _,_,h=>h
 |.fn _ l,_,⟨vs,I,H⟩=>⟨vs,I,OkV.kexSub hi l H⟩
 |.nilS,_,h=>h
 |.raw _,_,h=>h
 |.undef,_,h=>h
 |.dead,_,h=>h
 |.tup l,_,⟨vs,I,H⟩=>⟨vs,I,OkV.kexSub hi l H⟩
theorem OkL.kexSub(hi:has kp i=false):∀(l:List SV) {vs:List Value},OkL ρ R M w (kexL kp (subL i p l)) vs->OkL ρ R M w (kexL kp l) vs
 |[],_,h=>h
 |s::l,_,⟨u,c,r,U,J,I,H⟩=>⟨u,c,r,U,Ok.kexSub hi s J,I,OkL.kexSub hi l H⟩
theorem OkV.kexSub(hi:has kp i=false):∀(l:List SV) {vs:List Value},OkV ρ R M w (kexL kp (subL i p l)) vs->OkV ρ R M w (kexL kp l) vs
 |[],_,h=>h
 |s::l,_,⟨u,r,J,I,H⟩=>⟨u,r,J,Ok.kexSub hi s I,OkV.kexSub hi l H⟩
end
mutual
theorem AFZ{kp:List Nat}{i:Nat}:∀s:SV,J9 kp (oldS i s)=J9 kp s
 |.ep j t x z o=>by
  simp only[oldS];split<;>rfl
 |.agg l=>AX9 SV.agg (AEG l)
 |.tup l=>AX9 SV.tup (AEG l)
 |.fn g l=>AX9 (SV.fn g) (AEG l)
 |.rp s o=>AX9 (fun x=>SV.rp x o) (AFZ s)
 |.ap s n x k=>AX9 (fun y=>SV.ap y n x k) (AFZ s)
 |.int _ _|.bool _|.dat _ _|.str _ _|.ary _ _ _|.own _|.ptr _ _|.fv _ _ _|.nilS|.np _ _|.it _ _|.raw _|.undef|.dead=>rfl
theorem AEG{kp:List Nat}{i:Nat}:∀l:List SV,kexL kp (oldL i l)=kexL kp l
 |[]=>rfl
 |s::l=>by simp only[oldL,kexL,AFZ s,AEG l]
end
mutual
theorem AFa{kp kq:List Nat}(h:∀i∈kp,i∈kq):∀s:SV,J9 kp (J9 kq s)=J9 kp s
 |.own j=>by
  simp only[J9];cases H:has kq j with
  |true=>rfl
  |false=>
   cases I:has kp j with
   |true=>rw[has_iff.2 (h j (has_iff.1 I))]at H;cases H
   |false=>rfl
 |.ptr j o=>by
  simp only[J9];cases H:has kq j with
  |true=>rfl
  |false=>
   cases I:has kp j with
   |true=>rw[has_iff.2 (h j (has_iff.1 I))]at H;cases H
   |false=>rfl
 |.ep j t x z o=>by
  simp only[J9];cases H:has kq j with
  |true=>rfl
  |false=>
   cases I:has kp j with
   |true=>rw[has_iff.2 (h j (has_iff.1 I))]at H;cases H
   |false=>rfl
 |.agg l=>AX9 SV.agg (AEH h l)
 |.tup l=>AX9 SV.tup (AEH h l)
 |.fn g l=>AX9 (SV.fn g) (AEH h l)
 |.rp s o=>AX9 (fun x=>SV.rp x o) (AFa h s)
 |.ap s n x k=>AX9 (fun y=>SV.ap y n x k) (AFa h s)
 |.int _ _|.bool _|.dat _ _|.str _ _|.ary _ _ _|.fv _ _ _|.nilS|.np _ _|.it _ _|.raw _|.undef|.dead=>rfl
theorem AEH{kp kq:List Nat}(h:∀i∈kp,i∈kq):∀l:List SV,kexL kp (kexL kq l)=kexL kp l
 |[]=>rfl
 |s::l=>by simp only[kexL,AFa h s,AEH h l]
end
end Go.Rx
namespace Go.Rx
open Go Go.Sx Go.RowKit
variable[Trk][Sg][Sf]{P:Program}[Se P]{ρ:Nat->Value}{R:Nat->Option AR}{M M':List Nat}{w:World}{t:Ty}{x:den t}{v:Value}{n:Nat}{t':Ty}{y:den t'}{s:SV}{ss:List SV}{u:Ty}
theorem E1:∀(t:Ty) {x:den t} {v:Value},OkD M w t x v->Ok ρ R M w (G0 t x) v
 |.int k,x,v,h=>by
  obtain⟨cs,I,H|H⟩:=h
  . cases H.1
  . obtain⟨_,rfl⟩:=H;exact⟨by have:=I.1;simpa using this,I.2⟩
 |.bool,x,v,h=>by
  obtain⟨cs,I,H|H⟩:=h
  . cases H.1
  . obtain⟨_,rfl⟩:=H;have I:[v]=[Value.bool x]:=I;show v=Value.bool x;simpa using I
 |.sl t,x,v,h=>⟨rfl,h⟩
 |.st n,x,v,h=>h
 |.arr k n,x,v,h=>h
 |.mp m k u,x,v,h=>⟨rfl,h⟩
 |.fno i,x,v,h=>⟨rfl,h⟩
theorem OkD.cells(h:OkD M w t x v):(enc t).R M w v.cells.toList x:=by
 obtain⟨cs,I,H|H⟩:=h
 . obtain⟨_,rfl⟩:=H;exact I
 . obtain⟨_,rfl⟩:=H;rw[ACz ((enc t).one I _ (mem_singleton.2 rfl))];exact I
theorem J6{cs:List Value}(h:(enc t).R M w cs x):∃v,OkD M w t x v/\v.cells=toArray cs:=by
 cases H:t.agg with
 |true=>exact⟨.agg (toArray cs),⟨cs,h,.inl ⟨H,rfl⟩⟩,rfl⟩
 |false=>
  have I:cs.length=1:=by
   rw[(enc t).len h];cases t<;>first|rfl|cases H
  obtain⟨v,rfl⟩:∃v,cs=[v]:=by
   cases cs with
   |nil=>cases I
   |cons v r=>cases r with
    |nil=>exact⟨v,rfl⟩
    |cons u r=>simp at I
  exact⟨v,⟨[v],h,.inr ⟨H,rfl⟩⟩,ACz ((enc t).one h _ (mem_singleton.2 rfl))⟩
theorem ALd:∀(l:List Ty) {y:P2 l} {cs:List Value},(AE2 l).R M w cs y->OkL ρ R M w (ofL l y) cs
 |[],_,_,h=>h.elim
 |[t],y,cs,h=>by
  obtain⟨v,I,H⟩:=J6 h;exact⟨v,cs,[],by simp,E1 t I,H,rfl⟩
 |t::u::l,y,cs,h=>by
  obtain⟨c1,c2,rfl,I,H⟩:=h;obtain⟨v,U,J⟩:=J6 I;exact⟨v,c1,c2,rfl,E1 t U,J,ALd (u::l) H⟩
theorem ARI[Sl (P:=P)]{x:Sg.S n}(h:OkD M w (.st n) x v):∃vs,v=.agg (toArray vs)/\OkL ρ R M w (ASd n x) vs:=by
 obtain⟨cs,I,H|H⟩:=h
 . obtain⟨_,rfl⟩:=H;exact⟨cs,rfl,ALd _ ((Sl.is n M w cs x).1 I)⟩
 . cases H.1
theorem Ok.cellsOf[Sl (P:=P)]:∀(s:SV) {v:Value},Ok ρ R M w s v->OkL ρ R M w (Rx.cellsOf s) v.cells.toList
 |.str n x,v,h=>by
  obtain⟨vs,rfl,H⟩:=ARI (ρ:=ρ) (R:=R) h;exact H
 |.agg l,v,h=>by
  obtain⟨vs,rfl,H⟩:=h;exact H
 |.int _ _,v,h|.bool _,v,h|.dat _ _,v,h|.ary _ _ _,v,h|.own _,v,h|.ptr _ _,v,h|.ep _ _ _ _ _,v,h|.rp _ _,v,h|.fv _ _ _,v,h|.fn _ _,v,h|.nilS,v,h|.np _ _,v,h|.it _ _,v,h|.raw _,v,h|.ap _ _ _ _,v,h|.undef,v,h|.dead,v,h|.tup _,v,h=>
  ⟨v,v.cells.toList,[],by simp,h,by simp,rfl⟩
theorem O1(h:G8 t t' x=some y):∃e:t=t',e▸x=y:=by
 unfold G8 at h;split at h
 . rename_i e;exact⟨e,AXz h⟩
 . cases h
theorem AMy{n n':Nat}{x:Sg.S n}{y:Sg.S n'}(h:AJB n n' x=some y):∃e:n=n',e▸x=y:=by
 unfold AJB at h;split at h
 . rename_i e;exact⟨e,AXz h⟩
 . cases h
def Rds(ρ:Nat->Value)(R:Nat->Option AR)(M':List Nat)(w:World)(I:List Nat):Prop:=
 ∀i∈I,∀p c (x:den c.ty),R i=some (.own p c x)->OkD M' w c.ty x (ρ i)
theorem OkD.mon(H:∀b∈M',b∈M)(h:OkD M w t x v):OkD M' w t x v:=h.adv (Adv.drop H)
theorem AJ2(h:G8 t t' x=some y)(hx:OkD M w t x v):OkD M w t' y v:=by
 obtain⟨e,rfl⟩:=O1 h;subst e;exact hx
theorem AAF{c c':Oc}{x:den c.ty}{y:den c'.ty}(h:castO c c' x=some y):∃e:c=c',e▸x=y:=by
 unfold castO at h;split at h
 . rename_i e;exact⟨e,AXz h⟩
 . cases h
theorem AAk(H:∀b∈M',b∈M):∀(t:Ty) (s:SV) {x:den t} {v:Value},Rds ρ R M' w (A9 s)->AAN R t s=some x->Ok ρ R M w s v->OkD M' w t x v:=by
 intro t s x v U hd h;cases t with
 |int k=>
  cases s<;>simp only[AAN]at hd<;>try cases hd
  rename_i k' y
  split at hd
  . rename_i hk
    have:=ADX hk;subst this
    cases hd
    exact⟨[v],⟨by rw[h.1],h.2⟩,.inr ⟨rfl,rfl⟩⟩
  . cases hd
 |bool=>
  cases s<;>simp only[AAN]at hd<;>try cases hd
  exact⟨[v],(by show [v]=[Value.bool _];rw[show v=_ from h]),.inr ⟨rfl,rfl⟩⟩
 |sl t=>
  cases s<;>simp only[AAN]at hd<;>try cases hd
  case dat t' y=>
   obtain⟨e,rfl⟩:=O1 hd
   subst e
   exact OkD.mon H h.2
  case own i=>
   split at hd
   . rename_i p c xs I
     rw[h.1]
     exact AJ2 hd (U i (by simp[A9]) _ _ _ I)
   . cases hd
  case sl.nilS.refl=>
   exact⟨[v],⟨v,rfl,by rw[show v=_ from h];exact RdS.nil _ _ _⟩,.inr ⟨rfl,rfl⟩⟩
 |st n=>cases hd
 |arr k n=>
  cases s<;>simp only[AAN]at hd<;>try cases hd
  rename_i k' n' y
  split at hd
  . rename_i hk
    have:=ADX hk;subst this
    split at hd
    . rename_i V
      have:=AX5 V;subst this
      cases hd
      exact OkD.mon H h
    . cases hd
  . cases hd
 |mp m k u=>
  cases s<;>simp only[AAN]at hd<;>try cases hd
  case dat t' y=>
   obtain⟨e,rfl⟩:=O1 hd
   subst e
   exact OkD.mon H h.2
  case own i=>
   split at hd
   . rename_i p c xs I
     rw[h.1]
     exact AJ2 hd (U i (by simp[A9]) _ _ _ I)
   . cases hd
 |fno i=>
  cases s<;>simp only[AAN]at hd<;>try cases hd
  case dat t' y=>
   obtain⟨e,rfl⟩:=O1 hd
   subst e
   exact OkD.mon H h.2
  case fn g l=>
   split at hd
   . cases hd
     obtain⟨vs,rfl,J⟩:=h
     have J:vs=[]:=J
     subst J
     exact⟨[_],rfl,.inr ⟨rfl,rfl⟩⟩
   . cases hd
theorem Rds.mono{I J:List Nat}(h:Rds ρ R M' w J)(H:∀i∈I,i∈J):Rds ρ R M' w I:=fun i hi=>h i (H i hi)
theorem OkL.one{vs:List Value}(h:OkL ρ R M w [s] vs):∃u,vs=u.cells.toList/\Ok ρ R M w s u:=by
 obtain⟨u,c,r,U,J,I,H⟩:=h;have H:r=[]:=H;subst H;exact⟨u,by rw[U,I];simp,J⟩
theorem ALe:toL R [] ss=none:=rfl
theorem AS0:toL R [t] []=none:=rfl
theorem AS1{s u:SV}{l:List SV}:toL R [t] (s::u::l)=none:=rfl
theorem AS2{l:List Ty}:toL R (t::u::l) []=none:=rfl
theorem AQg{l:List Ty}{r:List SV}:toL R (t::u::l) (s::r)=(match AAN R t s with
 |some x=>match toL R (u::l) r with
  |some y=>some (x,y)
  |none=>none
 |none=>none):=rfl
theorem A2{α:Type}{x:α}(h:none=some x):False:=by cases h
theorem ALf{y:P2 [t]}(h:toL R [t] ss=some y):∃s,ss=[s]/\AAN R t s=some y:=by
 cases ss with
 |nil=>rw[AS0]at h;exact(A2 h).elim
 |cons s r=>cases r with
  |nil=>exact⟨s,rfl,h⟩
  |cons _ _=>rw[AS1]at h;exact(A2 h).elim
theorem ALg{l:List Ty}{y:P2 (t::u::l)}(h:toL R (t::u::l) ss=some y):∃s r x z,ss=s::r/\AAN R t s=some x/\toL R (u::l) r=some z/\y=(x,z):=by
 cases ss with
 |nil=>rw[AS2]at h;exact(A2 h).elim
 |cons s r=>
  rw[AQg]at h
  generalize I:AAN R t s=o1 at h
  cases o1 with
  |none=>exact(A2 h).elim
  |some x=>
   generalize H:toL R (u::l) r=o2 at h
   cases o2 with
   |none=>exact(A2 h).elim
   |some z=>exact⟨s,r,x,z,rfl,I,H,(AXz h).symm⟩
theorem AS3(V:∀b∈M',b∈M)(l:List Ty):∀(ss:List SV) {y:P2 l} {vs:List Value},AEt l=true->Rds ρ R M' w (ownsLL ss)->toL R l ss=some y->OkL ρ R M w ss vs->(AE2 l).R M' w vs y:=by
 induction l with
 |nil=>
  intro ss y vs _ _ h _
  rw[ALe]at h;exact(A2 h).elim
 |cons t l ih=>
  intro ss y vs hl H h hk
  cases l with
  |nil=>
   obtain⟨s,rfl,U⟩:=ALf h
   obtain⟨u,rfl,J⟩:=hk.one
   exact(AAk V t s (H.mono (by simp[ownsLL])) U J).cells
  |cons u l=>
   obtain⟨s,r,x,z,rfl,U,J,rfl⟩:=ALg h
   obtain⟨v,c,rv,rfl,E,D,C⟩:=hk
   have W:=(AAk V t s (H.mono (by simp only[ownsLL];intro i hi;exact AX2 _ hi)) U E).cells
   rw[D]at W
   have I:AEt (u::l)=true:=by
    have:(t.leaf&&AEt (u::l))=true:=hl;rw[Bool.and_eq_true]at this;exact this.2
   exact⟨c,rv,rfl,by simpa using W,ih r I (H.mono (by simp only[ownsLL];intro i hi;exact AX3 _ hi)) J C⟩
theorem I5[Sl (P:=P)](H:∀b∈M',b∈M)(t:Ty)(s:SV){x:den t}(I:Rds ρ R M' w (A9 s))(hd:B9 R t s=some x)(h:Ok ρ R M w s v):OkD M' w t x v:=by
 cases t with
 |st n=>
  cases s with
  |str n' y=>
   have hd:AJB n' n y=some x:=hd
   obtain⟨e,rfl⟩:=AMy hd
   subst e
   exact OkD.mon H h
  |agg l=>
   have hd:(match toL R (Sf.ft n) l with
    |some y=>some (Sf.mkS n y)
    |none=>none)=some x:=hd
   generalize hy:toL R (Sf.ft n) l=o at hd
   cases o with
   |none=>exact(A2 hd).elim
   |some y=>
    have hd:=AXz hd
    subst hd
    obtain⟨vs,rfl,J⟩:=h
    have:=AS3 H _ l (Sf.leaf n) I hy J
    exact⟨vs,(Sl.is n M' w vs _).2 (by rw[Sf.un_mk];exact this),.inl ⟨rfl,rfl⟩⟩
  |int _ _|bool _|dat _ _|ary _ _ _|own _|ptr _ _|ep _ _ _ _ _|rp _ _|fv _ _ _|fn _ _|nilS|raw _|it _ _|np _ _|ap _ _ _ _|undef|dead|tup _=>exact(A2 hd).elim
 |int k=>exact AAk H _ s I hd h
 |bool=>exact AAk H _ s I hd h
 |sl t=>exact AAk H _ s I hd h
 |arr k n=>exact AAk H _ s I hd h
 |mp m k u=>exact AAk H _ s I hd h
 |fno i=>exact AAk H _ s I hd h
end Go.Rx
namespace Go.Rx
open Go Go.Sx Go.RowKit
variable[Trk][Sg][Sf]{P:Program}[Se P]{α:Type}
theorem U9{a b:Nat}(h:a≠b):beq a b=false:=by
 cases H:beq a b with
 |false=>rfl
 |true=>exact absurd (AX5 H) h
theorem beq_self(a:Nat):beq a a=true:=by simp
theorem fnd_cons{k t:Nat}{v:α}{r:List (Nat×α)}:A1 ((k,v)::r) t=if k=t then some v else A1 r t:=by
 by_cases h:k=t
 . subst h;simp[A1]
 . simp[A1,U9 h,h]
theorem W6{i:Nat}{p:Rp}{t:Nat}:∀{l:List (Nat×SV)},A1 (AAu i p l) t=(A1 l t).map (subS i p)
 |[]=>rfl
 |(k,s)::r=>by
  simp only[AAu,fnd_cons,W6 (l:=r)];split<;>rfl
theorem ACa{i t:Nat}:∀{l:List (Nat×SV)},A1 (AEu i l) t=(A1 l t).map (oldS i)
 |[]=>rfl
 |(k,s)::r=>by
  simp only[AEu,fnd_cons,ACa (l:=r)];split<;>rfl
theorem fnd_subR{i:Nat}{p:Rp}{t:Nat}:∀{l:List (Nat×AR)},A1 (R3 i p l) t=(A1 l t).map (AR.sub i p)
 |[]=>rfl
 |(k,s)::r=>by
  simp only[R3,fnd_cons,fnd_subR (l:=r)];split<;>rfl
theorem fnd_rdel{i t:Nat}:∀{l:List (Nat×AR)},A1 (U6 i l) t=if t=i then none else A1 l t
 |[]=>by simp[U6,A1]
 |(k,s)::r=>by
  by_cases h:k=i
  . subst h;simp only[U6,beq_self,cond_true,fnd_rdel (l:=r),fnd_cons];split
    . rfl
    . rename_i h;rw[if_neg (fun e=>h e.symm)]
  . simp only[U6,U9 h,cond_false,fnd_cons,fnd_rdel (l:=r)];split
    . rename_i H;subst H;rw[if_neg h]
    . rfl
theorem ACb{i t:Nat}{a:AR}:∀{l:List (Nat×AR)},A1 (ADI i a l) t=if t=i then(A1 l t).map (fun _=>a) else A1 l t
 |[]=>by simp[ADI,A1]
 |(k,s)::r=>by
  by_cases h:k=i
  . subst h;simp only[ADI,beq_self,cond_true,ACb (l:=r),fnd_cons];split
    . rename_i h;subst h;simp
    . rfl
  . simp only[ADI,U9 h,cond_false,fnd_cons,ACb (l:=r)];split
    . rename_i H;subst H;rw[if_neg h]
    . rfl
variable{i:Nat}{v:Value}{cs:List Value}{mu:List Nat}
theorem ACc{i t:Nat}{g:AR->AR}:∀{l:List (Nat×AR)},A1 (AD3 i g l) t=if t=i then(A1 l t).map g else(A1 l t).map (AR.old i)
 |[]=>by simp[AD3,A1]
 |(k,s)::r=>by
  simp only[AD3,fnd_cons,ACc (l:=r)];by_cases h:k=t
  . subst h;rw[AYB rfl,AYB rfl];by_cases e:k=i
    . subst e;rw[AYB rfl,beq_self];rfl
    . rw[if_neg e,U9 e];rfl
  . rw[if_neg h,if_neg h]
def blk:Value->Nat
 |.pointer (some a)=>a.block
 |.map (some b)=>b
 |_=>0
def mapRes(mu:List Nat)(m:Nat)(k v:Ty)(b:Nat)(f:A4 (den k) (den v)):Res:=match Se.ky (P:=P) m k with
 |some K=>{ mapO K (enc v) v.agg b f with mu:=mu }
 |none=>{ fp:=[b],mu:=mu,holds:=fun _ _=>False,adv:=fun _ _ h=>h.elim,lt:=fun h=>h.elim }
def E9(mu:List Nat)(v:Value):(c:Oc)->den c.ty->Res
 |.sl e t,x=>ownR mu (enc (P:=P) t) e v x
 |.mp m k u,x=>mapRes (P:=P) mu m k u (blk v) x
def Hnd(v:Value):Oc->Prop
 |.sl _ _=>True
 |.mp _ _ _=>∃b,v=.map (some b)
def G9(v:Value)(cs:List Value)(mu:List Nat):AR->Res
 |.own p c x=>E9 (P:=P) (bif p then mu else []) v c x
 |.row e _=>rowR e (blk v) cs
theorem AC6{p:Rp}:∀{a:AR},G9 (P:=P) v cs mu (a.sub i p)=G9 v cs mu a
 |.own _ _ _=>rfl
 |.row _ _=>rfl
theorem AN0:∀{a:AR},G9 (P:=P) v cs mu (a.old i)=G9 v cs mu a
 |.own _ _ _=>rfl
 |.row _ _=>rfl
def RowOk(ρ:Nat->Value)(R:Nat->Option AR)(M:List Nat)(w:World)(v:Value)(cs:List Value):AR->Prop
 |.own _ c _=>Hnd v c
 |.row _ l=>(∃b,v=.pointer (some ⟨b,0,none⟩))/\OkL ρ R M w l cs
class Anch where
 Q:List Nat->World->Prop
 adv:∀{M M':List Nat} {w w':World},Q M w->Adv M M' w w'->Q M' w'
instance (priority:=50) anch0:Anch:=⟨fun _ _=>True,fun _ _=>trivial⟩
def GlOk(M:List Nat)(w:World):Prop:=∀g s,Sf.gv g=some s->∀ρ R,Ok (P:=P) ρ R M w s (.pointer (some ⟨g,0,none⟩))
theorem GlOk.adv{M M':List Nat}{w w':World}(h:GlOk (P:=P) M w)(I:Adv M M' w w'):GlOk (P:=P) M' w':=fun g s H ρ R=>Ok.adv I s (h g s H ρ R)
def AnOk[Anch](M:List Nat)(w:World):Prop:=Anch.Q M w/\GlOk (P:=P) M w
theorem AnOk.adv[Anch]{M M':List Nat}{w w':World}(h:AnOk (P:=P) M w)(H:Adv M M' w w'):AnOk (P:=P) M' w':=⟨Anch.adv h.1 H,h.2.adv H⟩
variable[Anch]
structure HS[Fx](w0:World)(Mu M:List Nat)(σ:AS)(L:A7)(w:World)(S:List Res)(ρ:Nat->Value)(γ:Nat->List Value)(μ:Nat->List Nat)(ι:Nat->Nat):Prop where
 hp:Hp w0 Mu M S w
 res:∀i a,A1 σ.res i=some a->S[ι i]?=some (G9 (ρ i) (γ i) (μ i) a)
 inj:∀i j a b,A1 σ.res i=some a->A1 σ.res j=some b->ι i=ι j->i=j
 row:∀i a,A1 σ.res i=some a->RowOk ρ (A1 σ.res) (mm S M) w (ρ i) (γ i) a
 env:∀t s,A1 σ.env t=some s->∃v,Sx.A5 L t=some v/\Ok ρ (A1 σ.res) (mm S M) w s v
 anch:AnOk (P:=P) (mm S M) w
def Holds[Fx](w0:World)(Mu M:List Nat)(σ:AS)(L:A7)(w:World):Prop:=∃S ρ γ μ ι,HS w0 Mu M σ L w S ρ γ μ ι
def Q0{α:Type}(f:Nat->α)(i:Nat)(x:α):Nat->α:=fun j=>if j=i then x else f j
theorem upf_self{α:Type}{f:Nat->α}{i:Nat}{x:α}:Q0 f i x i=x:=by simp[Q0]
theorem N7{α:Type}{f:Nat->α}{i j:Nat}{x:α}(h:j≠i):Q0 f i x j=f j:=by simp[Q0,h]
variable{w0 w w':World}{Mu M:List Nat}{σ:AS}{L:A7}{S:List Res}{ρ:Nat->Value}{γ:Nat->List Value}{μ:Nat->List Nat}{ι:Nat->Nat}{a0:AR}
theorem HS.put[Fx](h:HS w0 Mu M σ L w S ρ γ μ ι){d:Nat}{s:SV}(I:Ok ρ (A1 σ.res) (mm S M) w s v):HS w0 Mu M ((Ac.put s).app (some d) σ) ((d,v)::L) w S ρ γ μ ι:=
 ⟨h.hp,h.res,h.inj,h.row,fun t s' H=>by
  have H:A1 ((d,s)::σ.env) t=some s':=H;rw[fnd_cons]at H;rw[look_cons];split at H
  . rename_i e;rw[AYB e];cases H;exact⟨v,rfl,I⟩
  . rename_i e;rw[if_neg e];exact h.env t s' H,h.anch⟩
theorem RowOk.adv{R:Nat->Option AR}{M M':List Nat}(H:Adv M M' w w'):∀{a:AR},RowOk ρ R M w v cs a->RowOk ρ R M' w' v cs a
 |.own _ _ _,h=>h
 |.row _ l,h=>⟨h.1,OkL.adv H l h.2⟩
theorem HS.ext[Fx](h:HS w0 Mu M σ L w S ρ γ μ ι)(e:Ext w w'):HS w0 Mu M σ L w' S ρ γ μ ι:=
 ⟨h.hp.ext e,h.res,h.inj,fun i a hi=>(h.row i a hi).adv (Adv.of_ext e),fun t s H=>by
  obtain⟨v,J,I⟩:=h.env t s H;exact⟨v,J,Ok.adv (Adv.of_ext e) s I⟩,h.anch.adv (Adv.of_ext e)⟩
theorem HS.new[Fx](h:HS w0 Mu M σ L w S ρ γ μ ι){r:AR}{mu:List Nat}(E:Hp w0 Mu M (G9 v cs mu r::S) w')(hA:Adv (mm S M) (mm (G9 v cs mu r::S) M) w w')(D:RowOk (Q0 ρ i v) (A1 ((Ac.new i r).app none σ).res) (mm (G9 v cs mu r::S) M) w' v cs r):
  HS w0 Mu M ((Ac.new i r).app none σ) L w' (G9 v cs mu r::S) (Q0 ρ i v) (Q0 γ i cs) (Q0 μ i mu) (fun j=>if j=i then 0 else ι j+1):=by
 have V:∀j,A1 ((Ac.new i r).app none σ).res j=if j=i then some r else(A1 σ.res j).map (AR.sub i .dead):=fun j=>by
  show A1 ((i,r)::U6 i (R3 i .dead σ.res)) j=_;rw[fnd_cons,fnd_rdel,fnd_subR];by_cases e:j=i
  . subst e;simp
  . rw[if_neg (fun e'=>e e'.symm),if_neg e,if_neg e]
 have hρ:∀j,j≠i->Q0 ρ i v j=ρ j:=fun j H=>N7 H
 have C:∀j,j≠i->∀p e t xs,A1 σ.res j=some (.own p (.sl e t) xs)->A1 ((Ac.new i r).app none σ).res j=some (.own p (.sl e t) xs):=fun j H p e t xs I=>by
  rw[V,if_neg H,I];rfl
 refine⟨E,fun j a H=>?_,fun j k a b H hk W=>?_,fun j a H=>?_,fun t s J=>?_,h.anch.adv hA⟩
 . rw[V]at H
   by_cases e:j=i
   . subst e
     rw[AYB rfl]at H;cases H
     simp[Q0]
   . rw[if_neg e]at H
     simp only[if_neg e,N7 e]
     cases I:A1 σ.res j with
     |none=>rw[I]at H;cases H
     |some a0=>
      rw[I]at H
      have H:AR.sub i .dead a0=a:=AXz H
      subst H
      rw[AC6]
      simpa using h.res j a0 I
 . rw[V]at H hk
   by_cases e:j=i
   . by_cases e2:k=i
     . rw[e,e2]
     . rw[AYB e,if_neg e2]at W;omega
   . by_cases e2:k=i
     . rw[if_neg e,AYB e2]at W;omega
     . rw[if_neg e,if_neg e2]at W
       rw[if_neg e]at H;rw[if_neg e2]at hk
       cases I:A1 σ.res j with
       |none=>rw[I]at H;cases H
       |some a0=>
        cases U:A1 σ.res k with
        |none=>rw[U]at hk;cases hk
        |some b0=>exact h.inj j k a0 b0 I U (by omega)
 . have F:=H
   rw[V]at H
   by_cases e:j=i
   . subst e
     rw[AYB rfl]at H;cases H
     rw[upf_self,upf_self];exact D
   . rw[if_neg e]at H
     rw[N7 e,N7 e]
     cases I:A1 σ.res j with
     |none=>rw[I]at H;cases H
     |some a0=>
      rw[I]at H
      have H:AR.sub i .dead a0=a:=AXz H
      subst H
      have U:=h.row j a0 I
      cases a0 with
      |own _ _ _=>exact U
      |row e l=>exact⟨U.1,OkL.sub (p:=.dead) hA hρ C trivial l U.2⟩
 . have J:A1 (AAu i .dead σ.env) t=some s:=J
   rw[W6]at J
   cases I:A1 σ.env t with
   |none=>rw[I]at J;cases J
   |some s0=>
    rw[I]at J
    have J:subS i .dead s0=s:=AXz J
    subst J
    obtain⟨u,U,K⟩:=h.env t s0 I
    exact⟨u,U,Ok.sub (p:=.dead) hA hρ C trivial s0 K⟩
theorem HS.upd[Fx](h:HS w0 Mu M σ L w S ρ γ μ ι){a0 r:AR}{c:List Nat}{g:AR->AR}(hi:A1 σ.res i=some a0)(O:g a0=r)(K:Hp w0 Mu M (S.set (ι i) (G9 (ρ i) cs (μ i) r)) w')(hA:Adv (mm S M) (mm (S.set (ι i) (G9 (ρ i) cs (μ i) r)) M) w w')(J:∀p e t xs,a0=.own p (.sl e t) xs->∃ys:List (den t),r=.own p (.sl e t) ys/\ys.length=xs.length)(F:RowOk ρ (A1 (σ.upd i g c).res) (mm (S.set (ι i) (G9 (ρ i) cs (μ i) r)) M) w' (ρ i) cs r):
  HS w0 Mu M (σ.upd i g c) L w' (S.set (ι i) (G9 (ρ i) cs (μ i) r)) ρ (Q0 γ i cs) μ ι:=by
 have V:∀j,A1 (σ.upd i g c).res j=if j=i then some r else(A1 σ.res j).map (AR.old i):=fun j=>by
  show A1 (AD3 i g σ.res) j=_;rw[ACc];by_cases e:j=i
  . subst e;rw[AYB rfl,AYB rfl,hi,AYV,O]
  . rw[if_neg e,if_neg e]
 have E:∀j,j≠i->∀p e t xs,A1 σ.res j=some (.own p (.sl e t) xs)->A1 (σ.upd i g c).res j=some (.own p (.sl e t) xs):=fun j H p e t xs I=>by
  rw[V,if_neg H,I];rfl
 have W:∀p e t xs,A1 σ.res i=some (.own p (.sl e t) xs)->∃ys:List (den t),A1 (σ.upd i g c).res i=some (.own p (.sl e t) ys)/\ys.length=xs.length:=fun p e t xs I=>by
  rw[hi]at I;obtain⟨ys,U,D⟩:=J p e t xs (AXz I);exact⟨ys,by rw[V,AYB rfl,U],D⟩
 have C:ι i<S.length:=by
  have:=h.res i a0 hi;rcases AYF (ι i) S.length with I|I
  . exact I
  . rw[AYC I]at this;cases this
 refine⟨K,fun j a H=>?_,fun j k a b H hk Q=>?_,fun j a H=>?_,fun t s J=>?_,h.anch.adv hA⟩
 . rw[V]at H
   by_cases e:j=i
   . subst e
     rw[AYB rfl]at H;cases H
     rw[upf_self];simp[C]
   . rw[if_neg e]at H
     rw[N7 e]
     cases I:A1 σ.res j with
     |none=>rw[I]at H;cases H
     |some b0=>
      rw[I]at H
      have H:AR.old i b0=a:=AXz H
      subst H
      rw[AN0,AYg (fun e2=>e (h.inj j i b0 a0 I hi e2.symm))]
      exact h.res j b0 I
 . rw[V]at H hk
   have hx:∀j (a:AR),(if j=i then some r else(A1 σ.res j).map (AR.old i))=some a->∃a',A1 σ.res j=some a':=fun j a H=>by
    by_cases e:j=i
    . subst e;exact⟨a0,hi⟩
    . rw[if_neg e]at H;cases I:A1 σ.res j with
      |none=>rw[I]at H;cases H
      |some b0=>exact⟨b0,rfl⟩
   obtain⟨a',I⟩:=hx j a H
   obtain⟨b',U⟩:=hx k b hk
   exact h.inj j k a' b' I U Q
 . rw[V]at H
   by_cases e:j=i
   . subst e
     rw[AYB rfl]at H;cases H
     rw[upf_self];exact F
   . rw[if_neg e]at H
     rw[N7 e]
     cases I:A1 σ.res j with
     |none=>rw[I]at H;cases H
     |some b0=>
      rw[I]at H
      have H:AR.old i b0=a:=AXz H
      subst H
      have U:=h.row j b0 I
      cases b0 with
      |own _ _ _=>exact U
      |row e l=>exact⟨U.1,OkL.adv hA _ (OkL.old E W l U.2)⟩
 . have J:A1 (AEu i σ.env) t=some s:=J
   rw[ACa]at J
   cases I:A1 σ.env t with
   |none=>rw[I]at J;cases J
   |some s0=>
    rw[I]at J
    have J:oldS i s0=s:=AXz J
    subst J
    obtain⟨u,U,D⟩:=h.env t s0 I
    exact⟨u,U,Ok.adv hA _ (Ok.old E W s0 D)⟩
theorem HS.hnd[Fx](h:HS w0 Mu M σ L w S ρ γ μ ι){a0 r:AR}(hi:A1 σ.res i=some a0)(E:Hp w0 Mu M (S.set (ι i) (G9 v cs (μ i) r)) w')(hA:Adv (mm S M) (mm (S.set (ι i) (G9 v cs (μ i) r)) M) w w')(D:RowOk (Q0 ρ i v) (A1 ((Ac.hnd i r).app none σ).res) (mm (S.set (ι i) (G9 v cs (μ i) r)) M) w' v cs r):
  HS w0 Mu M ((Ac.hnd i r).app none σ) L w' (S.set (ι i) (G9 v cs (μ i) r)) (Q0 ρ i v) (Q0 γ i cs) μ ι:=by
 have V:∀j,A1 ((Ac.hnd i r).app none σ).res j=if j=i then some r else(A1 σ.res j).map (AR.sub i .dead):=fun j=>by
  show A1 (ADI i r (R3 i .dead σ.res)) j=_;rw[ACb,fnd_subR];by_cases e:j=i
  . subst e;rw[AYB rfl,AYB rfl,hi];rfl
  . rw[if_neg e,if_neg e]
 have hρ:∀j,j≠i->Q0 ρ i v j=ρ j:=fun j H=>N7 H
 have C:∀j,j≠i->∀p e t xs,A1 σ.res j=some (.own p (.sl e t) xs)->A1 ((Ac.hnd i r).app none σ).res j=some (.own p (.sl e t) xs):=fun j H p e t xs I=>by
  rw[V,if_neg H,I];rfl
 have W:ι i<S.length:=by
  have:=h.res i a0 hi;rcases AYF (ι i) S.length with I|I
  . exact I
  . rw[AYC I]at this;cases this
 refine⟨E,fun j a H=>?_,fun j k a b H hk F=>?_,fun j a H=>?_,fun t s J=>?_,h.anch.adv hA⟩
 . rw[V]at H
   by_cases e:j=i
   . subst e
     rw[AYB rfl]at H;cases H
     rw[upf_self,upf_self];simp[W]
   . rw[if_neg e]at H
     rw[N7 e,N7 e]
     cases I:A1 σ.res j with
     |none=>rw[I]at H;cases H
     |some b0=>
      rw[I]at H
      have H:AR.sub i .dead b0=a:=AXz H
      subst H
      rw[AC6,AYg (fun e2=>e (h.inj j i b0 a0 I hi e2.symm))]
      exact h.res j b0 I
 . rw[V]at H hk
   have hx:∀j (a:AR),(if j=i then some r else(A1 σ.res j).map (AR.sub i .dead))=some a->∃a',A1 σ.res j=some a':=fun j a H=>by
    by_cases e:j=i
    . subst e;exact⟨a0,hi⟩
    . rw[if_neg e]at H;cases I:A1 σ.res j with
      |none=>rw[I]at H;cases H
      |some b0=>exact⟨b0,rfl⟩
   obtain⟨a',I⟩:=hx j a H
   obtain⟨b',U⟩:=hx k b hk
   exact h.inj j k a' b' I U F
 . rw[V]at H
   by_cases e:j=i
   . subst e
     rw[AYB rfl]at H;cases H
     rw[upf_self,upf_self];exact D
   . rw[if_neg e]at H
     rw[N7 e,N7 e]
     cases I:A1 σ.res j with
     |none=>rw[I]at H;cases H
     |some b0=>
      rw[I]at H
      have H:AR.sub i .dead b0=a:=AXz H
      subst H
      have U:=h.row j b0 I
      cases b0 with
      |own _ _ _=>exact U
      |row e l=>exact⟨U.1,OkL.sub (p:=.dead) hA hρ C trivial l U.2⟩
 . have J:A1 (AAu i .dead σ.env) t=some s:=J
   rw[W6]at J
   cases I:A1 σ.env t with
   |none=>rw[I]at J;cases J
   |some s0=>
    rw[I]at J
    have J:subS i .dead s0=s:=AXz J
    subst J
    obtain⟨u,U,K⟩:=h.env t s0 I
    exact⟨u,U,Ok.sub (p:=.dead) hA hρ C trivial s0 K⟩
theorem HS.del[Fx](h:HS w0 Mu M σ L w S ρ γ μ ι){p:Rp}(hi:A1 σ.res i=some a0)(C:AMx ρ (A1 ((Ac.del i p).app none σ).res) (mm (S.eraseIdx (ι i)) M) w (ρ i) p):
  HS w0 Mu M ((Ac.del i p).app none σ) L w (S.eraseIdx (ι i)) ρ γ μ (fun j=>if ι j<ι i then ι j else ι j-1):=by
 have D:∀j,A1 ((Ac.del i p).app none σ).res j=if j=i then none else(A1 σ.res j).map (AR.sub i p):=fun j=>by
  show A1 (U6 i (R3 i p σ.res)) j=_;rw[fnd_rdel,fnd_subR]
 have hA:Adv (mm S M) (mm (S.eraseIdx (ι i)) M) w w:=G5 (ι i)
 have E:∀j,j≠i->∀q e t xs,A1 σ.res j=some (.own q (.sl e t) xs)->A1 ((Ac.del i p).app none σ).res j=some (.own q (.sl e t) xs):=fun j H q e t xs I=>by
  rw[D,if_neg H,I];rfl
 have hx:∀j (a:AR),A1 ((Ac.del i p).app none σ).res j=some a->j≠i/\∃b0,A1 σ.res j=some b0/\AR.sub i p b0=a:=fun j a H=>by
  rw[D]at H;by_cases e:j=i
  . rw[AYB e]at H;cases H
  . rw[if_neg e]at H;cases I:A1 σ.res j with
    |none=>rw[I]at H;cases H
    |some b0=>rw[I]at H;exact⟨e,b0,rfl,AXz H⟩
 refine⟨h.hp.erase (ι i),fun j a H=>?_,fun j k a b H hk W=>?_,fun j a H=>?_,fun t s V=>?_,h.anch.adv hA⟩
 . obtain⟨e,b0,I,rfl⟩:=hx j a H
   rw[AC6]
   have F:ι j≠ι i:=fun e2=>e (h.inj j i b0 a0 I hi e2)
   have U:=h.res j b0 I
   rw[AZQ]
   show(if (if ι j<ι i then ι j else ι j-1)<ι i then _ else _)=_
   by_cases J:ι j<ι i
   . rw[AYB (by rw[AYB J];exact J),AYB J];exact U
   . rw[if_neg (by rw[if_neg J];omega),if_neg J,show ι j-1+1=ι j by omega];exact U
 . obtain⟨e1,a',I,_⟩:=hx j a H
   obtain⟨e2,b',U,_⟩:=hx k b hk
   have O:ι j≠ι i:=fun e=>e1 (h.inj j i a' a0 I hi e)
   have K:ι k≠ι i:=fun e=>e2 (h.inj k i b' a0 U hi e)
   refine h.inj j k a' b' I U ?_
   have W:(if ι j<ι i then ι j else ι j-1)=(if ι k<ι i then ι k else ι k-1):=W
   split at W<;>split at W<;>omega
 . obtain⟨e,b0,I,rfl⟩:=hx j a H
   have U:=h.row j b0 I
   cases b0 with
   |own _ _ _=>exact U
   |row e l=>exact⟨U.1,OkL.sub hA (fun _ _=>rfl) E C l U.2⟩
 . have V:A1 (AAu i p σ.env) t=some s:=V
   rw[W6]at V
   cases I:A1 σ.env t with
   |none=>rw[I]at V;cases V
   |some s0=>
    rw[I]at V
    have V:subS i p s0=s:=AXz V
    subst V
    obtain⟨u,U,Q⟩:=h.env t s0 I
    exact⟨u,U,Ok.sub hA (fun _ _=>rfl) E C s0 Q⟩
end Go.Rx
namespace Go.Rx
open Go Go.Sx Go.RowKit
variable[Trk][Sg][Sf]{P:Program}[Se P]
def O8:Oc->Value->List Nat
 |.sl _ _,v=>ob v
 |.mp _ _ _,v=>[blk v]
variable{mu:List Nat}{v:Value}{c:Oc}{x:den c.ty}
theorem ocR_fp:(E9 (P:=P) mu v c x).fp=O8 c v:=by
 cases c with
 |sl e t=>rfl
 |mp m k u=>simp only[E9,mapRes,O8];split<;>rfl
theorem ADg{b:Nat}(h:b∈O8 c v):b∈(E9 (P:=P) mu v c x).fp:=ocR_fp (P:=P) (mu:=mu) (v:=v) (c:=c) (x:=x)▸h
theorem ALh{b:Nat}(h:b∈(E9 (P:=P) mu v c x).fp):b∈O8 c v:=ocR_fp (P:=P)▸h
theorem ocR_mu:(E9 (P:=P) mu v c x).mu=mu:=by
 cases c with
 |sl e t=>rfl
 |mp m k u=>simp only[E9,mapRes];split<;>rfl
theorem AJ3{M:List Nat}{w:World}(H:Hnd v c)(h:(E9 (P:=P) mu v c x).holds M w):v.cells=#[v]/\v.oneCell'=true:=by
 cases c with
 |sl e t=>
  have h:Sx.Own (enc (P:=P) t) e 0 M w v x:=h
  exact⟨by rw[h.cells1],h.oneC⟩
 |mp m k u=>obtain⟨b,rfl⟩:=H;exact⟨rfl,rfl⟩
theorem AQh{M M':List Nat}{w:World}(U:Hnd v c)(h:(E9 (P:=P) mu v c x).holds M w)(V:∀b∈M',b∈M)(J:∀b∈O8 c v,b∉M')(H:∀e t (y:List (den t)),c=.sl e t->Sx.Own (enc (P:=P) t) e 0 M w v y->(∀b∈ob v,b∉M')->RdS (enc t) M' w v y):OkD (P:=P) M' w c.ty x v:=by
 cases c with
 |sl e t=>exact⟨[v],⟨v,rfl,H e t x rfl h J⟩,.inr ⟨rfl,rfl⟩⟩
 |mp m k u=>
  obtain⟨b,rfl⟩:=U
  simp only[E9,mapRes]at h
  cases hK:Se.ky (P:=P) m k with
  |none=>rw[hK]at h;exact h.elim
  |some K=>
   rw[hK]at h
   have h:MapH K (enc (P:=P) u) u.agg M w b x:=h
   have I:MapH K (enc (P:=P) u) u.agg M' w b x:=by
    obtain⟨es,c,xs,D,I,C,W⟩:=h;exact⟨es,c,xs,D,I,C.adv (Adv.drop V),W⟩
   exact⟨[.map (some b)],⟨_,K,rfl,hK,b,rfl,J b (AX4 ..),I⟩,.inr ⟨rfl,rfl⟩⟩
variable{w0 w:World}{Mu M:List Nat}{S:List Res}
theorem AS4[Fx](h:Hp w0 Mu M S w)(k:Nat)(I:Hnd v c)(hi:S[k]?=some (E9 (P:=P) mu v c x)):OkD (P:=P) (mm (S.eraseIdx k) M) w c.ty x v:=by
 cases c with
 |sl e t=>
  have:=h.freeze k (E:=enc (P:=P) t) (e:=e) (v:=v) (xs:=x) (mu:=mu) hi
  exact⟨[v],⟨v,rfl,this⟩,.inr ⟨rfl,rfl⟩⟩
 |mp m k' u=>
  refine AQh I (h.get k hi) (fun b H=>Z1 (AYK S k) H) (fun b H=>h.apart k hi b (by rw[ocR_fp];exact H)) fun e t y J=>by cases J
theorem AH3[Fx](h:Hp w0 Mu M S w)(l:List Nat)(k:Nat)(hl:l.contains k=false)(V:Hnd v c)(hi:S[k]?=some (E9 (P:=P) mu v c x)):OkD (P:=P) (mm (sel S l) M) w c.ty x v:=by
 cases c with
 |sl e t=>
  have:=h.lendRd l k (E:=enc (P:=P) t) (e:=e) (v:=v) (xs:=x) (mu:=mu) hl hi
  exact⟨[v],⟨v,rfl,this⟩,.inr ⟨rfl,rfl⟩⟩
 |mp m k' u=>
  refine AQh V (h.get k hi) (fun b H=>ADW H) (fun b H hm=>?_) fun e t y W=>by cases W
  have H:b∈(E9 (P:=P) mu v (.mp m k' u) x).fp:=by rw[ocR_fp];exact H
  rcases mem_mm.1 hm with⟨r,I,hm⟩|hm
  . obtain⟨j,U,I⟩:=Y0 I
    have J:k≠j:=fun e=>by
     subst e;have:l.contains k=true:=by simp[U]
     rw[this]at hl;cases hl
    exact h.dis k j _ r hi I J b H hm
  . exact h.sepM _ (AX1 hi) b H hm
theorem AG9[Fx](h:Hp w0 Mu M S w)(k:Nat)(hi:S[k]?=some (E9 (P:=P) [] v c x)):(E9 (P:=P) [] v c x).holds (O8 c v++M) w/\∀b∈O8 c v,w0.heap.size<=b:=
 ⟨(E9 (P:=P) [] v c x).adv (Adv.drop fun b H=>(mem_append.1 H).elim (fun H=>mem_mm.2 (.inl ⟨_,AX1 hi,by rw[ocR_fp];exact H⟩)) fun H=>mem_mm.2 (.inr H)) (fun _ _=>rfl) (h.get k hi),fun b H=>((h.own _ (AX1 hi)).2 b (by rw[ocR_fp];exact H)).elim (fun hm=>by rw[ocR_mu]at hm;cases hm) id⟩
end Go.Rx
namespace Go.Rx
open Go Go.Sx Go.RowKit
variable[Trk][Sg][Sf]{P:Program}[Se P]
def BOk(M:List Nat)(w:World):(b:Bool)->(t:Ty)->AEv b t->Value->Prop
 |false,t,x,v=>∃b o vs,v=.pointer (some ⟨b,o,none⟩)/\RdC M w b o vs/\(enc t).R M w vs x
 |true,t,x,v=>∃b o u,v=.pointer (some ⟨b,o,none⟩)/\RdC M w b o [u]/\NpOk M w t x u
def BsOk(M:List Nat)(w:World):(cs:List (Bool×Ty))->AAW cs->List Value->Prop
 |[],_,vs=>vs=[]
 |(b,t)::cs,x,vs=>∃v r,vs=v::r/\BOk M w b t x.1 v/\BsOk M w cs x.2 r
def PtOk(M:List Nat)(w:World):(p:Pt)->p.den->Value->Prop
 |.d t,x,v=>OkD M w t x v
 |.pt t,x,v=>∃b o vs,v=.pointer (some ⟨b,o,none⟩)/\RdC M w b o vs/\(enc t).R M w vs x
 |.fn a r,f,v=>FnOk M w v a r f/\v.cells=#[v]/\v.oneCell'=true
 |.pp t,x,v=>BOk M w true t x v
 |.cl g cs,x,v=>∃b o caps,v=.pointer (some ⟨b,o,none⟩)/\RdC M w b o [.func (.func g) #[] (toArray caps)]/\BsOk M w cs x caps
 |.nl,_,v=>v=.slice none 0 0
def ArgsOk(M:List Nat)(w:World):(ps:List Pt)->E0 ps->List Value->Prop
 |[],_,vs=>vs=[]
 |p::ps,x,vs=>∃v r,vs=v::r/\PtOk M w p x.1 v/\ArgsOk M w ps x.2 r
def X7:List Ck->List Value->List Nat
 |.own c::l,v::vs=>O8 c v++X7 l vs
 |_::l,_::vs=>X7 l vs
 |_,_=>[]
def CkOk(M Mo:List Nat)(w w':World):(c:Ck)->c.den->Value->Prop
 |.d t,x,v=>OkD Mo w' t x v
 |.own c,x,v=>Hnd v c/\(E9 (P:=P) [] v c x).holds (O8 c v++M) w'/\∀b∈O8 c v,w.heap.size<=b
 |.undef,_,_=>False
 |.it ts,x,v=>ItV P Mo w' v ts x/\v.cells=#[v]/\v.oneCell'=true
 |.np t,x,v=>NpOk Mo w' t x v
def KsOk(M Mo:List Nat)(w w':World):(rs:List Ck)->E2 rs->List Value->Prop
 |[],_,vs=>vs=[]
 |[c],x,vs=>∃v,vs=[v]/\CkOk M Mo w w' c x v
 |c::d::l,x,vs=>∃v r,vs=v::r/\CkOk M Mo w w' c x.1 v/\KsOk M Mo w w' (d::l) x.2 r
def ABs:List Value->Value
 |[v]=>v
 |l=>.tuple (toArray l)
def own1:List Ck->Nat
 |[]=>0
 |.own _::l=>own1 l+1
 |_::l=>own1 l
def AJ4(O M:List Nat)(w w':World):(c:Ck)->c.den->Value->Prop
 |.d t,x,v=>OkD (O++M) w' t x v
 |.own c,x,v=>Hnd v c/\(E9 (P:=P) [] v c x).holds (O++M) w'/\∀b∈O8 c v,w.heap.size<=b
 |.undef,_,_=>False
 |.it _,_,_=>False
 |.np _,_,_=>False
def obC:Ck->Value->List Nat
 |.own c,v=>O8 c v
 |_,_=>[]
def KsD(O M:List Nat)(w w':World):(rs:List Ck)->E2 rs->List Value->Prop
 |[],_,vs=>vs=[]
 |[c],x,vs=>∃v,vs=[v]/\v.cells=#[v]/\AJ4 O M w w' c x v
 |c::d::l,x,vs=>∃v r,vs=v::r/\v.cells=#[v]/\AJ4 O M w w' c x.1 v/\(∀b∈obC c v,b∉X7 (d::l) r)/\KsD O M w w' (d::l) x.2 r
def CtrA.ok(P:Program)[Se P](k:Nat)(c:CtrA):Prop:=∀(M:List Nat) (w:World) (a:E0 c.ps) (vals:List Value) (r:E2 c.rs),MLt M w->GlOk (P:=P) M w->ArgsOk M w c.ps a vals->c.F a=some r ->
 Calls P k (toArray vals) w fun e w'=>∃vs,e=.returned (.agg (toArray vs))/\Ext w w'/\KsD (P:=P) (X7 c.rs vs) M w w' c.rs r vs
def CtrM.ok1(P:Program)[Se P](k:Nat)(c:CtrM):Prop:=own1 c.rs=0/\∀(M:List Nat) (w:World) (a:E0 c.ps) (x:den c.c.ty) (v:Value) (vals us:List Value) (r:E2 c.rs) (x':den c.c.ty),MLt (O8 c.c v++M) w->GlOk (P:=P) (O8 c.c v++M) w->(∀b∈O8 c.c v,b∉M)->ArgsOk (O8 c.c v++M) w c.ps a vals->us[c.i]?=some v->us.eraseIdx c.i=vals->Hnd v c.c->(E9 (P:=P) [] v c.c x).holds (O8 c.c v++M) w->c.F a x=some (r,x') ->
 Calls P k (toArray us) w fun e w'=>∃vs,e=.returned (bif c.self then v else ABs vs)/\KsOk M (O8 c.c v++M) w w' c.rs r vs/\Kp (O8 c.c v) w w'/\(E9 (P:=P) [] v c.c x').holds (O8 c.c v++M) w'
def CtrM.ok(P:Program)[Se P](k:Nat)(c:CtrM):Prop:=match c.ag with
 |some q=>CtrA.ok P k q
 |none=>CtrM.ok1 P k c
def Ctr.ok(P:Program)[Se P](k:Nat)(c:Ctr):Prop:=own1 c.rs<=1/\∀(M:List Nat) (w:World) (a:E0 c.ps) (vals:List Value) (r:E2 c.rs),MLt M w->GlOk (P:=P) M w->ArgsOk M w c.ps a vals->c.F a=some r ->
 Calls P k (toArray vals) w fun e w'=>∃vs,e=.returned (ABs vs)/\KsOk M (X7 c.rs vs++M) w w' c.rs r vs/\Ext w w'
def CtrP.ok(P:Program)[Se P](k:Nat)(c:CtrP):Prop:=∀(M:List Nat) (w:World) (a:E0 c.ps) (vals:List Value) (r:den c.t),MLt M w->GlOk (P:=P) M w->ArgsOk M w c.ps a vals->c.F a=some r ->
 Calls P k (toArray vals) w fun e w'=>∃v,e=.panicked [{ v:=.iface c.T v,recovered:=false }]/\OkD (P:=P) M w' c.t r v/\Ext w w'
def FmOk(P:Program)[Se P]:List (Nat×CtrM)->Prop
 |[]=>True
 |(k,c)::r=>(c.ok P k/\∀args w,(callFunc k args).run P w=.ok (.enter k args) w)/\FmOk P r
def PfOk(P:Program)[Se P]:List (Nat×CtrP)->Prop
 |[]=>True
 |(k,c)::r=>(c.ok P k/\∀args w,(callFunc k args).run P w=.ok (.enter k args) w)/\PfOk P r
def SlOk(P:Program)[Se P]:List (Nat×Nat×Ty×Nat)->Prop
 |[]=>True
 |(t,e,u,b)::r=>SlT P t e (enc u).n b/\SlOk P r
def zv:Ty->Value
 |.int k=>.int k 0
 |.bool=>.bool false
 |.sl _=>.slice none 0 0
 |.arr k n=>.agg (toArray (replicate n (.int k 0)))
 |.st n=>.agg (toArray (zvL (Sf.ft n)))
 |.mp _ _ _=>.map none
 |.fno _=>.nilFunc
where zvL:List Ty->List Value
 |[]=>[]
 |.int k::l=>.int k 0::zvL l
 |.bool::l=>.bool false::zvL l
 |.sl _::l=>.slice none 0 0::zvL l
 |.arr k n::l=>replicate n (.int k 0)++zvL l
 |.st _::l=>zvL l
 |.mp _ _ _::l=>.map none::zvL l
 |.fno _::l=>.nilFunc::zvL l
def TyOk(P:Program)[Se P]:List (Nat×Ty)->Prop
 |[]=>True
 |(t,u)::r=>((∀k,u=.int k->P.underlying t=some (.int k))/\(u=.bool->P.underlying t=some .bool)/\∀w,(zeroValue t).run P w=.ok (zv u) w)/\TyOk P r
def SzOk(P:Program):List (Nat×Nat)->Prop
 |[]=>True
 |(t,n)::r=>(∀w,(sizeOf t).run P w=.ok n w)/\SzOk P r
variable{m:Nat}{q:IntKind}{hk:P.underlying m=some (.int q)}
theorem SzOk.at:∀{l:List (Nat×Nat)} {t n:Nat},SzOk P l->lk l t=some n->∀w,(sizeOf t).run P w=.ok n w
 |[],_,_,_,h=>by cases h
 |(k,_)::r,t,_,h,e=>by
  simp only[lk]at e;cases H:beq k t with
  |true=>rw[H]at e;cases e;cases AX5 H;exact h.1
  |false=>rw[H]at e;exact SzOk.at h.2 e
def FsOk(P:Program)[Se P]:List (Nat×Ctr)->Prop
 |[]=>True
 |(k,c)::r=>(c.ok P k/\∀args w,(callFunc k args).run P w=.ok (.enter k args) w)/\FsOk P r
def BdOk(P:Program):List (Nat×List (Nat×Nat))->Prop
 |[]=>True
 |(t,pl)::r=>(∃fields:Array Field,P.underlying t=some (.struct fields)/\∀w,(fields.mapM (fun f=>Prod.mk f.offset <$> sizeOf f.type):Sem (Array (Nat×Nat))).run P w=.ok (toArray pl) w)/\BdOk P r
def EqOk(P:Program)[Se P]:List (Nat×Nat)->Prop
 |[]=>True
 |(t,n)::r=>(P.eqGuardType P.depth t=false/\∀M w cs cs' (x y:Sg.S n),(enc (P:=P) (.st n)).R M w cs x->(enc (P:=P) (.st n)).R M w cs' y->∀w,(Op.equalIn 10000 t (.agg (toArray cs)) (.agg (toArray cs'))).run P w=.ok (Sf.eq n x y) w)/\EqOk P r
theorem EqOk.at:∀{l:List (Nat×Nat)} {t n:Nat},EqOk P l->lk l t=some n->P.eqGuardType P.depth t=false/\∀M w cs cs' (x y:Sg.S n),(enc (P:=P) (.st n)).R M w cs x->(enc (P:=P) (.st n)).R M w cs' y->∀w,(Op.equalIn 10000 t (.agg (toArray cs)) (.agg (toArray cs'))).run P w=.ok (Sf.eq n x y) w
 |[],_,_,_,h=>by cases h
 |(k,_)::r,t,_,h,e=>by
  simp only[lk]at e;cases H:beq k t with
  |true=>rw[H]at e;cases e;cases AX5 H;exact h.1
  |false=>rw[H]at e;exact EqOk.at h.2 e
def ArOk(P:Program):List (Nat×Nat×Nat)->Prop
 |[]=>True
 |(t,len,m)::r=>(∃e,P.underlying t=some (.array len e)/\∀w,(sizeOf e).run P w=.ok m w)/\ArOk P r
theorem ArOk.at{P:Program}:∀{l:List (Nat×Nat×Nat)} {t len m:Nat},ArOk P l->lk l t=some (len,m)->∃e,P.underlying t=some (.array len e)/\∀w,(sizeOf e).run P w=.ok m w
 |[],_,_,_,_,h=>by cases h
 |(j,_,_)::r,t,_,_,h,e=>by
  simp only[lk]at e;cases H:beq j t with
  |true=>rw[H]at e;cases e;cases AX5 H;exact h.1
  |false=>rw[H]at e;exact ArOk.at h.2 e
def PzOk(P:Program):List (Nat×Nat)->Prop
 |[]=>True
 |(t,n)::r=>(∀w,(zeroValue t).run P w=.ok (AMZ n) w)/\PzOk P r
theorem PzOk.at{P:Program}:∀{l:List (Nat×Nat)} {t n:Nat},PzOk P l->lk l t=some n->∀w,(zeroValue t).run P w=.ok (AMZ n) w
 |[],_,_,_,h=>by cases h
 |(j,_)::r,t,_,h,e=>by
  simp only[lk]at e;cases H:beq j t with
  |true=>rw[H]at e;cases e;cases AX5 H;exact h.1
  |false=>rw[H]at e;exact PzOk.at h.2 e
def MpOk(P:Program)[Se P]:List (Nat×Nat×Nat×Ty×Ty)->Prop
 |[]=>True
 |(t,m,e,k,v)::r=>(∃K,Se.ky (P:=P) m k=some K/\(∀M w (a:den k) u,OkD (P:=P) M w k a u->u=K.val a/\K.ok a)/\P.underlying t=some (.map m e)/\(∀w,(zeroValue e).run P w=.ok (zv v) w)/\∀M w (a:den k),K.ok a->OkD (P:=P) M w k a (K.val a))/\MpOk P r
theorem AGO:∀{l:List (Nat×Nat×Nat×Ty×Ty)} {t m e:Nat} {k v:Ty},MpOk P l->lk l t=some (m,e,k,v)->∃K,Se.ky (P:=P) m k=some K/\(∀M w (a:den k) u,OkD (P:=P) M w k a u->u=K.val a/\K.ok a)/\P.underlying t=some (.map m e)/\(∀w,(zeroValue e).run P w=.ok (zv v) w)/\∀M w (a:den k),K.ok a->OkD (P:=P) M w k a (K.val a)
 |[],_,_,_,_,_,_,h=>by cases h
 |(j,_,_,_,_)::r,t,_,_,_,_,h,e=>by
  simp only[lk]at e;cases H:beq j t with
  |true=>rw[H]at e;cases e;cases AX5 H;exact h.1
  |false=>rw[H]at e;exact AGO h.2 e
theorem MpOk.at{l:List (Nat×Nat×Nat×Ty×Ty)}{t m e:Nat}{k v:Ty}(h:MpOk P l)(hl:lk l t=some (m,e,k,v)):∃K,Se.ky (P:=P) m k=some K/\(∀M w (a:den k) u,OkD (P:=P) M w k a u->u=K.val a/\K.ok a)/\P.underlying t=some (.map m e)/\∀w,(zeroValue e).run P w=.ok (zv v) w:=by
 obtain⟨K,U,J,I,H,_⟩:=AGO h hl;exact⟨K,U,J,I,H⟩
theorem ACH:∀M w (a:den (.int q)) u,OkD (P:=P) M w (.int q) a u->u=(W5 q hk).val a/\(W5 q hk).ok a:=fun M w a u h=>by
 obtain⟨cs,U,⟨H,_⟩|⟨_,H⟩⟩:=h
 . cases H
 . subst H;obtain⟨J,I⟩:=U;exact⟨List.singleton_inj.1 J,I⟩
def FdOk(P:Program)[Se P]:List (Nat×Fd)->Prop
 |[]=>True
 |(_,q)::r=>(∀n M w,GlOk (P:=P) M w->FnOk (P:=P) M w (.func (.func n) #[] #[]) q.a q.r (q.D n))/\FdOk P r
theorem FdOk.at:∀{l:List (Nat×Fd)} {k:Nat} {q:Fd},FdOk P l->A1 l k=some q->∀n M w,GlOk (P:=P) M w->FnOk (P:=P) M w (.func (.func n) #[] #[]) q.a q.r (q.D n)
 |[],_,_,_,h=>by cases h
 |(j,_)::r,k,_,h,e=>by
  rw[fnd_cons]at e;split at e
  . rename_i H;subst H;cases e;exact h.1
  . exact FdOk.at h.2 e
theorem int_key2:∀M w (a:den (.int q)),(W5 q hk).ok a->OkD (P:=P) M w (.int q) a ((W5 q hk).val a):=fun _ _ _ h=>⟨[_],⟨rfl,h⟩,.inr ⟨rfl,rfl⟩⟩
structure GxOk(P:Program)[Se P](G:Gx):Prop where
 st:StOk P G.tb.st
 ag:AgOk P G.tb.ag
 sl:SlOk P G.sl
 sz:SzOk P G.sz
 ty:TyOk P G.ty
 fs:FsOk P G.fs
 bd:BdOk P G.bd
 eq:EqOk P G.eq
 mp:MpOk P G.mp
 ar:ArOk P G.ar
 pz:PzOk P G.pz
 pf:PfOk P G.pf
 fm:FmOk P G.fm
 mix:P.follows .mixedOrders=true
 fd:FdOk P G.fd
theorem APP{G:Gx}(h:GxOk P G)(l:List Nat):GxOk P { G with ct:=l }:=⟨h.st,h.ag,h.sl,h.sz,h.ty,h.fs,h.bd,h.eq,h.mp,h.ar,h.pz,h.pf,h.fm,h.mix,h.fd⟩
theorem SlOk.at:∀{l:List (Nat×Nat×Ty×Nat)} {t e:Nat} {u:Ty} {b:Nat},SlOk P l->lk l t=some (e,u,b)->SlT P t e (enc u).n b
 |[],_,_,_,_,_,h=>by cases h
 |(k,_,_,_)::r,t,_,_,_,h,e=>by
  simp only[lk]at e;cases H:beq k t with
  |true=>rw[H]at e;cases e;cases AX5 H;exact h.1
  |false=>rw[H]at e;exact SlOk.at h.2 e
theorem BdOk.at:∀{l:List (Nat×List (Nat×Nat))} {t:Nat} {pl:List (Nat×Nat)},BdOk P l->lk l t=some pl->∃fields:Array Field,P.underlying t=some (.struct fields)/\∀w,(fields.mapM (fun f=>Prod.mk f.offset <$> sizeOf f.type):Sem (Array (Nat×Nat))).run P w=.ok (toArray pl) w
 |[],_,_,_,h=>by cases h
 |(k,_)::r,t,_,h,e=>by
  simp only[lk]at e;cases H:beq k t with
  |true=>rw[H]at e;cases e;cases AX5 H;exact h.1
  |false=>rw[H]at e;exact BdOk.at h.2 e
theorem TyOk.at:∀{l:List (Nat×Ty)} {t:Nat} {u:Ty},TyOk P l->lk l t=some u->(∀k,u=.int k->P.underlying t=some (.int k))/\(u=.bool->P.underlying t=some .bool)/\∀w,(zeroValue t).run P w=.ok (zv u) w
 |[],_,_,_,h=>by cases h
 |(k,_)::r,t,_,h,e=>by
  simp only[lk]at e;cases H:beq k t with
  |true=>rw[H]at e;cases e;cases AX5 H;exact h.1
  |false=>rw[H]at e;exact TyOk.at h.2 e
theorem FsOk.at:∀{l:List (Nat×Ctr)} {k:Nat} {c:Ctr},FsOk P l->A1 l k=some c->c.ok P k/\∀args w,(callFunc k args).run P w=.ok (.enter k args) w
 |[],_,_,_,h=>by cases h
 |(j,_)::r,k,_,h,e=>by
  rw[fnd_cons]at e;split at e
  . rename_i H;subst H;cases e;exact h.1
  . exact FsOk.at h.2 e
theorem FmOk.at:∀{l:List (Nat×CtrM)} {k:Nat} {c:CtrM},FmOk P l->A1 l k=some c->c.ok P k/\∀args w,(callFunc k args).run P w=.ok (.enter k args) w
 |[],_,_,_,h=>by cases h
 |(j,_)::r,k,_,h,e=>by
  rw[fnd_cons]at e;split at e
  . rename_i H;subst H;cases e;exact h.1
  . exact FmOk.at h.2 e
theorem PfOk.at:∀{l:List (Nat×CtrP)} {k:Nat} {c:CtrP},PfOk P l->A1 l k=some c->c.ok P k/\∀args w,(callFunc k args).run P w=.ok (.enter k args) w
 |[],_,_,_,h=>by cases h
 |(j,_)::r,k,_,h,e=>by
  rw[fnd_cons]at e;split at e
  . rename_i H;subst H;cases e;exact h.1
  . exact PfOk.at h.2 e
mutual
theorem AGP{i:Nat}{p:Rp}:∀s:SV,A9 s=[]->subS i p s=s
 |.agg l,h=>AX9 SV.agg (ABc l h)
 |.tup l,h=>AX9 SV.tup (ABc l h)
 |.fn g l,h=>AX9 (SV.fn g) (ABc l h)
 |.rp s o,h=>AX9 (fun x=>SV.rp x o) (AGP s h)
 |.ap s n x k,h=>AX9 (fun y=>SV.ap y n x k) (AGP s h)
 |.own _,h|.ptr _ _,h|.ep _ _ _ _ _,h=>by cases h
 |.int _ _,_|.bool _,_|.dat _ _,_|.str _ _,_|.ary _ _ _,_|.fv _ _ _,_|.nilS,_|.np _ _,_|.it _ _,_|.raw _,_|.undef,_|.dead,_=>rfl
theorem ABc{i:Nat}{p:Rp}:∀l:List SV,ownsLL l=[]->subL i p l=l
 |[],_=>rfl
 |s::l,h=>by
  have h:A9 s++ownsLL l=[]:=h;rw[List.append_eq_nil_iff]at h;simp only[subL,AGP s h.1,ABc l h.2]
end
variable{ρ ρ':Nat->Value}{R R':Nat->Option AR}{M:List Nat}{w:World}
mutual
theorem Ok.any:∀(s:SV) {v:Value},A9 s=[]->Ok ρ R M w s v->Ok ρ' R' M w s v
 |.int _ _,_,_,h|.bool _,_,_,h|.dat _ _,_,_,h|.str _ _,_,_,h|.ary _ _ _,_,_,h|.fv _ _ _,_,_,h|.nilS,_,_,h|.np _ _,_,_,h|.it _ _,_,_,h|.raw _,_,_,h|.undef,_,_,h|.dead,_,_,h=>h
 |.own _,_,e,_|.ptr _ _,_,e,_|.ep _ _ _ _ _,_,e,_=>by cases e
 |.agg l,_,e,⟨vs,I,H⟩=>⟨vs,I,OkL.any l e H⟩
 |.rp s _,_,e,⟨b,o0,u,vs,I,H,U,J⟩=>⟨b,o0,u,vs,I,H,Ok.any s e U,J⟩
 |.ap s _ _ _,_,e,⟨b,o,I,H⟩=>⟨b,o,Ok.any s e I,H⟩
 |.fn _ l,_,e,⟨vs,I,H⟩=>⟨vs,I,OkV.any l e H⟩
 |.tup l,_,e,⟨vs,I,H⟩=>⟨vs,I,OkV.any l e H⟩
theorem OkL.any:∀(l:List SV) {vs:List Value},ownsLL l=[]->OkL ρ R M w l vs->OkL ρ' R' M w l vs
 |[],_,_,h=>h
 |s::l,_,e,⟨u,c,r,U,J,I,H⟩=>
  have e':=List.append_eq_nil_iff.1 (show A9 s++ownsLL l=[] from e)
  ⟨u,c,r,U,Ok.any s e'.1 J,I,OkL.any l e'.2 H⟩
theorem OkV.any:∀(l:List SV) {vs:List Value},ownsLL l=[]->OkV ρ R M w l vs->OkV ρ' R' M w l vs
 |[],_,_,h=>h
 |s::l,_,e,⟨u,r,J,I,H⟩=>
  have e':=List.append_eq_nil_iff.1 (show A9 s++ownsLL l=[] from e)
  ⟨u,r,J,Ok.any s e'.1 I,OkV.any l e'.2 H⟩
end
section
variable[Anch]{w0 w w':World}{Mu M:List Nat}{σ:AS}{L:A7}{S:List Res}{ρ:Nat->Value}{γ:Nat->List Value}{μ:Nat->List Nat}{ι:Nat->Nat}
def RdN(ρ:Nat->Value)(γ:Nat->List Value)(R:Nat->Option AR)(M':List Nat)(w:World):Nat->List Nat->Prop
 |0,I=>Rds ρ R M' w I
 |n+1,I=>Rds ρ R M' w I/\∀i∈I,∀e l,R i=some (.row e l)->RdN ρ γ R M' w n (ownsLL l)/\∃b,ρ i=.pointer (some ⟨b,0,none⟩)/\RdC M' w b 0 (γ i)/\OkL ρ R M' w l (γ i)
def RdR(ρ:Nat->Value)(γ:Nat->List Value)(R:Nat->Option AR)(M':List Nat)(w:World)(I:List Nat):Prop:=RdN ρ γ R M' w 4 I
variable{M':List Nat}{M'':List Nat}{I:List Nat}{i:Nat}{p:Rp}
theorem RdN.rds:∀{n:Nat} {I:List Nat},RdN ρ γ R M' w n I->Rds ρ R M' w I
 |0,_,h=>h
 |_+1,_,h=>h.1
theorem RdN.nil:∀{n:Nat},RdN ρ γ R M' w n []
 |0=>fun _ hi=>by cases hi
 |_+1=>⟨(fun _ hi=>by cases hi),fun _ hi=>by cases hi⟩
theorem RdN.mono:∀{n:Nat} {I J:List Nat},RdN ρ γ R M' w n J->(∀i∈I,i∈J)->RdN ρ γ R M' w n I
 |0,_,_,h,H=>fun i hi=>h i (H i hi)
 |_+1,_,_,h,H=>⟨h.1.mono H,fun i hi=>h.2 i (H i hi)⟩
theorem RdN.drop(H:∀b∈M'',b∈M'):∀{n:Nat} {I:List Nat},RdN ρ γ R M' w n I->RdN ρ γ R M'' w n I
 |0,_,h=>fun i hi p c x J=>(h i hi p c x J).adv (Adv.drop H)
 |_+1,_,h=>⟨fun i hi p c x J=>(h.1 i hi p c x J).adv (Adv.drop H),fun i hi e l J=>by
  obtain⟨C,b,W,V,U⟩:=h.2 i hi e l J;exact⟨RdN.drop H C,b,W,V.adv (Adv.drop H),OkL.adv (Adv.drop H) l U⟩⟩
theorem RdR.drop(h:RdR ρ γ R M' w I)(H:∀b∈M'',b∈M'):RdR ρ γ R M'' w I:=RdN.drop H h
theorem RdR.cons(U:RdR ρ γ R M' w [i])(J:RdR ρ γ R M' w I):RdR ρ γ R M' w (i::I):=
 ⟨fun j H=>(mem_cons.1 H).elim (fun e=>U.1 j (by simp[e])) (J.1 j),fun j H=>(mem_cons.1 H).elim (fun e=>U.2 j (by simp[e])) (J.2 j)⟩
theorem ARJ{i j:Nat}:A1 ((Ac.del i p).app none σ).res j=if j=i then none else(A1 σ.res j).map (AR.sub i p):=by
 show A1 (U6 i (R3 i p σ.res)) j=_;rw[fnd_rdel,fnd_subR]
def Still(R R':Nat->Option AR)(I:List Nat):Prop:=∀i∈I,(∀p c (x:den c.ty),R i=some (.own p c x)->R' i=some (.own p c x))/\∀e l,R i=some (.row e l)->ownsLL l=[]->R' i=some (.row e l)
theorem Still.del(h:Still R (A1 σ.res) I)(hi:i∉I):Still R (A1 ((Ac.del i p).app none σ).res) I:=fun j J=>by
 have H:j≠i:=fun e=>hi (e▸J);rw[ARJ,if_neg H];refine⟨fun q c x U=>?_,fun e l U hl=>?_⟩
 . rw[(h j J).1 q c x U];rfl
 . rw[(h j J).2 e l U hl];show some (AR.row e (subL i p l))=_;rw[ABc l hl]
theorem AN2[Fx]:∀(I:List Nat) {as_:List Ac} {σ:AS} {S:List Res} {ι:Nat->Nat} (R:Nat->Option AR),Still R (A1 σ.res) I->HS w0 Mu M σ L w S ρ γ μ ι->frz R I=some as_ ->
  ∃S1 ι1,HS w0 Mu M (apps none as_ σ) L w S1 ρ γ μ ι1/\RdR ρ γ R (mm S1 M) w I/\∀b∈mm S1 M,b∈mm S M:=by
 intro I
 induction I with
 |nil=>
  intro as_ σ S ι R _ h U
  cases U
  exact⟨S,ι,h,RdN.nil,fun _ C=>C⟩
 |cons i I ih=>
  intro as_ σ S ι R B h U
  have E:Still R (A1 σ.res) I:=fun j V=>B j (AX0 _ V)
  simp only[frz]at U
  cases Q:has I i with
  |true=>
   rw[Q,cond_true]at U
   obtain⟨S1,ι1,A,F,D⟩:=ih R E h U
   refine⟨S1,ι1,A,RdR.cons ⟨fun j V=>F.1 j ?_,fun j V=>F.2 j ?_⟩ F,D⟩<;>(have:j=i:=by simpa using V)<;>(subst this;exact has_iff.1 Q)
  |false=>
   have O:i∉I:=fun hm=>by rw[has_iff.2 hm]at Q;cases Q
   rw[Q,cond_false]at U
   generalize J:ACT R i=o at U
   cases o with
   |none=>exact(A2 U).elim
   |some a1=>
    generalize T:frz R I=o2 at U
    cases o2 with
    |none=>exact(A2 U).elim
    |some r=>
     have U:a1++r=as_:=AXz U
     subst U
     unfold ACT at J
     cases H:R i with
     |none=>rw[H]at J;exact(A2 J).elim
     |some a=>
      rw[H]at J
      cases a with
      |own p c xs=>
       cases p with
       |true=>exact(A2 J).elim
       |false=>
        have J:[Ac.del i (.dat c.ty xs)]=a1:=AXz J
        subst J
        have K:=(B i (AX4 ..)).1 _ _ _ H
        have Y:OkD (mm (S.eraseIdx (ι i)) M) w c.ty xs (ρ i):=AS4 h.hp (ι i) (h.row i _ K) (h.res i _ K)
        have G:=h.del (p:=.dat c.ty xs) K ⟨by cases c<;>rfl,Y⟩
        obtain⟨S1,ι1,A,F,D⟩:=ih R (E.del O) G T
        refine⟨S1,ι1,A,RdR.cons ⟨fun j V q c' ys W=>?_,fun j V e' l W=>?_⟩ F,fun b C=>Z1 (AYK S (ι i)) (D b C)⟩
        . have:j=i:=by simpa using V
          subst this
          rw[H]at W;cases W
          exact Y.adv (Adv.drop D)
        . have:j=i:=by simpa using V
          subst this
          rw[H]at W;cases W
      |row e l=>
       have J:(match ownsLL l with
        |[]=>some [Ac.del i (.rp l)]
        |_=>none)=some a1:=J
       cases hl:ownsLL l with
       |cons x y=>rw[hl]at J;exact(A2 J).elim
       |nil=>
        rw[hl]at J
        have J:[Ac.del i (.rp l)]=a1:=AXz J
        subst J
        have K:=(B i (AX4 ..)).2 _ _ H hl
        obtain⟨⟨b,C⟩,N⟩:=h.row i _ K
        have P:=h.res i _ K
        have Y:RdC (mm (S.eraseIdx (ι i)) M) w b 0 (γ i):=by
         have:=h.hp.freezeRow (ι i) (b:=blk (ρ i)) P;rw[C]at this;exact this
        have X:∀b∈mm (S.eraseIdx (ι i)) M,b∈mm S M:=fun b C=>Z1 (AYK S (ι i)) C
        have Z:OkL ρ (A1 ((Ac.del i (.rp l)).app none σ).res) (mm (S.eraseIdx (ι i)) M) w l (γ i):=OkL.any l hl (OkL.adv (Adv.drop X) l N)
        have G:=h.del (p:=.rp l) K ⟨b,γ i,C,Y,Z⟩
        obtain⟨S1,ι1,A,F,D⟩:=ih R (E.del O) G T
        refine⟨S1,ι1,A,RdR.cons ⟨fun j V q c' ys W=>?_,fun j V e' l' W=>?_⟩ F,fun b C=>X b (D b C)⟩
        . have:j=i:=by simpa using V
          subst this
          rw[H]at W;cases W
        . have:j=i:=by simpa using V
          subst this
          rw[H]at W;cases W
          exact⟨by rw[hl];exact RdN.nil,b,C,Y.adv (Adv.drop D),OkL.any l hl (OkL.adv (Adv.drop D) l Z)⟩
end
end Go.Rx
