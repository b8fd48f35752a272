/-
  Part DisputeExamples 2 of the texts that the statement's proof stands on: what memory holds, how code is walked, what the functions reckon. In the order in which they build.
-/
import Derived.Maps.RangeRun
import Derived.DeepKeys4
import Derived.WideKeyEntry
import Derived.Shelf.SlGeneric
import Derived.Shelf.SlLaysF0
import Derived.Ground.SlsfProg
import Derived.Test.YtgioiejbphljoaaGreatDoorProg
import Derived.ProofKit
import Derived.Deep.Slices
import Derived.Shelf.Lays8
import Derived.Ground.Names8Prog
import Derived.Test.YtgioiejbphljoaaGreatDoorEbDisputeExamples1
open List (mem_cons mem_map toArray)
open Nat (beq blt)
open Go.Proofs.Tryz
set_option linter.unusedVariables false
set_option linter.unusedSectionVars false
noncomputable section
namespace Go.Sx
open Go Go.RowKit Go.ChangeMaps
variable[Trk]
abbrev A4(κ α:Type):=κ->Option α
variable{κ α:Type}
def fnone:A4 κ α:=fun _=>none
def B5[DecidableEq κ](f:A4 κ α)(a:κ)(z:α):A4 κ α:=fun k=>if k=a then some z else f k
def Z2[DecidableEq κ](f:A4 κ α)(a:κ):A4 κ α:=fun k=>if k=a then none else f k
def Lists(f:A4 κ α)(l:List (κ×α)):Prop:=(l.map (·.1)).Nodup/\∀a y,(a,y)∈l↔f a=some y
variable{f:A4 κ α}{a:κ}{j:Nat}{y:α}
theorem Lists.perm{l l':List (κ×α)}(h:Lists f l)(H:l'.Perm l):Lists f l':=
 ⟨(H.map _).nodup_iff.2 h.1,fun a y=>H.mem_iff.trans (h.2 a y)⟩
theorem Lists.nil:Lists (fnone:A4 κ α) []:=⟨AZD,fun a y=>by simp[fnone]⟩
theorem Lists.none{f:A4 κ α}{l:List (κ×α)}(h:Lists f l){a:κ}(I:∀x∈l,x.1≠a):f a=none:=by
 cases H:f a with
 |none=>rfl
 |some y=>exact absurd rfl (I _ ((h.2 a y).2 H))
theorem Lists.push[DecidableEq κ]{l:List (κ×α)}(h:Lists f l)(z:α)(H:∀x∈l,x.1≠a):Lists (B5 f a z) (l++[(a,z)]):=by
 refine⟨?_,fun k y=>?_⟩
 . rw[AYI,List.nodup_append];refine⟨h.1,by simp,fun x hx y hy=>?_⟩;obtain⟨p,I,rfl⟩:=mem_map.1 hx;have:y=a:=by simpa using hy
   rw[this];exact H p I
 . rw[AYY,h.2];by_cases e:k=a
   . subst e;have J:f k=Option.none:=h.none H;simp[B5,J,eq_comm]
   . simp[B5,e]
theorem AJj{l:List (κ×α)}(J:(l.map (·.1)).Nodup){i j:Nat}{x y:κ×α}(hi:l[i]?=some x)(U:l[j]?=some y)(V:x.1=y.1):i=j:=by
 have H:(l.map (·.1))[i]?=some x.1:=by simp[hi]
 have I:(l.map (·.1))[j]?=some x.1:=by simp[U,V]
 have li:i<(l.map (·.1)).length:=by
  rcases AYF i (l.map (·.1)).length with h|h
  . exact h
  . rw[AYC h]at H;cases H
 exact(List.getElem?_inj li J).1 (H.trans I.symm)
theorem Lists.set[DecidableEq κ]{l:List (κ×α)}(h:Lists f l)(I:l[j]?=some (a,y))(z:α):Lists (B5 f a z) (l.set j (a,z)):=by
 have H:j<l.length:=by
  rcases AYF j l.length with h|h
  . exact h
  . rw[AYC h]at I;cases I
 refine⟨?_,fun k w=>?_⟩
 . have:(l.set j (a,z)).map (·.1)=l.map (·.1):=by
    rw[List.map_set];refine AYr fun i=>?_;rw[AZS];split
    . rename_i e;subst e;simp[H];have:=AX7 H;rw[I]at this;exact(AX9 Prod.fst (AXz this))
    . rfl
   rw[this];exact h.1
 . constructor
   . intro hm;obtain⟨i,hi⟩:=AYW hm;rw[AZS]at hi;split at hi
     . simp at hi;obtain⟨rfl,rfl⟩:=hi;simp[B5]
     . rename_i U;have hk:k≠a:=fun e=>U (AJj h.1 I hi (by simp[e]));have:=(h.2 k w).1 (AX1 hi);simpa[B5,hk] using this
   . intro J;by_cases e:k=a
     . subst e;simp[B5]at J;subst J;exact AX1 (i:=j) (by simp[H])
     . simp[B5,e]at J;obtain⟨i,hi⟩:=AYW ((h.2 k w).2 J);refine AX1 (i:=i) ?_;rw[AZS,if_neg,hi];intro e2;subst e2;rw[I]at hi;cases hi;exact e rfl
theorem Lists.del[DecidableEq κ]{l:List (κ×α)}(h:Lists f l)(J:l[j]?=some (a,y)):Lists (Z2 f a) (l.eraseIdx j):=by
 refine⟨(AZU _ (AYK l j)).nodup h.1,fun k w=>?_⟩;rw[List.mem_eraseIdx_iff_getElem?];constructor
 . rintro⟨i,H,hi⟩;have hk:k≠a:=fun e=>H (AJj h.1 hi J (by simp[e]));have:=(h.2 k w).1 (AX1 hi);simpa[Z2,hk] using this
 . intro I;by_cases e:k=a
   . simp[Z2,e]at I
   . simp[Z2,e]at I;obtain⟨i,hi⟩:=AYW ((h.2 k w).2 I);refine⟨i,fun e2=>?_,hi⟩;subst e2;rw[J]at hi;cases hi;exact e rfl
theorem Lists.del0[DecidableEq κ]{l:List (κ×α)}(h:Lists f l)(H:∀x∈l,x.1≠a):Lists (Z2 f a) l:=by
 have:Z2 f a=f:=by
  funext k;by_cases e:k=a
  . subst e;simp[Z2,h.none H]
  . simp[Z2,e]
 rw[this];exact h
open Classical in
def AXx{S κ α:Type}(f:S->κ×α->Option S)(m:A4 κ α)(s:S):Option S:=if h:∃r,∀l,Lists m l->l.foldlM f s=some r then some h.choose else none
structure Ky(P:Program)(kt:TypeId)(κ:Type)where
 val:κ->Value
 ok:κ->Prop
 inj:∀{a b:κ},ok a->ok b->val a=val b->a=b
 check:∀{a:κ},ok a->∀(w:World) (em:Bool),(Instr.checkKey em 10000 kt (val a)).run P w=.ok () w
 find:∀{a:κ},ok a->∀(es:List MapEntry),(∀e∈es,∃b,ok b/\e.key=val b)->((∀w,(Instr.findKey kt (val a) es).run P w=.ok none w)/\∀e∈es,e.key≠val a)\/∃j e,(∀w,(Instr.findKey kt (val a) es).run P w=.ok (some (j,e.val)) w)/\es[j]?=some e/\e.key=val a
 stays:∀{a:κ},ok a->∀w,(Instr.keyThatStays (val a) (val a)).run P w=.ok (val a) w
def W5{P:Program}{kt:TypeId}(q:IntKind)(hk:P.underlying kt=some (.int q)):Ky P kt Int where
 val:=fun a=>.int q a
 ok:=InK q
 inj:=fun _ _ h=>by cases h;rfl
 check:=fun {a} _ w em=>MapKept.run_checkKey (d:=.int q) (k:=.int q a) hk rfl em 9999
 find:=fun {a} _ es hes=>by
  have hks:∀x∈es,MapKept.IsKey (.int q) x.key:=fun x hx=>by
   obtain⟨b,_,hb⟩:=hes x hx;rw[hb];exact rfl
  rcases MapKept.findNow_spec (d:=.int q) (k:=.int q a) rfl es 0 hks with⟨h1,h2⟩|⟨j,e,h1,h2,h3⟩
  . exact .inl ⟨fun w=>MapKept.run_findKey hk h1,h2⟩
  . exact .inr ⟨j,e,fun w=>by simpa using MapKept.run_findKey (w:=w) hk h1,h2,h3⟩
 stays:=fun {a} _ w=>MapKept.run_keyThatStays (d:=.int q) (k:=.int q a) rfl
def Stp(es:Array MapEntry)(c:Nat):Prop:=(es.toList.map (·.born)).Nodup/\∀x∈es.toList,x.born<c
variable{P:Program}{kt:TypeId}{K:Ky P kt κ}{E:Enc α}{ag:Bool}
def EntK(K:Ky P kt κ)(E:Enc α)(ag:Bool)(M:List Nat)(w:World):List MapEntry->List (κ×α)->Prop
 |[],[]=>True
 |e::es,x::xs=>(e.key=K.val x.1/\K.ok x.1)/\Vl E ag M w e.val x.2/\EntK K E ag M w es xs
 |_,_=>False
variable{M:List Nat}{M':List Nat}{w:World}{w':World}{a:κ}{v:Value}{z:α}{f:A4 κ α}
theorem EntK.adv(H:Adv M M' w w'):∀{es:List MapEntry} {xs:List (κ×α)},EntK K E ag M w es xs->EntK K E ag M' w' es xs
 |[],[],h=>h
 |_::_,_::_,⟨U,J,I⟩=>⟨U,J.adv H,EntK.adv H I⟩
 |[],_::_,h=>h.elim
 |_::_,[],h=>h.elim
theorem EntK.mon(H:∀b∈M',b∈M\/w.heap.size<=b):∀{es:List MapEntry} {xs:List (κ×α)},EntK K E ag M w es xs->EntK K E ag M' w es xs
 |[],[],h=>h
 |_::_,_::_,⟨U,J,I⟩=>⟨U,J.mon H,EntK.mon H I⟩
 |[],_::_,h=>h.elim
 |_::_,[],h=>h.elim
theorem EntK.len:∀{es:List MapEntry} {xs:List (κ×α)},EntK K E ag M w es xs->es.length=xs.length
 |[],[],_=>rfl
 |_::_,_::_,⟨_,_,h⟩=>by simp[EntK.len h]
 |[],_::_,h=>h.elim
 |_::_,[],h=>h.elim
theorem EntK.at{M:List Nat}{w:World}:∀{es:List MapEntry} {xs:List (κ×α)},EntK K E ag M w es xs->∀{j:Nat} {e:MapEntry},es[j]?=some e->∃x,xs[j]?=some x/\e.key=K.val x.1/\K.ok x.1/\Vl E ag M w e.val x.2
 |[],_,_,j,e,H=>by simp at H
 |e::es,x::xs,⟨I,U,J⟩,0,e',H=>by simp at H;subst H;exact⟨x,rfl,I.1,I.2,U⟩
 |e::es,x::xs,⟨I,U,J⟩,j+1,e',H=>by simpa using EntK.at J (j:=j) (e:=e') (by simpa using H)
 |_::_,[],h,_,_,_=>h.elim
theorem EntK.back:∀{es:List MapEntry} {xs:List (κ×α)},EntK K E ag M w es xs->∀x∈xs,∃e∈es,e.key=K.val x.1
 |[],[],_,x,hx=>by cases hx
 |e::es,x::xs,⟨U,V,J⟩,y,hy=>by
  rcases mem_cons.1 hy with rfl|hy
  . exact⟨e,by simp,U.1⟩
  . obtain⟨e',I,H⟩:=EntK.back J y hy;exact⟨e',AX0 _ I,H⟩
 |[],_::_,h,_,_=>h.elim
 |_::_,[],h,_,_=>h.elim
theorem EntK.keys{es:List MapEntry}{xs:List (κ×α)}(h:EntK K E ag M w es xs):∀e∈es,∃b,K.ok b/\e.key=K.val b:=fun e I=>by
 obtain⟨j,H⟩:=AYW I;obtain⟨x,_,U,J,_⟩:=h.at H;exact⟨x.1,J,U⟩
theorem EntK.push{c:Nat}(H:K.ok a)(hv:Vl E ag M w v z):∀{es:List MapEntry} {xs:List (κ×α)},EntK K E ag M w es xs->EntK K E ag M w (es++[⟨K.val a,v,c⟩]) (xs++[(a,z)])
 |[],[],_=>⟨⟨rfl,H⟩,hv,trivial⟩
 |_::_,_::_,⟨U,J,I⟩=>⟨U,J,EntK.push H hv I⟩
 |[],_::_,h=>h.elim
 |_::_,[],h=>h.elim
theorem EntK.set(I:K.ok a)(hv:Vl E ag M w v z):∀{es:List MapEntry} {xs:List (κ×α)} (j:Nat),EntK K E ag M w es xs->EntK K E ag M w (es.modify j fun e=>{ e with key:=K.val a,val:=v }) (xs.set j (a,z))
 |[],[],_,_=>by simp[EntK]
 |_::_,_::_,0,⟨U,J,H⟩=>⟨⟨rfl,I⟩,hv,H⟩
 |_::_,_::_,j+1,⟨U,J,H⟩=>⟨U,J,EntK.set I hv j H⟩
 |[],_::_,_,h=>h.elim
 |_::_,[],_,h=>h.elim
theorem EntK.erase:∀{es:List MapEntry} {xs:List (κ×α)} (j:Nat),EntK K E ag M w es xs->EntK K E ag M w (es.eraseIdx j) (xs.eraseIdx j)
 |[],[],_,_=>by simp[EntK]
 |_::_,_::_,0,⟨_,_,H⟩=>H
 |_::_,_::_,j+1,⟨J,I,H⟩=>⟨J,I,EntK.erase j H⟩
 |[],_::_,_,h=>h.elim
 |_::_,[],_,h=>h.elim
def MapH(K:Ky P kt κ)(E:Enc α)(ag:Bool)(M:List Nat)(w:World)(b:Nat)(f:A4 κ α):Prop:=
 ∃es c xs,w.heap[b]?=some (.map es c)/\Stp es c/\EntK K E ag M w es.toList xs/\Lists f xs
def mapO(K:Ky P kt κ)(E:Enc α)(ag:Bool)(b:Nat)(f:A4 κ α):Res where
 fp:=[b]
 mu:=[]
 holds:=fun M w=>MapH K E ag M w b f
 adv:=fun ha hb h=>by
  obtain⟨es,c,xs,h1,h2,h3,h4⟩:=h;exact⟨es,c,xs,(hb b (by simp)).trans h1,h2,h3.adv ha,h4⟩
 lt:=fun h x hx=>by
  obtain⟨es,c,xs,h1,_⟩:=h;have:x=b:=by simpa using hx
  subst this;exact K7 h1
def RdF(K:Ky P kt κ)(E:Enc α)(ag:Bool)(M:List Nat)(w:World)(v:Value)(f:A4 κ α):Prop:=∃b,v=.map (some b)/\b∉M/\MapH K E ag M w b f
theorem RdF.adv(h:RdF K E ag M w v f)(J:Adv M M' w w'):RdF K E ag M' w' v f:=by
 obtain⟨b,rfl,U,es,c,xs,V,D,C,W⟩:=h;have H:=K7 V;exact⟨b,rfl,fun I=>(J.new b I).elim U (fun h=>absurd H (by omega)),es,c,xs,(J.kp.block b H U).trans V,D,C.adv J,W⟩
theorem RdF.oneC(h:RdF K E ag M w v f):v.oneCell'=true:=by
 obtain⟨b,rfl,_⟩:=h;rfl
variable{N:Nat}{ops:Array Oper}{q:Md}{rest:List Oper}{ds:List Deferred}{L:A7}{w w0:World}{A B:A3}{X:Nat->A3}{Z:List PanicEntry->A3}{d:Nat}{ty:TypeId}{pos:String}{af:Array Edge}{Mu M:List Nat}{σ:List Res}{b:Nat}{t:TypeId}{e:TypeId}{z0:α}{x:Operand}{y:Operand}
theorem Hp.mapAt'[Fx](h:Hp w0 Mu M σ w)(i:Nat)(hi:σ[i]?=some (mapO K E ag b f)):MapH K E ag (mm σ M) w b f:=h.get i hi
theorem Hp.freezeM[Fx](h:Hp w0 Mu M σ w)(i:Nat)(hi:σ[i]?=some (mapO K E ag b f)):RdF K E ag (mm (σ.eraseIdx i) M) w (.map (some b)) f:=by
 obtain⟨es,c,xs,U,J,I,H⟩:=h.mapAt' i hi;exact⟨b,rfl,h.apart i hi b (by simp[mapO]),es,c,xs,U,J,I.mon fun x hx=>.inl (Z1 (AYK σ i) hx),H⟩
theorem MapH.lookup{zv:Value}(h:MapH K E ag M w b f)(J:K.ok a)(F:P.underlying t=some (.map kt e))(Q:∀w,(zeroValue e).run P w=.ok zv w)(U:Vl E ag M w zv z0):
  ∃v,(∀cm w',w'.heap[b]?=w.heap[b]?->(Instr.lookup t (.map (some b)) (K.val a) cm).run P w'=.ok (if cm then .tuple #[v,.bool (f a).isSome] else v) w')/\Vl E ag M w v ((f a).getD z0):=by
 obtain⟨es,c,xs,H,B,D,O⟩:=h
 rcases K.find J es.toList D.keys with⟨g1,g2⟩|⟨j,e',g1,g2,g3⟩
 . have I:f a=none:=O.none fun x hx T=>by
    obtain⟨e',A,Y⟩:=D.back x hx;exact g2 e' A (by rw[Y,T])
   refine⟨zv,fun cm w' W=>?_,by rw[I];exact U⟩
   have H:=W.trans H
   cases cm<;>simp[Instr.lookup,run_underlying F,MapKept.run_getObj_map H,K.check J,g1,Q,I]
 . obtain⟨x,hx,hk,C,hv⟩:=D.at g2
   have V:x.1=a:=K.inj C J (by rw[<-hk,g3])
   have I:f a=some x.2:=(O.2 a x.2).1 (by rw[<-V];exact AX1 hx)
   refine⟨e'.val,fun cm w' W=>?_,by rw[I];exact hv⟩
   have H:=W.trans H
   cases cm<;>simp[Instr.lookup,run_underlying F,MapKept.run_getObj_map H,K.check J,g1,I]
theorem AQU[Fx](K:Ky P kt κ)(E:Enc α)(ag:Bool)(I:Hp w0 Mu M σ w)(hN:blt d N=true)(h:∀b w',Hp w0 Mu M (mapO K E ag b fnone::σ) w'->Adv (mm σ M) (mm (mapO K E ag b fnone::σ) M) w w'->Reg P N ops .seq rest ds ((d,.map (some b))::L) w' A B X Z):
  Reg P N ops .seq (⟨some d,.makeMap t none,ty,pos,af,none⟩::rest) ds L w A B X Z:=by
 have hx:Ext w (w.alloc (.map #[] 0)):=Kp.alloc _ _ _
 have H:∀b∈(mapO K E ag w.heap.size fnone).fp,w.heap.size<=b/\b<(w.alloc (.map #[] 0)).heap.size:=fun b U=>by
  have:b=w.heap.size:=by simpa[mapO] using U
  subst this;exact⟨AYE _,by show w.heap.size<(w.heap.push _).size;simp⟩
 refine P4 (.map (some w.heap.size)) (w.alloc (.map #[] 0)) rfl rfl hN (fun a V=>?_) (h _ _ (I.add hx H rfl ⟨#[],0,[],heap_alloc_new w _,⟨by simp,fun x hx=>by simp at hx⟩,trivial,Lists.nil⟩) (I.addA hx H))
 have J:(Instr.makeMap t none).run P w=.ok (.map (some w.heap.size)) (w.alloc (.map #[] 0)):=rfl
 simp[execOp,J]
theorem ASc[Fx](i:Nat){zv:Value}(V:Hp w0 Mu M σ w)(hi:σ[i]?=some (mapO K E ag b f))(hx:ev L x=some (.map (some b)))(hy:ev L y=some (K.val a))(U:K.ok a)(J:P.underlying t=some (.map kt e))(I:∀w,(zeroValue e).run P w=.ok zv w)(H:Vl E ag (mm σ M) w zv z0)(hN:blt d N=true)(h:∀v,Vl E ag (mm σ M) w v ((f a).getD z0)->Reg P N ops .seq rest ds ((d,v)::L) w A B X Z):
  Reg P N ops .seq (⟨some d,.lookup t x y false,ty,pos,af,none⟩::rest) ds L w A B X Z:=by
 obtain⟨v,C,W⟩:=(V.mapAt' i hi).lookup U J I H
 refine P4 _ w rfl rfl hN (fun A hA=>?_) (h v W)
 simp[execOp,hA.eval hx,hA.eval hy,C _ w rfl]
theorem AQV{t e n:Nat}{k k2:IntKind}{i z:Int}{xs:List Int}{M:List Nat}(I:RdC M w b 0 (xs.map (Value.int k2)))(hx:ev L x=some (.pointer (some ⟨b,0,none⟩)))(hy:ev L y=some (.int k i))(hi:ixo xs i=some z)(V:P.underlying t=some (.array n e))(C:n=xs.length)(W:∀w,(sizeOf e).run P w=.ok 1 w)(hN:blt d N=true)(h:RdC M w b i.toNat [.int k2 z]->Reg P N ops q rest ds ((d,.pointer (some ⟨b,i.toNat,none⟩))::L) w A B X Z):Reg P N ops q (⟨some d,.indexAddr t x y,ty,pos,af,none⟩::rest) ds L w A B X Z:=by
 obtain⟨F,E,U⟩:=AAC hi;have D:i.toNat<xs.length:=by omega
 subst C;have hcell:RdC M w b i.toNat [.int k2 z]:=⟨I.out,I.lt,fun j v H=>by
  cases j with
  |zero=>
   simp at H;subst H
   have:=I.cells i.toNat (.int k2 z) (by simp[U])
   simpa using this
  |succ j=>simp at H⟩
 refine Reg.val (.pointer (some ⟨b,i.toNat,none⟩)) rfl rfl hN (fun a J w' _=>?_) (h hcell);simp[execOp,J.eval hx,J.eval hy,Instr.indexAt,asIntOf,run_underlying V,Instr.sureAddr,F,E,W,add_none]
theorem AHs{o o':Obj}(H:w.heap[b]?=some o):Kp [b] w (setBlock w b o'):=
 ⟨rfl,rfl,rfl,by simp[setBlock],fun j I hm=>(MapKept.heap_set (o':=o') H).2 j (by simpa using hm),fun _=>AYE _⟩
variable[DecidableEq κ]
theorem AMY[Fx](i:Nat){b:Nat}{f:A4 κ α}{z:α}{v:Value}{x y u:Operand}{t e:TypeId}{a:κ}(T:Hp w0 Mu M σ w)(hi:σ[i]?=some (mapO K E ag b f))(hx:ev L x=some (.map (some b)))(hy:ev L y=some (K.val a))(I:K.ok a)(g:ev L u=some v)(hv:Vl E ag (mm σ M) w v z)(G:P.underlying t=some (.map kt e))(h:∀w',Hp w0 Mu M (σ.set i (mapO K E ag b (B5 f a z))) w'->Adv (mm σ M) (mm (σ.set i (mapO K E ag b (B5 f a z))) M) w w'->Reg P N ops .seq rest ds L w' A B X Z):
  Reg P N ops .seq (⟨none,.mapUpdate t x y u,ty,pos,af,none⟩::rest) ds L w A B X Z:=by
 obtain⟨es,c,xs,J,V,U,S⟩:=T.mapAt' i hi
 have key':∃es' c' xs',(Instr.mapUpdate t (.map (some b)) (K.val a) v).run P w=.ok () (setBlock w b (.map es' c'))/\Stp es' c'/\EntK K E ag (mm σ M) w es'.toList xs'/\Lists (B5 f a z) xs':=by
  rcases K.find I es.toList U.keys with⟨g1,g2⟩|⟨j,e',g1,g2,g3⟩
  . refine⟨es.push ⟨K.val a,v,c⟩,c+1,xs++[(a,z)],?_,⟨?_,fun x hx=>?_⟩,?_,S.push z fun x hx n=>?_⟩
    . simp[Instr.mapUpdate,run_underlying G,MapKept.run_getObj_map J,K.check I,g1,MapKept.run_setObj_map _ J,Result.andThen,setBlock]
    . rw[AZz,AYI,List.nodup_append];refine⟨V.1,by simp,fun x hx y hy=>?_⟩;obtain⟨p,l,rfl⟩:=mem_map.1 hx;have:=V.2 p l;have:y=c:=by simpa using hy
      omega
    . rw[AZz,AYY]at hx;rcases hx with hx|hx
      . have:=V.2 x hx;omega
      . have:x=⟨K.val a,v,c⟩:=by simpa using hx
        subst this;exact AZa c
    . rw[AZz];exact U.push I hv
    . obtain⟨e',h5,s⟩:=U.back x hx;exact g2 e' h5 (by rw[s,n])
  . obtain⟨x',D,hk,O,d⟩:=U.at g2;have C:x'.1=a:=K.inj O I (by rw[<-hk,g3]);have g4:es[j]?=some e':=by simpa using g2
    refine⟨es.modify j fun e=>{ e with key:=K.val a,val:=v },c,xs.set j (a,z),?_,⟨?_,fun x hx=>?_⟩,?_,S.set (y:=x'.2) (by rw[D,<-C]) z⟩
    . simp[Instr.mapUpdate,run_underlying G,MapKept.run_getObj_map J,K.check I,g1,g4,g3,K.stays I,MapKept.run_setObj_map _ J,Result.andThen,setBlock]
    . have:((es.modify j fun e=>{ e with key:=K.val a,val:=v }).toList.map (·.born))=es.toList.map (·.born):=by
       rw[AZl];refine AYr fun i=>?_;simp only[List.getElem?_map,List.getElem?_modify];by_cases e:j=i
       . subst e;cases es.toList[j]? <;> simp
       . simp[e]
      rw[this];exact V.1
    . rw[AZl]at hx;obtain⟨m,hm⟩:=AYW hx;rw[List.getElem?_modify]at hm;cases F:es.toList[m]? with
      |none=>rw[F]at hm;cases hm
      |some e0=>
       rw[F]at hm
       have:=V.2 e0 (AX1 F)
       by_cases e:j=m
       . simp[e]at hm;subst hm;exact this
       . simp[e]at hm;subst hm;exact this
    . rw[AZl];exact U.set I hv j
 obtain⟨es',c',xs',k,o,r,q⟩:=key'
 have H:Kp [b] w (setBlock w b (.map es' c')):=AHs J
 have R:∀b'∈(mapO K E ag b (B5 f a z)).fp,b'∈(mapO K E ag b f).fp\/w.heap.size<=b':=fun b' W=>.inl W
 refine Reg.sto (setBlock w b (.map es' c')) rfl rfl (fun A hA=>?_) (h _ (T.upd i hi H R rfl fun M' Q=>⟨es',c',xs',(MapKept.heap_set J).1,o,?_,q⟩) (T.updA (r':=mapO K E ag b (B5 f a z)) i hi H R))
 . simp[execOp,hA.eval hx,hA.eval hy,hA.eval g,k]
 . have W:b∈mm σ M:=mem_mm.2 (.inl ⟨_,AX1 hi,by simp[mapO]⟩)
   refine(r.adv ⟨H.mono fun x hx=>.inl ?_,fun x hx=>.inl hx⟩).mon fun x hx=>.inl ?_
   . have:x=b:=by simpa using hx
     subst this;exact W
   . rcases Q x hx with Y|Y
     . have:x=b:=by simpa[mapO] using Y
       subst this;exact W
     . exact Y
theorem AU2[Fx](i:Nat){b:Nat}{f:A4 κ α}{x y:Operand}{t kt' e:TypeId}{a:κ}(T:Hp w0 Mu M σ w)(hi:σ[i]?=some (mapO K E ag b f))(hx:ev L x=some (.map (some b)))(hy:ev L y=some (K.val a))(W:K.ok a)(R:P.underlying t=some (.map kt e))(h:∀w',Hp w0 Mu M (σ.set i (mapO K E ag b (Z2 f a))) w'->Adv (mm σ M) (mm (σ.set i (mapO K E ag b (Z2 f a))) M) w w'->Reg P N ops .seq rest ds L w' A B X Z):
  Reg P N ops .seq (⟨none,.call ⟨.builtin .delete,#[x,y],#[t,kt']⟩,ty,pos,af,none⟩::rest) ds L w A B X Z:=by
 obtain⟨es,c,xs,J,G,U,d⟩:=T.mapAt' i hi
 have key':∃es' xs',(∀ty,(Builtin.delete_ #[t,kt'] ty #[.map (some b),K.val a]).run P w=.ok (.tuple #[]) (setBlock w b (.map es' c)))/\Stp es' c/\EntK K E ag (mm σ M) w es'.toList xs'/\Lists (Z2 f a) xs':=by
  rcases K.find W es.toList U.keys with⟨g1,g2⟩|⟨j,e',g1,g2,g3⟩
  . refine⟨es,xs,fun ty=>?_,G,U,d.del0 fun x hx l=>?_⟩
    . simp[Builtin.delete_,run_underlying R,MapKept.run_getObj_map J,K.check W,g1,MapKept.run_setObj_map _ J,Result.andThen,setBlock]
    . obtain⟨e',q,p⟩:=U.back x hx;exact g2 e' q (by rw[p,l])
  . obtain⟨x',D,hk,F,g⟩:=U.at g2;have C:x'.1=a:=K.inj F W (by rw[<-hk,g3]);have O:j<es.size:=by
     rcases AYF j es.toList.length with h|h
     . simpa using h
     . rw[AYC h]at g2;cases g2
    have I:(es.eraseIdxIfInBounds j).toList=es.toList.eraseIdx j:=by simp[Array.eraseIdxIfInBounds,O]
    refine⟨es.eraseIdxIfInBounds j,xs.eraseIdx j,fun ty=>?_,⟨?_,fun x hx=>?_⟩,?_,d.del (y:=x'.2) (by rw[D,<-C])⟩
    . simp[Builtin.delete_,run_underlying R,MapKept.run_getObj_map J,K.check W,g1,MapKept.run_setObj_map _ J,Result.andThen,setBlock]
    . rw[I];exact(AZU _ (AYK _ j)).nodup G.1
    . rw[I]at hx;exact G.2 x ((AYK _ j).subset hx)
    . rw[I];exact U.erase j
 obtain⟨es',xs',k,m,o,n⟩:=key'
 have H:Kp [b] w (setBlock w b (.map es' c)):=AHs J
 have S:∀b'∈(mapO K E ag b (Z2 f a)).fp,b'∈(mapO K E ag b f).fp\/w.heap.size<=b':=fun b' V=>.inl V
 refine APB (.tuple #[]) (setBlock w b (.map es' c)) rfl rfl (fun A hA=>?_) (h _ (T.upd i hi H S rfl fun M' Q=>⟨es',c,xs',(MapKept.heap_set J).1,m,?_,n⟩) (T.updA (r':=mapO K E ag b (Z2 f a)) i hi H S))
 . simp[execOp,resolve,invoke,builtin,hA.eval hx,hA.eval hy,k]
 . have V:b∈mm σ M:=mem_mm.2 (.inl ⟨_,AX1 hi,by simp[mapO]⟩)
   refine(o.adv ⟨H.mono fun x hx=>.inl ?_,fun x hx=>.inl hx⟩).mon fun x hx=>.inl ?_
   . have:x=b:=by simpa using hx
     subst this;exact V
   . rcases Q x hx with Y|Y
     . have:x=b:=by simpa[mapO] using Y
       subst this;exact V
     . exact Y
end Go.Sx
namespace Go.Sx
open Go Go.RowKit
variable[Trk]
structure Tb where
 st:List (Nat×List (Nat×Nat))
 ag:List (Nat×Nat)
def lk{α:Type}:List (Nat×α)->Nat->Option α
 |[],_=>none
 |(k,v)::r,t=>bif beq k t then some v else lk r t
def nth{α:Type}:List α->Nat->Option α
 |[],_=>none
 |x::_,0=>some x
 |_::r,n+1=>nth r n
theorem AAt{α:Type}:∀(l:List α) (i:Nat),nth l i=l[i]?
 |[],_=>rfl
 |_::_,0=>rfl
 |_::l,n+1=>AAt l n
def FlOk(P:Program)(fields:Array Field):Nat->List (Nat×Nat)->Prop
 |_,[]=>True
 |i,(o,t)::r=>(∃fl m,fields[i]?=some fl/\fl.offset=o/\fl.type=t/\∀w,(sizeOf t).run P w=.ok (m+1) w)/\FlOk P fields (i+1) r
def StOk(P:Program):List (Nat×List (Nat×Nat))->Prop
 |[]=>True
 |(s,l)::r=>(∃fields:Array Field,P.underlying s=some (.struct fields)/\FlOk P fields 0 l)/\StOk P r
def AgOk(P:Program):List (Nat×Nat)->Prop
 |[]=>True
 |(t,0)::r=>(∀w,(isAgg t).run P w=.ok false w)/\AgOk P r
 |(t,n+1)::r=>((∀w,(isAgg t).run P w=.ok true w)/\∀w,(sizeOf t).run P w=.ok n w)/\AgOk P r
theorem FlOk.at{P:Program}{fields:Array Field}:∀{l:List (Nat×Nat)} {i f o t:Nat},FlOk P fields i l->nth l f=some (o,t)->∃fl m,fields[i+f]?=some fl/\fl.offset=o/\fl.type=t/\∀w,(sizeOf t).run P w=.ok (m+1) w
 |[],_,_,_,_,_,h=>by cases h
 |(_,_)::_,_,0,_,_,h,e=>by cases e;exact h.1
 |(_,_)::r,i,f+1,_,_,h,e=>by
  have:=FlOk.at (f:=f) h.2 e;rwa [show i+1+f=i+(f+1) by omega]at this
theorem StOk.at{P:Program}:∀{l:List (Nat×List (Nat×Nat))} {s:Nat} {fl:List (Nat×Nat)},StOk P l->lk l s=some fl->∃fields:Array Field,P.underlying s=some (.struct fields)/\FlOk P fields 0 fl
 |[],_,_,_,h=>by cases h
 |(k,_)::r,s,_,h,e=>by
  simp only[lk]at e;cases H:beq k s with
  |true=>rw[H]at e;cases e;cases AX5 H;exact h.1
  |false=>rw[H]at e;exact StOk.at h.2 e
theorem ACR{P:Program}:∀{l:List (Nat×Nat)} {t:Nat},AgOk P l->lk l t=some 0->∀w,(isAgg t).run P w=.ok false w
 |[],_,_,h=>by cases h
 |(k,z)::r,t,h,e=>by
  simp only[lk]at e;have I:AgOk P r:=by cases z<;>exact h.2
  cases H:beq k t with
  |true=>rw[H]at e;cases e;cases AX5 H;exact h.1
  |false=>rw[H]at e;exact ACR I e
theorem AgOk.at1{P:Program}:∀{l:List (Nat×Nat)} {t n:Nat},AgOk P l->lk l t=some (n+1)->(∀w,(isAgg t).run P w=.ok true w)/\∀w,(sizeOf t).run P w=.ok n w
 |[],_,_,_,h=>by cases h
 |(k,z)::r,t,n,h,e=>by
  simp only[lk]at e;have I:AgOk P r:=by cases z<;>exact h.2
  cases H:beq k t with
  |true=>rw[H]at e;cases e;cases AX5 H;exact h.1
  |false=>rw[H]at e;exact AgOk.at1 I e
def kEq:IntKind->IntKind->Bool
 |.i8,.i8|.i16,.i16|.i32,.i32|.i64,.i64|.u8,.u8|.u16,.u16|.u32,.u32|.u64,.u64=>true
 |_,_=>false
theorem ADX{a b:IntKind}(h:kEq a b=true):a=b:=by cases a<;>cases b<;>first|rfl|cases h
end Go.Sx
namespace Go.Rx
open Go Go.Sx Go.RowKit
inductive Ty where
 |int (k:IntKind)
 |bool
 |sl (t:Ty)
 |st (n:Nat)
 |arr (k:IntKind) (n:Nat)
 |mp (m:Nat) (k v:Ty)
 |fno (i:Nat)
 deriving DecidableEq
class Sg where
 S:Nat->Type
section
variable[Sg]
def den:Ty->Type
 |.int _=>Int
 |.bool=>Bool
 |.sl t=>List (den t)
 |.st n=>Sg.S n
 |.arr _ _=>List Int
 |.mp _ k v=>A4 (den k) (den v)
 |.fno _=>Nat
def P2:List Ty->Type
 |[]=>Unit
 |[t]=>den t
 |t::u::l=>den t×P2 (u::l)
end
section
variable[Sg]
def P7:List Ty->Ty->Type
 |[],r=>Option (den r)
 |t::l,r=>den t->P7 l r
inductive SV where
 |int (k:IntKind) (x:Int)
 |bool (b:Bool)
 |dat (t:Ty) (x:den t)
 |str (n:Nat) (x:Sg.S n)
 |ary (k:IntKind) (n:Nat) (x:List Int)
 |agg (l:List SV)
 |own (i:Nat)
 |ptr (i o:Nat)
 |ep (i:Nat) (t:Ty) (x:Int) (z:Option (den t)) (o:Nat)
 |rp (s:SV) (o:Nat)
 |fv (a:List Ty) (r:Ty) (f:P7 a r)
 |fn (g:Nat) (caps:List SV)
 |nilS
 |raw (v:Value)
 |it (ts:List Ty) (xs:List (P2 ts))
 |np (t:Ty) (x:Option (den t))
 |ap (s:SV) (n:Nat) (x:Int) (k:Nat)
 |undef
 |dead
 |tup (l:List SV)
end
def Ty.leaf:Ty->Bool
 |.st _=>false
 |_=>true
def AEt:List Ty->Bool
 |[]=>true
 |t::l=>t.leaf&&AEt l
class Sf[Sg]where
 ft:Nat->List Ty
 un:(n:Nat)->Sg.S n->P2 (ft n)
 mkS:(n:Nat)->P2 (ft n)->Sg.S n
 un_mk:∀n x,un n (mkS n x)=x
 eq:(n:Nat)->Sg.S n->Sg.S n->Bool
 dec:(n:Nat)->DecidableEq (Sg.S n)
 leaf:∀n,AEt (ft n)=true
 nm:Nat->Bool
 gv:Nat->Option SV:=fun _=>none
variable[Sg][Sf]
open Classical in
def ADY:(t:Ty)->DecidableEq (den t)
 |.int _=>inferInstanceAs (DecidableEq Int)
 |.bool=>inferInstanceAs (DecidableEq Bool)
 |.st n=>Sf.dec n
 |.arr _ _=>inferInstanceAs (DecidableEq (List Int))
 |.sl t=>fun _ _=>propDecidable _
 |.mp _ _ _=>fun _ _=>propDecidable _
 |.fno _=>inferInstanceAs (DecidableEq Nat)
def G8(t t':Ty)(x:den t):Option (den t'):=if h:t=t' then some (h▸x) else none
def AJB(n n':Nat)(x:Sg.S n):Option (Sg.S n'):=if h:n=n' then some (h▸x) else none
def G0:(t:Ty)->den t->SV
 |.int k,x=>.int k x
 |.bool,x=>.bool x
 |.sl t,x=>.dat (.sl t) x
 |.st n,x=>.str n x
 |.arr k n,x=>.ary k n x
 |.mp m k v,x=>.dat (.mp m k v) x
 |.fno i,x=>.dat (.fno i) x
def ofL:(l:List Ty)->P2 l->List SV
 |[],_=>[]
 |[t],x=>[G0 t x]
 |t::u::l,x=>G0 t x.1::ofL (u::l) x.2
def ASd(n:Nat)(x:Sg.S n):List SV:=ofL (Sf.ft n) (Sf.un n x)
inductive Oc where
 |sl (e:Nat) (t:Ty)
 |mp (m:Nat) (k v:Ty)
 deriving DecidableEq
def Oc.ty:Oc->Ty
 |.sl _ t=>.sl t
 |.mp m k v=>.mp m k v
def castO(c c':Oc)(x:den c.ty):Option (den c'.ty):=if h:c=c' then some (h▸x) else none
inductive AR where
 |own (p:Bool) (c:Oc) (x:den c.ty)
 |row (e:Nat) (l:List SV)
def A1{α:Type}:List (Nat×α)->Nat->Option α
 |[],_=>none
 |(k,v)::r,t=>bif beq k t then some v else A1 r t
def AAN(R:Nat->Option AR):(t:Ty)->SV->Option (den t)
 |.int k,s=>match s with
  |.int k' x=>match kEq k' k with
   |true=>some x
   |false=>none
  |_=>none
 |.bool,s=>match s with
  |.bool b=>some b
  |_=>none
 |.sl t,s=>match s with
  |.dat t' x=>G8 t' (.sl t) x
  |.nilS=>some []
  |.own i=>match R i with
   |some (.own _ c xs)=>G8 c.ty (.sl t) xs
   |_=>none
  |_=>none
 |.st _,_=>none
 |.arr k n,s=>match s with
  |.ary k' n' x=>match kEq k' k with
   |true=>match beq n' n with
    |true=>some x
    |false=>none
   |false=>none
  |_=>none
 |.mp m k v,s=>match s with
  |.dat t' x=>G8 t' (.mp m k v) x
  |.own i=>match R i with
   |some (.own _ c xs)=>G8 c.ty (.mp m k v) xs
   |_=>none
  |_=>none
 |.fno i,s=>match s with
  |.dat t' x=>G8 t' (.fno i) x
  |.fn g l=>match l with
   |[]=>some g
   |_=>none
  |_=>none
def toL(R:Nat->Option AR):(l:List Ty)->List SV->Option (P2 l)
 |[],_=>none
 |[t],ss=>match ss with
  |[s]=>AAN R t s
  |_=>none
 |t::u::l,ss=>match ss with
  |s::r=>match AAN R t s with
   |some x=>match toL R (u::l) r with
    |some y=>some (x,y)
    |none=>none
   |none=>none
  |[]=>none
def B9(R:Nat->Option AR):(t:Ty)->SV->Option (den t)
 |.st n,s=>match s with
  |.str n' x=>AJB n' n x
  |.agg l=>match toL R (Sf.ft n) l with
   |some y=>some (Sf.mkS n y)
   |none=>none
  |_=>none
 |t,s=>AAN R t s
inductive Rp where
 |dead
 |dat (t:Ty) (x:den t)
 |rp (l:List SV)
mutual
def subS(i:Nat)(p:Rp):SV->SV
 |.own j=>match beq i j with
  |true=>match p with
   |.dat t x=>.dat t x
   |_=>.dead
  |false=>.own j
 |.ptr j o=>match beq i j with
  |true=>match p with
   |.rp l=>.rp (.agg l) o
   |_=>.dead
  |false=>.ptr j o
 |.ep j t x z o=>match beq i j with
  |true=>.dead
  |false=>.ep j t x z o
 |.agg l=>.agg (subL i p l)
 |.tup l=>.tup (subL i p l)
 |.rp s o=>.rp (subS i p s) o
 |.ap s n x k=>.ap (subS i p s) n x k
 |.fn g l=>.fn g (subL i p l)
 |.int k x=>.int k x
 |.bool b=>.bool b
 |.dat t x=>.dat t x
 |.str n x=>.str n x
 |.ary k n x=>.ary k n x
 |.fv a r f=>.fv a r f
 |.nilS=>.nilS
 |.raw v=>.raw v
 |.it ts xs=>.it ts xs
 |.np t x=>.np t x
 |.undef=>.undef
 |.dead=>.dead
def subL(i:Nat)(p:Rp):List SV->List SV
 |[]=>[]
 |s::l=>subS i p s::subL i p l
end
mutual
def oldS(i:Nat):SV->SV
 |.ep j t x z o=>match beq i j with
  |true=>.ep j t x none o
  |false=>.ep j t x z o
 |.agg l=>.agg (oldL i l)
 |.tup l=>.tup (oldL i l)
 |.rp s o=>.rp (oldS i s) o
 |.ap s n x k=>.ap (oldS i s) n x k
 |.fn g l=>.fn g (oldL i l)
 |.int k x=>.int k x
 |.bool b=>.bool b
 |.dat t x=>.dat t x
 |.str n x=>.str n x
 |.ary k n x=>.ary k n x
 |.own j=>.own j
 |.ptr j o=>.ptr j o
 |.fv a r f=>.fv a r f
 |.nilS=>.nilS
 |.raw v=>.raw v
 |.it ts xs=>.it ts xs
 |.np t x=>.np t x
 |.undef=>.undef
 |.dead=>.dead
def oldL(i:Nat):List SV->List SV
 |[]=>[]
 |s::l=>oldS i s::oldL i l
end
def AEu(i:Nat):List (Nat×SV)->List (Nat×SV)
 |[]=>[]
 |(t,s)::r=>(t,oldS i s)::AEu i r
def AAu(i:Nat)(p:Rp):List (Nat×SV)->List (Nat×SV)
 |[]=>[]
 |(t,s)::r=>(t,subS i p s)::AAu i p r
def AR.sub(i:Nat)(p:Rp):AR->AR
 |.row e l=>.row e (subL i p l)
 |.own p c xs=>.own p c xs
def R3(i:Nat)(p:Rp):List (Nat×AR)->List (Nat×AR)
 |[]=>[]
 |(t,a)::r=>(t,a.sub i p)::R3 i p r
structure AS where
 env:List (Nat×SV)
 res:List (Nat×AR)
 kl:List Nat
 ch:List (Nat×Nat)
inductive Ac where
 |put (s:SV)
 |new (i:Nat) (r:AR)
 |sto (i o:Nat) (ns:List SV)
 |cnt (i:Nat) (c:Oc) (x:den c.ty)
 |hnd (i:Nat) (r:AR)
 |del (i:Nat) (p:Rp)
def AR.old(i:Nat):AR->AR
 |.row e l=>.row e (oldL i l)
 |.own p c xs=>.own p c xs
def ADI(i:Nat)(a:AR):List (Nat×AR)->List (Nat×AR)
 |[]=>[]
 |(t,b)::r=>bif beq t i then(t,a)::ADI i a r else(t,b)::ADI i a r
def U6(i:Nat):List (Nat×AR)->List (Nat×AR)
 |[]=>[]
 |(t,b)::r=>bif beq t i then U6 i r else(t,b)::U6 i r
def AJk(i:Nat):List Nat->List (Nat×Nat)->List (Nat×Nat)
 |[],l=>l
 |c::r,l=>(i,c)::AJk i r l
inductive Ck where
 |d (t:Ty)
 |own (c:Oc)
 |undef
 |it (ts:List Ty)
 |np (t:Ty)
 deriving DecidableEq
def Ck.den:Ck->Type
 |.d t=>Rx.den t
 |.own c=>Rx.den c.ty
 |.undef=>Unit
 |.it ts=>List (P2 ts)
 |.np t=>Option (Rx.den t)
def E2:List Ck->Type
 |[]=>Unit
 |[c]=>c.den
 |c::d::l=>c.den×E2 (d::l)
inductive Pt where
 |d (t:Ty)
 |pt (t:Ty)
 |fn (a:List Ty) (r:Ty)
 |pp (t:Ty)
 |cl (g:Nat) (cs:List (Bool×Ty))
 |nl
 deriving DecidableEq
def AEv:Bool->Ty->Type
 |false,t=>Rx.den t
 |true,t=>Option (Rx.den t)
def AAW:List (Bool×Ty)->Type
 |[]=>Unit
 |(b,t)::l=>AEv b t×AAW l
def Pt.den:Pt->Type
 |.d t=>Rx.den t
 |.pt t=>Rx.den t
 |.fn a r=>P7 a r
 |.pp t=>Option (Rx.den t)
 |.cl _ cs=>AAW cs
 |.nl=>Unit
def E0:List Pt->Type
 |[]=>Unit
 |p::l=>p.den×E0 l
structure Ctr where
 ps:List Pt
 rs:List Ck
 F:E0 ps->Option (E2 rs)
structure CtrP where
 ps:List Pt
 t:Ty
 T:TypeId
 F:E0 ps->Option (den t)
structure CtrA where
 ps:List Pt
 rs:List Ck
 F:E0 ps->Option (E2 rs)
structure CtrM where
 ps:List Pt
 i:Nat
 c:Oc
 rs:List Ck
 F:E0 ps->den c.ty->Option (E2 rs×den c.ty)
 self:Bool:=false
 ag:Option CtrA:=none
structure Fd where
 a:List Ty
 r:Ty
 D:Nat->P7 a r
structure Gx where
 tb:Tb
 sl:List (Nat×Nat×Ty×Nat)
 sz:List (Nat×Nat)
 ty:List (Nat×Ty)
 fs:List (Nat×Ctr)
 bd:List (Nat×List (Nat×Nat))
 eq:List (Nat×Nat)
 mp:List (Nat×Nat×Nat×Ty×Ty)
 ar:List (Nat×Nat×Nat)
 pz:List (Nat×Nat)
 pf:List (Nat×CtrP)
 fm:List (Nat×CtrM)
 fd:List (Nat×Fd)
 ct:List Nat:=[]
def AMZ:Nat->Value
 |0=>.pointer none
 |_=>.nilFunc
variable(G:Gx)
def AJl:IntKind->Int->Bool
 |.i64,x=>decide (-9223372036854775808<=x)&&decide (x<=9223372036854775807)
 |.u8,x=>decide (0<=x)&&decide (x<=255)
 |.u16,x=>decide (0<=x)&&decide (x<=65535)
 |.u32,x=>decide (0<=x)&&decide (x<=4294967295)
 |_,_=>false
def AJm:Value->Option SV
 |.int k x=>bif AJl k x then some (.int k x) else none
 |.bool b=>some (.bool b)
 |.slice a n c=>match a,n,c with
  |none,0,0=>some .nilS
  |_,_,_=>none
 |.map a=>match a with
  |none=>some (.raw (.map none))
  |some _=>none
 |.pointer a=>match a with
  |none=>some (.raw (.pointer none))
  |some _=>none
 |_=>none
def B2(env:List (Nat×SV)):Operand->Option SV
 |.tmp t=>A1 env t
 |.const v=>AJm v
 |.func g=>some (.fn g [])
 |.global g=>Sf.gv g
def evL(E:Operand->Option SV):List Operand->Option (List SV)
 |[]=>some []
 |x::l=>match E x with
  |some s=>match evL E l with
   |some r=>some (s::r)
   |none=>none
  |none=>none
def wd:SV->Nat
 |.ary _ n _=>n
 |.str _ _=>0
 |.agg _=>0
 |.tup _=>0
 |.undef=>0
 |_=>1
def cellsOf:SV->List SV
 |.str n x=>ASd n x
 |.agg l=>l
 |s=>[s]
def P8:List SV->Nat->Option SV
 |[],_=>none
 |s::l,o=>match o with
  |0=>some s
  |o+1=>match wd s with
   |0=>none
   |n+1=>bif Nat.ble n o then P8 l (o-n) else none
def P9:List SV->Option Nat
 |[]=>some 0
 |s::l=>match wd s with
  |0=>none
  |n+1=>match P9 l with
   |some m=>some (n+1+m)
   |none=>none
def AFR:List SV->Nat->Option (List SV)
 |l,0=>some l
 |[],_+1=>none
 |s::l,o+1=>match wd s with
  |0=>none
  |n+1=>bif Nat.ble n o then AFR l (o-n) else none
def AD2:List SV->Nat->Option (List SV)
 |_,0=>some []
 |[],_+1=>none
 |s::l,o+1=>match wd s with
  |0=>none
  |n+1=>match Nat.ble n o with
   |true=>match AD2 l (o-n) with
    |some r=>some (s::r)
    |none=>none
   |false=>none
def overL:List SV->List SV->Option (List SV)
 |l,[]=>some l
 |[],_::_=>none
 |s::l,n::r=>match beq (wd s) (wd n) with
  |true=>match wd n with
   |0=>none
   |_+1=>match overL l r with
    |some x=>some (n::x)
    |none=>none
  |false=>none
def setW:List SV->Nat->List SV->Option (List SV)
 |l,0,ns=>overL l ns
 |[],_+1,_=>none
 |s::l,o+1,ns=>match wd s with
  |0=>none
  |n+1=>match Nat.ble n o with
   |true=>match setW l (o-n) ns with
    |some r=>some (s::r)
    |none=>none
   |false=>none
def entry:List SV->Nat->Nat
 |_,0=>0
 |[],_+1=>0
 |s::l,o+1=>match wd s with
  |0=>0
  |n+1=>bif Nat.ble n o then entry l (o-n)+1 else 0
def AAO(o:Nat)(ns:List SV):AR->AR
 |.row e l=>match setW l o ns with
  |some l'=>.row e l'
  |none=>.row e l
 |a=>a
def APC(o:Nat)(ns:List SV):Option AR->List Nat
 |some (.row _ l)=>List.range' (entry l o+1) ns.length
 |_=>[]
def Y2(c:Oc)(x:den c.ty):AR->AR
 |.own p c' y=>match castO c c' x with
  |some z=>.own p c' z
  |none=>.own p c' y
 |a=>a
def AD3(i:Nat)(g:AR->AR):List (Nat×AR)->List (Nat×AR)
 |[]=>[]
 |(t,b)::r=>(t,bif beq t i then g b else b.old i)::AD3 i g r
def AS.upd(σ:AS)(i:Nat)(g:AR->AR)(c:List Nat):AS:={ σ with env:=AEu i σ.env,res:=AD3 i g σ.res,ch:=AJk i c σ.ch }
def Ac.app(d:Option Nat)(σ:AS):Ac->AS
 |.put s=>match d with
  |some d=>{ σ with env:=(d,s)::σ.env }
  |none=>σ
 |.new i r=>{ σ with env:=AAu i .dead σ.env,res:=(i,r)::U6 i (R3 i .dead σ.res),kl:=i::σ.kl }
 |.sto i o ns=>σ.upd i (AAO o ns) (APC o ns (A1 σ.res i))
 |.cnt i c x=>σ.upd i (Y2 c x) [0]
 |.hnd i r=>{ σ with env:=AAu i .dead σ.env,res:=ADI i r (R3 i .dead σ.res),kl:=i::σ.kl }
 |.del i p=>{ σ with env:=AAu i p σ.env,res:=U6 i (R3 i p σ.res),kl:=i::σ.kl }
def apps(d:Option Nat):List Ac->AS->AS
 |[],σ=>σ
 |a::l,σ=>apps d l (a.app d σ)
def one:SV->Bool
 |.ary _ _ _=>false
 |.str _ _=>false
 |.agg _=>false
 |.tup _=>false
 |.undef=>false
 |_=>true
def ADJ:SV->Bool
 |.ary _ _ _=>true
 |.str _ _=>true
 |.agg _=>true
 |_=>false
def ASe:SV->Bool
 |.tup _=>false
 |.undef=>false
 |.dead=>false
 |.agg _=>false
 |.str _ _=>false
 |_=>true
def AFS:List SV->Bool
 |[]=>true
 |s::l=>ASe s&&AFS l
mutual
def A9:SV->List Nat
 |.own i=>[i]
 |.ptr i _=>[i]
 |.ep i _ _ _ _=>[i]
 |.agg l=>ownsLL l
 |.tup l=>ownsLL l
 |.fn _ l=>ownsLL l
 |.rp s _=>A9 s
 |.ap s _ _ _=>A9 s
 |_=>[]
def ownsLL:List SV->List Nat
 |[]=>[]
 |s::l=>A9 s++ownsLL l
end
def AAv:Rp->List Nat
 |.rp l=>ownsLL l
 |_=>[]
def AFT:AR->List Nat
 |.row _ l=>ownsLL l
 |_=>[]
def ACT(R:Nat->Option AR)(i:Nat):Option (List Ac):=match R i with
 |some (.own false c xs)=>some [.del i (.dat c.ty xs)]
 |some (.own true _ _)=>none
 |some (.row _ l)=>match ownsLL l with
  |[]=>some [.del i (.rp l)]
  |_=>none
 |none=>none
def has(l:List Nat)(n:Nat):Bool:=match l with
 |[]=>false
 |x::r=>bif beq x n then true else has r n
def frz(R:Nat->Option AR):List Nat->Option (List Ac)
 |[]=>some []
 |i::l=>bif has l i then frz R l else match ACT R i with
  |some a=>match frz R l with
   |some r=>some (a++r)
   |none=>none
  |none=>none
def toP(R:Nat->Option AR)(t:Ty)(l:List SV):Option (den t):=match t with
 |.st n=>B9 R (.st n) (.agg l)
 |t=>match l with
  |[s]=>B9 R t s
  |_=>none
def Z3(R:Nat->Option AR)(t:Ty):SV->Option (den t)
 |.rp v o=>match o with
  |0=>toP R t (cellsOf v)
  |_=>none
 |.ptr i o=>match o with
  |0=>match R i with
   |some (.row _ c)=>toP R t c
   |_=>none
  |_=>none
 |.np t' x=>match x with
  |some y=>G8 t' t y
  |none=>none
 |_=>none
def AGE(R:Nat->Option AR)(t:Ty):SV->Option (Option (den t))
 |.np t' x=>if h:t'=t then some (h▸x) else none
 |.rp v o=>match Z3 R t (.rp v o) with
  |some x=>some (some x)
  |none=>none
 |.ptr i o=>match Z3 R t (.ptr i o) with
  |some x=>some (some x)
  |none=>none
 |_=>none
def ABl(R:Nat->Option AR):SV->Option SV
 |.rp v o=>match o,cellsOf v with
  |0,[s]=>some s
  |_,_=>none
 |.ptr i o=>match o,R i with
  |0,some (.row _ [s])=>some s
  |_,_=>none
 |_=>none
def toB(R:Nat->Option AR):(b:Bool)->(t:Ty)->SV->Option (AEv b t)
 |false,t,s=>Z3 R t s
 |true,t,s=>match ABl R s with
  |some s'=>AGE R t s'
  |none=>none
def ABm(R:Nat->Option AR):(cs:List (Bool×Ty))->List SV->Option (AAW cs)
 |[],ss=>match ss with
  |[]=>some ()
  |_=>none
 |(b,t)::cs,ss=>match ss with
  |s::l=>match toB R b t s with
   |some x=>match ABm R cs l with
    |some r=>some (x,r)
    |none=>none
   |none=>none
  |[]=>none
def AGF(R:Nat->Option AR)(g:Nat)(cs:List (Bool×Ty))(s:SV):Option (AAW cs):=match ABl R s with
 |some (.fn g' l)=>match beq g' g with
  |true=>ABm R cs l
  |false=>none
 |_=>none
def AD4(R:Nat->Option AR):(p:Pt)->SV->Option p.den
 |.pt t,s=>Z3 R t s
 |.pp t,s=>toB R true t s
 |.cl g cs,s=>AGF R g cs s
 |.d _,_=>none
 |.fn _ _,_=>none
 |.nl,_=>none
def ABn(R:Nat->Option AR):(ps:List Pt)->List SV->Option (E0 ps)
 |[],ss=>match ss with
  |[]=>some ()
  |_=>none
 |p::ps,ss=>match ss with
  |s::l=>match AD4 R p s with
   |some x=>match ABn R ps l with
    |some r=>some (x,r)
    |none=>none
   |none=>none
  |[]=>none
def AMa(r:Ty):(a:List Ty)->(ps:List Pt)->E0 ps->(E0 (a.map Pt.d++ps)->Option (den r))->P7 a r
 |[],_,y,f=>f y
 |_::a,ps,y,f=>fun x=>AMa r a ps y (fun z=>f (x,z))
def ANn(ps cps:List Pt)(rs:List Ck)(F:E0 ps->Option (E2 rs))(y:E0 cps)(a:List Ty)(r:Ty):Option (P7 a r):=
 if h:ps=a.map Pt.d++cps/\rs=[.d r] then some (AMa r a cps y (fun z=>(show Option (E2 [.d r]) from h.2▸F (h.1▸z)))) else none
def AHt(R:Nat->Option AR)(ps cps:List Pt)(rs:List Ck)(F:E0 ps->Option (E2 rs))(caps:List SV)(a:List Ty)(r:Ty):Option (P7 a r):=match ABn R cps caps with
 |some y=>ANn ps cps rs F y a r
 |none=>none
def ACx(R:Nat->Option AR)(g:Nat)(caps:List SV)(a:List Ty)(r:Ty):Option (P7 a r):=match A1 G.fs g with
 |some c=>AHt R c.ps (c.ps.drop a.length) c.rs c.F caps a r
 |none=>none
def AJC(a a':List Ty)(r r':Ty)(f:P7 a r):Option (P7 a' r'):=if h:a=a'/\r=r' then some (h.1▸h.2▸f) else none
def AD5(R:Nat->Option AR):(p:Pt)->SV->Option p.den
 |.d t,s=>B9 R t s
 |.pt t,s=>Z3 R t s
 |.fn a r,s=>match s with
  |.fv a' r' f=>AJC a' a r' r f
  |.fn g caps=>ACx G R g caps a r
  |_=>none
 |.pp t,s=>toB R true t s
 |.cl g cs,s=>AGF R g cs s
 |.nl,s=>match s with
  |.nilS=>some ()
  |_=>none
def I7(R:Nat->Option AR):(ps:List Pt)->List SV->Option (E0 ps)
 |[],ss=>match ss with
  |[]=>some ()
  |_=>none
 |p::ps,ss=>match ss with
  |s::l=>match AD5 G R p s with
   |some x=>match I7 R ps l with
    |some r=>some (x,r)
    |none=>none
   |none=>none
  |[]=>none
def AHu(id:Nat):(c:Ck)->c.den->SV×List Ac
 |.d t,x=>(G0 t x,[])
 |.own c,x=>(.own id,[.new id (.own false c x)])
 |.undef,_=>(.undef,[])
 |.it ts,x=>(.it ts x,[])
 |.np t,x=>(.np t x,[])
def H1(id:Nat):(rs:List Ck)->E2 rs->List SV×List Ac
 |[],_=>([],[])
 |[c],x=>match AHu id c x with
  |(s,a)=>([s],a)
 |c::d::l,x=>match AHu id c x.1 with
  |(s,a)=>match H1 (id+100000) (d::l) x.2 with
   |(ss,as_)=>(s::ss,a++as_)
def AEx:List SV->SV
 |[s]=>s
 |l=>.tup l
def AAR:List Ck->Bool
 |[]=>true
 |.d (.int _)::l=>AAR l
 |.d .bool::l=>AAR l
 |_=>false
def cmp(b:BinOp)(i j:Int):Option Bool:=match b with
 |.lss=>some (decide (i<j))
 |.leq=>some (decide (i<=j))
 |.gtr=>some (decide (j<i))
 |.geq=>some (decide (j<=i))
 |.eql=>some (decide (i=j))
 |.neq=>some (!decide (i=j))
 |_=>none
def AAX(u:Ty)(R:Nat->Option AR):List SV->Option (List (den u))
 |[]=>some []
 |s::l=>match B9 R u s with
  |some x=>match AAX u R l with
   |some r=>some (x::r)
   |none=>none
  |none=>none
def fvN:Option SV->Option SV
 |some (.dat t n)=>match t,n with
  |.fno i,n=>match A1 G.fd i with
   |some q=>some (.fv q.a q.r (q.D n))
   |none=>none
  |_,_=>none
 |o=>o
def AG1(id:Nat)(R:Nat->Option AR){Z:Type}(K:List Ac->Option Z)(g:Nat)(ss:List SV):Option Z:=match A1 G.fs g with
 |some c=>match I7 G R c.ps ss with
  |some a=>match (bif AAR c.rs then some [] else frz R (ownsLL ss)) with
   |some fz=>(c.F a).bind fun r=>match H1 id c.rs r with
    |(ss',as_)=>K (fz++as_++[.put (AEx ss')])
   |none=>none
  |none=>none
 |none=>none
def Y4(r:Ty):(a:List Ty)->P7 a r->(R:Nat->Option AR)->List SV->Option (Option (den r))
 |[],f,_,ss=>match ss with
  |[]=>some f
  |_=>none
 |t::a,f,R,ss=>match ss with
  |s::l=>match B9 R t s with
   |some x=>Y4 r a (f x) R l
   |none=>none
  |[]=>none
end Go.Rx
namespace Go.Sx
open Go Go.RowKit Go.ChangeMaps
variable[Trk]
def J4{β:Type}(l:List (MapEntry×β))(seen:Array Nat):List β:=(l.filter fun p=>!seen.contains p.1.born).map (·.2)
variable{seen:Array Nat}{β:Type}{xs:List β}
theorem ANo{n m:Nat}:(seen.push m).contains n=(seen.contains n||(n==m)):=by
 rw[Bool.eq_iff_iff];simp
theorem AJn{β:Type}{p:MapEntry×β}{seen:Array Nat}:∀{l:List (MapEntry×β)},(l.map (·.1.born)).Nodup->p∈l->seen.contains p.1.born=false->(J4 l seen).Perm (p.2::J4 l (seen.push p.1.born))
 |[],_,h,_=>by cases h
 |q::l,U,h,C=>by
  rw[AYM,List.nodup_cons]at U;have V:∀n:Nat,(seen.push p.1.born).contains n=(seen.contains n||(n==p.1.born)):=fun n=>ANo;by_cases e:q=p
  . subst e;have hrest:J4 l (seen.push q.1.born)=J4 l seen:=by
     unfold J4;congr 1;refine List.filter_congr fun x hx=>?_;have:x.1.born≠q.1.born:=fun e=>U.1 (e▸AYi (f:=fun p:MapEntry×β=>p.1.born) hx);rw[V,beq_false_of_ne this,Bool.or_false]
    have J:J4 (q::l) seen=q.2::J4 l seen:=by simp only[J4,List.filter_cons,C,Bool.not_false,if_true,List.map_cons]
    have I:J4 (q::l) (seen.push q.1.born)=J4 l (seen.push q.1.born):=by
     simp only[J4,List.filter_cons,V,beq_self_eq_true,Bool.or_true,Bool.not_true,Bool.false_eq_true,if_false]
    rw[J,I,hrest]
  . have D:p∈l:=(mem_cons.1 h).resolve_left fun e'=>e e'.symm;have ih:=AJn U.2 D C;have W:q.1.born≠p.1.born:=fun e=>U.1 (e▸AYi (f:=fun p:MapEntry×β=>p.1.born) D);by_cases H:seen.contains q.1.born=true
    . have J:J4 (q::l) seen=J4 l seen:=by simp only[J4,List.filter_cons,H,Bool.not_true,Bool.false_eq_true,if_false]
      have I:J4 (q::l) (seen.push p.1.born)=J4 l (seen.push p.1.born):=by simp only[J4,List.filter_cons,V,H,Bool.true_or,Bool.not_true,Bool.false_eq_true,if_false]
      rw[J,I];exact ih
    . have H:seen.contains q.1.born=false:=by simpa using H
      have E:(q.1.born==p.1.born)=false:=beq_false_of_ne W;have J:J4 (q::l) seen=q.2::J4 l seen:=by simp only[J4,List.filter_cons,H,Bool.not_false,if_true,List.map_cons]
      have I:J4 (q::l) (seen.push p.1.born)=q.2::J4 l (seen.push p.1.born):=by simp only[J4,List.filter_cons,V,H,E,Bool.or_false,Bool.not_false,if_true,List.map_cons]
      rw[J,I];exact(ih.cons q.2).trans (List.Perm.swap ..)
theorem AJo{β:Type}:∀{es:List MapEntry} {xs:List β},es.length=xs.length->(es.zip xs).map (·.1.born)=es.map (·.born)
 |[],[],_=>rfl
 |_::_,_::_,h=>by simp[AJo (Nat.succ.inj h)]
 |[],_::_,h=>by simp at h
 |_::_,[],h=>by simp at h
theorem ALa{β:Type}:∀{es:List MapEntry} {xs:List β},es.length=xs.length->(es.zip xs).map (·.2)=xs
 |[],[],_=>rfl
 |_::_,_::_,h=>by simp[ALa (Nat.succ.inj h)]
 |[],_::_,h=>by simp at h
 |_::_,[],h=>by simp at h
theorem ARD{es:List MapEntry}(h:es.length=xs.length):J4 (es.zip xs) #[]=xs:=by
 unfold J4;rw[List.filter_eq_self.2 (fun p _=>by simp)];exact ALa h
theorem ARE{es:Array MapEntry}(h:(leftOf es seen).size=0):J4 (es.toList.zip xs) seen=[]:=by
 unfold J4;rw[List.map_eq_nil_iff,List.filter_eq_nil_iff];intro p I;have J:p.1∈es.toList:=(List.of_mem_zip (a:=p.1) (b:=p.2) I).1;have H:leftOf es seen=#[]:=Array.eq_empty_of_size_eq_zero h;unfold leftOf at H;rw[Array.filter_eq_empty_iff]at H;have:=H p.1 (by simpa using J);simpa using this
variable{P:Program}{kt:TypeId}{κ α:Type}{K:Ky P kt κ}{E:Enc α}{ag:Bool}
def RdX(K:Ky P kt κ)(E:Enc α)(ag:Bool)(M:List Nat)(w:World)(b:Nat)(es:Array MapEntry)(c:Nat)(xs:List (κ×α)):Prop:=
 b∉M/\w.heap[b]?=some (.map es c)/\Stp es c/\EntK K E ag M w es.toList xs
theorem RdX.adv{M M':List Nat}{w w':World}{b c:Nat}{es:Array MapEntry}{xs:List (κ×α)}(h:RdX K E ag M w b es c xs)(J:Adv M M' w w'):RdX K E ag M' w' b es c xs:=by
 obtain⟨U,V,C,W⟩:=h;have H:=K7 V;exact⟨fun I=>(J.new b I).elim U (fun h=>absurd H (by omega)),(J.kp.block b H U).trans V,C,W.adv J⟩
theorem EntK.zip{M:List Nat}{w:World}:∀{es:List MapEntry} {xs:List (κ×α)},EntK K E ag M w es xs->∀{e:MapEntry} {x:κ×α},(e,x)∈es.zip xs->e.key=K.val x.1/\K.ok x.1/\Vl E ag M w e.val x.2
 |[],_,_,_,_,h=>by simp at h
 |_::_,[],h,_,_,_=>h.elim
 |e::es,x::xs,⟨H,J,I⟩,e',x',h=>by
  rw[AZn,AYS]at h;rcases h with h|h
  . cases h;exact⟨H.1,H.2,J⟩
  . exact EntK.zip I h
theorem AEy{β:Type}:∀{es:List MapEntry} {xs:List β},es.length=xs.length->∀e∈es,∃x,(e,x)∈es.zip xs
 |[],_,_,_,h=>by cases h
 |e::es,x::xs,hl,e',h=>by
  rcases mem_cons.1 h with rfl|h
  . exact⟨x,by simp⟩
  . obtain⟨y,hy⟩:=AEy (Nat.succ.inj hl) e' h;exact⟨y,by simp[hy]⟩
 |_::_,[],h,_,_=>by simp at h
def U0(r b c:Nat)(es:Array MapEntry)(xs:List (κ×α))(o:Option (κ×α))(l:List (κ×α)):Res where
 fp:=[r]
 mu:=[]
 holds:=fun _ w=>∃seen,w.heap[r]?=some (.mapIter (some b) c seen c)/\l.Perm (J4 (es.toList.zip xs) seen)/\∀y,o=some y->∃(s0:Array Nat) (e:MapEntry),seen=s0.push e.born/\(e,y)∈es.toList.zip xs
 adv:=fun _ hb h=>by
  obtain⟨seen,h1,h2⟩:=h;exact⟨seen,(hb r (by simp)).trans h1,h2⟩
 lt:=fun h x hx=>by
  obtain⟨seen,h1,h2⟩:=h;have:x=r:=by simpa using hx
  subst this;exact K7 h1
variable{N:Nat}{ops:Array Oper}{q:Md}{rest:List Oper}{ds:List Deferred}{L:A7}{w w0:World}{A B:A3}{X:Nat->A3}{Z:List PanicEntry->A3}{d:Nat}{ty:TypeId}{pos:String}{af:Array Edge}{Mu M:List Nat}{σ:List Res}{x:Operand}{es:Array MapEntry}
theorem ASf[Fx]{f:A4 κ α}{mv:Value}{t kt' e:TypeId}(J:Hp w0 Mu M σ w)(hm:RdF K E ag (mm σ M) w mv f)(hx:ev L x=some mv)(W:P.underlying t=some (.map kt' e))(hN:blt d N=true)(h:∀r b c es xs w',RdX K E ag (mm σ M) w b es c xs->Lists f xs->Hp w0 Mu M (U0 r b c es xs none xs::σ) w'->Adv (mm σ M) (mm (U0 r b c es xs none xs::σ) M) w w'->Reg P N ops .seq rest ds ((d,.pointer (some ⟨r,0,none⟩))::L) w' A B X Z):
  Reg P N ops .seq (⟨some d,.range t x,ty,pos,af,none⟩::rest) ds L w A B X Z:=by
 obtain⟨b,rfl,D,es,c,xs,V,Q,U,O⟩:=hm
 have H:Ext w (w.alloc (.mapIter (some b) c #[] c)):=Kp.alloc _ _ _
 have I:∀y∈(U0 w.heap.size b c es xs none xs).fp,w.heap.size<=y/\y<(w.alloc (.mapIter (some b) c #[] c)).heap.size:=fun y hy=>by
  have:y=w.heap.size:=by simpa[U0] using hy
  subst this;exact⟨AYE _,by show w.heap.size<(w.heap.push _).size;simp⟩
 refine P4 (.pointer (some ⟨w.heap.size,0,none⟩)) (w.alloc (.mapIter (some b) c #[] c)) rfl rfl hN (fun a F=>?_) (h _ b c es xs _ ⟨D,V,Q,U⟩ O (J.add H I rfl ⟨#[],heap_alloc_new w _,by rw[ARD U.len],fun _ h=>by cases h⟩) (J.addA H I))
 have C:=run_range_map w t kt' e b es c W V
 simp[execOp,F.eval hx,C]
theorem ASg[Fx](j:Nat){b r c:Nat}{xs l:List (κ×α)}{o:Option (κ×α)}(O:Hp w0 Mu M σ w)(hm:RdX K E ag (mm σ M) w b es c xs)(C:σ[j]?=some (U0 r b c es xs o l))(hx:ev L x=some (.pointer (some ⟨r,0,none⟩)))(hN:blt d N=true)(m:l=[]->Reg P N ops .seq rest ds ((d,.tuple #[.bool false])::L) w A B X Z)(i:∀(y:κ×α) (l':List (κ×α)) k v w',l.Perm (y::l')->Hp w0 Mu M (σ.set j (U0 r b c es xs (some y) l')) w'->Adv (mm σ M) (mm (σ.set j (U0 r b c es xs (some y) l')) M) w w' ->
   Reg P N ops .seq rest ds ((d,.tuple #[.bool true,k,v])::L) w' A B X Z):
  Reg P N ops .seq (⟨some d,.next x false,ty,pos,af,none⟩::rest) ds L w A B X Z:=by
 obtain⟨_,g,T,S⟩:=hm
 obtain⟨seen,Y,hl,_⟩:=O.get j C
 rcases run_next_at (P:=P) w ty r b c c seen es c Y g T.2 (AYE _) with⟨g1,g2⟩|⟨e,R,w1,H,g2⟩
 . refine P4 (.tuple #[.bool false]) w rfl rfl hN (fun a F=>?_) (m ?_)
   . simp[execOp,F.eval hx,g2]
   . rw[ARE g1]at hl;exact List.perm_nil.1 hl
 . have U:e∈es.toList/\seen.contains e.born=false:=by
    unfold leftOf at R;have D:e∈es.filter fun e=>!seen.contains e.born:=by simpa using R
    have:=Array.mem_filter.1 D;exact⟨by simpa using this.1,by simpa using this.2⟩
   obtain⟨y,V⟩:=AEy S.len e U.1
   have f:=AJn (p:=(e,y)) (seen:=seen) (l:=es.toList.zip xs) (by rw[AJo S.len];exact T.1) V U.2
   have I:w1.heap[r]?=some (.mapIter (some b) c seen c):=by rcases H with rfl|rfl<;>exact Y
   have Q:Kp [r] w w1:=by
    rcases H with rfl|rfl
    . exact Kp.refl _ _
    . exact Kp.drew _ _
   have J:Kp [r] w (setBlock w1 r (.mapIter (some b) c (seen.push e.born) c)):=Q.trans (AHs I)
   have G:∀z∈(U0 r b c es xs (some y) (J4 (es.toList.zip xs) (seen.push e.born))).fp,z∈(U0 r b c es xs o l).fp\/w.heap.size<=z:=fun z V=>.inl V
   refine P4 (.tuple #[.bool true,e.key,e.val]) _ rfl rfl hN (fun a F=>?_) (i y (J4 (es.toList.zip xs) (seen.push e.born)) e.key e.val _ (hl.trans f) (O.upd j C J G rfl fun M' _=>⟨_,(MapKept.heap_set I).1,AZG _,fun y' W=>⟨seen,e,rfl,by cases W;exact V⟩⟩) (O.updA (r':=U0 r b c es xs (some y) (J4 (es.toList.zip xs) (seen.push e.born))) j C J G))
   simp[execOp,F.eval hx,g2]
theorem ASh[Fx](j:Nat){b r c:Nat}{xs l:List (κ×α)}{y:κ×α}(O:Hp w0 Mu M σ w)(hm:RdX K E ag (mm σ M) w b es c xs)(C:σ[j]?=some (U0 r b c es xs (some y) l))(hx:ev L x=some (.pointer (some ⟨r,0,none⟩)))(hN:blt d N=true)(h:∀v,K.ok y.1->Vl E ag (mm σ M) w v y.2->Reg P N ops .seq rest ds ((d,.tuple #[K.val y.1,v])::L) w A B X Z):
  Reg P N ops .seq (⟨some d,.entry x,ty,pos,af,none⟩::rest) ds L w A B X Z:=by
 obtain⟨_,D,U,Q⟩:=hm
 obtain⟨seen,V,_,W⟩:=O.get j C
 obtain⟨s0,e,rfl,I⟩:=W y rfl
 obtain⟨hk,H,hv⟩:=Q.zip I
 have J:=h e.val H hv
 rw[<-hk]at J
 refine P4 (.tuple #[e.key,e.val]) w rfl rfl hN (fun a F=>?_) J
 have:=run_entry_at (P:=P) w r b c s0 es c e V D (List.of_mem_zip I).1 U.1
 simp[execOp,F.eval hx,this]
end Go.Sx
namespace Go.Sx
open Go Go.RowKit
variable[Trk]
open Classical in
def AAP{κ α R:Type}(m:A4 κ α)(K:List (κ×α)->Option R):Option R:=if h:∃r,∀l,Lists m l->K l=some r then some h.choose else none
theorem AHv{κ α R:Type}{m:A4 κ α}{K:List (κ×α)->Option R}{r:R}{l0:List (κ×α)}(I:Lists m l0)(h:∀l,Lists m l->K l=some r):AAP m K=some r:=by
 unfold AAP;rw[dif_pos ⟨r,h⟩];have H:=(⟨r,h⟩:∃r,∀l,Lists m l->K l=some r).choose_spec l0 I;rw[h l0 I]at H;exact H.symm
theorem AJp{κ α R S:Type}{m:A4 κ α}{body:S->κ×α->Option S}{s0:S}{rest:S->Option R}{r:R}(h:AAP m (fun l=>(List.foldlM body s0 l).bind rest)=some r){xs:List (κ×α)}(J:Lists m xs):
  ∃B:S->κ×α->Option S,B=body/\∀l:List (κ×α),l.Perm xs->∃s,List.foldlM B s0 l=some s/\rest s=some r:=by
 refine⟨body,rfl,fun l hl=>?_⟩
 unfold AAP at h
 split at h
 . rename_i U
   have H:=U.choose_spec l (J.perm hl)
   rw[AXz h]at H
   have H:(List.foldlM body s0 l).bind rest=some r:=H
   cases I:List.foldlM body s0 l with
   |none=>rw[I]at H;cases H
   |some s=>rw[I]at H;exact⟨s,rfl,H⟩
 . cases h
end Go.Sx
namespace Go.Sx
open Go Go.RowKit Go.ChangeMaps
variable[Trk]
theorem ADZ{P:Program}{k:TypeId}(J:∀(w:World) {x y:Value} {lx ly:Lit},keyOf P k x=some lx->keyOf P k y=some ly->∃r:Bool,(Op.equal k x y).run P w=.ok r w/\(r=true↔lx=ly)){x:Value}{lx:Lit}(hx:keyOf P k x=some lx):
  ∀(es:List MapEntry) (i:Nat),(∀e∈es,∃l,keyOf P k e.key=some l) ->
   ((∀w,(Instr.findAsking k x es i).run P w=.ok none w)/\∀e∈es,keyOf P k e.key≠some lx) \/
   ∃j e,(∀w,(Instr.findAsking k x es i).run P w=.ok (some (i+j,e.val)) w)/\es[j]?=some e/\keyOf P k e.key=some lx
 |[],i,_=>Or.inl ⟨fun w=>by simp[Instr.findAsking],by simp⟩
 |e::es,i,I=>by
  obtain⟨l,hl⟩:=I e (by simp);by_cases c:lx=l
  . refine .inr ⟨0,e,fun w=>?_,rfl,by rw[hl,c]⟩;obtain⟨r,U,H⟩:=J w hx hl;have:r=true:=H.2 c;subst this;simp[Instr.findAsking,U]
  . have U:∀w,(Op.equal k x e.key).run P w=.ok false w:=fun w=>by
     obtain⟨r,U,H⟩:=J w hx hl;have:r=false:=by
      cases r with
      |false=>rfl
      |true=>exact absurd (H.1 rfl) c
     subst this;exact U
    rcases ADZ J hx es (i+1) (fun y hy=>I y (by simp[hy])) with⟨W,V⟩|⟨j,e',W,V,C⟩
    . refine .inl ⟨fun w=>by simp[Instr.findAsking,U,W],fun y hy=>?_⟩;rcases mem_cons.1 hy with rfl|hy
      . rw[hl];exact fun h=>c (AXz h).symm
      . exact V y hy
    . exact .inr ⟨j+1,e',fun w=>by simp[Instr.findAsking,U,W,Nat.add_assoc,Nat.add_comm 1 j],by simpa using V,C⟩
def ASi{P:Program}{kt:TypeId}{κ:Type}(hl:laidOutB P=true){m:Nat}(hm:m+1<=10000)(hrow:kt<P.types.size)(hk:P.keyTypeAt m kt=true)(hwide:(match P.underlying kt with|some (.array _ _)|some (.struct _)=>true|_=>false)=true)(val:κ->Value)(ok:κ->Prop)(hv:∀{a},ok a->∃l,keyOf P kt (val a)=some l)(hi:∀{a b:κ},ok a->ok b->val a=val b->a=b):Ky P kt κ where
 val:=val
 ok:=ok
 inj:=hi
 check:=fun ha w em=>by
  obtain⟨l,hl'⟩:=hv ha;exact(deep_law_laid hl hm hrow hk hwide).check w em hl'
 find:=fun {a} ha es hes=>by
  obtain⟨l,hl'⟩:=hv ha;have hall:∀e∈es,∃l,keyOf P kt e.key=some l:=fun e he=>by
   obtain⟨b,hb,h⟩:=hes e he;rw[h];exact hv hb
  have hwf:∀w,(Instr.findKey kt (val a) es).run P w=(Instr.findAsking kt (val a) es 0).run P w:=fun w=>run_findKey_eq w hwide _ _;rcases ADZ (fun w {_ _ _ _} h1 h2=>run_equal_deep w (by omega) hk hwide h1 h2) hl' es 0 hall with⟨h1,h2⟩|⟨j,e0,h1,h2,h3⟩
  . exact .inl ⟨fun w=>by rw[hwf];exact h1 w,fun y hy e1=>h2 y hy (by rw[e1];exact hl')⟩
  . exact .inr ⟨j,e0,fun w=>by rw[hwf];simpa using h1 w,h2,(deep_law_laid hl hm hrow hk hwide).inj h3 hl'⟩
 stays:=fun ha w=>by
  obtain⟨l,hl'⟩:=hv ha;exact(deep_law_laid hl hm hrow hk hwide).stays w hl'
end Go.Sx
namespace Go.Sx
open Go Go.RowKit
section
variable[Trk]{P:Program}{N:Nat}{ops:Array Oper}{q:Md}{rest:List Oper}{ds:List Deferred}{L:A7}{w:World}{A B:A3}{X:Nat->A3}{Z:List PanicEntry->A3}{d:Nat}{ty:TypeId}{pos:String}{af:Array Edge}
theorem ASj{t e:TypeId}{x y:Operand}{z v0 v1 z0 z1:Value}(J:∀w,(zeroValue t).run P w=.ok z w)(H:z.cells=#[z0,z1])(U:P.underlying t=some (.array 2 e))(V:∀w,(sizeOf e).run P w=.ok 1 w)(hx:ev L x=some v0)(hy:ev L y=some v1)(C:v0.cells=#[v0])(W:v1.cells=#[v1])(hN:blt d N=true)(h:Reg P N ops q rest ds ((d,.agg [v0,v1].toArray)::L) w A B X Z):Reg P N ops q (⟨some d,.build t #[(0,x),(1,y)],ty,pos,af,none⟩::rest) ds L w A B X Z:=by
 refine Reg.val (.agg [v0,v1].toArray) rfl rfl hN (fun a I w' _=>?_) h;simp[execOp,Instr.build,J,H,run_underlying U,V,I.eval hx,I.eval hy,Instr.fill,C,W]
end
end Go.Sx
namespace Go.Sx
open Go Go.RowKit Go.ChangeMaps
open Classical in
def AJq{κ α:Type}(f:A4 κ α):Int:=if h:∃l,Lists f l then(h.choose.length:Int) else 0
theorem Lists.one{κ α:Type}{f:A4 κ α}{l l':List (κ×α)}(h:Lists f l)(H:Lists f l'):l.Perm l':=
 (AYo ((List.pairwise_map.1 h.1).imp fun h e=>h (AX9 _ e)) ((List.pairwise_map.1 H.1).imp fun h e=>h (AX9 _ e))).2 fun⟨a,y⟩=>(h.2 a y).trans (H.2 a y).symm
theorem ARF{κ α:Type}{f:A4 κ α}{l:List (κ×α)}(h:Lists f l):AJq f=l.length:=by
 unfold AJq;have hx:∃l,Lists f l:=⟨l,h⟩;rw[dif_pos hx];exact AX9 _ (hx.choose_spec.one h).length_eq
theorem AU3{P:Program}{t u:TypeId}{q:IntKind}(H:P.underlying t=some (.array 2 u))(hk:P.underlying u=some (.int q))(U:P.cellsOf t=2)(J:P.cellsOf u=1)(I:P.keyType t=true)(V:0<P.types.size){x y:Int}(hx:InK q x)(hy:InK q y):∃l,keyOf P t (.agg (toArray [.int q x,.int q y]))=some l:=by
 have w1:∀{z:Int},InK q z->(Lit.int q z).wf=true:=fun {z} h=>by simp only[Lit.wf,decide_eq_true_eq,Bool.and_eq_true];exact h
 have hl:∀(n:Nat) {z:Int},InK q z->P.keyLits (n+1) u [.int q z]=some [.int q z]:=fun n {z} h=>by
  unfold Program.keyLits;rw[hk];simp[w1 h]
 have W:∀n:Nat,P.keyLits (n+1+1) t [.int q x,.int q y]=some [.int q x,.int q y]:=fun n=>by
  unfold Program.keyLits;rw[H];have e0:((List.drop 0 [Value.int q x,Value.int q y]).take 1)=[Value.int q x]:=rfl;have e1:((List.drop 1 [Value.int q x,Value.int q y]).take 1)=[Value.int q y]:=rfl;have e2:List.range 2=[0,1]:=rfl;simp[U,J,e2,hl n hx,hl n hy]
 obtain⟨n,C⟩:∃n,P.types.size+1=n+1+1:=by
  refine⟨P.types.size-1,?_⟩;omega
 refine⟨.string (keyBytes [.int q x,.int q y]),?_⟩;unfold keyOf;rw[H];have D:(Value.agg (toArray [Value.int q x,Value.int q y])).formed P t=true:=by simp[Value.formed,H,U]
 simp only[I,D,Bool.and_self,if_true];rw[C];show(P.keyLits (n+1+1) t [.int q x,.int q y]).map _=_;rw[W n];rfl
end Go.Sx
namespace Go.Sx
open Go Go.RowKit
variable[Trk]
theorem condF{α:Type}(a b:α):cond false a b=b:=(fun (h:cond false a b=b)=>h) (by cases a_eq:(0:Nat)<;>rfl)
theorem condT{α:Type}(a b:α):cond true a b=a:=(fun (h:cond true a b=a)=>h) (by cases a_eq:(0:Nat)<;>rfl)
theorem AG2{α:Type}{l:List α}{i:Nat}{y:α}(h:l[i]?=some y):ixo l (i:Int)=some y:=by rw[AQ6];exact h
theorem ACF{α:Type}{b:Nat}{xs ys:List α}(h:(xs.length+ys.length)*b<=140737488355328)(H:xs.length+ys.length<=140737488355328):appo b xs ys=some (xs++ys):=AYB ⟨h,H⟩
def Ret{α:Type}(o:Option α)(Q:α->Prop):Prop:=∃a,o=some a/\Q a
variable{α β S R:Type}{o:Option α}{a:α}{Q:α->Prop}{b:Bool}{x:Option α}{y:Option α}{A:S->Prop}{γ:Type}{f:α->Option γ}{g:β->Option γ}
theorem Ret.val(h:o=some a)(q:Q a):Ret o Q:=⟨a,h,q⟩
theorem Ret.ok(q:Q a):Ret (some a) Q:=⟨a,rfl,q⟩
theorem Ret.bind{K:α->Option β}{Q:β->Prop}(h:Ret o fun a=>Ret (K a) Q):Ret (Option.bind o K) Q:=by
 obtain⟨a,I,H⟩:=h;subst I;exact H
theorem Ret.mono{Q Q':α->Prop}(h:Ret o Q)(H:∀a,Q a->Q' a):Ret o Q':=by
 obtain⟨a,J,I⟩:=h;exact⟨a,J,H a I⟩
theorem Ret.cond{b:Bool}{x y:Option α}{Q:α->Prop}(I:b=true->Ret x Q)(H:b=false->Ret y Q):Ret (cond b x y) Q:=by
 cases b with
 |true=>exact I rfl
 |false=>exact H rfl
theorem Ret.condT(h:b=true)(H:Ret x Q):Ret (_root_.cond b x y) Q:=by subst h;exact H
theorem Ret.condF(h:b=false)(H:Ret y Q):Ret (_root_.cond b x y) Q:=by subst h;exact H
theorem Ret.chk{x:Int}{Q:Int->Prop}(h:-9223372036854775808<=x/\x<=9223372036854775807)(q:Q x):Ret (chk .i64 x) Q:=⟨x,AQ5 h,q⟩
theorem Ret.ixo{l:List α}{i:Nat}{y:α}{Q:α->Prop}(h:l[i]?=some y)(q:Q y):Ret (ixo l (i:Int)) Q:=⟨y,AG2 h,q⟩
theorem Ret.appo{b:Nat}{xs ys:List α}{Q:List α->Prop}(h:(xs.length+ys.length)*b<=140737488355328)(H:xs.length+ys.length<=140737488355328)(q:Q (xs++ys)):Ret (appo b xs ys) Q:=⟨_,ACF h H,q⟩
def Nxt(A:S->Prop)(Q:R->Prop):S⊕R->Prop
 |.inl s=>A s
 |.inr r=>Q r
theorem Ret.next{s:S}{Q:R->Prop}(h:A s):Ret (some (.inl s)) (Nxt A Q):=⟨_,rfl,h⟩
theorem Ret.done{r:R}{Q:R->Prop}(h:Q r):Ret (some (.inr r)) (Nxt A Q):=⟨_,rfl,h⟩
theorem C8{Q:γ->Prop}(h:Ret (f a) Q):Ret (Sum.elim f g (.inl a)) Q:=h
theorem E5{b:β}{Q:γ->Prop}(h:Ret (g b) Q):Ret (Sum.elim f g (.inr b)) Q:=h
theorem Ret.loop{body:S->Option (S⊕R)}{s0:S}{Q:R->Prop}(I:S->Prop)(μ:S->Nat)(W:I s0)(step:∀s,I s->Ret (body s) (Nxt (fun s'=>I s'/\μ s'<μ s) Q)):Ret (C0 body s0) Q:=by
 have key:∀(n:Nat) (s:S),μ s<=n->I s->Ret (C0 body s) Q:=by
  intro n;induction n with
  |zero=>
   intro s V U
   obtain⟨r,J,H⟩:=step s U
   cases r with
   |inl s'=>have:=H.2;omega
   |inr r=>exact⟨r,ACv J,H⟩
  |succ n ih=>
   intro s V U
   obtain⟨r,J,H⟩:=step s U
   cases r with
   |inl s'=>rw[AJc J];exact ih s' (by have:=H.2;omega) H.1
   |inr r=>exact⟨r,ACv J,H⟩
 exact key _ s0 (AYE _) W
theorem CallsV.go{P:Program}{w:World}{g:Nat}{caps args all:List Value}{R R':Ending->World->Prop}(U:∀args w,(callFunc g args).run P w=.ok (.enter g args) w)(I:args++caps=all)(J:Calls P g all.toArray w R)(H:∀e w',R e w'->R' e w'):CallsV P (.func (.func g) #[] caps.toArray) args w R':=(CallsV.ofL U I J).mono H
variable{P:Program}{N:Nat}{ops:Array Oper}{q:Md}{rest:List Oper}{ds:List Deferred}{L:A7}{w:World}{A B:A3}{X:Nat->A3}{Z:List PanicEntry->A3}{w0:World}{Mu M:List Nat}{σ:List Res}
theorem Hp.lendC[Fx](h:Hp w0 Mu M σ w)(l:List Nat)(i:Nat){e b:Nat}{cs:List Value}(hl:l.contains i=false)(hi:σ[i]?=some (rowR e b cs)):RdC (mm (Sx.sel σ l) M) w b 0 cs:=by
 refine H9 (fun H=>?_) (h.row i hi);have I:b∈(rowR e b cs).fp:=by simp[rowR]
 rcases mem_mm.1 H with⟨s,J,H⟩|H
 . obtain⟨j,U,J⟩:=Y0 J;refine h.dis i j _ s hi J (fun e=>?_) b I H;subst e;simp at hl;exact hl U
 . exact h.sepM _ (AX1 hi) b I H
end Go.Sx
namespace Go.Proofs
open Go.Shelf
def AEz:Go.Shelf.Ren:=⟨fun|6=>93|15=>123|14=>127|28=>144|29=>145|20=>148|21=>149|22=>150|23=>151|24=>152|25=>153|26=>154|27=>155|46=>174|47=>167|48=>168|49=>175|50=>176|57=>183|n=>n,fun|22=>25|24=>53|25=>177|3=>3|39=>199|0=>0|53=>82|55=>217|4=>4|46=>210|45=>209|50=>75|5=>5|9=>9|66=>230|70=>234|76=>241|77=>242|n=>n,fun|n=>n⟩
theorem AHw:Go.Proofs.SlLaysF0.n6 prog AEz:={
 mixed:=by kernel_rfl
 f6:=⟨f93.name,by decide,func93.trans (AX9 some (by kernel_rfl))⟩
 f14:=⟨f127.name,by decide,func127.trans (AX9 some (by kernel_rfl))⟩
 f15:=func123.trans (AX9 some (by kernel_rfl))
 f20:=⟨f148.name,by decide,func148.trans (AX9 some (by kernel_rfl))⟩
 f21:=⟨f149.name,by decide,func149.trans (AX9 some (by kernel_rfl))⟩
 f22:=⟨f150.name,by decide,func150.trans (AX9 some (by kernel_rfl))⟩
 f23:=⟨f151.name,by decide,func151.trans (AX9 some (by kernel_rfl))⟩
 f24:=⟨f152.name,by decide,func152.trans (AX9 some (by kernel_rfl))⟩
 f25:=⟨f153.name,by decide,func153.trans (AX9 some (by kernel_rfl))⟩
 f26:=⟨f154.name,by decide,func154.trans (AX9 some (by kernel_rfl))⟩
 f27:=⟨f155.name,by decide,func155.trans (AX9 some (by kernel_rfl))⟩
 f28:=func144.trans (AX9 some (by kernel_rfl))
 f29:=func145.trans (AX9 some (by kernel_rfl))
 f46:=⟨f174.name,by decide,func174.trans (AX9 some (by kernel_rfl))⟩
 f47:=func167.trans (AX9 some (by kernel_rfl))
 f48:=func168.trans (AX9 some (by kernel_rfl))
 f49:=⟨f175.name,by decide,func175.trans (AX9 some (by kernel_rfl))⟩
 f50:=⟨f176.name,by decide,func176.trans (AX9 some (by kernel_rfl))⟩
 f57:=⟨f183.name,by decide,func183.trans (AX9 some (by kernel_rfl))⟩
 t0:=underlying0
 a0:=isAgg0
 z0:=sizeOf0
 v0:=zeroValue0
 t3:=underlying3
 a3:=isAgg3
 z3:=sizeOf3
 v3:=zeroValue3
 t4:=underlying4
 a4:=isAgg4
 z4:=sizeOf4
 v4:=zeroValue4
 t5:=underlying5
 a5:=isAgg5
 z5:=sizeOf5
 v5:=zeroValue5
 t9:=underlying9
 a9:=isAgg9
 z9:=sizeOf9
 v9:=zeroValue9
 t22:=underlying25
 a22:=isAgg25
 z22:=sizeOf25
 v22:=zeroValue25
 t25:=underlying177
 a25:=isAgg177
 z25:=sizeOf177
 v25:=zeroValue177
 t39:=underlying199
 a39:=isAgg199
 z39:=sizeOf199
 v39:=zeroValue199
 t45:=underlying209
 a45:=isAgg209
 z45:=sizeOf209
 v45:=zeroValue209
 t46:=underlying210
 a46:=isAgg210
 z46:=sizeOf210
 v46:=zeroValue210
 t50:=underlying75
 a50:=isAgg75
 z50:=sizeOf75
 v50:=zeroValue75
 t53:=underlying82
 a53:=isAgg82
 z53:=sizeOf82
 v53:=zeroValue82
 t55:=underlying217
 a55:=isAgg217
 z55:=sizeOf217
 v55:=zeroValue217
 t66:=underlying230
 a66:=isAgg230
 z66:=sizeOf230
 v66:=zeroValue230
 t70:=underlying234
 a70:=isAgg234
 z70:=sizeOf234
 v70:=zeroValue234
 t76:=underlying241
 a76:=isAgg241
 z76:=sizeOf241
 v76:=zeroValue241
 t77:=underlying242
 a77:=isAgg242
 z77:=sizeOf242
 v77:=zeroValue242 }
def AEn:Go.Shelf.Ren:=⟨fun|6=>118|15=>123|14=>135|28=>144|29=>145|20=>158|21=>159|22=>160|23=>161|24=>162|25=>163|26=>164|27=>165|46=>178|47=>167|48=>168|49=>179|50=>180|57=>184|n=>n,fun|22=>24|24=>45|25=>193|3=>3|39=>199|0=>0|53=>82|55=>217|4=>4|46=>210|45=>209|50=>75|5=>5|9=>9|66=>230|70=>234|76=>241|77=>242|n=>n,fun|n=>n⟩
theorem ACy:Go.Proofs.SlLaysF0.n6 prog AEn:={
 mixed:=by kernel_rfl
 f6:=⟨f118.name,by decide,func118.trans (AX9 some (by kernel_rfl))⟩
 f14:=⟨f135.name,by decide,func135.trans (AX9 some (by kernel_rfl))⟩
 f15:=func123.trans (AX9 some (by kernel_rfl))
 f20:=⟨f158.name,by decide,func158.trans (AX9 some (by kernel_rfl))⟩
 f21:=⟨f159.name,by decide,func159.trans (AX9 some (by kernel_rfl))⟩
 f22:=⟨f160.name,by decide,func160.trans (AX9 some (by kernel_rfl))⟩
 f23:=⟨f161.name,by decide,func161.trans (AX9 some (by kernel_rfl))⟩
 f24:=⟨f162.name,by decide,func162.trans (AX9 some (by kernel_rfl))⟩
 f25:=⟨f163.name,by decide,func163.trans (AX9 some (by kernel_rfl))⟩
 f26:=⟨f164.name,by decide,func164.trans (AX9 some (by kernel_rfl))⟩
 f27:=⟨f165.name,by decide,func165.trans (AX9 some (by kernel_rfl))⟩
 f28:=func144.trans (AX9 some (by kernel_rfl))
 f29:=func145.trans (AX9 some (by kernel_rfl))
 f46:=⟨f178.name,by decide,func178.trans (AX9 some (by kernel_rfl))⟩
 f47:=func167.trans (AX9 some (by kernel_rfl))
 f48:=func168.trans (AX9 some (by kernel_rfl))
 f49:=⟨f179.name,by decide,func179.trans (AX9 some (by kernel_rfl))⟩
 f50:=⟨f180.name,by decide,func180.trans (AX9 some (by kernel_rfl))⟩
 f57:=⟨f184.name,by decide,func184.trans (AX9 some (by kernel_rfl))⟩
 t0:=underlying0
 a0:=isAgg0
 z0:=sizeOf0
 v0:=zeroValue0
 t3:=underlying3
 a3:=isAgg3
 z3:=sizeOf3
 v3:=zeroValue3
 t4:=underlying4
 a4:=isAgg4
 z4:=sizeOf4
 v4:=zeroValue4
 t5:=underlying5
 a5:=isAgg5
 z5:=sizeOf5
 v5:=zeroValue5
 t9:=underlying9
 a9:=isAgg9
 z9:=sizeOf9
 v9:=zeroValue9
 t22:=underlying24
 a22:=isAgg24
 z22:=sizeOf24
 v22:=zeroValue24
 t25:=underlying193
 a25:=isAgg193
 z25:=sizeOf193
 v25:=zeroValue193
 t39:=underlying199
 a39:=isAgg199
 z39:=sizeOf199
 v39:=zeroValue199
 t45:=underlying209
 a45:=isAgg209
 z45:=sizeOf209
 v45:=zeroValue209
 t46:=underlying210
 a46:=isAgg210
 z46:=sizeOf210
 v46:=zeroValue210
 t50:=underlying75
 a50:=isAgg75
 z50:=sizeOf75
 v50:=zeroValue75
 t53:=underlying82
 a53:=isAgg82
 z53:=sizeOf82
 v53:=zeroValue82
 t55:=underlying217
 a55:=isAgg217
 z55:=sizeOf217
 v55:=zeroValue217
 t66:=underlying230
 a66:=isAgg230
 z66:=sizeOf230
 v66:=zeroValue230
 t70:=underlying234
 a70:=isAgg234
 z70:=sizeOf234
 v70:=zeroValue234
 t76:=underlying241
 a76:=isAgg241
 z76:=sizeOf241
 v76:=zeroValue241
 t77:=underlying242
 a77:=isAgg242
 z77:=sizeOf242
 v77:=zeroValue242 }
def AE0:Go.Shelf.Ren:=⟨fun|6=>86|15=>123|14=>122|28=>144|29=>145|20=>136|21=>137|22=>138|23=>139|24=>140|25=>141|26=>142|27=>143|46=>166|47=>167|48=>168|49=>169|50=>170|57=>181|n=>n,fun|22=>37|24=>70|25=>170|3=>3|39=>199|0=>0|53=>82|55=>217|4=>4|46=>210|45=>209|50=>75|5=>5|9=>9|66=>230|70=>234|76=>241|77=>242|n=>n,fun|n=>n⟩
theorem AHx:Go.Proofs.SlLaysF0.n6 prog AE0:={
 mixed:=by kernel_rfl
 f6:=⟨f86.name,by decide,func86.trans (AX9 some (by kernel_rfl))⟩
 f14:=⟨f122.name,by decide,func122.trans (AX9 some (by kernel_rfl))⟩
 f15:=func123.trans (AX9 some (by kernel_rfl))
 f20:=⟨f136.name,by decide,func136.trans (AX9 some (by kernel_rfl))⟩
 f21:=⟨f137.name,by decide,func137.trans (AX9 some (by kernel_rfl))⟩
 f22:=⟨f138.name,by decide,func138.trans (AX9 some (by kernel_rfl))⟩
 f23:=⟨f139.name,by decide,func139.trans (AX9 some (by kernel_rfl))⟩
 f24:=⟨f140.name,by decide,func140.trans (AX9 some (by kernel_rfl))⟩
 f25:=⟨f141.name,by decide,func141.trans (AX9 some (by kernel_rfl))⟩
 f26:=⟨f142.name,by decide,func142.trans (AX9 some (by kernel_rfl))⟩
 f27:=⟨f143.name,by decide,func143.trans (AX9 some (by kernel_rfl))⟩
 f28:=func144.trans (AX9 some (by kernel_rfl))
 f29:=func145.trans (AX9 some (by kernel_rfl))
 f46:=⟨f166.name,by decide,func166.trans (AX9 some (by kernel_rfl))⟩
 f47:=func167.trans (AX9 some (by kernel_rfl))
 f48:=func168.trans (AX9 some (by kernel_rfl))
 f49:=⟨f169.name,by decide,func169.trans (AX9 some (by kernel_rfl))⟩
 f50:=⟨f170.name,by decide,func170.trans (AX9 some (by kernel_rfl))⟩
 f57:=⟨f181.name,by decide,func181.trans (AX9 some (by kernel_rfl))⟩
 t0:=underlying0
 a0:=isAgg0
 z0:=sizeOf0
 v0:=zeroValue0
 t3:=underlying3
 a3:=isAgg3
 z3:=sizeOf3
 v3:=zeroValue3
 t4:=underlying4
 a4:=isAgg4
 z4:=sizeOf4
 v4:=zeroValue4
 t5:=underlying5
 a5:=isAgg5
 z5:=sizeOf5
 v5:=zeroValue5
 t9:=underlying9
 a9:=isAgg9
 z9:=sizeOf9
 v9:=zeroValue9
 t22:=underlying37
 a22:=isAgg37
 z22:=sizeOf37
 v22:=zeroValue37
 t25:=underlying170
 a25:=isAgg170
 z25:=sizeOf170
 v25:=zeroValue170
 t39:=underlying199
 a39:=isAgg199
 z39:=sizeOf199
 v39:=zeroValue199
 t45:=underlying209
 a45:=isAgg209
 z45:=sizeOf209
 v45:=zeroValue209
 t46:=underlying210
 a46:=isAgg210
 z46:=sizeOf210
 v46:=zeroValue210
 t50:=underlying75
 a50:=isAgg75
 z50:=sizeOf75
 v50:=zeroValue75
 t53:=underlying82
 a53:=isAgg82
 z53:=sizeOf82
 v53:=zeroValue82
 t55:=underlying217
 a55:=isAgg217
 z55:=sizeOf217
 v55:=zeroValue217
 t66:=underlying230
 a66:=isAgg230
 z66:=sizeOf230
 v66:=zeroValue230
 t70:=underlying234
 a70:=isAgg234
 z70:=sizeOf234
 v70:=zeroValue234
 t76:=underlying241
 a76:=isAgg241
 z76:=sizeOf241
 v76:=zeroValue241
 t77:=underlying242
 a77:=isAgg242
 z77:=sizeOf242
 v77:=zeroValue242 }
end Go.Proofs
namespace Go.Sx
open Go Go.RowKit Go.WideShapes
variable[Trk]
theorem ANp{k:IntKind}{n:Int}(h:(Lit.int k n).wf=true):InK k n:=by
 simpa[Lit.wf,InK] using h
end Go.Sx
namespace Go.Proofs
open Go.Shelf
def AGG:Go.Shelf.Ren:=⟨fun|4=>120|n=>n,fun|22=>24|25=>45|3=>3|4=>4|9=>9|20=>20|0=>0|n=>n,fun|n=>n⟩
theorem AE1:Go.Proofs.Lays8.n4 prog AGG:={
 mixed:=by kernel_rfl
 f4:=⟨f120.name,by decide,func120.trans (AX9 some (by kernel_rfl))⟩
 t0:=underlying0
 a0:=isAgg0
 z0:=sizeOf0
 v0:=zeroValue0
 t3:=underlying3
 a3:=isAgg3
 z3:=sizeOf3
 v3:=zeroValue3
 t4:=underlying4
 a4:=isAgg4
 z4:=sizeOf4
 v4:=zeroValue4
 t9:=underlying9
 a9:=isAgg9
 z9:=sizeOf9
 v9:=zeroValue9
 t20:=underlying20
 a20:=isAgg20
 z20:=sizeOf20
 v20:=zeroValue20
 t22:=underlying24
 a22:=isAgg24
 z22:=sizeOf24
 v22:=zeroValue24 }
end Go.Proofs
end
