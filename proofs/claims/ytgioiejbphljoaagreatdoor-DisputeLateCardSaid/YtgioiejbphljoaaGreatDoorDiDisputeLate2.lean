/-
  Part DisputeLate 2 of the texts that the statement's proof stands on: what memory holds, how code is walked, what the functions reckon. In the order in which they build.
-/
import Derived.Maps.RangeRun
import Derived.DeepKeys4
import Derived.WideKeyEntry
import Derived.Shelf.SlGeneric
import Derived.Shelf.SlLaysF0
import Derived.Ground.SlsfProg
import Derived.Test.YtgioiejbphljoaaGreatDoorProg
import Derived.ProofKit
import Derived.Deep.Slices
import Derived.Shelf.Lays8
import Derived.Ground.Names8Prog
import Derived.Test.YtgioiejbphljoaaGreatDoorDiDisputeLate1
set_option linter.unusedVariables false
set_option linter.unusedSectionVars false
namespace Go.Sx
open Go Go.RowKit Go.ChangeMaps
variable [Trk]
abbrev A4 (κ α:Type):=κ->Option α
section
variable {κ α:Type}
def fnone:A4 κ α:=fun _=>none
def B7 [DecidableEq κ] (f:A4 κ α) (a:κ) (z:α):A4 κ α:=fun k=>if k=a then some z else f k
def Z2 [DecidableEq κ] (f:A4 κ α) (a:κ):A4 κ α:=fun k=>if k=a then none else f k
def Lists (f:A4 κ α) (l:List (κ×α)):Prop:=(l.map (·.1)).Nodup/\∀ a y,(a,y)∈l↔f a=some y
theorem Lists.perm {f:A4 κ α} {l l':List (κ×α)} (h:Lists f l) (hp:l'.Perm l):Lists f l':=
 ⟨(hp.map _).nodup_iff.2 h.1,fun a y=>hp.mem_iff.trans (h.2 a y)⟩
theorem Lists.nil:Lists (fnone:A4 κ α) []:=⟨List.nodup_nil,fun a y=>by simp[fnone]⟩
theorem Lists.none {f:A4 κ α} {l:List (κ×α)} (h:Lists f l) {a:κ} (ha:∀ x∈l,x.1≠a):f a=none:=by
 cases hf:f a with
 |none=>rfl
 |some y=>exact absurd rfl (ha _ ((h.2 a y).2 hf))
theorem Lists.push [DecidableEq κ] {f:A4 κ α} {l:List (κ×α)} (h:Lists f l) {a:κ} (z:α) (ha:∀ x∈l,x.1≠a):Lists (B7 f a z) (l++[(a,z)]):=by
 refine⟨?_,fun k y=>?_⟩
 . rw[List.map_append,List.nodup_append]
   refine⟨h.1,by simp,fun x hx y hy=>?_⟩
   obtain⟨p,hp,rfl⟩:=List.mem_map.1 hx
   have:y=a:=by simpa using hy
   rw[this];exact ha p hp
 . rw[List.mem_append,h.2]
   by_cases e:k=a
   . subst e
     have h0:f k=Option.none:=h.none ha
     simp[B7,h0,eq_comm]
   . simp[B7,e]
theorem AJj {l:List (κ×α)} (hn:(l.map (·.1)).Nodup) {i j:Nat} {x y:κ×α} (hi:l[i]?=some x) (hj:l[j]?=some y) (he:x.1=y.1):i=j:=by
 have hi':(l.map (·.1))[i]?=some x.1:=by simp[hi]
 have hj':(l.map (·.1))[j]?=some x.1:=by simp[hj,he]
 have li:i < (l.map (·.1)).length:=by
  rcases Nat.lt_or_ge i (l.map (·.1)).length with h|h
  . exact h
  . rw[List.getElem?_eq_none h] at hi';cases hi'
 exact (List.getElem?_inj li hn).1 (hi'.trans hj'.symm)
theorem Lists.set [DecidableEq κ] {f:A4 κ α} {l:List (κ×α)} (h:Lists f l) {j:Nat} {a:κ} {y:α} (hj:l[j]?=some (a,y)) (z:α):Lists (B7 f a z) (l.set j (a,z)):=by
 have hlt:j < l.length:=by
  rcases Nat.lt_or_ge j l.length with h|h
  . exact h
  . rw[List.getElem?_eq_none h] at hj;cases hj
 refine⟨?_,fun k w=>?_⟩
 . have:(l.set j (a,z)).map (·.1)=l.map (·.1):=by
    rw[List.map_set]
    refine List.ext_getElem? fun i=>?_
    rw[List.getElem?_set]
    split
    . rename_i e
      subst e
      simp[hlt]
      have:=List.getElem?_eq_getElem hlt
      rw[hj] at this
      exact (congrArg Prod.fst (Option.some.inj this))
    . rfl
   rw[this];exact h.1
 . constructor
   . intro hm
     obtain⟨i,hi⟩:=List.getElem?_of_mem hm
     rw[List.getElem?_set] at hi
     split at hi
     . simp at hi
       obtain⟨rfl,rfl⟩:=hi
       simp[B7]
     . rename_i hne
       have hk:k≠a:=fun e=>hne (AJj h.1 hj hi (by simp[e]))
       have:=(h.2 k w).1 (List.mem_of_getElem? hi)
       simpa[B7,hk] using this
   . intro hf
     by_cases e:k=a
     . subst e
       simp[B7] at hf
       subst hf
       exact List.mem_of_getElem? (i:=j) (by simp[hlt])
     . simp[B7,e] at hf
       obtain⟨i,hi⟩:=List.getElem?_of_mem ((h.2 k w).2 hf)
       refine List.mem_of_getElem? (i:=i) ?_
       rw[List.getElem?_set,if_neg,hi]
       intro e2;subst e2
       rw[hj] at hi;cases hi;exact e rfl
theorem Lists.del [DecidableEq κ] {f:A4 κ α} {l:List (κ×α)} (h:Lists f l) {j:Nat} {a:κ} {y:α} (hj:l[j]?=some (a,y)):Lists (Z2 f a) (l.eraseIdx j):=by
 refine⟨(List.Sublist.map _ (List.eraseIdx_sublist l j)).nodup h.1,fun k w=>?_⟩
 rw[List.mem_eraseIdx_iff_getElem?]
 constructor
 . rintro⟨i,hne,hi⟩
   have hk:k≠a:=fun e=>hne (AJj h.1 hi hj (by simp[e]))
   have:=(h.2 k w).1 (List.mem_of_getElem? hi)
   simpa[Z2,hk] using this
 . intro hf
   by_cases e:k=a
   . simp[Z2,e] at hf
   . simp[Z2,e] at hf
     obtain⟨i,hi⟩:=List.getElem?_of_mem ((h.2 k w).2 hf)
     refine⟨i,fun e2=>?_,hi⟩
     subst e2;rw[hj] at hi;cases hi;exact e rfl
theorem Lists.del0 [DecidableEq κ] {f:A4 κ α} {l:List (κ×α)} (h:Lists f l) {a:κ} (ha:∀ x∈l,x.1≠a):Lists (Z2 f a) l:=by
 have:Z2 f a=f:=by
  funext k
  by_cases e:k=a
  . subst e;simp[Z2,h.none ha]
  . simp[Z2,e]
 rw[this];exact h
end
open Classical in
noncomputable def AX3 {S κ α:Type} (f:S->κ×α->Option S) (m:A4 κ α) (s:S):Option S:=if h:∃ r,∀ l,Lists m l->l.foldlM f s=some r then some h.choose else none
structure Ky (P:Program) (kt:TypeId) (κ:Type) where
 val:κ->Value
 ok:κ->Prop
 inj:∀ {a b:κ},ok a->ok b->val a=val b->a=b
 check:∀ {a:κ},ok a->∀ (w:World) (em:Bool),(Instr.checkKey em 10000 kt (val a)).run P w=.ok () w
 find:∀ {a:κ},ok a->∀ (es:List MapEntry),(∀ e∈es,∃ b,ok b/\e.key=val b)->((∀ w,(Instr.findKey kt (val a) es).run P w=.ok none w)/\∀ e∈es,e.key≠val a)\/∃ j e,(∀ w,(Instr.findKey kt (val a) es).run P w=.ok (some (j,e.val)) w)/\es[j]?=some e/\e.key=val a
 stays:∀ {a:κ},ok a->∀ w,(Instr.keyThatStays (val a) (val a)).run P w=.ok (val a) w
def V2 {P:Program} {kt:TypeId} (q:IntKind) (hk:P.underlying kt=some (.int q)):Ky P kt Int where
 val:=fun a=>.int q a
 ok:=InK q
 inj:=fun _ _ h=>by cases h;rfl
 check:=fun {a} _ w em=>MapKept.run_checkKey (d:=.int q) (k:=.int q a) hk rfl em 9999
 find:=fun {a} _ es hes=>by
  have hks:∀ x∈es,MapKept.IsKey (.int q) x.key:=fun x hx=>by
   obtain⟨b,_,hb⟩:=hes x hx
   rw[hb];exact rfl
  rcases MapKept.findNow_spec (d:=.int q) (k:=.int q a) rfl es 0 hks with⟨h1,h2⟩|⟨j,e,h1,h2,h3⟩
  . exact .inl ⟨fun w=>MapKept.run_findKey hk h1,h2⟩
  . exact .inr ⟨j,e,fun w=>by simpa using MapKept.run_findKey (w:=w) hk h1,h2,h3⟩
 stays:=fun {a} _ w=>MapKept.run_keyThatStays (d:=.int q) (k:=.int q a) rfl
def Stp (es:Array MapEntry) (c:Nat):Prop:=(es.toList.map (·.born)).Nodup/\∀ x∈es.toList,x.born < c
section
variable {P:Program} {kt:TypeId} {κ α:Type} {K:Ky P kt κ} {E:Enc α} {ag:Bool}
def EntK (K:Ky P kt κ) (E:Enc α) (ag:Bool) (M:List Nat) (w:World):List MapEntry->List (κ×α)->Prop
 |[],[]=>True
 |e :: es,x :: xs=>(e.key=K.val x.1/\K.ok x.1)/\Vl E ag M w e.val x.2/\EntK K E ag M w es xs
 |_,_=>False
theorem EntK.adv {M M':List Nat} {w w':World} (ha:Adv M M' w w'):∀ {es:List MapEntry} {xs:List (κ×α)},EntK K E ag M w es xs->EntK K E ag M' w' es xs
 |[],[],h=>h
 |_ :: _,_ :: _,⟨h1,h2,h3⟩=>⟨h1,h2.adv ha,EntK.adv ha h3⟩
 |[],_ :: _,h=>h.elim
 |_ :: _,[],h=>h.elim
theorem EntK.mon {M M':List Nat} {w:World} (ha:∀ b∈M',b∈M\/w.heap.size<=b):∀ {es:List MapEntry} {xs:List (κ×α)},EntK K E ag M w es xs->EntK K E ag M' w es xs
 |[],[],h=>h
 |_ :: _,_ :: _,⟨h1,h2,h3⟩=>⟨h1,h2.mon ha,EntK.mon ha h3⟩
 |[],_ :: _,h=>h.elim
 |_ :: _,[],h=>h.elim
theorem EntK.len {M:List Nat} {w:World}:∀ {es:List MapEntry} {xs:List (κ×α)},EntK K E ag M w es xs->es.length=xs.length
 |[],[],_=>rfl
 |_ :: _,_ :: _,⟨_,_,h⟩=>by simp[EntK.len h]
 |[],_ :: _,h=>h.elim
 |_ :: _,[],h=>h.elim
theorem EntK.at {M:List Nat} {w:World}:∀ {es:List MapEntry} {xs:List (κ×α)},EntK K E ag M w es xs->∀ {j:Nat} {e:MapEntry},es[j]?=some e->∃ x,xs[j]?=some x/\e.key=K.val x.1/\K.ok x.1/\Vl E ag M w e.val x.2
 |[],_,_,j,e,he=>by simp at he
 |e :: es,x :: xs,⟨h1,h2,h3⟩,0,e',he=>by simp at he;subst he;exact⟨x,rfl,h1.1,h1.2,h2⟩
 |e :: es,x :: xs,⟨h1,h2,h3⟩,j+1,e',he=>by simpa using EntK.at h3 (j:=j) (e:=e') (by simpa using he)
 |_ :: _,[],h,_,_,_=>h.elim
theorem EntK.back {M:List Nat} {w:World}:∀ {es:List MapEntry} {xs:List (κ×α)},EntK K E ag M w es xs->∀ x∈xs,∃ e∈es,e.key=K.val x.1
 |[],[],_,x,hx=>by cases hx
 |e :: es,x :: xs,⟨h1,h2,h3⟩,y,hy=>by
  rcases List.mem_cons.1 hy with rfl|hy
  . exact⟨e,by simp,h1.1⟩
  . obtain⟨e',h4,h5⟩:=EntK.back h3 y hy
    exact⟨e',List.mem_cons_of_mem _ h4,h5⟩
 |[],_ :: _,h,_,_=>h.elim
 |_ :: _,[],h,_,_=>h.elim
theorem EntK.keys {M:List Nat} {w:World} {es:List MapEntry} {xs:List (κ×α)} (h:EntK K E ag M w es xs):∀ e∈es,∃ b,K.ok b/\e.key=K.val b:=fun e he=>by
 obtain⟨j,hj⟩:=List.getElem?_of_mem he
 obtain⟨x,_,h1,h2,_⟩:=h.at hj
 exact⟨x.1,h2,h1⟩
theorem EntK.push {M:List Nat} {w:World} {a:κ} {v:Value} {z:α} {c:Nat} (ha:K.ok a) (hv:Vl E ag M w v z):∀ {es:List MapEntry} {xs:List (κ×α)},EntK K E ag M w es xs->EntK K E ag M w (es++[⟨K.val a,v,c⟩]) (xs++[(a,z)])
 |[],[],_=>⟨⟨rfl,ha⟩,hv,trivial⟩
 |_ :: _,_ :: _,⟨h1,h2,h3⟩=>⟨h1,h2,EntK.push ha hv h3⟩
 |[],_ :: _,h=>h.elim
 |_ :: _,[],h=>h.elim
theorem EntK.set {M:List Nat} {w:World} {a:κ} {v:Value} {z:α} (ha:K.ok a) (hv:Vl E ag M w v z):∀ {es:List MapEntry} {xs:List (κ×α)} (j:Nat),EntK K E ag M w es xs->EntK K E ag M w (es.modify j fun e=>{ e with key:=K.val a,val:=v }) (xs.set j (a,z))
 |[],[],_,_=>by simp[EntK]
 |_ :: _,_ :: _,0,⟨h1,h2,h3⟩=>⟨⟨rfl,ha⟩,hv,h3⟩
 |_ :: _,_ :: _,j+1,⟨h1,h2,h3⟩=>⟨h1,h2,EntK.set ha hv j h3⟩
 |[],_ :: _,_,h=>h.elim
 |_ :: _,[],_,h=>h.elim
theorem EntK.erase {M:List Nat} {w:World}:∀ {es:List MapEntry} {xs:List (κ×α)} (j:Nat),EntK K E ag M w es xs->EntK K E ag M w (es.eraseIdx j) (xs.eraseIdx j)
 |[],[],_,_=>by simp[EntK]
 |_ :: _,_ :: _,0,⟨_,_,h3⟩=>h3
 |_ :: _,_ :: _,j+1,⟨h1,h2,h3⟩=>⟨h1,h2,EntK.erase j h3⟩
 |[],_ :: _,_,h=>h.elim
 |_ :: _,[],_,h=>h.elim
def MapH (K:Ky P kt κ) (E:Enc α) (ag:Bool) (M:List Nat) (w:World) (b:Nat) (f:A4 κ α):Prop:=
 ∃ es c xs,w.heap[b]?=some (.map es c)/\Stp es c/\EntK K E ag M w es.toList xs/\Lists f xs
def mapO (K:Ky P kt κ) (E:Enc α) (ag:Bool) (b:Nat) (f:A4 κ α):Res where
 fp:=[b]
 mu:=[]
 holds:=fun M w=>MapH K E ag M w b f
 adv:=fun ha hb h=>by
  obtain⟨es,c,xs,h1,h2,h3,h4⟩:=h
  exact⟨es,c,xs,(hb b (by simp)).trans h1,h2,h3.adv ha,h4⟩
 lt:=fun h x hx=>by
  obtain⟨es,c,xs,h1,_⟩:=h
  have:x=b:=by simpa using hx
  subst this;exact J1 h1
def RdF (K:Ky P kt κ) (E:Enc α) (ag:Bool) (M:List Nat) (w:World) (v:Value) (f:A4 κ α):Prop:=∃ b,v=.map (some b)/\b∉M/\MapH K E ag M w b f
theorem RdF.adv {M M':List Nat} {w w':World} {v:Value} {f:A4 κ α} (h:RdF K E ag M w v f) (ha:Adv M M' w w'):RdF K E ag M' w' v f:=by
 obtain⟨b,rfl,hb,es,c,xs,h1,h2,h3,h4⟩:=h
 have hlt:=J1 h1
 exact⟨b,rfl,fun hb'=>(ha.new b hb').elim hb (fun h=>absurd hlt (by omega)),es,c,xs,(ha.kp.block b hlt hb).trans h1,h2,h3.adv ha,h4⟩
theorem RdF.oneC {M:List Nat} {w:World} {v:Value} {f:A4 κ α} (h:RdF K E ag M w v f):v.oneCell'=true:=by
 obtain⟨b,rfl,_⟩:=h;rfl
variable {N:Nat} {ops:Array Oper} {q:Md} {rest:List Oper} {ds:List Deferred} {L:A7} {w w0:World} {A B:A3} {X:Nat->A3} {Z:List PanicEntry->A3} {d:Nat} {ty:TypeId} {pos:String} {af:Array Edge} {Mu M:List Nat} {σ:List Res}
theorem Hp.mapAt' [Fx] {b:Nat} {f:A4 κ α} (h:Hp w0 Mu M σ w) (i:Nat) (hi:σ[i]?=some (mapO K E ag b f)):MapH K E ag (mm σ M) w b f:=h.get i hi
theorem Hp.freezeM [Fx] (h:Hp w0 Mu M σ w) (i:Nat) {b:Nat} {f:A4 κ α} (hi:σ[i]?=some (mapO K E ag b f)):RdF K E ag (mm (σ.eraseIdx i) M) w (.map (some b)) f:=by
 obtain⟨es,c,xs,h1,h2,h3,h4⟩:=h.mapAt' i hi
 exact⟨b,rfl,h.apart i hi b (by simp[mapO]),es,c,xs,h1,h2,h3.mon fun x hx=>.inl (Z1 (List.eraseIdx_sublist σ i) hx),h4⟩
theorem MapH.lookup {b:Nat} {f:A4 κ α} {t e:TypeId} {a:κ} {z0:α} {zv:Value} (h:MapH K E ag M w b f) (ha:K.ok a) (ht:P.underlying t=some (.map kt e)) (hz:∀ w,(zeroValue e).run P w=.ok zv w) (hzR:Vl E ag M w zv z0) :
  ∃ v,(∀ cm w',w'.heap[b]?=w.heap[b]?->(Instr.lookup t (.map (some b)) (K.val a) cm).run P w'=.ok (if cm then .tuple #[v,.bool (f a).isSome] else v) w')/\Vl E ag M w v ((f a).getD z0):=by
 obtain⟨es,c,xs,h1,h2,h3,h4⟩:=h
 rcases K.find ha es.toList h3.keys with⟨g1,g2⟩|⟨j,e',g1,g2,g3⟩
 . have hf:f a=none:=h4.none fun x hx he=>by
    obtain⟨e',h5,h6⟩:=h3.back x hx
    exact g2 e' h5 (by rw[h6,he])
   refine⟨zv,fun cm w' hw=>?_,by rw[hf];exact hzR⟩
   have h1:=hw.trans h1
   cases cm <;> simp[Instr.lookup,run_underlying ht,MapKept.run_getObj_map h1,K.check ha,g1,hz,hf]
 . obtain⟨x,hx,hk,hok,hv⟩:=h3.at g2
   have hxa:x.1=a:=K.inj hok ha (by rw[<-hk,g3])
   have hf:f a=some x.2:=(h4.2 a x.2).1 (by rw[<-hxa];exact List.mem_of_getElem? hx)
   refine⟨e'.val,fun cm w' hw=>?_,by rw[hf];exact hv⟩
   have h1:=hw.trans h1
   cases cm <;> simp[Instr.lookup,run_underlying ht,MapKept.run_getObj_map h1,K.check ha,g1,hf]
theorem AP8 [Fx] (K:Ky P kt κ) (E:Enc α) (ag:Bool) {t:TypeId} (hI:Hp w0 Mu M σ w) (hN:Nat.blt d N=true)
  (h:∀ b w',Hp w0 Mu M (mapO K E ag b fnone :: σ) w'->Adv (mm σ M) (mm (mapO K E ag b fnone :: σ) M) w w'->Reg P N ops .seq rest ds ((d,.map (some b)) :: L) w' A B X Z) :
  Reg P N ops .seq (⟨some d,.makeMap t none,ty,pos,af,none⟩ :: rest) ds L w A B X Z:=by
 have hx:Ext w (w.alloc (.map #[] 0)):=Kp.alloc _ _ _
 have hn:∀ b∈(mapO K E ag w.heap.size fnone).fp,w.heap.size<=b/\b < (w.alloc (.map #[] 0)).heap.size:=fun b hb=>by
  have:b=w.heap.size:=by simpa[mapO] using hb
  subst this;exact⟨Nat.le_refl _,by show w.heap.size < (w.heap.push _).size;simp⟩
 refine O5 (.map (some w.heap.size)) (w.alloc (.map #[] 0)) rfl rfl hN (fun a ha=>?_) (h _ _ (hI.add hx hn rfl ⟨#[],0,[],heap_alloc_new w _,⟨by simp,fun x hx=>by simp at hx⟩,trivial,Lists.nil⟩) (hI.addA hx hn))
 have hr:(Instr.makeMap t none).run P w=.ok (.map (some w.heap.size)) (w.alloc (.map #[] 0)):=rfl
 simp[execOp,hr]
theorem ASK [Fx] (i:Nat) {b:Nat} {f:A4 κ α} {z0:α} {zv:Value} {x y:Operand} {t e:TypeId} {a:κ} (hI:Hp w0 Mu M σ w) (hi:σ[i]?=some (mapO K E ag b f))
  (hx:ev L x=some (.map (some b))) (hy:ev L y=some (K.val a)) (ha:K.ok a) (ht:P.underlying t=some (.map kt e)) (hz:∀ w,(zeroValue e).run P w=.ok zv w) (hzR:Vl E ag (mm σ M) w zv z0) (hN:Nat.blt d N=true)
  (h:∀ v,Vl E ag (mm σ M) w v ((f a).getD z0)->Reg P N ops .seq rest ds ((d,v) :: L) w A B X Z) :
  Reg P N ops .seq (⟨some d,.lookup t x y false,ty,pos,af,none⟩ :: rest) ds L w A B X Z:=by
 obtain⟨v,h1,h2⟩:=(hI.mapAt' i hi).lookup ha ht hz hzR
 refine O5 _ w rfl rfl hN (fun A hA=>?_) (h v h2)
 simp[execOp,hA.eval hx,hA.eval hy,h1 _ w rfl]
theorem AP9 {t e n:Nat} {x y:Operand} {b:Nat} {k k2:IntKind} {i z:Int} {xs:List Int} {M:List Nat} (hC:RdC M w b 0 (xs.map (Value.int k2))) (hx:ev L x=some (.pointer (some ⟨b,0,none⟩))) (hy:ev L y=some (.int k i)) (hi:ixo xs i=some z) (ht:P.underlying t=some (.array n e)) (hn:n=xs.length) (hs:∀ w,(sizeOf e).run P w=.ok 1 w) (hN:Nat.blt d N=true)
  (h:RdC M w b i.toNat [.int k2 z]->Reg P N ops q rest ds ((d,.pointer (some ⟨b,i.toNat,none⟩)) :: L) w A B X Z):Reg P N ops q (⟨some d,.indexAddr t x y,ty,pos,af,none⟩ :: rest) ds L w A B X Z:=by
 obtain⟨h0,h1,hz⟩:=AAD hi
 have hin:i.toNat < xs.length:=by omega
 subst hn
 have hcell:RdC M w b i.toNat [.int k2 z]:=⟨hC.out,hC.lt,fun j v hj=>by
  cases j with
  |zero=>
   simp at hj;subst hj
   have:=hC.cells i.toNat (.int k2 z) (by simp[hz])
   simpa using this
  |succ j=>simp at hj⟩
 refine Reg.val (.pointer (some ⟨b,i.toNat,none⟩)) rfl rfl hN (fun a ha w' _=>?_) (h hcell)
 simp[execOp,ha.eval hx,ha.eval hy,Instr.indexAt,asIntOf,run_underlying ht,Instr.sureAddr,h0,h1,hs,add_none]
theorem AH0 {b:Nat} {o o':Obj} (h1:w.heap[b]?=some o):Kp [b] w (setBlock w b o'):=
 ⟨rfl,rfl,rfl,by simp[setBlock],fun j hj hm=>(MapKept.heap_set (o':=o') h1).2 j (by simpa using hm),fun _=>Nat.le_refl _⟩
variable [DecidableEq κ]
theorem AML [Fx] (i:Nat) {b:Nat} {f:A4 κ α} {z:α} {v:Value} {x y u:Operand} {t e:TypeId} {a:κ} (hI:Hp w0 Mu M σ w) (hi:σ[i]?=some (mapO K E ag b f))
  (hx:ev L x=some (.map (some b))) (hy:ev L y=some (K.val a)) (ha:K.ok a) (hu:ev L u=some v) (hv:Vl E ag (mm σ M) w v z) (ht:P.underlying t=some (.map kt e))
  (h:∀ w',Hp w0 Mu M (σ.set i (mapO K E ag b (B7 f a z))) w'->Adv (mm σ M) (mm (σ.set i (mapO K E ag b (B7 f a z))) M) w w'->Reg P N ops .seq rest ds L w' A B X Z) :
  Reg P N ops .seq (⟨none,.mapUpdate t x y u,ty,pos,af,none⟩ :: rest) ds L w A B X Z:=by
 obtain⟨es,c,xs,h1,h2,h3,h4⟩:=hI.mapAt' i hi
 have key':∃ es' c' xs',(Instr.mapUpdate t (.map (some b)) (K.val a) v).run P w=.ok () (setBlock w b (.map es' c'))/\Stp es' c'/\EntK K E ag (mm σ M) w es'.toList xs'/\Lists (B7 f a z) xs':=by
  rcases K.find ha es.toList h3.keys with⟨g1,g2⟩|⟨j,e',g1,g2,g3⟩
  . refine⟨es.push ⟨K.val a,v,c⟩,c+1,xs++[(a,z)],?_,⟨?_,fun x hx=>?_⟩,?_,h4.push z fun x hx he=>?_⟩
    . simp[Instr.mapUpdate,run_underlying ht,MapKept.run_getObj_map h1,K.check ha,g1,MapKept.run_setObj_map _ h1,Result.andThen,setBlock]
    . rw[Array.toList_push,List.map_append,List.nodup_append]
      refine⟨h2.1,by simp,fun x hx y hy=>?_⟩
      obtain⟨p,hp,rfl⟩:=List.mem_map.1 hx
      have:=h2.2 p hp
      have:y=c:=by simpa using hy
      omega
    . rw[Array.toList_push,List.mem_append] at hx
      rcases hx with hx|hx
      . have:=h2.2 x hx;omega
      . have:x=⟨K.val a,v,c⟩:=by simpa using hx
        subst this;exact Nat.lt_succ_self c
    . rw[Array.toList_push];exact h3.push ha hv
    . obtain⟨e',h5,h6⟩:=h3.back x hx
      exact g2 e' h5 (by rw[h6,he])
  . obtain⟨x',hx',hk,hok,hv'⟩:=h3.at g2
    have hxa:x'.1=a:=K.inj hok ha (by rw[<-hk,g3])
    have g4:es[j]?=some e':=by simpa using g2
    refine⟨es.modify j fun e=>{ e with key:=K.val a,val:=v },c,xs.set j (a,z),?_,⟨?_,fun x hx=>?_⟩,?_,h4.set (y:=x'.2) (by rw[hx',<-hxa]) z⟩
    . simp[Instr.mapUpdate,run_underlying ht,MapKept.run_getObj_map h1,K.check ha,g1,g4,g3,K.stays ha,MapKept.run_setObj_map _ h1,Result.andThen,setBlock]
    . have:((es.modify j fun e=>{ e with key:=K.val a,val:=v }).toList.map (·.born))=es.toList.map (·.born):=by
       rw[Array.toList_modify]
       refine List.ext_getElem? fun i=>?_
       simp only[List.getElem?_map,List.getElem?_modify]
       by_cases e:j=i
       . subst e;cases es.toList[j]? <;> simp
       . simp[e]
      rw[this];exact h2.1
    . rw[Array.toList_modify] at hx
      obtain⟨m,hm⟩:=List.getElem?_of_mem hx
      rw[List.getElem?_modify] at hm
      cases hq:es.toList[m]? with
      |none=>rw[hq] at hm;cases hm
      |some e0=>
       rw[hq] at hm
       have:=h2.2 e0 (List.mem_of_getElem? hq)
       by_cases e:j=m
       . simp[e] at hm;subst hm;exact this
       . simp[e] at hm;subst hm;exact this
    . rw[Array.toList_modify];exact h3.set ha hv j
 obtain⟨es',c',xs',hr,hS,hE,hL⟩:=key'
 have hkp:Kp [b] w (setBlock w b (.map es' c')):=AH0 h1
 have hn:∀ b'∈(mapO K E ag b (B7 f a z)).fp,b'∈(mapO K E ag b f).fp\/w.heap.size<=b':=fun b' hb=>.inl hb
 refine Reg.sto (setBlock w b (.map es' c')) rfl rfl (fun A hA=>?_) (h _ (hI.upd i hi hkp hn rfl fun M' hM'=>⟨es',c',xs',(MapKept.heap_set h1).1,hS,?_,hL⟩) (hI.updA (r':=mapO K E ag b (B7 f a z)) i hi hkp hn))
 . simp[execOp,hA.eval hx,hA.eval hy,hA.eval hu,hr]
 . have hb:b∈mm σ M:=mem_mm.2 (.inl ⟨_,List.mem_of_getElem? hi,by simp[mapO]⟩)
   refine (hE.adv ⟨hkp.mono fun x hx=>.inl ?_,fun x hx=>.inl hx⟩).mon fun x hx=>.inl ?_
   . have:x=b:=by simpa using hx
     subst this;exact hb
   . rcases hM' x hx with h9|h9
     . have:x=b:=by simpa[mapO] using h9
       subst this;exact hb
     . exact h9
theorem AUm [Fx] (i:Nat) {b:Nat} {f:A4 κ α} {x y:Operand} {t kt' e:TypeId} {a:κ} (hI:Hp w0 Mu M σ w) (hi:σ[i]?=some (mapO K E ag b f))
  (hx:ev L x=some (.map (some b))) (hy:ev L y=some (K.val a)) (ha:K.ok a) (ht:P.underlying t=some (.map kt e))
  (h:∀ w',Hp w0 Mu M (σ.set i (mapO K E ag b (Z2 f a))) w'->Adv (mm σ M) (mm (σ.set i (mapO K E ag b (Z2 f a))) M) w w'->Reg P N ops .seq rest ds L w' A B X Z) :
  Reg P N ops .seq (⟨none,.call ⟨.builtin .delete,#[x,y],#[t,kt']⟩,ty,pos,af,none⟩ :: rest) ds L w A B X Z:=by
 obtain⟨es,c,xs,h1,h2,h3,h4⟩:=hI.mapAt' i hi
 have key':∃ es' xs',(∀ ty,(Builtin.delete_ #[t,kt'] ty #[.map (some b),K.val a]).run P w=.ok (.tuple #[]) (setBlock w b (.map es' c)))/\Stp es' c/\EntK K E ag (mm σ M) w es'.toList xs'/\Lists (Z2 f a) xs':=by
  rcases K.find ha es.toList h3.keys with⟨g1,g2⟩|⟨j,e',g1,g2,g3⟩
  . refine⟨es,xs,fun ty=>?_,h2,h3,h4.del0 fun x hx he=>?_⟩
    . simp[Builtin.delete_,run_underlying ht,MapKept.run_getObj_map h1,K.check ha,g1,MapKept.run_setObj_map _ h1,Result.andThen,setBlock]
    . obtain⟨e',h5,h6⟩:=h3.back x hx
      exact g2 e' h5 (by rw[h6,he])
  . obtain⟨x',hx',hk,hok,hv'⟩:=h3.at g2
    have hxa:x'.1=a:=K.inj hok ha (by rw[<-hk,g3])
    have hlt:j < es.size:=by
     rcases Nat.lt_or_ge j es.toList.length with h|h
     . simpa using h
     . rw[List.getElem?_eq_none h] at g2;cases g2
    have hel:(es.eraseIdxIfInBounds j).toList=es.toList.eraseIdx j:=by simp[Array.eraseIdxIfInBounds,hlt]
    refine⟨es.eraseIdxIfInBounds j,xs.eraseIdx j,fun ty=>?_,⟨?_,fun x hx=>?_⟩,?_,h4.del (y:=x'.2) (by rw[hx',<-hxa])⟩
    . simp[Builtin.delete_,run_underlying ht,MapKept.run_getObj_map h1,K.check ha,g1,MapKept.run_setObj_map _ h1,Result.andThen,setBlock]
    . rw[hel];exact (List.Sublist.map _ (List.eraseIdx_sublist _ j)).nodup h2.1
    . rw[hel] at hx;exact h2.2 x ((List.eraseIdx_sublist _ j).subset hx)
    . rw[hel];exact h3.erase j
 obtain⟨es',xs',hr,hS,hE,hL⟩:=key'
 have hkp:Kp [b] w (setBlock w b (.map es' c)):=AH0 h1
 have hn:∀ b'∈(mapO K E ag b (Z2 f a)).fp,b'∈(mapO K E ag b f).fp\/w.heap.size<=b':=fun b' hb=>.inl hb
 refine AOq (.tuple #[]) (setBlock w b (.map es' c)) rfl rfl (fun A hA=>?_) (h _ (hI.upd i hi hkp hn rfl fun M' hM'=>⟨es',c,xs',(MapKept.heap_set h1).1,hS,?_,hL⟩) (hI.updA (r':=mapO K E ag b (Z2 f a)) i hi hkp hn))
 . simp[execOp,resolve,invoke,builtin,hA.eval hx,hA.eval hy,hr]
 . have hb:b∈mm σ M:=mem_mm.2 (.inl ⟨_,List.mem_of_getElem? hi,by simp[mapO]⟩)
   refine (hE.adv ⟨hkp.mono fun x hx=>.inl ?_,fun x hx=>.inl hx⟩).mon fun x hx=>.inl ?_
   . have:x=b:=by simpa using hx
     subst this;exact hb
   . rcases hM' x hx with h9|h9
     . have:x=b:=by simpa[mapO] using h9
       subst this;exact hb
     . exact h9
end
end Go.Sx
namespace Go.Sx
open Go Go.RowKit
variable [Trk]
structure Tb where
 st:List (Nat×List (Nat×Nat))
 ag:List (Nat×Nat)
def lk {α:Type}:List (Nat×α)->Nat->Option α
 |[],_=>none
 |(k,v) :: r,t=>bif Nat.beq k t then some v else lk r t
def nth {α:Type}:List α->Nat->Option α
 |[],_=>none
 |x :: _,0=>some x
 |_ :: r,n+1=>nth r n
theorem AA4 {α:Type}:∀ (l:List α) (i:Nat),nth l i=l[i]?
 |[],_=>rfl
 |_ :: _,0=>rfl
 |_ :: l,n+1=>AA4 l n
def FlOk (P:Program) (fields:Array Field):Nat->List (Nat×Nat)->Prop
 |_,[]=>True
 |i,(o,t) :: r=>(∃ fl m,fields[i]?=some fl/\fl.offset=o/\fl.type=t/\∀ w,(sizeOf t).run P w=.ok (m+1) w)/\FlOk P fields (i+1) r
def StOk (P:Program):List (Nat×List (Nat×Nat))->Prop
 |[]=>True
 |(s,l) :: r=>(∃ fields:Array Field,P.underlying s=some (.struct fields)/\FlOk P fields 0 l)/\StOk P r
def AgOk (P:Program):List (Nat×Nat)->Prop
 |[]=>True
 |(t,0) :: r=>(∀ w,(isAgg t).run P w=.ok false w)/\AgOk P r
 |(t,n+1) :: r=>((∀ w,(isAgg t).run P w=.ok true w)/\∀ w,(sizeOf t).run P w=.ok n w)/\AgOk P r
theorem FlOk.at {P:Program} {fields:Array Field}:∀ {l:List (Nat×Nat)} {i f o t:Nat},FlOk P fields i l->nth l f=some (o,t)->∃ fl m,fields[i+f]?=some fl/\fl.offset=o/\fl.type=t/\∀ w,(sizeOf t).run P w=.ok (m+1) w
 |[],_,_,_,_,_,h=>by cases h
 |(_,_) :: _,_,0,_,_,h,e=>by cases e;exact h.1
 |(_,_) :: r,i,f+1,_,_,h,e=>by
  have:=FlOk.at (f:=f) h.2 e
  rwa [show i+1+f=i+(f+1) by omega] at this
theorem StOk.at {P:Program}:∀ {l:List (Nat×List (Nat×Nat))} {s:Nat} {fl:List (Nat×Nat)},StOk P l->lk l s=some fl->∃ fields:Array Field,P.underlying s=some (.struct fields)/\FlOk P fields 0 fl
 |[],_,_,_,h=>by cases h
 |(k,_) :: r,s,_,h,e=>by
  simp only[lk] at e
  cases hb:Nat.beq k s with
  |true=>rw[hb] at e;cases e;cases Nat.eq_of_beq_eq_true hb;exact h.1
  |false=>rw[hb] at e;exact StOk.at h.2 e
theorem ACa {P:Program}:∀ {l:List (Nat×Nat)} {t:Nat},AgOk P l->lk l t=some 0->∀ w,(isAgg t).run P w=.ok false w
 |[],_,_,h=>by cases h
 |(k,z) :: r,t,h,e=>by
  simp only[lk] at e
  have hr:AgOk P r:=by cases z <;> exact h.2
  cases hb:Nat.beq k t with
  |true=>rw[hb] at e;cases e;cases Nat.eq_of_beq_eq_true hb;exact h.1
  |false=>rw[hb] at e;exact ACa hr e
theorem AgOk.at1 {P:Program}:∀ {l:List (Nat×Nat)} {t n:Nat},AgOk P l->lk l t=some (n+1)->(∀ w,(isAgg t).run P w=.ok true w)/\∀ w,(sizeOf t).run P w=.ok n w
 |[],_,_,_,h=>by cases h
 |(k,z) :: r,t,n,h,e=>by
  simp only[lk] at e
  have hr:AgOk P r:=by cases z <;> exact h.2
  cases hb:Nat.beq k t with
  |true=>rw[hb] at e;cases e;cases Nat.eq_of_beq_eq_true hb;exact h.1
  |false=>rw[hb] at e;exact AgOk.at1 hr e
def kEq:IntKind->IntKind->Bool
 |.i8,.i8|.i16,.i16|.i32,.i32|.i64,.i64|.u8,.u8|.u16,.u16|.u32,.u32|.u64,.u64=>true
 |_,_=>false
theorem ADg {a b:IntKind} (h:kEq a b=true):a=b:=by cases a <;> cases b <;> first|rfl|cases h
end Go.Sx
namespace Go.Rx
open Go Go.Sx Go.RowKit
inductive Ty where
 |int (k:IntKind)
 |bool
 |sl (t:Ty)
 |st (n:Nat)
 |arr (k:IntKind) (n:Nat)
 |mp (m:Nat) (k v:Ty)
 |fno (i:Nat)
 deriving DecidableEq
class Sg where
 S:Nat->Type
section
variable [Sg]
def den:Ty->Type
 |.int _=>Int
 |.bool=>Bool
 |.sl t=>List (den t)
 |.st n=>Sg.S n
 |.arr _ _=>List Int
 |.mp _ k v=>A4 (den k) (den v)
 |.fno _=>Nat
def O4:List Ty->Type
 |[]=>Unit
 |[t]=>den t
 |t :: u :: l=>den t×O4 (u :: l)
end
section
variable [Sg]
def P1:List Ty->Ty->Type
 |[],r=>Option (den r)
 |t :: l,r=>den t->P1 l r
inductive SV where
 |int (k:IntKind) (x:Int)
 |bool (b:Bool)
 |dat (t:Ty) (x:den t)
 |str (n:Nat) (x:Sg.S n)
 |ary (k:IntKind) (n:Nat) (x:List Int)
 |agg (l:List SV)
 |own (i:Nat)
 |ptr (i o:Nat)
 |ep (i:Nat) (t:Ty) (x:Int) (z:Option (den t)) (o:Nat)
 |rp (s:SV) (o:Nat)
 |fv (a:List Ty) (r:Ty) (f:P1 a r)
 |fn (g:Nat) (caps:List SV)
 |nilS
 |raw (v:Value)
 |it (ts:List Ty) (xs:List (O4 ts))
 |np (t:Ty) (x:Option (den t))
 |ap (s:SV) (n:Nat) (x:Int) (k:Nat)
 |undef
 |dead
 |tup (l:List SV)
end
def Ty.leaf:Ty->Bool
 |.st _=>false
 |_=>true
def AE1:List Ty->Bool
 |[]=>true
 |t :: l=>t.leaf&&AE1 l
class Sf [Sg] where
 ft:Nat->List Ty
 un:(n:Nat)->Sg.S n->O4 (ft n)
 mkS:(n:Nat)->O4 (ft n)->Sg.S n
 un_mk:∀ n x,un n (mkS n x)=x
 eq:(n:Nat)->Sg.S n->Sg.S n->Bool
 dec:(n:Nat)->DecidableEq (Sg.S n)
 leaf:∀ n,AE1 (ft n)=true
 nm:Nat->Bool
 gv:Nat->Option SV:=fun _=>none
variable [Sg] [Sf]
open Classical in
noncomputable def ADh:(t:Ty)->DecidableEq (den t)
 |.int _=>inferInstanceAs (DecidableEq Int)
 |.bool=>inferInstanceAs (DecidableEq Bool)
 |.st n=>Sf.dec n
 |.arr _ _=>inferInstanceAs (DecidableEq (List Int))
 |.sl t=>fun _ _=>propDecidable _
 |.mp _ _ _=>fun _ _=>propDecidable _
 |.fno _=>inferInstanceAs (DecidableEq Nat)
def H4 (t t':Ty) (x:den t):Option (den t'):=if h:t=t' then some (h▸x) else none
def AJF (n n':Nat) (x:Sg.S n):Option (Sg.S n'):=if h:n=n' then some (h▸x) else none
def F5:(t:Ty)->den t->SV
 |.int k,x=>.int k x
 |.bool,x=>.bool x
 |.sl t,x=>.dat (.sl t) x
 |.st n,x=>.str n x
 |.arr k n,x=>.ary k n x
 |.mp m k v,x=>.dat (.mp m k v) x
 |.fno i,x=>.dat (.fno i) x
def ofL:(l:List Ty)->O4 l->List SV
 |[],_=>[]
 |[t],x=>[F5 t x]
 |t :: u :: l,x=>F5 t x.1 :: ofL (u :: l) x.2
def ASL (n:Nat) (x:Sg.S n):List SV:=ofL (Sf.ft n) (Sf.un n x)
inductive Oc where
 |sl (e:Nat) (t:Ty)
 |mp (m:Nat) (k v:Ty)
 deriving DecidableEq
def Oc.ty:Oc->Ty
 |.sl _ t=>.sl t
 |.mp m k v=>.mp m k v
def castO (c c':Oc) (x:den c.ty):Option (den c'.ty):=if h:c=c' then some (h▸x) else none
inductive AR where
 |own (p:Bool) (c:Oc) (x:den c.ty)
 |row (e:Nat) (l:List SV)
def A1 {α:Type}:List (Nat×α)->Nat->Option α
 |[],_=>none
 |(k,v) :: r,t=>bif Nat.beq k t then some v else A1 r t
def AAT (R:Nat->Option AR):(t:Ty)->SV->Option (den t)
 |.int k,s=>match s with
  |.int k' x=>match kEq k' k with
   |true=>some x
   |false=>none
  |_=>none
 |.bool,s=>match s with
  |.bool b=>some b
  |_=>none
 |.sl t,s=>match s with
  |.dat t' x=>H4 t' (.sl t) x
  |.nilS=>some []
  |.own i=>match R i with
   |some (.own _ c xs)=>H4 c.ty (.sl t) xs
   |_=>none
  |_=>none
 |.st _,_=>none
 |.arr k n,s=>match s with
  |.ary k' n' x=>match kEq k' k with
   |true=>match Nat.beq n' n with
    |true=>some x
    |false=>none
   |false=>none
  |_=>none
 |.mp m k v,s=>match s with
  |.dat t' x=>H4 t' (.mp m k v) x
  |.own i=>match R i with
   |some (.own _ c xs)=>H4 c.ty (.mp m k v) xs
   |_=>none
  |_=>none
 |.fno i,s=>match s with
  |.dat t' x=>H4 t' (.fno i) x
  |.fn g l=>match l with
   |[]=>some g
   |_=>none
  |_=>none
def toL (R:Nat->Option AR):(l:List Ty)->List SV->Option (O4 l)
 |[],_=>none
 |[t],ss=>match ss with
  |[s]=>AAT R t s
  |_=>none
 |t :: u :: l,ss=>match ss with
  |s :: r=>match AAT R t s with
   |some x=>match toL R (u :: l) r with
    |some y=>some (x,y)
    |none=>none
   |none=>none
  |[]=>none
def C1 (R:Nat->Option AR):(t:Ty)->SV->Option (den t)
 |.st n,s=>match s with
  |.str n' x=>AJF n' n x
  |.agg l=>match toL R (Sf.ft n) l with
   |some y=>some (Sf.mkS n y)
   |none=>none
  |_=>none
 |t,s=>AAT R t s
inductive Rp where
 |dead
 |dat (t:Ty) (x:den t)
 |rp (l:List SV)
mutual
def subS (i:Nat) (p:Rp):SV->SV
 |.own j=>match Nat.beq i j with
  |true=>match p with
   |.dat t x=>.dat t x
   |_=>.dead
  |false=>.own j
 |.ptr j o=>match Nat.beq i j with
  |true=>match p with
   |.rp l=>.rp (.agg l) o
   |_=>.dead
  |false=>.ptr j o
 |.ep j t x z o=>match Nat.beq i j with
  |true=>.dead
  |false=>.ep j t x z o
 |.agg l=>.agg (subL i p l)
 |.tup l=>.tup (subL i p l)
 |.rp s o=>.rp (subS i p s) o
 |.ap s n x k=>.ap (subS i p s) n x k
 |.fn g l=>.fn g (subL i p l)
 |.int k x=>.int k x
 |.bool b=>.bool b
 |.dat t x=>.dat t x
 |.str n x=>.str n x
 |.ary k n x=>.ary k n x
 |.fv a r f=>.fv a r f
 |.nilS=>.nilS
 |.raw v=>.raw v
 |.it ts xs=>.it ts xs
 |.np t x=>.np t x
 |.undef=>.undef
 |.dead=>.dead
def subL (i:Nat) (p:Rp):List SV->List SV
 |[]=>[]
 |s :: l=>subS i p s :: subL i p l
end
mutual
def oldS (i:Nat):SV->SV
 |.ep j t x z o=>match Nat.beq i j with
  |true=>.ep j t x none o
  |false=>.ep j t x z o
 |.agg l=>.agg (oldL i l)
 |.tup l=>.tup (oldL i l)
 |.rp s o=>.rp (oldS i s) o
 |.ap s n x k=>.ap (oldS i s) n x k
 |.fn g l=>.fn g (oldL i l)
 |.int k x=>.int k x
 |.bool b=>.bool b
 |.dat t x=>.dat t x
 |.str n x=>.str n x
 |.ary k n x=>.ary k n x
 |.own j=>.own j
 |.ptr j o=>.ptr j o
 |.fv a r f=>.fv a r f
 |.nilS=>.nilS
 |.raw v=>.raw v
 |.it ts xs=>.it ts xs
 |.np t x=>.np t x
 |.undef=>.undef
 |.dead=>.dead
def oldL (i:Nat):List SV->List SV
 |[]=>[]
 |s :: l=>oldS i s :: oldL i l
end
def AE2 (i:Nat):List (Nat×SV)->List (Nat×SV)
 |[]=>[]
 |(t,s) :: r=>(t,oldS i s) :: AE2 i r
def AA5 (i:Nat) (p:Rp):List (Nat×SV)->List (Nat×SV)
 |[]=>[]
 |(t,s) :: r=>(t,subS i p s) :: AA5 i p r
def AR.sub (i:Nat) (p:Rp):AR->AR
 |.row e l=>.row e (subL i p l)
 |.own p c xs=>.own p c xs
def Q4 (i:Nat) (p:Rp):List (Nat×AR)->List (Nat×AR)
 |[]=>[]
 |(t,a) :: r=>(t,a.sub i p) :: Q4 i p r
structure AS where
 env:List (Nat×SV)
 res:List (Nat×AR)
 kl:List Nat
 ch:List (Nat×Nat)
inductive Ac where
 |put (s:SV)
 |new (i:Nat) (r:AR)
 |sto (i o:Nat) (ns:List SV)
 |cnt (i:Nat) (c:Oc) (x:den c.ty)
 |hnd (i:Nat) (r:AR)
 |del (i:Nat) (p:Rp)
def AR.old (i:Nat):AR->AR
 |.row e l=>.row e (oldL i l)
 |.own p c xs=>.own p c xs
def ADR (i:Nat) (a:AR):List (Nat×AR)->List (Nat×AR)
 |[]=>[]
 |(t,b) :: r=>bif Nat.beq t i then (t,a) :: ADR i a r else (t,b) :: ADR i a r
def T7 (i:Nat):List (Nat×AR)->List (Nat×AR)
 |[]=>[]
 |(t,b) :: r=>bif Nat.beq t i then T7 i r else (t,b) :: T7 i r
def AJk (i:Nat):List Nat->List (Nat×Nat)->List (Nat×Nat)
 |[],l=>l
 |c :: r,l=>(i,c) :: AJk i r l
inductive Ck where
 |d (t:Ty)
 |own (c:Oc)
 |undef
 |it (ts:List Ty)
 |np (t:Ty)
 deriving DecidableEq
def Ck.den:Ck->Type
 |.d t=>Rx.den t
 |.own c=>Rx.den c.ty
 |.undef=>Unit
 |.it ts=>List (O4 ts)
 |.np t=>Option (Rx.den t)
def D7:List Ck->Type
 |[]=>Unit
 |[c]=>c.den
 |c :: d :: l=>c.den×D7 (d :: l)
inductive Pt where
 |d (t:Ty)
 |pt (t:Ty)
 |fn (a:List Ty) (r:Ty)
 |pp (t:Ty)
 |cl (g:Nat) (cs:List (Bool×Ty))
 |nl
 deriving DecidableEq
def AE3:Bool->Ty->Type
 |false,t=>Rx.den t
 |true,t=>Option (Rx.den t)
def AAe:List (Bool×Ty)->Type
 |[]=>Unit
 |(b,t) :: l=>AE3 b t×AAe l
def Pt.den:Pt->Type
 |.d t=>Rx.den t
 |.pt t=>Rx.den t
 |.fn a r=>P1 a r
 |.pp t=>Option (Rx.den t)
 |.cl _ cs=>AAe cs
 |.nl=>Unit
def D5:List Pt->Type
 |[]=>Unit
 |p :: l=>p.den×D5 l
structure Ctr where
 ps:List Pt
 rs:List Ck
 F:D5 ps->Option (D7 rs)
structure CtrP where
 ps:List Pt
 t:Ty
 T:TypeId
 F:D5 ps->Option (den t)
structure CtrA where
 ps:List Pt
 rs:List Ck
 F:D5 ps->Option (D7 rs)
structure CtrM where
 ps:List Pt
 i:Nat
 c:Oc
 rs:List Ck
 F:D5 ps->den c.ty->Option (D7 rs×den c.ty)
 self:Bool:=false
 ag:Option CtrA:=none
structure Fd where
 a:List Ty
 r:Ty
 D:Nat->P1 a r
structure Gx where
 tb:Tb
 sl:List (Nat×Nat×Ty×Nat)
 sz:List (Nat×Nat)
 ty:List (Nat×Ty)
 fs:List (Nat×Ctr)
 bd:List (Nat×List (Nat×Nat))
 eq:List (Nat×Nat)
 mp:List (Nat×Nat×Nat×Ty×Ty)
 ar:List (Nat×Nat×Nat)
 pz:List (Nat×Nat)
 pf:List (Nat×CtrP)
 fm:List (Nat×CtrM)
 fd:List (Nat×Fd)
def AMM:Nat->Value
 |0=>.pointer none
 |_=>.nilFunc
variable (G:Gx)
def AJl:IntKind->Int->Bool
 |.i64,x=>decide (-9223372036854775808<=x)&&decide (x<=9223372036854775807)
 |.u8,x=>decide (0<=x)&&decide (x<=255)
 |.u16,x=>decide (0<=x)&&decide (x<=65535)
 |.u32,x=>decide (0<=x)&&decide (x<=4294967295)
 |_,_=>false
def AJm:Value->Option SV
 |.int k x=>bif AJl k x then some (.int k x) else none
 |.bool b=>some (.bool b)
 |.slice a n c=>match a,n,c with
  |none,0,0=>some .nilS
  |_,_,_=>none
 |.map a=>match a with
  |none=>some (.raw (.map none))
  |some _=>none
 |.pointer a=>match a with
  |none=>some (.raw (.pointer none))
  |some _=>none
 |_=>none
def B4 (env:List (Nat×SV)):Operand->Option SV
 |.tmp t=>A1 env t
 |.const v=>AJm v
 |.func g=>some (.fn g [])
 |.global g=>Sf.gv g
def evL (E:Operand->Option SV):List Operand->Option (List SV)
 |[]=>some []
 |x :: l=>match E x with
  |some s=>match evL E l with
   |some r=>some (s :: r)
   |none=>none
  |none=>none
def wd:SV->Nat
 |.ary _ n _=>n
 |.str _ _=>0
 |.agg _=>0
 |.tup _=>0
 |.undef=>0
 |_=>1
def cellsOf:SV->List SV
 |.str n x=>ASL n x
 |.agg l=>l
 |s=>[s]
def P2:List SV->Nat->Option SV
 |[],_=>none
 |s :: l,o=>match o with
  |0=>some s
  |o+1=>match wd s with
   |0=>none
   |n+1=>bif Nat.ble n o then P2 l (o - n) else none
def P3:List SV->Option Nat
 |[]=>some 0
 |s :: l=>match wd s with
  |0=>none
  |n+1=>match P3 l with
   |some m=>some (n+1+m)
   |none=>none
def AFd:List SV->Nat->Option (List SV)
 |l,0=>some l
 |[],_+1=>none
 |s :: l,o+1=>match wd s with
  |0=>none
  |n+1=>bif Nat.ble n o then AFd l (o - n) else none
def AEA:List SV->Nat->Option (List SV)
 |_,0=>some []
 |[],_+1=>none
 |s :: l,o+1=>match wd s with
  |0=>none
  |n+1=>match Nat.ble n o with
   |true=>match AEA l (o - n) with
    |some r=>some (s :: r)
    |none=>none
   |false=>none
def overL:List SV->List SV->Option (List SV)
 |l,[]=>some l
 |[],_ :: _=>none
 |s :: l,n :: r=>match Nat.beq (wd s) (wd n) with
  |true=>match wd n with
   |0=>none
   |_+1=>match overL l r with
    |some x=>some (n :: x)
    |none=>none
  |false=>none
def setW:List SV->Nat->List SV->Option (List SV)
 |l,0,ns=>overL l ns
 |[],_+1,_=>none
 |s :: l,o+1,ns=>match wd s with
  |0=>none
  |n+1=>match Nat.ble n o with
   |true=>match setW l (o - n) ns with
    |some r=>some (s :: r)
    |none=>none
   |false=>none
def entry:List SV->Nat->Nat
 |_,0=>0
 |[],_+1=>0
 |s :: l,o+1=>match wd s with
  |0=>0
  |n+1=>bif Nat.ble n o then entry l (o - n)+1 else 0
def AAU (o:Nat) (ns:List SV):AR->AR
 |.row e l=>match setW l o ns with
  |some l'=>.row e l'
  |none=>.row e l
 |a=>a
def AOr (o:Nat) (ns:List SV):Option AR->List Nat
 |some (.row _ l)=>List.range' (entry l o+1) ns.length
 |_=>[]
def X9 (c:Oc) (x:den c.ty):AR->AR
 |.own p c' y=>match castO c c' x with
  |some z=>.own p c' z
  |none=>.own p c' y
 |a=>a
def AEB (i:Nat) (g:AR->AR):List (Nat×AR)->List (Nat×AR)
 |[]=>[]
 |(t,b) :: r=>(t,bif Nat.beq t i then g b else b.old i) :: AEB i g r
def AS.upd (σ:AS) (i:Nat) (g:AR->AR) (c:List Nat):AS:={ σ with env:=AE2 i σ.env,res:=AEB i g σ.res,ch:=AJk i c σ.ch }
def Ac.app (d:Option Nat) (σ:AS):Ac->AS
 |.put s=>match d with
  |some d=>{ σ with env:=(d,s) :: σ.env }
  |none=>σ
 |.new i r=>{ σ with env:=AA5 i .dead σ.env,res:=(i,r) :: T7 i (Q4 i .dead σ.res),kl:=i :: σ.kl }
 |.sto i o ns=>σ.upd i (AAU o ns) (AOr o ns (A1 σ.res i))
 |.cnt i c x=>σ.upd i (X9 c x) [0]
 |.hnd i r=>{ σ with env:=AA5 i .dead σ.env,res:=ADR i r (Q4 i .dead σ.res),kl:=i :: σ.kl }
 |.del i p=>{ σ with env:=AA5 i p σ.env,res:=T7 i (Q4 i p σ.res),kl:=i :: σ.kl }
def apps (d:Option Nat):List Ac->AS->AS
 |[],σ=>σ
 |a :: l,σ=>apps d l (a.app d σ)
def one:SV->Bool
 |.ary _ _ _=>false
 |.str _ _=>false
 |.agg _=>false
 |.tup _=>false
 |.undef=>false
 |_=>true
def ADS:SV->Bool
 |.ary _ _ _=>true
 |.str _ _=>true
 |.agg _=>true
 |_=>false
def ASM:SV->Bool
 |.tup _=>false
 |.undef=>false
 |.dead=>false
 |.agg _=>false
 |.str _ _=>false
 |_=>true
def AFe:List SV->Bool
 |[]=>true
 |s :: l=>ASM s&&AFe l
mutual
def A8:SV->List Nat
 |.own i=>[i]
 |.ptr i _=>[i]
 |.ep i _ _ _ _=>[i]
 |.agg l=>ownsLL l
 |.tup l=>ownsLL l
 |.fn _ l=>ownsLL l
 |.rp s _=>A8 s
 |.ap s _ _ _=>A8 s
 |_=>[]
def ownsLL:List SV->List Nat
 |[]=>[]
 |s :: l=>A8 s++ownsLL l
end
def AA6:Rp->List Nat
 |.rp l=>ownsLL l
 |_=>[]
def AAF:AR->List Nat
 |.row _ l=>ownsLL l
 |_=>[]
def ACc (R:Nat->Option AR) (i:Nat):Option (List Ac):=match R i with
 |some (.own false c xs)=>some [.del i (.dat c.ty xs)]
 |some (.own true _ _)=>none
 |some (.row _ l)=>match ownsLL l with
  |[]=>some [.del i (.rp l)]
  |_=>none
 |none=>none
def has (l:List Nat) (n:Nat):Bool:=match l with
 |[]=>false
 |x :: r=>bif Nat.beq x n then true else has r n
def frz (R:Nat->Option AR):List Nat->Option (List Ac)
 |[]=>some []
 |i :: l=>bif has l i then frz R l else match ACc R i with
  |some a=>match frz R l with
   |some r=>some (a++r)
   |none=>none
  |none=>none
def toP (R:Nat->Option AR) (t:Ty) (l:List SV):Option (den t):=match t with
 |.st n=>C1 R (.st n) (.agg l)
 |t=>match l with
  |[s]=>C1 R t s
  |_=>none
def Z3 (R:Nat->Option AR) (t:Ty):SV->Option (den t)
 |.rp v o=>match o with
  |0=>toP R t (cellsOf v)
  |_=>none
 |.ptr i o=>match o with
  |0=>match R i with
   |some (.row _ c)=>toP R t c
   |_=>none
  |_=>none
 |.np t' x=>match x with
  |some y=>H4 t' t y
  |none=>none
 |_=>none
def AGO (R:Nat->Option AR) (t:Ty):SV->Option (Option (den t))
 |.np t' x=>if h:t'=t then some (h▸x) else none
 |.rp v o=>match Z3 R t (.rp v o) with
  |some x=>some (some x)
  |none=>none
 |.ptr i o=>match Z3 R t (.ptr i o) with
  |some x=>some (some x)
  |none=>none
 |_=>none
def ABs (R:Nat->Option AR):SV->Option SV
 |.rp v o=>match o,cellsOf v with
  |0,[s]=>some s
  |_,_=>none
 |.ptr i o=>match o,R i with
  |0,some (.row _ [s])=>some s
  |_,_=>none
 |_=>none
def toB (R:Nat->Option AR):(b:Bool)->(t:Ty)->SV->Option (AE3 b t)
 |false,t,s=>Z3 R t s
 |true,t,s=>match ABs R s with
  |some s'=>AGO R t s'
  |none=>none
def ABt (R:Nat->Option AR):(cs:List (Bool×Ty))->List SV->Option (AAe cs)
 |[],ss=>match ss with
  |[]=>some ()
  |_=>none
 |(b,t) :: cs,ss=>match ss with
  |s :: l=>match toB R b t s with
   |some x=>match ABt R cs l with
    |some r=>some (x,r)
    |none=>none
   |none=>none
  |[]=>none
def AGP (R:Nat->Option AR) (g:Nat) (cs:List (Bool×Ty)) (s:SV):Option (AAe cs):=match ABs R s with
 |some (.fn g' l)=>match Nat.beq g' g with
  |true=>ABt R cs l
  |false=>none
 |_=>none
def AEC (R:Nat->Option AR):(p:Pt)->SV->Option p.den
 |.pt t,s=>Z3 R t s
 |.pp t,s=>toB R true t s
 |.cl g cs,s=>AGP R g cs s
 |.d _,_=>none
 |.fn _ _,_=>none
 |.nl,_=>none
def ABu (R:Nat->Option AR):(ps:List Pt)->List SV->Option (D5 ps)
 |[],ss=>match ss with
  |[]=>some ()
  |_=>none
 |p :: ps,ss=>match ss with
  |s :: l=>match AEC R p s with
   |some x=>match ABu R ps l with
    |some r=>some (x,r)
    |none=>none
   |none=>none
  |[]=>none
def AMN (r:Ty):(a:List Ty)->(ps:List Pt)->D5 ps->(D5 (a.map Pt.d++ps)->Option (den r))->P1 a r
 |[],_,y,f=>f y
 |_ :: a,ps,y,f=>fun x=>AMN r a ps y (fun z=>f (x,z))
def ANZ (ps cps:List Pt) (rs:List Ck) (F:D5 ps->Option (D7 rs)) (y:D5 cps) (a:List Ty) (r:Ty):Option (P1 a r):=
 if h:ps=a.map Pt.d++cps/\rs=[.d r] then some (AMN r a cps y (fun z=>(show Option (D7 [.d r]) from h.2▸F (h.1▸z)))) else none
def AH1 (R:Nat->Option AR) (ps cps:List Pt) (rs:List Ck) (F:D5 ps->Option (D7 rs)) (caps:List SV) (a:List Ty) (r:Ty):Option (P1 a r):=match ABu R cps caps with
 |some y=>ANZ ps cps rs F y a r
 |none=>none
def AC6 (R:Nat->Option AR) (g:Nat) (caps:List SV) (a:List Ty) (r:Ty):Option (P1 a r):=match A1 G.fs g with
 |some c=>AH1 R c.ps (c.ps.drop a.length) c.rs c.F caps a r
 |none=>none
def AJG (a a':List Ty) (r r':Ty) (f:P1 a r):Option (P1 a' r'):=if h:a=a'/\r=r' then some (h.1▸h.2▸f) else none
def AED (R:Nat->Option AR):(p:Pt)->SV->Option p.den
 |.d t,s=>C1 R t s
 |.pt t,s=>Z3 R t s
 |.fn a r,s=>match s with
  |.fv a' r' f=>AJG a' a r' r f
  |.fn g caps=>AC6 G R g caps a r
  |_=>none
 |.pp t,s=>toB R true t s
 |.cl g cs,s=>AGP R g cs s
 |.nl,s=>match s with
  |.nilS=>some ()
  |_=>none
def H5 (R:Nat->Option AR):(ps:List Pt)->List SV->Option (D5 ps)
 |[],ss=>match ss with
  |[]=>some ()
  |_=>none
 |p :: ps,ss=>match ss with
  |s :: l=>match AED G R p s with
   |some x=>match H5 R ps l with
    |some r=>some (x,r)
    |none=>none
   |none=>none
  |[]=>none
def AH2 (id:Nat):(c:Ck)->c.den->SV×List Ac
 |.d t,x=>(F5 t x,[])
 |.own c,x=>(.own id,[.new id (.own false c x)])
 |.undef,_=>(.undef,[])
 |.it ts,x=>(.it ts x,[])
 |.np t,x=>(.np t x,[])
def G2 (id:Nat):(rs:List Ck)->D7 rs->List SV×List Ac
 |[],_=>([],[])
 |[c],x=>match AH2 id c x with
  |(s,a)=>([s],a)
 |c :: d :: l,x=>match AH2 id c x.1 with
  |(s,a)=>match G2 (id+100000) (d :: l) x.2 with
   |(ss,as_)=>(s :: ss,a++as_)
def AE5:List SV->SV
 |[s]=>s
 |l=>.tup l
def AAX:List Ck->Bool
 |[]=>true
 |.d (.int _) :: l=>AAX l
 |.d .bool :: l=>AAX l
 |_=>false
def cmp (b:BinOp) (i j:Int):Option Bool:=match b with
 |.lss=>some (decide (i < j))
 |.leq=>some (decide (i<=j))
 |.gtr=>some (decide (j < i))
 |.geq=>some (decide (j<=i))
 |.eql=>some (decide (i=j))
 |.neq=>some (!decide (i=j))
 |_=>none
def AAf (u:Ty) (R:Nat->Option AR):List SV->Option (List (den u))
 |[]=>some []
 |s :: l=>match C1 R u s with
  |some x=>match AAf u R l with
   |some r=>some (x :: r)
   |none=>none
  |none=>none
def fvN:Option SV->Option SV
 |some (.dat t n)=>match t,n with
  |.fno i,n=>match A1 G.fd i with
   |some q=>some (.fv q.a q.r (q.D n))
   |none=>none
  |_,_=>none
 |o=>o
def AHD (id:Nat) (R:Nat->Option AR) {Z:Type} (K:List Ac->Option Z) (g:Nat) (ss:List SV):Option Z:=match A1 G.fs g with
 |some c=>match H5 G R c.ps ss with
  |some a=>match (bif AAX c.rs then some [] else frz R (ownsLL ss)) with
   |some fz=>Option.bind (c.F a) fun r=>match G2 id c.rs r with
    |(ss',as_)=>K (fz++as_++[.put (AE5 ss')])
   |none=>none
  |none=>none
 |none=>none
def Y4 (r:Ty):(a:List Ty)->P1 a r->(R:Nat->Option AR)->List SV->Option (Option (den r))
 |[],f,_,ss=>match ss with
  |[]=>some f
  |_=>none
 |t :: a,f,R,ss=>match ss with
  |s :: l=>match C1 R t s with
   |some x=>Y4 r a (f x) R l
   |none=>none
  |[]=>none
end Go.Rx
namespace Go.Sx
open Go Go.RowKit Go.ChangeMaps
variable [Trk]
def I0 {β:Type} (l:List (MapEntry×β)) (seen:Array Nat):List β:=(l.filter fun p=>!seen.contains p.1.born).map (·.2)
theorem ANa {seen:Array Nat} {n m:Nat}:(seen.push m).contains n=(seen.contains n||(n==m)):=by
 rw[Bool.eq_iff_iff]
 simp
theorem AJn {β:Type} {p:MapEntry×β} {seen:Array Nat}:∀ {l:List (MapEntry×β)},(l.map (·.1.born)).Nodup->p∈l->seen.contains p.1.born=false->(I0 l seen).Perm (p.2 :: I0 l (seen.push p.1.born))
 |[],_,h,_=>by cases h
 |q :: l,hn,h,hs=>by
  rw[List.map_cons,List.nodup_cons] at hn
  have hc:∀ n:Nat,(seen.push p.1.born).contains n=(seen.contains n||(n==p.1.born)):=fun n=>ANa
  by_cases e:q=p
  . subst e
    have hrest:I0 l (seen.push q.1.born)=I0 l seen:=by
     unfold I0
     congr 1
     refine List.filter_congr fun x hx=>?_
     have:x.1.born≠q.1.born:=fun e=>hn.1 (e▸List.mem_map_of_mem (f:=fun p:MapEntry×β=>p.1.born) hx)
     rw[hc,beq_false_of_ne this,Bool.or_false]
    have h1:I0 (q :: l) seen=q.2 :: I0 l seen:=by simp only[I0,List.filter_cons,hs,Bool.not_false,if_true,List.map_cons]
    have h2:I0 (q :: l) (seen.push q.1.born)=I0 l (seen.push q.1.born):=by
     simp only[I0,List.filter_cons,hc,beq_self_eq_true,Bool.or_true,Bool.not_true,Bool.false_eq_true,if_false]
    rw[h1,h2,hrest]
  . have hp:p∈l:=(List.mem_cons.1 h).resolve_left fun e'=>e e'.symm
    have ih:=AJn hn.2 hp hs
    have hne:q.1.born≠p.1.born:=fun e=>hn.1 (e▸List.mem_map_of_mem (f:=fun p:MapEntry×β=>p.1.born) hp)
    by_cases hq:seen.contains q.1.born=true
    . have h1:I0 (q :: l) seen=I0 l seen:=by simp only[I0,List.filter_cons,hq,Bool.not_true,Bool.false_eq_true,if_false]
      have h2:I0 (q :: l) (seen.push p.1.born)=I0 l (seen.push p.1.born):=by simp only[I0,List.filter_cons,hc,hq,Bool.true_or,Bool.not_true,Bool.false_eq_true,if_false]
      rw[h1,h2];exact ih
    . have hq:seen.contains q.1.born=false:=by simpa using hq
      have hb:(q.1.born==p.1.born)=false:=beq_false_of_ne hne
      have h1:I0 (q :: l) seen=q.2 :: I0 l seen:=by simp only[I0,List.filter_cons,hq,Bool.not_false,if_true,List.map_cons]
      have h2:I0 (q :: l) (seen.push p.1.born)=q.2 :: I0 l (seen.push p.1.born):=by simp only[I0,List.filter_cons,hc,hq,hb,Bool.or_false,Bool.not_false,if_true,List.map_cons]
      rw[h1,h2]
      exact (ih.cons q.2).trans (List.Perm.swap ..)
theorem AJo {β:Type}:∀ {es:List MapEntry} {xs:List β},es.length=xs.length->(es.zip xs).map (·.1.born)=es.map (·.born)
 |[],[],_=>rfl
 |_ :: _,_ :: _,h=>by simp[AJo (Nat.succ.inj h)]
 |[],_ :: _,h=>by simp at h
 |_ :: _,[],h=>by simp at h
theorem ALP {β:Type}:∀ {es:List MapEntry} {xs:List β},es.length=xs.length->(es.zip xs).map (·.2)=xs
 |[],[],_=>rfl
 |_ :: _,_ :: _,h=>by simp[ALP (Nat.succ.inj h)]
 |[],_ :: _,h=>by simp at h
 |_ :: _,[],h=>by simp at h
theorem AQr {β:Type} {es:List MapEntry} {xs:List β} (h:es.length=xs.length):I0 (es.zip xs) #[]=xs:=by
 unfold I0
 rw[List.filter_eq_self.2 (fun p _=>by simp)]
 exact ALP h
theorem AQs {β:Type} {es:Array MapEntry} {xs:List β} {seen:Array Nat} (h:(leftOf es seen).size=0):I0 (es.toList.zip xs) seen=[]:=by
 unfold I0
 rw[List.map_eq_nil_iff,List.filter_eq_nil_iff]
 intro p hp
 have h1:p.1∈es.toList:=(List.of_mem_zip (a:=p.1) (b:=p.2) hp).1
 have h2:leftOf es seen=#[]:=Array.eq_empty_of_size_eq_zero h
 unfold leftOf at h2
 rw[Array.filter_eq_empty_iff] at h2
 have:=h2 p.1 (by simpa using h1)
 simpa using this
section
variable {P:Program} {kt:TypeId} {κ α:Type} {K:Ky P kt κ} {E:Enc α} {ag:Bool}
def RdX (K:Ky P kt κ) (E:Enc α) (ag:Bool) (M:List Nat) (w:World) (b:Nat) (es:Array MapEntry) (c:Nat) (xs:List (κ×α)):Prop:=
 b∉M/\w.heap[b]?=some (.map es c)/\Stp es c/\EntK K E ag M w es.toList xs
theorem RdX.adv {M M':List Nat} {w w':World} {b c:Nat} {es:Array MapEntry} {xs:List (κ×α)} (h:RdX K E ag M w b es c xs) (ha:Adv M M' w w'):RdX K E ag M' w' b es c xs:=by
 obtain⟨hb,h1,h2,h3⟩:=h
 have hlt:=J1 h1
 exact⟨fun hb'=>(ha.new b hb').elim hb (fun h=>absurd hlt (by omega)),(ha.kp.block b hlt hb).trans h1,h2,h3.adv ha⟩
theorem EntK.zip {M:List Nat} {w:World}:∀ {es:List MapEntry} {xs:List (κ×α)},EntK K E ag M w es xs->∀ {e:MapEntry} {x:κ×α},(e,x)∈es.zip xs->e.key=K.val x.1/\K.ok x.1/\Vl E ag M w e.val x.2
 |[],_,_,_,_,h=>by simp at h
 |_ :: _,[],h,_,_,_=>h.elim
 |e :: es,x :: xs,⟨h1,h2,h3⟩,e',x',h=>by
  rw[List.zip_cons_cons,List.mem_cons] at h
  rcases h with h|h
  . cases h;exact⟨h1.1,h1.2,h2⟩
  . exact EntK.zip h3 h
theorem AE6 {β:Type}:∀ {es:List MapEntry} {xs:List β},es.length=xs.length->∀ e∈es,∃ x,(e,x)∈es.zip xs
 |[],_,_,_,h=>by cases h
 |e :: es,x :: xs,hl,e',h=>by
  rcases List.mem_cons.1 h with rfl|h
  . exact⟨x,by simp⟩
  . obtain⟨y,hy⟩:=AE6 (Nat.succ.inj hl) e' h
    exact⟨y,by simp[hy]⟩
 |_ :: _,[],h,_,_=>by simp at h
def T3 (r b c:Nat) (es:Array MapEntry) (xs:List (κ×α)) (o:Option (κ×α)) (l:List (κ×α)):Res where
 fp:=[r]
 mu:=[]
 holds:=fun _ w=>∃ seen,w.heap[r]?=some (.mapIter (some b) c seen c)/\l.Perm (I0 (es.toList.zip xs) seen)/\∀ y,o=some y->∃ (s0:Array Nat) (e:MapEntry),seen=s0.push e.born/\(e,y)∈es.toList.zip xs
 adv:=fun _ hb h=>by
  obtain⟨seen,h1,h2⟩:=h
  exact⟨seen,(hb r (by simp)).trans h1,h2⟩
 lt:=fun h x hx=>by
  obtain⟨seen,h1,h2⟩:=h
  have:x=r:=by simpa using hx
  subst this;exact J1 h1
variable {N:Nat} {ops:Array Oper} {q:Md} {rest:List Oper} {ds:List Deferred} {L:A7} {w w0:World} {A B:A3} {X:Nat->A3} {Z:List PanicEntry->A3} {d:Nat} {ty:TypeId} {pos:String} {af:Array Edge} {Mu M:List Nat} {σ:List Res}
theorem ASN [Fx] {f:A4 κ α} {mv:Value} {x:Operand} {t kt' e:TypeId} (hI:Hp w0 Mu M σ w) (hm:RdF K E ag (mm σ M) w mv f)
  (hx:ev L x=some mv) (ht:P.underlying t=some (.map kt' e)) (hN:Nat.blt d N=true)
  (h:∀ r b c es xs w',RdX K E ag (mm σ M) w b es c xs->Lists f xs->Hp w0 Mu M (T3 r b c es xs none xs :: σ) w'->Adv (mm σ M) (mm (T3 r b c es xs none xs :: σ) M) w w'->Reg P N ops .seq rest ds ((d,.pointer (some ⟨r,0,none⟩)) :: L) w' A B X Z) :
  Reg P N ops .seq (⟨some d,.range t x,ty,pos,af,none⟩ :: rest) ds L w A B X Z:=by
 obtain⟨b,rfl,hb,es,c,xs,h1,h2,h3,h4⟩:=hm
 have hx':Ext w (w.alloc (.mapIter (some b) c #[] c)):=Kp.alloc _ _ _
 have hn:∀ y∈(T3 w.heap.size b c es xs none xs).fp,w.heap.size<=y/\y < (w.alloc (.mapIter (some b) c #[] c)).heap.size:=fun y hy=>by
  have:y=w.heap.size:=by simpa[T3] using hy
  subst this;exact⟨Nat.le_refl _,by show w.heap.size < (w.heap.push _).size;simp⟩
 refine O5 (.pointer (some ⟨w.heap.size,0,none⟩)) (w.alloc (.mapIter (some b) c #[] c)) rfl rfl hN (fun a ha=>?_) (h _ b c es xs _ ⟨hb,h1,h2,h3⟩ h4 (hI.add hx' hn rfl ⟨#[],heap_alloc_new w _,by rw[AQr h3.len],fun _ h=>by cases h⟩) (hI.addA hx' hn))
 have hr:=run_range_map w t kt' e b es c ht h1
 simp[execOp,ha.eval hx,hr]
theorem ASO [Fx] (j:Nat) {b r c:Nat} {es:Array MapEntry} {xs l:List (κ×α)} {o:Option (κ×α)} {x:Operand} (hI:Hp w0 Mu M σ w) (hm:RdX K E ag (mm σ M) w b es c xs) (hj:σ[j]?=some (T3 r b c es xs o l))
  (hx:ev L x=some (.pointer (some ⟨r,0,none⟩))) (hN:Nat.blt d N=true)
  (h0:l=[]->Reg P N ops .seq rest ds ((d,.tuple #[.bool false]) :: L) w A B X Z)
  (h1:∀ (y:κ×α) (l':List (κ×α)) k v w',l.Perm (y :: l')->Hp w0 Mu M (σ.set j (T3 r b c es xs (some y) l')) w'->Adv (mm σ M) (mm (σ.set j (T3 r b c es xs (some y) l')) M) w w' ->
   Reg P N ops .seq rest ds ((d,.tuple #[.bool true,k,v]) :: L) w' A B X Z) :
  Reg P N ops .seq (⟨some d,.next x false,ty,pos,af,none⟩ :: rest) ds L w A B X Z:=by
 obtain⟨_,hb,hs,hE⟩:=hm
 obtain⟨seen,hr,hl,_⟩:=hI.get j hj
 rcases run_next_at (P:=P) w ty r b c c seen es c hr hb hs.2 (Nat.le_refl _) with⟨g1,g2⟩|⟨e,he,w1,hw1,g2⟩
 . refine O5 (.tuple #[.bool false]) w rfl rfl hN (fun a ha=>?_) (h0 ?_)
   . simp[execOp,ha.eval hx,g2]
   . rw[AQs g1] at hl;exact List.perm_nil.1 hl
 . have hel:e∈es.toList/\seen.contains e.born=false:=by
    unfold leftOf at he
    have he':e∈es.filter fun e=>!seen.contains e.born:=by simpa using he
    have:=Array.mem_filter.1 he'
    exact⟨by simpa using this.1,by simpa using this.2⟩
   obtain⟨y,hz⟩:=AE6 hE.len e hel.1
   have hp:=AJn (p:=(e,y)) (seen:=seen) (l:=es.toList.zip xs) (by rw[AJo hE.len];exact hs.1) hz hel.2
   have hr1:w1.heap[r]?=some (.mapIter (some b) c seen c):=by rcases hw1 with rfl|rfl <;> exact hr
   have h01:Kp [r] w w1:=by
    rcases hw1 with rfl|rfl
    . exact Kp.refl _ _
    . exact Kp.drew _ _
   have hkp:Kp [r] w (setBlock w1 r (.mapIter (some b) c (seen.push e.born) c)):=h01.trans (AH0 hr1)
   have hn:∀ z∈(T3 r b c es xs (some y) (I0 (es.toList.zip xs) (seen.push e.born))).fp,z∈(T3 r b c es xs o l).fp\/w.heap.size<=z:=fun z hz=>.inl hz
   refine O5 (.tuple #[.bool true,e.key,e.val]) _ rfl rfl hN (fun a ha=>?_) (h1 y (I0 (es.toList.zip xs) (seen.push e.born)) e.key e.val _ (hl.trans hp) (hI.upd j hj hkp hn rfl fun M' _=>⟨_,(MapKept.heap_set hr1).1,List.Perm.refl _,fun y' hy'=>⟨seen,e,rfl,by cases hy';exact hz⟩⟩) (hI.updA (r':=T3 r b c es xs (some y) (I0 (es.toList.zip xs) (seen.push e.born))) j hj hkp hn))
   simp[execOp,ha.eval hx,g2]
theorem ASP [Fx] (j:Nat) {b r c:Nat} {es:Array MapEntry} {xs l:List (κ×α)} {y:κ×α} {x:Operand} (hI:Hp w0 Mu M σ w) (hm:RdX K E ag (mm σ M) w b es c xs) (hj:σ[j]?=some (T3 r b c es xs (some y) l))
  (hx:ev L x=some (.pointer (some ⟨r,0,none⟩))) (hN:Nat.blt d N=true)
  (h:∀ v,K.ok y.1->Vl E ag (mm σ M) w v y.2->Reg P N ops .seq rest ds ((d,.tuple #[K.val y.1,v]) :: L) w A B X Z) :
  Reg P N ops .seq (⟨some d,.entry x,ty,pos,af,none⟩ :: rest) ds L w A B X Z:=by
 obtain⟨_,hb,hs,hE⟩:=hm
 obtain⟨seen,hr,_,ho⟩:=hI.get j hj
 obtain⟨s0,e,rfl,hz⟩:=ho y rfl
 obtain⟨hk,hok,hv⟩:=hE.zip hz
 have h':=h e.val hok hv
 rw[<-hk] at h'
 refine O5 (.tuple #[e.key,e.val]) w rfl rfl hN (fun a ha=>?_) h'
 have:=run_entry_at (P:=P) w r b c s0 es c e hr hb (List.of_mem_zip hz).1 hs.1
 simp[execOp,ha.eval hx,this]
end
end Go.Sx
namespace Go.Sx
open Go Go.RowKit
variable [Trk]
open Classical in
noncomputable def AAV {κ α R:Type} (m:A4 κ α) (K:List (κ×α)->Option R):Option R:=if h:∃ r,∀ l,Lists m l->K l=some r then some h.choose else none
theorem AH3 {κ α R:Type} {m:A4 κ α} {K:List (κ×α)->Option R} {r:R} {l0:List (κ×α)} (h0:Lists m l0) (h:∀ l,Lists m l->K l=some r):AAV m K=some r:=by
 unfold AAV
 rw[dif_pos ⟨r,h⟩]
 have h1:=(⟨r,h⟩:∃ r,∀ l,Lists m l->K l=some r).choose_spec l0 h0
 rw[h l0 h0] at h1
 exact h1.symm
theorem AJp {κ α R S:Type} {m:A4 κ α} {body:S->κ×α->Option S} {s0:S} {rest:S->Option R} {r:R} (h:AAV m (fun l=>Option.bind (List.foldlM body s0 l) rest)=some r) {xs:List (κ×α)} (hL:Lists m xs) :
  ∃ B:S->κ×α->Option S,B=body/\∀ l:List (κ×α),l.Perm xs->∃ s,List.foldlM B s0 l=some s/\rest s=some r:=by
 refine⟨body,rfl,fun l hl=>?_⟩
 unfold AAV at h
 split at h
 . rename_i h1
   have h2:=h1.choose_spec l (hL.perm hl)
   rw[Option.some.inj h] at h2
   have h2:Option.bind (List.foldlM body s0 l) rest=some r:=h2
   cases hf:List.foldlM body s0 l with
   |none=>rw[hf] at h2;cases h2
   |some s=>rw[hf] at h2;exact⟨s,rfl,h2⟩
 . cases h
end Go.Sx
namespace Go.Sx
open Go Go.RowKit Go.ChangeMaps
variable [Trk]
theorem ADi {P:Program} {k:TypeId} (heq:∀ (w:World) {x y:Value} {lx ly:Lit},keyOf P k x=some lx->keyOf P k y=some ly->∃ r:Bool,(Op.equal k x y).run P w=.ok r w/\(r=true↔lx=ly)) {x:Value} {lx:Lit} (hx:keyOf P k x=some lx) :
  ∀ (es:List MapEntry) (i:Nat),(∀ e∈es,∃ l,keyOf P k e.key=some l) ->
   ((∀ w,(Instr.findAsking k x es i).run P w=.ok none w)/\∀ e∈es,keyOf P k e.key≠some lx) \/
   ∃ j e,(∀ w,(Instr.findAsking k x es i).run P w=.ok (some (i+j,e.val)) w)/\es[j]?=some e/\keyOf P k e.key=some lx
 |[],i,_=>Or.inl ⟨fun w=>by simp[Instr.findAsking],by simp⟩
 |e :: es,i,hall=>by
  obtain⟨l,hl⟩:=hall e (by simp)
  by_cases c:lx=l
  . refine .inr ⟨0,e,fun w=>?_,rfl,by rw[hl,c]⟩
    obtain⟨r,hr,hiff⟩:=heq w hx hl
    have:r=true:=hiff.2 c
    subst this
    simp[Instr.findAsking,hr]
  . have hr:∀ w,(Op.equal k x e.key).run P w=.ok false w:=fun w=>by
     obtain⟨r,hr,hiff⟩:=heq w hx hl
     have:r=false:=by
      cases r with
      |false=>rfl
      |true=>exact absurd (hiff.1 rfl) c
     subst this;exact hr
    rcases ADi heq hx es (i+1) (fun y hy=>hall y (by simp[hy])) with⟨h1,h2⟩|⟨j,e',h1,h2,h3⟩
    . refine .inl ⟨fun w=>by simp[Instr.findAsking,hr,h1],fun y hy=>?_⟩
      rcases List.mem_cons.1 hy with rfl|hy
      . rw[hl];exact fun h=>c (Option.some.inj h).symm
      . exact h2 y hy
    . exact .inr ⟨j+1,e',fun w=>by simp[Instr.findAsking,hr,h1,Nat.add_assoc,Nat.add_comm 1 j],by simpa using h2,h3⟩
def ASQ {P:Program} {kt:TypeId} {κ:Type} (hl:laidOutB P=true) {m:Nat} (hm:m+1<=10000) (hrow:kt < P.types.size) (hk:P.keyTypeAt m kt=true) (hwide:(match P.underlying kt with|some (.array _ _)|some (.struct _)=>true|_=>false)=true)
  (val:κ->Value) (ok:κ->Prop) (hv:∀ {a},ok a->∃ l,keyOf P kt (val a)=some l) (hi:∀ {a b:κ},ok a->ok b->val a=val b->a=b):Ky P kt κ where
 val:=val
 ok:=ok
 inj:=hi
 check:=fun ha w em=>by
  obtain⟨l,hl'⟩:=hv ha
  exact (deep_law_laid hl hm hrow hk hwide).check w em hl'
 find:=fun {a} ha es hes=>by
  obtain⟨l,hl'⟩:=hv ha
  have hall:∀ e∈es,∃ l,keyOf P kt e.key=some l:=fun e he=>by
   obtain⟨b,hb,h⟩:=hes e he
   rw[h];exact hv hb
  have hwf:∀ w,(Instr.findKey kt (val a) es).run P w=(Instr.findAsking kt (val a) es 0).run P w:=fun w=>run_findKey_eq w hwide _ _
  rcases ADi (fun w {_ _ _ _} h1 h2=>run_equal_deep w (by omega) hk hwide h1 h2) hl' es 0 hall with⟨h1,h2⟩|⟨j,e0,h1,h2,h3⟩
  . exact .inl ⟨fun w=>by rw[hwf];exact h1 w,fun y hy e1=>h2 y hy (by rw[e1];exact hl')⟩
  . exact .inr ⟨j,e0,fun w=>by rw[hwf];simpa using h1 w,h2,(deep_law_laid hl hm hrow hk hwide).inj h3 hl'⟩
 stays:=fun ha w=>by
  obtain⟨l,hl'⟩:=hv ha
  exact (deep_law_laid hl hm hrow hk hwide).stays w hl'
end Go.Sx
namespace Go.Sx
open Go Go.RowKit
section
variable [Trk]
variable {P:Program} {N:Nat} {ops:Array Oper} {q:Md} {rest:List Oper} {ds:List Deferred} {L:A7} {w:World} {A B:A3} {X:Nat->A3} {Z:List PanicEntry->A3} {d:Nat} {ty:TypeId} {pos:String} {af:Array Edge}
theorem ASR {t e:TypeId} {x y:Operand} {z v0 v1 z0 z1:Value} (hz:∀ w,(zeroValue t).run P w=.ok z w) (hzc:z.cells=#[z0,z1]) (ht:P.underlying t=some (.array 2 e)) (hs:∀ w,(sizeOf e).run P w=.ok 1 w) (hx:ev L x=some v0) (hy:ev L y=some v1) (h0:v0.cells=#[v0]) (h1:v1.cells=#[v1]) (hN:Nat.blt d N=true)
  (h:Reg P N ops q rest ds ((d,.agg [v0,v1].toArray) :: L) w A B X Z):Reg P N ops q (⟨some d,.build t #[(0,x),(1,y)],ty,pos,af,none⟩ :: rest) ds L w A B X Z:=by
 refine Reg.val (.agg [v0,v1].toArray) rfl rfl hN (fun a ha w' _=>?_) h
 simp[execOp,Instr.build,hz,hzc,run_underlying ht,hs,ha.eval hx,ha.eval hy,Instr.fill,h0,h1]
end
end Go.Sx
namespace Go.Sx
open Go Go.RowKit Go.ChangeMaps
open Classical in
noncomputable def AJq {κ α:Type} (f:A4 κ α):Int:=if h:∃ l,Lists f l then (h.choose.length:Int) else 0
theorem Lists.one {κ α:Type} {f:A4 κ α} {l l':List (κ×α)} (h:Lists f l) (h':Lists f l'):l.Perm l':=
 (List.perm_ext_iff_of_nodup ((List.pairwise_map.1 h.1).imp fun h e=>h (congrArg _ e)) ((List.pairwise_map.1 h'.1).imp fun h e=>h (congrArg _ e))).2 fun⟨a,y⟩=>(h.2 a y).trans (h'.2 a y).symm
theorem AQt {κ α:Type} {f:A4 κ α} {l:List (κ×α)} (h:Lists f l):AJq f=l.length:=by
 unfold AJq
 have hx:∃ l,Lists f l:=⟨l,h⟩
 rw[dif_pos hx]
 exact congrArg _ (hx.choose_spec.one h).length_eq
theorem AUn {P:Program} {t u:TypeId} {q:IntKind} (hu:P.underlying t=some (.array 2 u))
  (hk:P.underlying u=some (.int q)) (hc:P.cellsOf t=2) (hcu:P.cellsOf u=1) (hty:P.keyType t=true) (hsz:0 < P.types.size) {x y:Int} (hx:InK q x) (hy:InK q y):∃ l,keyOf P t (.agg (List.toArray [.int q x,.int q y]))=some l:=by
 have w1:∀ {z:Int},InK q z->(Lit.int q z).wf=true:=fun {z} h=>by simp only[Lit.wf,decide_eq_true_eq,Bool.and_eq_true];exact h
 have hl:∀ (n:Nat) {z:Int},InK q z->P.keyLits (n+1) u [.int q z]=some [.int q z]:=fun n {z} h=>by
  unfold Program.keyLits
  rw[hk];simp[w1 h]
 have hs:∀ n:Nat,P.keyLits (n+1+1) t [.int q x,.int q y]=some [.int q x,.int q y]:=fun n=>by
  unfold Program.keyLits
  rw[hu]
  have e0:((List.drop 0 [Value.int q x,Value.int q y]).take 1)=[Value.int q x]:=rfl
  have e1:((List.drop 1 [Value.int q x,Value.int q y]).take 1)=[Value.int q y]:=rfl
  have e2:List.range 2=[0,1]:=rfl
  simp[hc,hcu,e2,hl n hx,hl n hy]
 obtain⟨n,hn⟩:∃ n,P.types.size+1=n+1+1:=by
  refine⟨P.types.size - 1,?_⟩
  omega
 refine⟨.string (keyBytes [.int q x,.int q y]),?_⟩
 unfold keyOf
 rw[hu]
 have hf:(Value.agg (List.toArray [Value.int q x,Value.int q y])).formed P t=true:=by simp[Value.formed,hu,hc]
 simp only[hty,hf,Bool.and_self,if_true]
 rw[hn]
 show (P.keyLits (n+1+1) t [.int q x,.int q y]).map _=_
 rw[hs n];rfl
end Go.Sx
namespace Go.Sx
open Go Go.RowKit
variable [Trk]
theorem condF {α:Type} (a b:α):cond false a b=b:=(fun (h:cond false a b=b)=>h) (by cases a_eq:(0:Nat) <;> rfl)
theorem condT {α:Type} (a b:α):cond true a b=a:=(fun (h:cond true a b=a)=>h) (by cases a_eq:(0:Nat) <;> rfl)
theorem AHE {α:Type} {l:List α} {i:Nat} {y:α} (h:l[i]?=some y):ixo l (i:Int)=some y:=by rw[AQk];exact h
theorem X7 {α:Type} {b:Nat} {xs ys:List α} (h:(xs.length+ys.length) * b<=140737488355328) (h2:xs.length+ys.length<=140737488355328):appo b xs ys=some (xs++ys):=if_pos ⟨h,h2⟩
end Go.Sx
namespace Go.Sx
open Go Go.RowKit
variable [Trk]
def Ret {α:Type} (o:Option α) (Q:α->Prop):Prop:=∃ a,o=some a/\Q a
section
variable {α β S R:Type}
theorem Ret.val {o:Option α} {a:α} {Q:α->Prop} (h:o=some a) (q:Q a):Ret o Q:=⟨a,h,q⟩
theorem Ret.ok {a:α} {Q:α->Prop} (q:Q a):Ret (some a) Q:=⟨a,rfl,q⟩
theorem Ret.bind {o:Option α} {K:α->Option β} {Q:β->Prop} (h:Ret o fun a=>Ret (K a) Q):Ret (Option.bind o K) Q:=by
 obtain⟨a,h1,h2⟩:=h
 subst h1;exact h2
theorem Ret.mono {o:Option α} {Q Q':α->Prop} (h:Ret o Q) (hq:∀ a,Q a->Q' a):Ret o Q':=by
 obtain⟨a,h1,h2⟩:=h
 exact⟨a,h1,hq a h2⟩
theorem Ret.cond {b:Bool} {x y:Option α} {Q:α->Prop} (h1:b=true->Ret x Q) (h2:b=false->Ret y Q):Ret (cond b x y) Q:=by
 cases b with
 |true=>exact h1 rfl
 |false=>exact h2 rfl
theorem Ret.condT {b:Bool} {x y:Option α} {Q:α->Prop} (h:b=true) (h1:Ret x Q):Ret (_root_.cond b x y) Q:=by subst h;exact h1
theorem Ret.condF {b:Bool} {x y:Option α} {Q:α->Prop} (h:b=false) (h1:Ret y Q):Ret (_root_.cond b x y) Q:=by subst h;exact h1
theorem Ret.chk {x:Int} {Q:Int->Prop} (h:-9223372036854775808<=x/\x<=9223372036854775807) (q:Q x):Ret (chk .i64 x) Q:=⟨x,AQj h,q⟩
theorem Ret.ixo {l:List α} {i:Nat} {y:α} {Q:α->Prop} (h:l[i]?=some y) (q:Q y):Ret (ixo l (i:Int)) Q:=⟨y,AHE h,q⟩
theorem Ret.appo {b:Nat} {xs ys:List α} {Q:List α->Prop} (h:(xs.length+ys.length) * b<=140737488355328) (h2:xs.length+ys.length<=140737488355328) (q:Q (xs++ys)):Ret (appo b xs ys) Q:=⟨_,X7 h h2,q⟩
def Nxt (A:S->Prop) (Q:R->Prop):S⊕R->Prop
 |.inl s=>A s
 |.inr r=>Q r
theorem Ret.next {s:S} {A:S->Prop} {Q:R->Prop} (h:A s):Ret (some (.inl s)) (Nxt A Q):=⟨_,rfl,h⟩
theorem Ret.done {r:R} {A:S->Prop} {Q:R->Prop} (h:Q r):Ret (some (.inr r)) (Nxt A Q):=⟨_,rfl,h⟩
theorem C5 {γ:Type} {f:α->Option γ} {g:β->Option γ} {a:α} {Q:γ->Prop} (h:Ret (f a) Q):Ret (Sum.elim f g (.inl a)) Q:=h
theorem E1 {γ:Type} {f:α->Option γ} {g:β->Option γ} {b:β} {Q:γ->Prop} (h:Ret (g b) Q):Ret (Sum.elim f g (.inr b)) Q:=h
theorem Ret.loop {body:S->Option (S⊕R)} {s0:S} {Q:R->Prop} (I:S->Prop) (μ:S->Nat) (h0:I s0) (step:∀ s,I s->Ret (body s) (Nxt (fun s'=>I s'/\μ s' < μ s) Q)):Ret (B8 body s0) Q:=by
 have key:∀ (n:Nat) (s:S),μ s<=n->I s->Ret (B8 body s) Q:=by
  intro n
  induction n with
  |zero=>
   intro s hn hs
   obtain⟨r,h1,h2⟩:=step s hs
   cases r with
   |inl s'=>have:=h2.2;omega
   |inr r=>exact⟨r,AC4 h1,h2⟩
  |succ n ih=>
   intro s hn hs
   obtain⟨r,h1,h2⟩:=step s hs
   cases r with
   |inl s'=>rw[AJc h1];exact ih s' (by have:=h2.2;omega) h2.1
   |inr r=>exact⟨r,AC4 h1,h2⟩
 exact key _ s0 (Nat.le_refl _) h0
end
end Go.Sx
namespace Go.Sx
open Go Go.RowKit
variable [Trk]
theorem CallsV.go {P:Program} {w:World} {g:Nat} {caps args all:List Value} {R R':Ending->World->Prop} (h2:∀ args w,(callFunc g args).run P w=.ok (.enter g args) w) (he:args++caps=all) (h3:Calls P g all.toArray w R) (hr:∀ e w',R e w'->R' e w'):CallsV P (.func (.func g) #[] caps.toArray) args w R':=(CallsV.ofL h2 he h3).mono hr
section
variable {P:Program} {N:Nat} {ops:Array Oper} {q:Md} {rest:List Oper} {ds:List Deferred} {L:A7} {w:World} {A B:A3} {X:Nat->A3} {Z:List PanicEntry->A3}
variable {w0:World} {Mu M:List Nat} {σ:List Res}
theorem Hp.lendC [Fx] (h:Hp w0 Mu M σ w) (l:List Nat) (i:Nat) {e b:Nat} {cs:List Value} (hl:l.contains i=false) (hi:σ[i]?=some (rowR e b cs)):RdC (mm (Sx.sel σ l) M) w b 0 cs:=by
 refine G8 (fun hb'=>?_) (h.row i hi)
 have hbf:b∈(rowR e b cs).fp:=by simp[rowR]
 rcases mem_mm.1 hb' with⟨s,hs,hb'⟩|hb'
 . obtain⟨j,hj,hs⟩:=X6 hs
   refine h.dis i j _ s hi hs (fun e=>?_) b hbf hb'
   subst e
   simp at hl;exact hl hj
 . exact h.sepM _ (List.mem_of_getElem? hi) b hbf hb'
end
end Go.Sx
namespace Go.Proofs
open Go.Shelf
def AE7:Go.Shelf.Ren:=⟨fun|6=>93|15=>123|14=>127|28=>144|29=>145|20=>148|21=>149|22=>150|23=>151|24=>152|25=>153|26=>154|27=>155|46=>174|47=>167|48=>168|49=>175|50=>176|57=>183|n=>n,fun|22=>25|24=>53|25=>177|3=>3|39=>199|0=>0|53=>82|55=>217|4=>4|46=>210|45=>209|50=>75|5=>5|9=>9|66=>230|70=>234|76=>241|77=>242|n=>n,fun|n=>n⟩
theorem AH4:Go.Proofs.SlLaysF0.n6 Tryz.prog AE7:={
 mixed:=by kernel_rfl
 f6:=⟨Tryz.f93.name,by decide,Tryz.func93.trans (congrArg some (by kernel_rfl))⟩
 f14:=⟨Tryz.f127.name,by decide,Tryz.func127.trans (congrArg some (by kernel_rfl))⟩
 f15:=Tryz.func123.trans (congrArg some (by kernel_rfl))
 f20:=⟨Tryz.f148.name,by decide,Tryz.func148.trans (congrArg some (by kernel_rfl))⟩
 f21:=⟨Tryz.f149.name,by decide,Tryz.func149.trans (congrArg some (by kernel_rfl))⟩
 f22:=⟨Tryz.f150.name,by decide,Tryz.func150.trans (congrArg some (by kernel_rfl))⟩
 f23:=⟨Tryz.f151.name,by decide,Tryz.func151.trans (congrArg some (by kernel_rfl))⟩
 f24:=⟨Tryz.f152.name,by decide,Tryz.func152.trans (congrArg some (by kernel_rfl))⟩
 f25:=⟨Tryz.f153.name,by decide,Tryz.func153.trans (congrArg some (by kernel_rfl))⟩
 f26:=⟨Tryz.f154.name,by decide,Tryz.func154.trans (congrArg some (by kernel_rfl))⟩
 f27:=⟨Tryz.f155.name,by decide,Tryz.func155.trans (congrArg some (by kernel_rfl))⟩
 f28:=Tryz.func144.trans (congrArg some (by kernel_rfl))
 f29:=Tryz.func145.trans (congrArg some (by kernel_rfl))
 f46:=⟨Tryz.f174.name,by decide,Tryz.func174.trans (congrArg some (by kernel_rfl))⟩
 f47:=Tryz.func167.trans (congrArg some (by kernel_rfl))
 f48:=Tryz.func168.trans (congrArg some (by kernel_rfl))
 f49:=⟨Tryz.f175.name,by decide,Tryz.func175.trans (congrArg some (by kernel_rfl))⟩
 f50:=⟨Tryz.f176.name,by decide,Tryz.func176.trans (congrArg some (by kernel_rfl))⟩
 f57:=⟨Tryz.f183.name,by decide,Tryz.func183.trans (congrArg some (by kernel_rfl))⟩
 t0:=Tryz.underlying0
 a0:=Tryz.isAgg0
 z0:=Tryz.sizeOf0
 v0:=Tryz.zeroValue0
 t3:=Tryz.underlying3
 a3:=Tryz.isAgg3
 z3:=Tryz.sizeOf3
 v3:=Tryz.zeroValue3
 t4:=Tryz.underlying4
 a4:=Tryz.isAgg4
 z4:=Tryz.sizeOf4
 v4:=Tryz.zeroValue4
 t5:=Tryz.underlying5
 a5:=Tryz.isAgg5
 z5:=Tryz.sizeOf5
 v5:=Tryz.zeroValue5
 t9:=Tryz.underlying9
 a9:=Tryz.isAgg9
 z9:=Tryz.sizeOf9
 v9:=Tryz.zeroValue9
 t22:=Tryz.underlying25
 a22:=Tryz.isAgg25
 z22:=Tryz.sizeOf25
 v22:=Tryz.zeroValue25
 t25:=Tryz.underlying177
 a25:=Tryz.isAgg177
 z25:=Tryz.sizeOf177
 v25:=Tryz.zeroValue177
 t39:=Tryz.underlying199
 a39:=Tryz.isAgg199
 z39:=Tryz.sizeOf199
 v39:=Tryz.zeroValue199
 t45:=Tryz.underlying209
 a45:=Tryz.isAgg209
 z45:=Tryz.sizeOf209
 v45:=Tryz.zeroValue209
 t46:=Tryz.underlying210
 a46:=Tryz.isAgg210
 z46:=Tryz.sizeOf210
 v46:=Tryz.zeroValue210
 t50:=Tryz.underlying75
 a50:=Tryz.isAgg75
 z50:=Tryz.sizeOf75
 v50:=Tryz.zeroValue75
 t53:=Tryz.underlying82
 a53:=Tryz.isAgg82
 z53:=Tryz.sizeOf82
 v53:=Tryz.zeroValue82
 t55:=Tryz.underlying217
 a55:=Tryz.isAgg217
 z55:=Tryz.sizeOf217
 v55:=Tryz.zeroValue217
 t66:=Tryz.underlying230
 a66:=Tryz.isAgg230
 z66:=Tryz.sizeOf230
 v66:=Tryz.zeroValue230
 t70:=Tryz.underlying234
 a70:=Tryz.isAgg234
 z70:=Tryz.sizeOf234
 v70:=Tryz.zeroValue234
 t76:=Tryz.underlying241
 a76:=Tryz.isAgg241
 z76:=Tryz.sizeOf241
 v76:=Tryz.zeroValue241
 t77:=Tryz.underlying242
 a77:=Tryz.isAgg242
 z77:=Tryz.sizeOf242
 v77:=Tryz.zeroValue242 }
def AEw:Go.Shelf.Ren:=⟨fun|6=>118|15=>123|14=>135|28=>144|29=>145|20=>158|21=>159|22=>160|23=>161|24=>162|25=>163|26=>164|27=>165|46=>178|47=>167|48=>168|49=>179|50=>180|57=>184|n=>n,fun|22=>24|24=>45|25=>193|3=>3|39=>199|0=>0|53=>82|55=>217|4=>4|46=>210|45=>209|50=>75|5=>5|9=>9|66=>230|70=>234|76=>241|77=>242|n=>n,fun|n=>n⟩
theorem AC7:Go.Proofs.SlLaysF0.n6 Tryz.prog AEw:={
 mixed:=by kernel_rfl
 f6:=⟨Tryz.f118.name,by decide,Tryz.func118.trans (congrArg some (by kernel_rfl))⟩
 f14:=⟨Tryz.f135.name,by decide,Tryz.func135.trans (congrArg some (by kernel_rfl))⟩
 f15:=Tryz.func123.trans (congrArg some (by kernel_rfl))
 f20:=⟨Tryz.f158.name,by decide,Tryz.func158.trans (congrArg some (by kernel_rfl))⟩
 f21:=⟨Tryz.f159.name,by decide,Tryz.func159.trans (congrArg some (by kernel_rfl))⟩
 f22:=⟨Tryz.f160.name,by decide,Tryz.func160.trans (congrArg some (by kernel_rfl))⟩
 f23:=⟨Tryz.f161.name,by decide,Tryz.func161.trans (congrArg some (by kernel_rfl))⟩
 f24:=⟨Tryz.f162.name,by decide,Tryz.func162.trans (congrArg some (by kernel_rfl))⟩
 f25:=⟨Tryz.f163.name,by decide,Tryz.func163.trans (congrArg some (by kernel_rfl))⟩
 f26:=⟨Tryz.f164.name,by decide,Tryz.func164.trans (congrArg some (by kernel_rfl))⟩
 f27:=⟨Tryz.f165.name,by decide,Tryz.func165.trans (congrArg some (by kernel_rfl))⟩
 f28:=Tryz.func144.trans (congrArg some (by kernel_rfl))
 f29:=Tryz.func145.trans (congrArg some (by kernel_rfl))
 f46:=⟨Tryz.f178.name,by decide,Tryz.func178.trans (congrArg some (by kernel_rfl))⟩
 f47:=Tryz.func167.trans (congrArg some (by kernel_rfl))
 f48:=Tryz.func168.trans (congrArg some (by kernel_rfl))
 f49:=⟨Tryz.f179.name,by decide,Tryz.func179.trans (congrArg some (by kernel_rfl))⟩
 f50:=⟨Tryz.f180.name,by decide,Tryz.func180.trans (congrArg some (by kernel_rfl))⟩
 f57:=⟨Tryz.f184.name,by decide,Tryz.func184.trans (congrArg some (by kernel_rfl))⟩
 t0:=Tryz.underlying0
 a0:=Tryz.isAgg0
 z0:=Tryz.sizeOf0
 v0:=Tryz.zeroValue0
 t3:=Tryz.underlying3
 a3:=Tryz.isAgg3
 z3:=Tryz.sizeOf3
 v3:=Tryz.zeroValue3
 t4:=Tryz.underlying4
 a4:=Tryz.isAgg4
 z4:=Tryz.sizeOf4
 v4:=Tryz.zeroValue4
 t5:=Tryz.underlying5
 a5:=Tryz.isAgg5
 z5:=Tryz.sizeOf5
 v5:=Tryz.zeroValue5
 t9:=Tryz.underlying9
 a9:=Tryz.isAgg9
 z9:=Tryz.sizeOf9
 v9:=Tryz.zeroValue9
 t22:=Tryz.underlying24
 a22:=Tryz.isAgg24
 z22:=Tryz.sizeOf24
 v22:=Tryz.zeroValue24
 t25:=Tryz.underlying193
 a25:=Tryz.isAgg193
 z25:=Tryz.sizeOf193
 v25:=Tryz.zeroValue193
 t39:=Tryz.underlying199
 a39:=Tryz.isAgg199
 z39:=Tryz.sizeOf199
 v39:=Tryz.zeroValue199
 t45:=Tryz.underlying209
 a45:=Tryz.isAgg209
 z45:=Tryz.sizeOf209
 v45:=Tryz.zeroValue209
 t46:=Tryz.underlying210
 a46:=Tryz.isAgg210
 z46:=Tryz.sizeOf210
 v46:=Tryz.zeroValue210
 t50:=Tryz.underlying75
 a50:=Tryz.isAgg75
 z50:=Tryz.sizeOf75
 v50:=Tryz.zeroValue75
 t53:=Tryz.underlying82
 a53:=Tryz.isAgg82
 z53:=Tryz.sizeOf82
 v53:=Tryz.zeroValue82
 t55:=Tryz.underlying217
 a55:=Tryz.isAgg217
 z55:=Tryz.sizeOf217
 v55:=Tryz.zeroValue217
 t66:=Tryz.underlying230
 a66:=Tryz.isAgg230
 z66:=Tryz.sizeOf230
 v66:=Tryz.zeroValue230
 t70:=Tryz.underlying234
 a70:=Tryz.isAgg234
 z70:=Tryz.sizeOf234
 v70:=Tryz.zeroValue234
 t76:=Tryz.underlying241
 a76:=Tryz.isAgg241
 z76:=Tryz.sizeOf241
 v76:=Tryz.zeroValue241
 t77:=Tryz.underlying242
 a77:=Tryz.isAgg242
 z77:=Tryz.sizeOf242
 v77:=Tryz.zeroValue242 }
def AE8:Go.Shelf.Ren:=⟨fun|6=>86|15=>123|14=>122|28=>144|29=>145|20=>136|21=>137|22=>138|23=>139|24=>140|25=>141|26=>142|27=>143|46=>166|47=>167|48=>168|49=>169|50=>170|57=>181|n=>n,fun|22=>37|24=>70|25=>170|3=>3|39=>199|0=>0|53=>82|55=>217|4=>4|46=>210|45=>209|50=>75|5=>5|9=>9|66=>230|70=>234|76=>241|77=>242|n=>n,fun|n=>n⟩
theorem AH5:Go.Proofs.SlLaysF0.n6 Tryz.prog AE8:={
 mixed:=by kernel_rfl
 f6:=⟨Tryz.f86.name,by decide,Tryz.func86.trans (congrArg some (by kernel_rfl))⟩
 f14:=⟨Tryz.f122.name,by decide,Tryz.func122.trans (congrArg some (by kernel_rfl))⟩
 f15:=Tryz.func123.trans (congrArg some (by kernel_rfl))
 f20:=⟨Tryz.f136.name,by decide,Tryz.func136.trans (congrArg some (by kernel_rfl))⟩
 f21:=⟨Tryz.f137.name,by decide,Tryz.func137.trans (congrArg some (by kernel_rfl))⟩
 f22:=⟨Tryz.f138.name,by decide,Tryz.func138.trans (congrArg some (by kernel_rfl))⟩
 f23:=⟨Tryz.f139.name,by decide,Tryz.func139.trans (congrArg some (by kernel_rfl))⟩
 f24:=⟨Tryz.f140.name,by decide,Tryz.func140.trans (congrArg some (by kernel_rfl))⟩
 f25:=⟨Tryz.f141.name,by decide,Tryz.func141.trans (congrArg some (by kernel_rfl))⟩
 f26:=⟨Tryz.f142.name,by decide,Tryz.func142.trans (congrArg some (by kernel_rfl))⟩
 f27:=⟨Tryz.f143.name,by decide,Tryz.func143.trans (congrArg some (by kernel_rfl))⟩
 f28:=Tryz.func144.trans (congrArg some (by kernel_rfl))
 f29:=Tryz.func145.trans (congrArg some (by kernel_rfl))
 f46:=⟨Tryz.f166.name,by decide,Tryz.func166.trans (congrArg some (by kernel_rfl))⟩
 f47:=Tryz.func167.trans (congrArg some (by kernel_rfl))
 f48:=Tryz.func168.trans (congrArg some (by kernel_rfl))
 f49:=⟨Tryz.f169.name,by decide,Tryz.func169.trans (congrArg some (by kernel_rfl))⟩
 f50:=⟨Tryz.f170.name,by decide,Tryz.func170.trans (congrArg some (by kernel_rfl))⟩
 f57:=⟨Tryz.f181.name,by decide,Tryz.func181.trans (congrArg some (by kernel_rfl))⟩
 t0:=Tryz.underlying0
 a0:=Tryz.isAgg0
 z0:=Tryz.sizeOf0
 v0:=Tryz.zeroValue0
 t3:=Tryz.underlying3
 a3:=Tryz.isAgg3
 z3:=Tryz.sizeOf3
 v3:=Tryz.zeroValue3
 t4:=Tryz.underlying4
 a4:=Tryz.isAgg4
 z4:=Tryz.sizeOf4
 v4:=Tryz.zeroValue4
 t5:=Tryz.underlying5
 a5:=Tryz.isAgg5
 z5:=Tryz.sizeOf5
 v5:=Tryz.zeroValue5
 t9:=Tryz.underlying9
 a9:=Tryz.isAgg9
 z9:=Tryz.sizeOf9
 v9:=Tryz.zeroValue9
 t22:=Tryz.underlying37
 a22:=Tryz.isAgg37
 z22:=Tryz.sizeOf37
 v22:=Tryz.zeroValue37
 t25:=Tryz.underlying170
 a25:=Tryz.isAgg170
 z25:=Tryz.sizeOf170
 v25:=Tryz.zeroValue170
 t39:=Tryz.underlying199
 a39:=Tryz.isAgg199
 z39:=Tryz.sizeOf199
 v39:=Tryz.zeroValue199
 t45:=Tryz.underlying209
 a45:=Tryz.isAgg209
 z45:=Tryz.sizeOf209
 v45:=Tryz.zeroValue209
 t46:=Tryz.underlying210
 a46:=Tryz.isAgg210
 z46:=Tryz.sizeOf210
 v46:=Tryz.zeroValue210
 t50:=Tryz.underlying75
 a50:=Tryz.isAgg75
 z50:=Tryz.sizeOf75
 v50:=Tryz.zeroValue75
 t53:=Tryz.underlying82
 a53:=Tryz.isAgg82
 z53:=Tryz.sizeOf82
 v53:=Tryz.zeroValue82
 t55:=Tryz.underlying217
 a55:=Tryz.isAgg217
 z55:=Tryz.sizeOf217
 v55:=Tryz.zeroValue217
 t66:=Tryz.underlying230
 a66:=Tryz.isAgg230
 z66:=Tryz.sizeOf230
 v66:=Tryz.zeroValue230
 t70:=Tryz.underlying234
 a70:=Tryz.isAgg234
 z70:=Tryz.sizeOf234
 v70:=Tryz.zeroValue234
 t76:=Tryz.underlying241
 a76:=Tryz.isAgg241
 z76:=Tryz.sizeOf241
 v76:=Tryz.zeroValue241
 t77:=Tryz.underlying242
 a77:=Tryz.isAgg242
 z77:=Tryz.sizeOf242
 v77:=Tryz.zeroValue242 }
end Go.Proofs
namespace Go.Sx
open Go Go.RowKit Go.WideShapes
variable [Trk]
def I1 (P:Program) (t:TypeId) {α:Type} (E:Enc α):Prop:=
 ∀ (H:Type) (enc:TypeId×Value->H) (w:World) (n:Nat) (cs:List Value) (x:DataW H×List MemPlace),DataW.trod enc P w 0 (fun _=>true) true n t cs=some x->∃ a,E.R [] w cs a
theorem AJr {k:IntKind} {n:Int} (h:(Lit.int k n).wf=true):InK k n:=by
 simpa[Lit.wf,InK] using h
theorem AHF {P:Program} {t:TypeId} {k:IntKind} (ht:P.underlying t=some (.int k)):I1 P t (B3 k):=fun H enc w n cs x h=>by
 obtain⟨r,e1,_,hw⟩:=DataW.trod_int ht h
 exact⟨r,e1,AJr hw⟩
theorem AAG {P:Program} {t:TypeId} {α β:Type} {f:β->α} {E:Enc α} (g:α->β) (hg:∀ a,f (g a)=a) (B:I1 P t E):I1 P t (Q2 f E):=fun H enc w n cs x h=>by
 obtain⟨a,ha⟩:=B H enc w n cs x h
 exact⟨g a,by show E.R [] w cs (f (g a));rw[hg];exact ha⟩
theorem AA7 {P:Program} {t e:TypeId} {α:Type} {E:Enc α} (ht:P.underlying t=some (.slice e)) (hc:P.cellsOf e=E.n) (B:I1 P e E):I1 P t (E0 E):=fun H enc w n cs x h=>by
 rcases Go.Deep.open_slice ht h with⟨rfl,_⟩|⟨a,len,cap,m,k,D,Pl,rfl,hb,hl,hm,hmm,_,hel⟩
 . exact⟨[],.slice none 0 0,rfl,RdS.nil _ _ _⟩
 . simp only[if_true] at hmm
   rw[hmm] at hel
   have hx:∀ i,∃ y:Option α,i < len->∃ cs' a',y=some a'/\E.R [] w cs' a'/\w.cells? 0 (a.add (i * P.cellsOf e)) (P.cellsOf e)=some cs':=fun i=>by
    by_cases hi:i < len
    . obtain⟨cs',h1,h2⟩:=hel i (by omega)
      obtain⟨a',ha⟩:=B H enc w k cs' _ h2
      exact⟨some a',fun _=>⟨cs',a',rfl,ha,h1⟩⟩
    . exact⟨none,fun h=>absurd h hi⟩
   by_cases h0:len=0
   . subst h0
     exact⟨[],.slice (some a) 0 cap,rfl,some a,cap,rfl,Nat.zero_le _,hm,.inl rfl⟩
   have hlist:∃ xs:List α,xs.length=len/\∀ i (hi:i < xs.length),∃ cs',E.R [] w cs' xs[i]/\w.cells? 0 (a.add (i * P.cellsOf e)) (P.cellsOf e)=some cs':=by
    have h1:∀ i (hi:i < len),∃ a',∃ cs',E.R [] w cs' a'/\w.cells? 0 (a.add (i * P.cellsOf e)) (P.cellsOf e)=some cs':=fun i hi=>by
     obtain⟨y,hy⟩:=hx i
     obtain⟨cs',a',_,h2,h3⟩:=hy hi
     exact⟨a',cs',h2,h3⟩
    refine⟨List.ofFn fun i:Fin len=>(h1 i.1 i.2).choose,by simp,fun i hi=>?_⟩
    have hi':i < len:=by simpa using hi
    simpa using (h1 i hi').choose_spec
   obtain⟨xs,hxl,hxs⟩:=hlist
   have hpos:=E.pos
   have hspot:∃ b o,a=⟨b,o,none⟩:=by
    obtain⟨cs',hR,hcc⟩:=hxs 0 (by omega)
    obtain⟨_,hlen,hcell⟩:=World.cells?_some hcc
    have hn:=E.len hR
    have h00:=hcell 0 (by omega)
    rw[Nat.zero_mul] at h00
    have ha:(a.add 0).add 0=a:=by simp[Addr.add]
    rw[ha,List.getElem?_eq_getElem (by omega)] at h00
    obtain⟨b,o,s⟩:=a
    have hs:s=none:=World.cell?_spot h00
    exact⟨b,o,by rw[hs]⟩
   obtain⟨b,o,rfl⟩:=hspot
   have hlt:b < w.heap.size:=by
    obtain⟨cs',hR,hcc⟩:=hxs 0 (by omega)
    obtain⟨_,hlen,hcell⟩:=World.cells?_some hcc
    have hn:=E.len hR
    have h00:=hcell 0 (by omega)
    rw[List.getElem?_eq_getElem (by omega)] at h00
    have:=AFb h00
    simpa[add_none] using this
   refine⟨xs,.slice (some ⟨b,o,none⟩) len cap,rfl,some ⟨b,o,none⟩,cap,by rw[hxl],by omega,hm,.inr ⟨b,o,rfl,by simp,hlt,fun i hi=>?_⟩⟩
   obtain⟨cs',hR,hcc⟩:=hxs i hi
   obtain⟨_,hlen,hcell⟩:=World.cells?_some hcc
   refine⟨cs',hR,fun j u hj=>?_⟩
   have hjl:j < P.cellsOf e:=by
    rcases Nat.lt_or_ge j cs'.length with h|h
    . omega
    . simp[List.getElem?_eq_none h] at hj
   have:=hcell j hjl
   rw[add_none,add_none,hj,hc] at this
   exact this
def AFf (P:Program) (N:Nat) (fs:List Field) {α:Type} (E:Enc α):Prop:=
 ∀ (H:Type) (enc:TypeId×Value->H) (w:World) (cs:List Value),cs.length=N ->
  (∀ f∈fs,∃ (n:Nat) (x:DataW H×List MemPlace),DataW.trod enc P w 0 (fun _=>true) true n f.type ((cs.drop f.offset).take (P.cellsOf f.type))=some x) ->
  ∃ a,E.R [] w (cs.drop ((fs.head?.map (·.offset)).getD 0)) a
theorem ACO {P:Program} {N:Nat} {f:Field} {α:Type} {E:Enc α} (B:I1 P f.type E) (hN:f.offset+P.cellsOf f.type=N):AFf P N [f] E:=fun H enc w cs hl h=>by
 obtain⟨n,x,hx⟩:=h f (by simp)
 have:(cs.drop f.offset).take (P.cellsOf f.type)=cs.drop f.offset:=List.take_of_length_le (by rw[List.length_drop];omega)
 rw[this] at hx
 exact B H enc w n _ x hx
theorem F1 {P:Program} {N:Nat} {f g:Field} {r:List Field} {α β:Type} {E:Enc α} {F:Enc β} (B:I1 P f.type E) (hN:f.offset+P.cellsOf f.type=g.offset) (R:AFf P N (g :: r) F):AFf P N (f :: g :: r) (B2 E F):=
 fun H enc w cs hl h=>by
  obtain⟨n,x,hx⟩:=h f (by simp)
  obtain⟨a,ha⟩:=B H enc w n _ x hx
  obtain⟨b,hb⟩:=R H enc w cs hl fun f' hf'=>h f' (List.mem_cons_of_mem _ hf')
  refine⟨(a,b),(cs.drop f.offset).take (P.cellsOf f.type),cs.drop g.offset,?_,ha,hb⟩
  show cs.drop f.offset=_
  rw[<-hN,<-List.drop_drop,List.take_append_drop]
theorem Q8 {P:Program} {t:TypeId} {f:Field} {r:List Field} {α:Type} {E:Enc α} (ht:P.underlying t=some (.struct (f :: r).toArray)) (h0:f.offset=0) (F:AFf P (P.cellsOf t) (f :: r) E):I1 P t E:=fun H enc w n cs x h=>by
 obtain⟨xs,m,_,_,hl,hlen,hf⟩:=DataW.trod_struct ht h
 obtain⟨a,ha⟩:=F H enc w cs hl fun g hg=>by
  obtain⟨i,hi,rfl⟩:=List.getElem_of_mem hg
  have hi':i < xs.length:=by rw[hlen];simpa using hi
  have:=hf i (f :: r)[i] (by simp[List.getElem?_eq_getElem hi])
  rw[List.getElem?_eq_getElem hi'] at this
  exact⟨m,_,this⟩
 exact⟨a,by simpa[h0] using ha⟩
theorem ACd {P:Program} {t:TypeId} {α:Type} {E:Enc α} (B:I1 P t E) {H:Type} {enc:TypeId×Value->H} {w:World} {v:Value} {d:DataW H} {p:List MemPlace} (h:DataW.Trod enc P w 0 (fun _=>true) true t v d p):∃ a,E.R [] w v.cells.toList a:=by
 obtain⟨n,hn⟩:=h
 exact B H enc w n _ _ hn
end Go.Sx
namespace Go.Proofs
open Go.Shelf
def AGQ:Go.Shelf.Ren:=⟨fun|4=>120|n=>n,fun|22=>24|25=>45|3=>3|4=>4|9=>9|20=>20|0=>0|n=>n,fun|n=>n⟩
theorem AE9:Go.Proofs.Lays8.n4 Tryz.prog AGQ:={
 mixed:=by kernel_rfl
 f4:=⟨Tryz.f120.name,by decide,Tryz.func120.trans (congrArg some (by kernel_rfl))⟩
 t0:=Tryz.underlying0
 a0:=Tryz.isAgg0
 z0:=Tryz.sizeOf0
 v0:=Tryz.zeroValue0
 t3:=Tryz.underlying3
 a3:=Tryz.isAgg3
 z3:=Tryz.sizeOf3
 v3:=Tryz.zeroValue3
 t4:=Tryz.underlying4
 a4:=Tryz.isAgg4
 z4:=Tryz.sizeOf4
 v4:=Tryz.zeroValue4
 t9:=Tryz.underlying9
 a9:=Tryz.isAgg9
 z9:=Tryz.sizeOf9
 v9:=Tryz.zeroValue9
 t20:=Tryz.underlying20
 a20:=Tryz.isAgg20
 z20:=Tryz.sizeOf20
 v20:=Tryz.zeroValue20
 t22:=Tryz.underlying24
 a22:=Tryz.isAgg24
 z22:=Tryz.sizeOf24
 v22:=Tryz.zeroValue24 }
end Go.Proofs
