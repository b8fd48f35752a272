/-
  Part DisputeExamples 1 of the texts that the statement's proof stands on: what memory holds, how code is walked, what the functions reckon. In the order in which they build.
-/
import Derived.WalkKit
import Derived.Deep.Quiet
import Derived.Orders
import Derived.Laws.MakeOwn
import Derived.Maps.Own
open List (getElem?_append_left mem_append mem_cons mem_cons_of_mem mem_cons_self mem_map mem_of_getElem? mem_singleton replicate)
open Nat (beq blt le_trans lt_of_lt_of_le)
set_option linter.unusedVariables false
set_option linter.unusedSectionVars false
noncomputable section
namespace Go
abbrev AXz:=@Option.some.inj
abbrev AX0:=@mem_cons_of_mem
abbrev AX1:=@mem_of_getElem?
abbrev AX2:=@List.mem_append_left
abbrev AX3:=@List.mem_append_right
abbrev AX4:=@mem_cons_self
abbrev AX5:=@Nat.eq_of_beq_eq_true
abbrev AX6:=@of_decide_eq_true
abbrev AX7:=@List.getElem?_eq_getElem
abbrev AX8:=@decide_eq_false
abbrev AX9:=@congrArg
abbrev AYA:=@decide_eq_true
abbrev AYB:=@if_pos
abbrev AYC:=@List.getElem?_eq_none
abbrev AYD:=@of_decide_eq_false
abbrev AYE:=@Nat.le_refl
abbrev AYF:=@Nat.lt_or_ge
abbrev AYG:=@le_trans
abbrev AYH:=@lt_of_lt_of_le
abbrev AYI:=@List.map_append
abbrev AYJ:=@List.getElem_mem
abbrev AYK:=@List.eraseIdx_sublist
abbrev AYL:=@List.take_length
abbrev AYM:=@List.map_cons
abbrev AYN:=@List.length_append
abbrev AYO:=@List.append_nil
abbrev AYP:=@getElem?_append_left
abbrev AYQ:=@Nat.zero_add
abbrev AYR:=@List.nil_append
abbrev AYS:=@mem_cons
abbrev AYT:=@Nat.le_of_ble_eq_true
abbrev AYU:=@List.append_assoc
abbrev AYV:=@Option.map_some
abbrev AYW:=@List.getElem?_of_mem
abbrev AYX:=@List.getElem?_append_right
abbrev AYY:=@mem_append
abbrev AYZ:=@List.length_map
abbrev AYa:=@List.getElem?_take
abbrev AYb:=@List.not_mem_nil
abbrev AYc:=@List.getElem?_map
abbrev AYd:=@List.attach_map_subtype_val
abbrev AYe:=@List.map_map
abbrev AYf:=@List.length_singleton
abbrev AYg:=@List.getElem?_set_ne
abbrev AYh:=@Nat.zero_le
abbrev AYi:=@List.mem_map_of_mem
abbrev AYj:=@List.length_take
abbrev AYk:=@List.take_of_length_le
abbrev AYl:=@Nat.add_mul
abbrev AYm:=@List.filter_sublist
abbrev AYn:=@Option.getD_some
abbrev AYo:=@List.perm_ext_iff_of_nodup
abbrev AYp:=@List.drop_eq_nil_of_le
abbrev AYq:=@Array.getElem?_eq_none
abbrev AYr:=@List.ext_getElem?
abbrev AYs:=@Nat.add_assoc
abbrev AYt:=@List.pairwise_iff_getElem
abbrev AYu:=@List.getElem?_drop
abbrev AYv:=@List.filter_cons
abbrev AYw:=@List.eq_nil_of_length_eq_zero
abbrev AYx:=@List.cons_append
abbrev AYy:=@Nat.mul_le_mul_right
abbrev AYz:=@Nat.add_sub_cancel_left
abbrev AY0:=@Array.getD_eq_getD_getElem?
abbrev AY1:=@Option.bind_some
abbrev AY2:=@List.foldlM_append
abbrev AY3:=@Array.getElem?_eq_getElem
abbrev AY4:=@List.length_nil
abbrev AY5:=@Array.length_toList
abbrev AY6:=@List.length_cons
abbrev AY7:=@List.foldlM_cons
abbrev AY8:=@List.getElem?_set_self
abbrev AY9:=@List.length_filter_le
abbrev AZA:=@Array.getElem?_toList
abbrev AZB:=@List.pairwise_map
abbrev AZC:=@List.mem_of_mem_take
abbrev AZD:=@List.nodup_nil
abbrev AZE:=@List.mem_or_eq_of_mem_set
abbrev AZF:=@List.mem_of_find?_eq_some
abbrev AZG:=@List.Perm.refl
abbrev AZH:=@List.nodup_range
abbrev AZI:=@List.drop_append
abbrev AZJ:=@List.all_eq_true
abbrev AZK:=@List.getElem_of_mem
abbrev AZL:=@mem_map
abbrev AZM:=@Nat.min_eq_left
abbrev AZN:=@List.pairwise_singleton
abbrev AZO:=@List.getElem?_cons_succ
abbrev AZP:=@List.all_cons
abbrev AZQ:=@List.getElem?_eraseIdx
abbrev AZR:=@Nat.blt_eq
abbrev AZS:=@List.getElem?_set
abbrev AZT:=@List.getElem?_toArray
abbrev AZU:=@List.Sublist.map
abbrev AZV:=@Option.bind_eq_bind
abbrev AZW:=@List.drop_eq_getElem_cons
abbrev AZX:=@Classical.byContradiction
abbrev AZY:=@Nat.one_mul
abbrev AZZ:=@Nat.le_mul_of_pos_right
abbrev AZa:=@Nat.lt_succ_self
abbrev AZb:=@List.take_append
abbrev AZc:=@List.any_eq_true
abbrev AZd:=@List.pairwise_lt_range
abbrev AZe:=@Nat.ble_eq_true_of_le
abbrev AZf:=@List.singleton_append
abbrev AZg:=@List.length_set
abbrev AZh:=@List.find?_some
abbrev AZi:=@Array.getElem?_modify
abbrev AZj:=@List.contains_eq_mem
abbrev AZk:=@Array.toArray_toList
abbrev AZl:=@Array.toList_modify
abbrev AZm:=@Prod.mk.injEq
abbrev AZn:=@List.zip_cons_cons
abbrev AZo:=@List.set_cons_succ
abbrev AZp:=@mem_singleton
abbrev AZq:=@List.filter_append
abbrev AZr:=@Option.some.injEq
abbrev AZs:=@Ne.symm
abbrev AZt:=@Nat.lt_trichotomy
abbrev AZu:=@List.take_add_one
abbrev AZv:=@List.size_toArray
abbrev AZw:=@List.foldl_append
abbrev AZx:=@List.Pairwise.imp
abbrev AZy:=@Iff.rfl
abbrev AZz:=@Array.toList_push
end Go
namespace Go.Sx
open Go Go.RowKit
class Trk where
 t:Prop
variable[Trk]
structure Kp[Trk](M:List Nat)(w w':World):Prop where
 os:w'.os=w.os
 tape:w'.tape=w.tape
 output:w'.output=w.output
 size:w.heap.size<=w'.heap.size
 block:∀b,b<w.heap.size->b∉M->w'.heap[b]?=w.heap[b]?
 drawn:Trk.t->w.drawn<=w'.drawn
abbrev Ext(w w':World):Prop:=Kp [] w w'
variable{M:List Nat}{a:World}{b:World}{c:World}{w:World}{w':World}{p:Addr}{v:Value}
theorem Kp.refl(M:List Nat)(w:World):Kp M w w:=⟨rfl,rfl,rfl,AYE _,fun _ _ _=>rfl,fun _=>AYE _⟩
theorem Kp.trans(h:Kp M a b)(k:Kp M b c):Kp M a c:=
 ⟨k.os.trans h.os,k.tape.trans h.tape,k.output.trans h.output,AYG h.size k.size,
  fun x hx hm=>(k.block x (AYH hx h.size) hm).trans (h.block x hx hm),fun t=>AYG (h.drawn t) (k.drawn t)⟩
theorem Kp.mono{M M':List Nat}{a b:World}(h:Kp M a b)(I:∀x∈M,x∈M'\/a.heap.size<=x):Kp M' a b:=
 ⟨h.os,h.tape,h.output,h.size,fun x hx hm=>h.block x hx fun H=>(I x H).elim hm (fun h=>absurd hx (by omega)),h.drawn⟩
theorem Ext.kp(h:Ext a b):Kp M a b:=h.mono (fun _ hx=>by cases hx)
theorem Ext.below(h:Ext a b):Below a.heap.size a b:=⟨h.os,h.tape,h.output,h.size,fun k hk=>h.block k hk (by simp)⟩
theorem Ext.tail(h:Ext a b)(k:Kp M b c)(H:∀x∈M,a.heap.size<=x):Ext a c:=
 ⟨k.os.trans h.os,k.tape.trans h.tape,k.output.trans h.output,AYG h.size k.size,
  fun x hx _=>(k.block x (AYH hx h.size) (fun hm=>by have:=H x hm;omega)).trans (h.block x hx (by simp)),fun t=>AYG (h.drawn t) (k.drawn t)⟩
theorem Kp.tail{M0 M:List Nat}(h:Kp M0 a b)(k:Kp M b c)(I:∀x∈M,x∈M0\/a.heap.size<=x):Kp M0 a c:=
 ⟨k.os.trans h.os,k.tape.trans h.tape,k.output.trans h.output,AYG h.size k.size,
  fun x hx H=>(k.block x (AYH hx h.size) (fun hm=>(I x hm).elim H (fun h=>absurd hx (by omega)))).trans (h.block x hx H),fun t=>AYG (h.drawn t) (k.drawn t)⟩
theorem Kp.cell(h:Kp M w w')(hm:p.block∉M)(hv:w.cell? p=some v):w'.cell? p=some v:=by
 have H:p.block<w.heap.size:=by
  rcases AYF p.block w.heap.size with h|h
  . exact h
  . simp[World.cell?,Array.getElem?_eq_none h]at hv
 rw[World.cell?_of_block (w:=w) (h.block p.block H hm)];exact hv
theorem AHo(hv:w.cell? p=some v):p.block<w.heap.size:=by
 rcases AYF p.block w.heap.size with h|h
 . exact h
 . simp[World.cell?,Array.getElem?_eq_none h]at hv
theorem Kp.alloc(M:List Nat)(w:World)(o:Obj):Kp M w (w.alloc o):=
 ⟨rfl,rfl,rfl,by simp,fun b H _=>Below.heap_alloc _ _ _ H,fun _=>AYE _⟩
theorem Kp.drew(M:List Nat)(w:World):Kp M w { w with drawn:=w.drawn+1 }:=⟨rfl,rfl,rfl,AYE _,fun _ _ _=>rfl,fun _=>Nat.le_succ _⟩
theorem Kp.setCell(w:World)(a:Addr)(v:Value)(h:a.block∈M):Kp M w (w.setCell a v):=
 ⟨rfl,rfl,rfl,by simp[World.setCell],fun b _ hm=>Below.heap_setCell _ _ _ _ (fun e=>hm (e▸h)),fun _=>AYE _⟩
theorem Ext.grown{a b:World}(h:Ext a b)(t:Trk.t):∃q os,b={ a with heap:=a.heap++os,drawn:=a.drawn+q }:=by
 refine⟨b.drawn-a.drawn,b.heap.extract a.heap.size b.heap.size,?_⟩;have h1:b.heap=a.heap++b.heap.extract a.heap.size b.heap.size:=by
  refine Array.ext_getElem? fun i=>?_;rw[Array.getElem?_append];split
  . rename_i hi;exact h.block i hi (by simp)
  . rename_i hi;rw[Array.getElem?_extract];split
    . rename_i h2;congr 1;omega
    . rename_i h2;rw[AYq];have:=h.size;omega
 have h2:b.drawn=a.drawn+(b.drawn-a.drawn):=by have:=h.drawn t;omega
 obtain⟨bh,bt,bd,bo,bu⟩:=b;have e1:=h.os;have e2:=h.tape;have e3:=h.output;simp only at e1 e2 e3 h1 h2 ⊢;rw[<-h1,<-h2,e1,e2,e3]
def Cells(w:World)(b o:Nat)(cs:List Value):Prop:=∀j v,cs[j]?=some v->w.cell? ⟨b,o+j,none⟩=some v
theorem Cells.kp(h:Kp M w w'){b o:Nat}{cs:List Value}(J:b∉M)(I:Cells w b o cs):Cells w' b o cs:=
 fun j v H=>h.cell (p:=⟨b,o+j,none⟩) J (I j v H)
theorem Cells.append{b o:Nat}{xs ys:List Value}(h:Cells w b o xs)(I:Cells w b (o+xs.length) ys):Cells w b o (xs++ys):=fun j v H=>by
 rcases AYF j xs.length with hl|hl
 . rw[AYP hl]at H;exact h j v H
 . rw[AYX hl]at H;have:=I (j-xs.length) v H;rwa [AYs,Nat.add_sub_cancel' hl]at this
theorem Cells.nil(w:World)(b o:Nat):Cells w b o []:=fun j v H=>by simp at H
structure Enc(α:Type)where
 n:Nat
 pos:0<n
 R:List Nat->World->List Value->α->Prop
 len:∀{M w cs x},R M w cs x->cs.length=n
 kp:∀{M w w' cs x},Kp M w w'->R M w cs x->R M w' cs x
 mon:∀{M M' w cs x},(∀b∈M',b∈M\/w.heap.size<=b)->R M w cs x->R M' w cs x
 one:∀{M w cs x},R M w cs x->∀u∈cs,u.oneCell'=true
def RdS{α:Type}(E:Enc α)(M:List Nat)(w:World)(v:Value)(xs:List α):Prop:=
 ∃(a:Option Addr) (c:Nat),v=.slice a xs.length c/\xs.length<=c/\c<=maxLen /\
  (xs=[]\/∃b o,a=some ⟨b,o,none⟩/\b∉M/\b<w.heap.size/\∀i (h:i<xs.length),∃cs,E.R M w cs xs[i]/\Cells w b (o+i*E.n) cs)
variable{α:Type}{E:Enc α}{xs:List α}{x:Int}
theorem RdS.kp{w w':World}(h:Kp M w w')(U:RdS E M w v xs):RdS E M w' v xs:=by
 obtain⟨a,c,hv,K,F,I⟩:=U;refine⟨a,c,hv,K,F,?_⟩;rcases I with I|⟨b,o,W,J,H,V⟩
 . exact .inl I
 . refine .inr ⟨b,o,W,J,AYH H h.size,fun i hi=>?_⟩;obtain⟨cs,C,D⟩:=V i hi;exact⟨cs,E.kp h C,D.kp h J⟩
theorem RdS.mon{M M':List Nat}(hm:∀b∈M',b∈M\/w.heap.size<=b)(U:RdS E M w v xs):RdS E M' w v xs:=by
 obtain⟨a,c,hv,O,K,J⟩:=U;refine⟨a,c,hv,O,K,?_⟩;rcases J with J|⟨b,o,C,W,H,V⟩
 . exact .inl J
 . refine .inr ⟨b,o,C,fun I=>(hm b I).elim W (fun h=>absurd H (by omega)),H,fun i hi=>?_⟩;obtain⟨cs,D,F⟩:=V i hi;exact⟨cs,E.mon hm D,F⟩
theorem RdS.len(H:RdS E M w v xs):xs.length<=9223372036854775807:=by
 obtain⟨a,c,hv,U,J,I⟩:=H;have:maxLen=9223372036854775807:=rfl;omega
theorem RdS.shape(H:RdS E M w v xs):∃a c,v=.slice a xs.length c/\xs.length<=c/\c<=9223372036854775807:=by
 obtain⟨a,c,hv,J,I,U⟩:=H;exact⟨a,c,hv,J,I⟩
theorem RdS.nil(E:Enc α)(M:List Nat)(w:World):RdS E M w (.slice none 0 0) []:=⟨none,0,rfl,AYE _,AYh _,.inl rfl⟩
theorem RdS.at{α:Type}{E:Enc α}{M:List Nat}{w:World}{v:Value}{xs:List α}(J:RdS E M w v xs)(i:Nat)(hi:i<xs.length):
  ∃b o c cs,v=.slice (some ⟨b,o,none⟩) xs.length c/\b∉M/\b<w.heap.size/\E.R M w cs xs[i]/\Cells w b (o+i*E.n) cs:=by
 obtain⟨a,c,hv,K,F,I⟩:=J
 rcases I with I|⟨b,o,W,V,H,U⟩
 . subst I;simp at hi
 . obtain⟨cs,C,D⟩:=U i hi
   exact⟨b,o,c,cs,by rw[hv,W],V,H,C,D⟩
def InK(k:IntKind)(x:Int):Prop:=k.min<=x/\x<=k.max
theorem InK.i64:InK .i64 x↔-9223372036854775808<=x/\x<=9223372036854775807:=by simp[InK,IntKind.min,IntKind.max,IntKind.signed,IntKind.bits]
theorem InK.u8:InK .u8 x↔0<=x/\x<=255:=by simp[InK,IntKind.min,IntKind.max,IntKind.signed,IntKind.bits]
theorem InK.u16:InK .u16 x↔0<=x/\x<=65535:=by simp[InK,IntKind.min,IntKind.max,IntKind.signed,IntKind.bits]
theorem InK.u32:InK .u32 x↔0<=x/\x<=4294967295:=by simp[InK,IntKind.min,IntKind.max,IntKind.signed,IntKind.bits]
structure Adv(M M':List Nat)(w w':World):Prop where
 kp:Kp M w w'
 new:∀b∈M',b∈M\/w.heap.size<=b
variable{M':List Nat}
theorem Adv.refl(M:List Nat)(w:World):Adv M M w w:=⟨Kp.refl _ _,fun _ h=>.inl h⟩
theorem Adv.trans{M M' M'':List Nat}{a b c:World}(h:Adv M M' a b)(k:Adv M' M'' b c):Adv M M'' a c:=by
 refine⟨⟨k.kp.os.trans h.kp.os,k.kp.tape.trans h.kp.tape,k.kp.output.trans h.kp.output,AYG h.kp.size k.kp.size,fun x hx hm=>?_,fun t=>AYG (h.kp.drawn t) (k.kp.drawn t)⟩,fun x hx=>?_⟩
 . refine(k.kp.block x (AYH hx h.kp.size) fun I=>?_).trans (h.kp.block x hx hm);rcases h.new x I with H|H
   . exact hm H
   . omega
 . rcases k.new x hx with H|H
   . exact h.new x H
   . exact .inr (AYG h.kp.size H)
theorem Adv.of_ext(h:Ext a b):Adv M M a b:=⟨h.kp,fun _ h=>.inl h⟩
theorem Adv.drop(h:∀b∈M',b∈M):Adv M M' w w:=⟨Kp.refl _ _,fun b H=>.inl (h b H)⟩
def MLt(M:List Nat)(w:World):Prop:=∀b∈M,b<w.heap.size
theorem MLt.ext{M M0:List Nat}(h:MLt M w)(e:Kp M0 w w'):MLt M w':=fun b H=>AYH (h b H) e.size
theorem RdS.adv{E:Enc α}{v:Value}{xs:List α}(I:RdS E M w v xs)(h:Adv M M' w w'):RdS E M' w' v xs:=
 (I.mon (M':=M++M') (fun b H=>by
  rcases mem_append.1 H with H|H
  . exact .inl H
  . exact h.new b H)).kp (h.kp.mono fun x hx=>.inl (mem_append.2 (.inl hx))) |>.mon fun b H=>.inl (mem_append.2 (.inr H))
theorem Enc.adv(E:Enc α){cs:List Value}{x:α}(I:E.R M w cs x)(h:Adv M M' w w'):E.R M' w' cs x:=
 E.mon (fun b H=>.inl (mem_append.2 (.inr H))) (E.kp (h.kp.mono fun x hx=>.inl (mem_append.2 (.inl hx))) (E.mon (M':=M++M') (fun b H=>by
  rcases mem_append.1 H with H|H
  . exact .inl H
  . exact h.new b H) I))
structure RdC(M:List Nat)(w:World)(b o:Nat)(cs:List Value):Prop where
 out:b∉M
 lt:b<w.heap.size
 cells:Cells w b o cs
variable{cs:List Value}{β:Type}
theorem RdC.adv{M M':List Nat}{w w':World}{b o:Nat}(H:RdC M w b o cs)(h:Adv M M' w w'):RdC M' w' b o cs:=
 ⟨fun I=>(h.new b I).elim H.out (fun h=>absurd H.lt (by omega)),AYH H.lt h.kp.size,H.cells.kp h.kp H.out⟩
theorem ACL:∀u∈([]:List Value),u.oneCell'=true:=fun _ h=>by cases h
theorem D3{v:Value}{r:List Value}(h:v.oneCell'=true)(J:∀u∈r,u.oneCell'=true):∀u∈v::r,u.oneCell'=true:=fun u I=>by
 rcases mem_cons.1 I with H|H
 . rw[H];exact h
 . exact J u H
def B1(k:IntKind):Enc Int where
 n:=1
 pos:=by decide
 R:=fun _ _ cs x=>cs=[.int k x]/\InK k x
 len:=fun h=>by rw[h.1];rfl
 kp:=fun _ h=>h
 mon:=fun _ h=>h
 one:=fun h u hu=>by rw[h.1]at hu;simp at hu;subst hu;rfl
def boolE:Enc Bool where
 n:=1
 pos:=by decide
 R:=fun _ _ cs x=>cs=[.bool x]
 len:=fun h=>by rw[h];rfl
 kp:=fun _ h=>h
 mon:=fun _ h=>h
 one:=fun h u hu=>by rw[h]at hu;simp at hu;subst hu;rfl
def K5{α:Type}(E:Enc α):Enc (List α) where
 n:=1
 pos:=by decide
 R:=fun M w cs x=>∃v,cs=[v]/\RdS E M w v x
 len:=fun⟨v,h,_⟩=>by rw[h];rfl
 kp:=fun hk ⟨v,h,hr⟩=>⟨v,h,hr.kp hk⟩
 mon:=fun hm ⟨v,h,hr⟩=>⟨v,h,hr.mon hm⟩
 one:=fun⟨v,h,hr⟩ u hu=>by
  rw[h]at hu;simp at hu;subst hu;obtain⟨a,c,rfl,_⟩:=hr;rfl
def B0{α β:Type}(E:Enc α)(F:Enc β):Enc (α×β) where
 n:=E.n+F.n
 pos:=by have:=E.pos;omega
 R:=fun M w cs x=>∃c1 c2,cs=c1++c2/\E.R M w c1 x.1/\F.R M w c2 x.2
 len:=fun⟨c1,c2,h,h1,h2⟩=>by rw[h,AYN,E.len h1,F.len h2]
 kp:=fun hk ⟨c1,c2,h,h1,h2⟩=>⟨c1,c2,h,E.kp hk h1,F.kp hk h2⟩
 mon:=fun hm ⟨c1,c2,h,h1,h2⟩=>⟨c1,c2,h,E.mon hm h1,F.mon hm h2⟩
 one:=fun⟨c1,c2,h,h1,h2⟩ u hu=>by
  rw[h,AYY]at hu;exact hu.elim (E.one h1 u) (F.one h2 u)
def U4{α β:Type}(f:β->α)(E:Enc α):Enc β where
 n:=E.n
 pos:=E.pos
 R:=fun M w cs x=>E.R M w cs (f x)
 len:=fun h=>E.len h
 kp:=fun hk h=>E.kp hk h
 mon:=fun hm h=>E.mon hm h
 one:=fun h=>E.one h
@[simp] theorem AXg(k:IntKind):(B1 k).n=1:=rfl
@[simp] theorem AXd:boolE.n=1:=rfl
@[simp] theorem AWZ(E:Enc α):(K5 E).n=1:=rfl
@[simp] theorem AXe(E:Enc α)(F:Enc β):(B0 E F).n=E.n+F.n:=rfl
@[simp] theorem AXh(f:β->α)(E:Enc α):(U4 f E).n=E.n:=rfl
theorem intE_R{k:IntKind}{x:Int}:(B1 k).R M w cs x↔cs=[.int k x]/\InK k x:=AZy
theorem boolE_R{x:Bool}:boolE.R M w cs x↔cs=[.bool x]:=AZy
theorem AAb{x:List α}:(K5 E).R M w cs x↔∃v,cs=[v]/\RdS E M w v x:=AZy
theorem prodE_R{F:Enc β}{x:α×β}:
 (B0 E F).R M w cs x↔∃c1 c2,cs=c1++c2/\E.R M w c1 x.1/\F.R M w c2 x.2:=AZy
theorem mapE_R{f:β->α}{x:β}:(U4 f E).R M w cs x↔E.R M w cs (f x):=AZy
end Go.Sx
namespace Go.Sx
open Go Go.RowKit
variable[Trk]
abbrev A7:=List (Nat×Value)
def A5:A7->Nat->Option Value
 |[],_=>none
 |(k,v)::r,t=>bif beq k t then some v else A5 r t
def ev(L:A7):Operand->Option Value
 |.tmp t=>A5 L t
 |.const v=>some v
 |.global g=>some (.pointer (some ⟨g,0,none⟩))
 |.func f=>some (.func (.func f) #[] #[])
structure Knows(N:Nat)(ds:List Deferred)(L:A7)(a:Act):Prop where
 size:a.tmps.size=N
 defers:a.defers=ds
 val:∀t v,A5 L t=some v->a.tmps[t]?=some v
variable{N:Nat}{ds:List Deferred}{L:A7}{a:Act}{v:Value}{L':A7}
theorem Knows.eval(h:Knows N ds L a){x:Operand}(hx:ev L x=some v):a.eval x=v:=by
 cases x with
 |tmp t=>
  have:=h.val t v hx
  simp only[Act.eval,Array.getD_eq_getD_getElem?,this,Option.getD_some]
 |const u=>exact AXz hx
 |global g=>exact AXz hx
 |func f=>exact AXz hx
theorem Knows.put(h:Knows N ds L a){d:Nat}(hd:blt d N=true)(v:Value):Knows N ds ((d,v)::L) (a.put (some d) v):=by
 have U:d<N:=by simpa[Nat.blt_eq] using hd
 refine⟨by simp[Act.put,h.size],h.defers,fun t u H=>?_⟩;simp only[A5]at H;cases I:beq d t with
 |true=>
  have:d=t:=AX5 I
  subst this
  simp only[I,cond_true,Option.some.injEq]at H
  subst H
  simp[Act.put,h.size,U]
 |false=>
  have J:d≠t:=fun e=>by subst e;simp at I
  simp only[I,cond_false]at H
  simp only[Act.put]
  rw[Array.getElem?_setIfInBounds_ne J]
  exact h.val t u H
def Sub(L L':A7):Prop:=∀t v,A5 L t=some v->A5 L' t=some v
theorem Sub.refl(L:A7):Sub L L:=fun _ _ h=>h
theorem Sub.nil(L:A7):Sub [] L:=fun _ _ h=>by simp[A5]at h
theorem Sub.cons{t:Nat}(h:A5 L' t=some v)(J:Sub L L'):Sub ((t,v)::L) L':=fun u x H=>by
 simp only[A5]at H;cases I:beq t u with
 |true=>
  have:t=u:=AX5 I
  subst this
  simp only[I,cond_true,Option.some.injEq]at H
  subst H;exact h
 |false=>
  simp only[I,cond_false]at H
  exact J u x H
theorem Knows.sub(h:Knows N ds L' a)(I:Sub L L'):Knows N ds L a:=
 ⟨h.size,h.defers,fun t v H=>h.val t v (I t v H)⟩
abbrev A3:=List Deferred->A7->World->Prop
def R1(N:Nat)(A B:A3)(X:Nat->A3)(Z:List PanicEntry->A3):Exit->Act->World->Prop
 |.normal,a,w=>∃ds L,Knows N ds L a/\A ds L w
 |.ret,a,w=>∃ds L,Knows N ds L a/\B ds L w
 |.exit i,a,w=>∃ds L,Knows N ds L a/\X i ds L w
 |.panic c,a,w=>∃ds L,Knows N ds L a/\Z c ds L w
 |_,_,_=>False
inductive PK where
 |c (v:Value)
 |p (K:Value->World->Prop)
 |f (K:Value->World->Prop)
def AMT:Value->List Nat
 |.slice (some a) _ _=>[a.block]
 |.pointer (some a)=>[a.block]
 |_=>[]
def PK.holds:PK->Value->World->Prop
 |.c v,u,_=>u=v
 |.p K,u,w=>K u w
 |.f K,u,w=>K u w/\∀b∈AMT u,b<w.heap.size
def PK.stays:PK->Prop
 |.c _=>True
 |.p K|.f K=>∀v w w',Ext w w'->K v w->K v w'
def PK.pure:PK->Prop
 |.c _=>True
 |.p K=>∀v w w',K v w->K v w'
 |.f _=>False
def PK.newer:PK->Value->World->Prop
 |.f _,v,w=>∀b∈AMT v,w.heap.size<=b
 |_,_,_=>True
def PK.isF:PK->Bool
 |.f _=>true
 |_=>false
inductive Md where
 |seq
 |quiet
 |flow (PR:List (Nat×PK))
 |fix (PR PZ:List (Nat×PK))
def Md.drawn:Md->Bool|.seq=>false|_=>true
def Cl(q:Md)(w w':World):Prop:=match q with|.seq=>w'=w|_=>Ext w w'
theorem Cl.ext{q:Md}{w w':World}(h:Cl q w w'):Ext w w':=by
 cases q with
 |seq=>have h:w'=w:=h;subst h;exact Kp.refl _ _
 |quiet=>exact h
 |flow PR=>exact h
 |fix _ _=>exact h
def AAA:List (Nat×PK)->Nat->Option PK
 |[],_=>none
 |(k,x)::r,t=>bif beq k t then some x else AAA r t
def AWa(u u':Value):Prop:=∀b∈AMT u,b∉AMT u'
structure KnowsP(N:Nat)(ds:List Deferred)(PE:List (Nat×PK))(a:Act)(w:World)(S:Nat->Prop):Prop where
 size:a.tmps.size=N
 defers:a.defers=ds
 val:∀t,S t->∀x,AAA PE t=some x->∃u,a.tmps[t]?=some u/\x.holds u w
 sep:∀t t' x x',t≠t'->S t->S t'->AAA PE t=some x->AAA PE t'=some x'->x.isF=true->x'.isF=true->∀u u',a.tmps[t]?=some u->a.tmps[t']?=some u'->AWa u u'
def AGu(P:Program)(ops:Array Oper)(o:Oper)(a:Act)(w:World)(x:PK):Prop:=
 if Region.wanted o (yielded ops a.tmps) then o.wp P a w (fun a2 w2=>∃v,a2=a.put o.dst v/\Ext w w2/\x.holds v w2/\x.newer v w) (fun _ _ _=>False) else x.holds undef w
def Ob(P:Program)(N:Nat)(ops:Array Oper)(ds:List Deferred)(w0:World)(PE:List (Nat×PK))(o:Oper)(x:PK):Prop:=
 (∀cs b,o.op≠.select cs b)->∀a w,Ext w0 w->KnowsP N ds PE a w (fun t=>t∈o.looksAt ops)->AGu P ops o a w x
def AQP(P:Program)(N:Nat)(ops:Array Oper)(ds:List Deferred)(w0:World)(G:List (Nat×PK)->Prop):List Oper->List (Nat×PK)->Prop
 |[],PE=>G PE
 |o::r,PE=>∃d x,o.dst=some d/\blt d N=true/\x.stays/\Ob P N ops ds w0 PE o x/\AQP P N ops ds w0 G r ((d,x)::PE)
def ASR(P:Program)(N:Nat)(ops:Array Oper)(ds:List Deferred)(w0:World)(G:List (Nat×PK)->Prop):List Oper->List (Nat×PK)->Prop
 |[],PE=>G PE
 |o::r,PE=>∃d x,o.dst=some d/\blt d N=true/\x.pure/\Ob P N ops ds w0 PE o x/\ASR P N ops ds w0 G r ((d,x)::PE)
structure Fits(N:Nat)(PE:List (Nat×PK))(L:A7)(PR:List (Nat×PK)):Prop where
 c:∀t v,A5 L t=some v->AAA PE t=some (.c v)
 n:∀t v,A5 L t=some v->t<N
 p:∀t x,AAA PR t=some x->A5 L t=none->AAA PE t=some x
 s:∀t x,AAA PE t=some x->x.stays
def Reg(P:Program)(N:Nat)(ops:Array Oper)(q:Md)(l:List Oper)(ds:List Deferred)(L:A7)(w:World)(A B:A3)(X:Nat->A3)(Z:List PanicEntry->A3):Prop:=
 match q with
 |.seq=>∀a,Knows N ds L a->wpList P ops (R1 N A B X Z) l a w
 |.quiet=>∀a,Knows N ds L a->wpQuiet P ops (Ext w) (fun a'=>∀w',Ext w w'->R1 N A B X Z .normal a' w') l a
 |.flow PR=>∀PE,Fits N PE L PR->AQP P N ops ds w (fun PE'=>∀a w',Ext w w'->KnowsP N ds PE' a w' (fun _=>True)->R1 N A B X Z .normal a w') l PE
 |.fix PR PZ=>∀PE,Fits N PE L PR->ASR P N ops ds w (fun PE'=>∃L',Fits N PE' L' PZ/\A ds L' w) l PE
def CW(P:Program)(N:Nat)(c:Code)(ds:List Deferred)(L:A7)(w:World)(A B:A3)(X:Nat->A3)(Z:List PanicEntry->A3):Prop:=∀a,Knows N ds L a->c.wp P (R1 N A B X Z) a w
variable{P:Program}{ops:Array Oper}{q:Md}{rest:List Oper}{w:World}{A B:A3}{X:Nat->A3}{Z:List PanicEntry->A3}{o:Oper}{d:Nat}{t:Nat}{PE:List (Nat×PK)}{f:Nat}{args:Array Value}{j:Nat}{b:Bool}{id:Nat}{x:Code}{y:Code}{c:Code}{ι:Type}
theorem Reg.nil(h:A ds L w):Reg P N ops .seq [] ds L w A B X Z:=fun a H=>wpList_nil ⟨ds,L,H,h⟩
theorem ASS{L:A7}(U:a.tmps.size=N)(hd:a.defers=ds)(V:∀t v,A5 L t=some v->t<N)(hv:∀t v,A5 L t=some v->t∈o.looksAt ops->a.tmps[t]?=some v):
  ∃a',Knows N ds L a'/\∀t∈o.looksAt ops,a'.tmps[t]?=a.tmps[t]?:=by
 refine⟨{ a with tmps:=Array.ofFn fun i:Fin N=>if i.val∈o.looksAt ops then a.tmps.getD i.val undef else(A5 L i.val).getD undef },⟨by simp,hd,fun t v I=>?_⟩,fun t I=>?_⟩
 . have H:=V t v I
   simp only[Array.getElem?_ofFn,H,dif_pos]
   by_cases hm:t∈o.looksAt ops
   . have:=hv t v I hm
     simp[hm,Array.getD_eq_getD_getElem?,this]
   . simp[hm,I]
 . by_cases H:t<N
   . have J:t<a.tmps.size:=by rw[U];exact H
     simp[H,I,J]
   . have J:¬t<a.tmps.size:=by rw[U];exact H
     simp[H,J]
theorem AEf{a a':Act}(h:∀t∈o.looksAt ops,a'.tmps[t]?=a.tmps[t]?):∀x∈o.op.operands,a'.eval x=a.eval x:=fun x hx=>by
 cases x with
 |tmp t=>
  have:=h t (AX2 _ (List.mem_filterMap.2 ⟨.tmp t,by simpa using hx,rfl⟩))
  simp only[Act.eval,Array.getD_eq_getD_getElem?,this]
 |const u=>rfl
 |global g=>rfl
 |func f=>rfl
theorem ADy{x:PK}:AAA ((d,x)::PE) t=if d=t then some x else AAA PE t:=by
 by_cases h:d=t
 . subst h;simp[AAA]
 . have:beq d t=false:=by
    cases H:beq d t with
    |false=>rfl
    |true=>exact absurd (AX5 H) h
   simp[AAA,this,h]
theorem look_cons{x:Value}{PE:A7}:A5 ((d,x)::PE) t=if d=t then some x else A5 PE t:=by
 by_cases h:d=t
 . subst h;simp[A5]
 . have:beq d t=false:=by
    cases H:beq d t with
    |false=>rfl
    |true=>exact absurd (AX5 H) h
   simp[A5,this,h]
theorem Fits.putC{PE PR:List (Nat×PK)}(h:Fits N PE L PR)(hN:d<N)(v:Value):Fits N ((d,.c v)::PE) ((d,v)::L) PR:=by
 refine⟨fun t u H=>?_,fun t u H=>?_,fun t K hK hl=>?_,fun t x hx=>?_⟩
 . rw[look_cons]at H;rw[ADy];split at H
   . rename_i hd;rw[AYB hd];cases H;rfl
   . rename_i hd;rw[if_neg hd];exact h.c t u H
 . rw[look_cons]at H;split at H
   . rename_i hd;omega
   . exact h.n t u H
 . rw[look_cons]at hl;rw[ADy];split at hl
   . cases hl
   . rename_i hd;rw[if_neg hd];exact h.p t K hK hl
 . rw[ADy]at hx;split at hx
   . cases hx;trivial
   . exact h.s t x hx
theorem AIV{w:World}{v:Value}{x:PK}(I:Region.wanted o (yielded ops a.tmps)=true->(execOp a.eval o).run P w=.ok (.value v) w)(H:Region.wanted o (yielded ops a.tmps)=true)(hx:x.holds v w)(J:x.newer v w):AGu P ops o a w x:=by
 simp only[AGu,H,if_true,Oper.wp,I H,Oper.upon];exact⟨v,rfl,Kp.refl _ _,hx,J⟩
theorem Reg.val(v:Value)(C:o.guard=none)(hd:o.dst=some d)(hN:blt d N=true)(W:∀a,Knows N ds L a->∀w',Cl q w w'->(execOp a.eval o).run P w'=.ok (.value v) w')(h:Reg P N ops q rest ds ((d,v)::L) w A B X Z):Reg P N ops q (o::rest) ds L w A B X Z:=by
 cases q with
 |seq=>
  intro a V
  refine wpList_plain C fun K hK=>?_
  have:=W a V w rfl
  simp only[Oper.wp,this,Oper.upon_value,hd]
  exact hK _ _ (h _ (V.put hN v))
 |quiet=>
  intro a V
  refine wpQuiet_step fun K hK=>?_
  simp only[Region.wanted,C,if_true]
  refine⟨v,fun w' D=>?_,?_⟩
  . have:=W a V w' D
    simp only[Oper.quietAt,this,Oper.quietUpon,and_self]
  . rw[hd];exact hK _ (h _ (V.put hN v))
 |flow PR=>
  intro PE J
  have H:d<N:=by simpa[Nat.blt_eq] using hN
  refine⟨d,.c v,hd,hN,trivial,fun F a w1 O hk=>?_,h _ (J.putC H v)⟩
  obtain⟨a',U,hl⟩:=ASS (ops:=ops) (o:=o) (L:=L) hk.size hk.defers J.n fun t u E hm=>by
   obtain⟨y,hy,I⟩:=hk.val t hm _ (J.c t u E);have I:y=u:=I;rw[hy,I]
  refine AIV (v:=v) (fun _=>?_) (by simp[Region.wanted,C]) rfl trivial
  rw[<-execOp_congr o F (AEf hl)]
  exact W a' U w1 O
 |fix PR PZ=>
  intro PE J
  have H:d<N:=by simpa[Nat.blt_eq] using hN
  refine⟨d,.c v,hd,hN,trivial,fun F a w1 O hk=>?_,h _ (J.putC H v)⟩
  obtain⟨a',U,hl⟩:=ASS (ops:=ops) (o:=o) (L:=L) hk.size hk.defers J.n fun t u E hm=>by
   obtain⟨y,hy,I⟩:=hk.val t hm _ (J.c t u E);have I:y=u:=I;rw[hy,I]
  refine AIV (v:=v) (fun _=>?_) (by simp[Region.wanted,C]) rfl trivial
  rw[<-execOp_congr o F (AEf hl)]
  exact W a' U w1 O
theorem P4(v:Value)(w':World)(J:o.guard=none)(hd:o.dst=some d)(hN:blt d N=true)(I:∀a,Knows N ds L a->(execOp a.eval o).run P w=.ok (.value v) w')(h:Reg P N ops .seq rest ds ((d,v)::L) w' A B X Z):Reg P N ops .seq (o::rest) ds L w A B X Z:=by
 intro a H;refine wpList_plain J fun K hK=>?_;simp only[Oper.wp,I a H,Oper.upon_value,hd];exact hK _ _ (h _ (H.put hN v))
theorem Reg.sto(w':World)(J:o.guard=none)(hd:o.dst=none)(I:∀a,Knows N ds L a->(execOp a.eval o).run P w=.ok .skip w')(h:Reg P N ops .seq rest ds L w' A B X Z):Reg P N ops .seq (o::rest) ds L w A B X Z:=by
 intro a H;refine wpList_plain J fun K hK=>?_;simp only[Oper.wp,I a H,Oper.upon_skip,hd];exact hK _ _ (h _ H)
theorem Reg.call(J:o.guard=none)(hd:o.dst=some d)(hN:blt d N=true)(I:∀a,Knows N ds L a->(execOp a.eval o).run P w=.ok (.enter f args) w)(h:Calls P f args w fun e w'=>∃v,e=.returned v/\Reg P N ops .seq rest ds ((d,v)::L) w' A B X Z):Reg P N ops .seq (o::rest) ds L w A B X Z:=by
 intro a H;refine wpList_plain J fun K hK=>?_;simp only[Oper.wp,I a H,Oper.upon_enter,hd];refine h.mono ?_;rintro e w' ⟨v,rfl,h⟩;exact hK _ _ (h _ (H.put hN v))
theorem ANh(J:o.guard=none)(hd:o.dst=none)(I:∀a,Knows N ds L a->(execOp a.eval o).run P w=.ok (.enter f args) w)(h:Calls P f args w fun e w'=>∃v,e=.returned v/\Reg P N ops .seq rest ds L w' A B X Z):Reg P N ops .seq (o::rest) ds L w A B X Z:=by
 intro a H;refine wpList_plain J fun K hK=>?_;simp only[Oper.wp,I a H,Oper.upon_enter,hd];refine h.mono ?_;rintro e w' ⟨v,rfl,h⟩;exact hK _ _ (h _ H)
theorem V8(J:Knows N ds L a)(I:(ops[j]?).bind (·.dst)=some t)(H:A5 L t=some (.bool b)):yielded ops a.tmps j=some b:=by
 simp only[yielded,I,Option.bind_some,J.val t _ H]
theorem AFy{w1:World}{S:Nat->Prop}(hk:KnowsP N ds PE a w1 S)(U:(ops[j]?).bind (·.dst)=some t)(V:S t)(J:AAA PE t=some (.c (.bool b))):yielded ops a.tmps j=some b:=by
 obtain⟨u,I,H⟩:=hk.val t V _ J;have H:u=.bool b:=H;subst H;simp only[yielded,U,Option.bind_some,I]
theorem Reg.take{d:Option Tmp}{op:Op}{ty:TypeId}{pos:String}{after:Array Edge}(U:(ops[j]?).bind (·.dst)=some t)(H:A5 L t=some (.bool b))(h:Reg P N ops q (⟨d,op,ty,pos,after,none⟩::rest) ds L w A B X Z):Reg P N ops q (⟨d,op,ty,pos,after,some (j,b)⟩::rest) ds L w A B X Z:=by
 cases q with
 |seq=>
  intro a W
  have:=h a W
  simp only[wpList,Region.wanted,V8 W U H,BEq.rfl,if_true]at this ⊢
  exact this
 |quiet=>
  intro a W
  have:=h a W
  simp only[wpQuiet,Region.wanted,V8 W U H,BEq.rfl,if_true]at this ⊢
  exact this
 |flow PR=>
  intro PE V
  obtain⟨d',x,Q,O,K,F,E⟩:=h PE V
  refine⟨d',x,Q,O,K,fun C a w1 D hk=>?_,E⟩
  have hy:=AFy hk U (by simp[Oper.looksAt,U]) (V.c t _ H)
  have:=F C a w1 D ⟨hk.size,hk.defers,fun t H x hx=>hk.val t (by simp only[Oper.looksAt,List.append_nil]at H;exact AX2 _ H) x hx,
   fun t t' x x' J H I=>hk.sep t t' x x' J (by simp only[Oper.looksAt,List.append_nil]at H;exact AX2 _ H) (by simp only[Oper.looksAt,List.append_nil]at I;exact AX2 _ I)⟩
  simp only[AGu,Region.wanted,hy,BEq.rfl,if_true]at this ⊢
  exact this
 |fix PR PZ=>
  intro PE V
  obtain⟨d',x,Q,O,K,F,E⟩:=h PE V
  refine⟨d',x,Q,O,K,fun C a w1 D hk=>?_,E⟩
  have hy:=AFy hk U (by simp[Oper.looksAt,U]) (V.c t _ H)
  have:=F C a w1 D ⟨hk.size,hk.defers,fun t H x hx=>hk.val t (by simp only[Oper.looksAt,List.append_nil]at H;exact AX2 _ H) x hx,
   fun t t' x x' J H I=>hk.sep t t' x x' J (by simp only[Oper.looksAt,List.append_nil]at H;exact AX2 _ H) (by simp only[Oper.looksAt,List.append_nil]at I;exact AX2 _ I)⟩
  simp only[AGu,Region.wanted,hy,BEq.rfl,if_true]at this ⊢
  exact this
theorem A8{l:List Oper}(h:Reg P N l.toArray .seq l ds L w A B X Z):CW P N (.region id l.toArray false) ds L w A B X Z:=fun a H=>wp_region_lit (h a H)
theorem A6(h:CW P N x ds L w (fun ds' L' w'=>CW P N y ds' L' w' A B X Z) B X Z):CW P N (.seq x y) ds L w A B X Z:=fun a J=>
 wp_seq (wp_mono (h a J) fun e a' w' I=>by
  cases e with
  |normal=>obtain⟨ds',L',H,hk⟩:=I;exact hk a' H
  |_=>exact I)
theorem P5(h:A ds L w):CW P N .skip ds L w A B X Z:=fun a H=>wp_skip ⟨ds,L,H,h⟩
theorem K6(h:B ds L w):CW P N .ret ds L w A B X Z:=fun a H=>wp_ret ⟨ds,L,H,h⟩
theorem AA9(h:X id ds L w):CW P N (.exit id) ds L w A B X Z:=fun a H=>wp_exit ⟨ds,L,H,h⟩
theorem AAB{c:Operand}(U:ev L c=some (.bool b))(I:b=true->CW P N x ds L w A B X Z)(J:b=false->CW P N y ds L w A B X Z):CW P N (.cond c x y) ds L w A B X Z:=
 fun a H=>wp_cond_split (H.eval U) (fun h=>I h a H) (fun h=>J h a H)
theorem ACM{c:Operand}(H:ev L c=some (.bool true))(h:CW P N x ds L w A B X Z):CW P N (.cond c x y) ds L w A B X Z:=AAB H (fun _=>h) (fun e=>by cases e)
theorem ABA{c:Operand}(H:ev L c=some (.bool false))(h:CW P N y ds L w A B X Z):CW P N (.cond c x y) ds L w A B X Z:=AAB H (fun e=>by cases e) (fun _=>h)
def exB(id:Nat)(A:A3)(X:Nat->A3)(i:Nat):A3:=bif beq i id then A else X i
theorem T7(h:A ds L w):exB id A X id ds L w:=by simpa[exB] using h
theorem ANi{id i:Nat}(hi:beq i id=false)(h:X i ds L w):exB id A X i ds L w:=by simpa[exB,hi] using h
theorem H4(h:CW P N c ds L w A B (exB id A X) Z):CW P N (.block id c) ds L w A B X Z:=fun a U=>
 wp_block (wp_mono (h a U) fun e a' w' J=>by
  cases e with
  |exit i=>
   obtain⟨ds',L',H,hx⟩:=J
   simp only[Exit.inBlock]
   by_cases hi:i=id
   . subst hi
     rw[AYB rfl]
     exact⟨ds',L',H,by simpa[exB] using hx⟩
   . rw[if_neg hi]
     refine⟨ds',L',H,?_⟩
     have I:beq i id=false:=by
      cases I:beq i id with
      |false=>rfl
      |true=>exact absurd (AX5 I) hi
     simpa[exB,I] using hx
  |_=>exact J)
theorem ABB(E:ι->A7)(I:ι->World->Prop)(μ:ι->Nat)(i0:ι)(O:I i0 w)(C:Sub (E i0) L)(round:∀i w,I i w->CW P N c ds (E i) w (fun ds' L' w'=>ds'=ds/\∃i',I i' w'/\Sub (E i') L'/\μ i'<μ i) B X Z):CW P N (.loop c) ds L w A B X Z:=by
 intro a F b k cs;have key:∀n a w i,μ i=n->I i w->Knows N ds (E i) a ->
   ∃e a' w',(R1 N A B X Z) e a' w'/\Arrives P (lone (b.at a (.code c::.inLoop c::k)) cs w) b k cs e a' w':=by
  intro n
  induction n using Nat.strongRecOn with
  |_ n ih=>
   intro a w i D K hk
   obtain⟨e,a₁,w₁,J,H⟩:=round i w K a hk b (.inLoop c::k) cs
   cases e with
   |normal=>
    obtain⟨ds₁,L₁,hk₁,rfl,i',W,U,V⟩:=J
    obtain⟨e₂,a₂,w₂,hq₂,harr₂⟩:=ih (μ i') (D▸V) a₁ w₁ i' rfl W (hk₁.sub U)
    exact⟨e₂,a₂,w₂,hq₂,.of_steps (Steps.trans H (.one step_inLoop)) harr₂⟩
   |exit id=>exact⟨.exit id,a₁,w₁,J,.pass (x:=.inLoop c) rfl (fun _ _=>.inl (by simp)) H⟩
   |goto l=>exact J.elim
   |ret=>exact⟨.ret,a₁,w₁,J,.pass (x:=.inLoop c) rfl (fun _ _=>.inl (by simp)) H⟩
   |panic ch=>exact⟨.panic ch,a₁,w₁,J,.pass (x:=.inLoop c) rfl (fun _ _=>.inl (by simp)) H⟩
   |outgrown=>exact J.elim
 obtain⟨e,a',w',J,H⟩:=key _ a w i0 rfl O (F.sub C);exact⟨e,a',w',J,.of_steps (.one step_loop) H⟩
theorem AO1(m:Nat)(E:ι->A7)(I:ι->World->Prop)(μ:ι->Nat)(i0:ι)(J:I i0 w)(H:Sub (E i0++L.drop m) L)(round:∀i w,I i w->CW P N c ds (E i++L.drop m) w (fun ds' L' w'=>ds'=ds/\∃i',I i' w'/\Sub (E i'++L.drop m) L'/\μ i'<μ i) B X Z):CW P N (.loop c) ds L w A B X Z:=
 ABB (fun i=>E i++L.drop m) I μ i0 J H round
theorem AST{L':A7}(H:Sub L L')(h:CW P N c ds L w A B X Z):CW P N c ds L' w A B X Z:=fun a I=>h a (I.sub H)
theorem AQ4{A' B':A3}{X':Nat->A3}{Z':List PanicEntry->A3}(h:CW P N c ds L w A' B' X' Z')(H:∀e a w,R1 N A' B' X' Z' e a w->R1 N A B X Z e a w):CW P N c ds L w A B X Z:=fun a I=>wp_mono (h a I) H
def ABC(P:Program)(fn:Func)(R:Ending->World->Prop)(ds:List Deferred)(L:A7)(w:World):Prop:=
 ds=[]/\∃v,(∀a,Knows fn.ntmps ds L a->(results fn a.tmps).run P w=.ok v w)/\R (.returned v) w
def AWb(R:Ending->World->Prop)(c:List PanicEntry)(ds:List Deferred)(_:A7)(w:World):Prop:=ds=[]/\R (.panicked c) w
def NoX(_:Nat)(_:List Deferred)(_:A7)(_:World):Prop:=False
def P6:Nat->List Value->A7
 |_,[]=>[]
 |i,v::r=>(i,v)::P6 (i+1) r
theorem ADG:∀(l:List Value) (i t:Nat) (v:Value),A5 (P6 i l) t=some v->∃j,t=i+j/\l[j]?=some v
 |[],i,t,v,h=>by simp[P6,A5]at h
 |u::r,i,t,v,h=>by
  simp only[P6,A5]at h;cases H:beq i t with
  |true=>
   have:=AX5 H
   subst this
   simp only[H,cond_true,Option.some.injEq]at h
   exact⟨0,rfl,by simpa using h⟩
  |false=>
   simp only[H,cond_false]at h
   obtain⟨j,rfl,I⟩:=ADG r (i+1) t v h
   exact⟨j+1,by omega,by simpa using I⟩
theorem G6{P:Program}{f:FuncId}{fn:Func}{c:Code}{l:List Value}{w:World}{R:Ending->World->Prop}{N:Nat}(C:P.funcs[f]?=some fn)(D:fn.body=some c)(hN:fn.ntmps=N)(hl:Nat.ble l.length N=true)(h:CW P N c [] (P6 0 l) w (ABC P fn R) (ABC P fn R) NoX (AWb R)):Calls P f l.toArray w R:=by
 subst hN;refine calls_of_wp C D (wp_mono (h _ ⟨?_,rfl,?_⟩) ?_)
 . have:l.length<=fn.ntmps:=AYT hl;simp;omega
 . intro t v W;obtain⟨j,rfl,V⟩:=ADG l 0 t v W;have U:j<l.length:=by
    rcases AYF j l.length with h|h
    . exact h
    . simp[List.getElem?_eq_none h]at V
   simp only[Nat.zero_add];rw[Array.getElem?_append_left (by simpa using U)];simpa using V
 . intro e a w' I;cases e with
   |normal=>obtain⟨ds,L,H,rfl,v,hv,J⟩:=I;exact⟨H.defers,v,hv a H,J⟩
   |ret=>obtain⟨ds,L,H,rfl,v,hv,J⟩:=I;exact⟨H.defers,v,hv a H,J⟩
   |panic ch=>obtain⟨ds,L,H,rfl,J⟩:=I;exact⟨H.defers,J⟩
   |exit i=>obtain⟨ds,L,H,hx⟩:=I;exact hx.elim
   |goto l=>exact I.elim
   |outgrown=>exact I.elim
variable{fn:Func}{R:Ending->World->Prop}
theorem Knows.getD{N:Nat}{ds:List Deferred}{L:A7}{a:Act}(h:Knows N ds L a){t:Nat}{v:Value}(H:A5 L t=some v):a.tmps.getD t undef=v:=by
 simp only[Array.getD_eq_getD_getElem?,h.val t v H,Option.getD_some]
theorem ASU(H:fn.results=#[])(h:R (.returned (.tuple #[])) w):ABC P fn R [] L w:=⟨rfl,_,fun a _=>results_none H _ _ _,h⟩
theorem fin1{t:Nat}{v:Value}(H:fn.results=#[.tmp t])(hv:A5 L t=some v)(h:R (.returned v) w):ABC P fn R [] L w:=
 ⟨rfl,v,fun a I=>by rw[results_tmp H,I.getD hv],h⟩
theorem AWc{t u:Nat}{v x:Value}(I:fn.results=#[.tmp t,.tmp u])(hv:A5 L t=some v)(hx:A5 L u=some x)(h:R (.returned (.tuple #[v,x])) w):ABC P fn R [] L w:=
 ⟨rfl,_,fun a H=>by rw[results_tmp2 I,H.getD hv,H.getD hx],h⟩
def NoZ(_:List PanicEntry)(_:List Deferred)(_:A7)(_:World):Prop:=False
variable{md:Region.Mode}{w0:World}
theorem ADU{listed:Array Bool}{i:Nat}(hi:i<listed.size)(x y:Bool):listed.getD i x=listed.getD i y:=by simp[hi]
variable{d:Nat}{ty:TypeId}{pos:String}{af:Array Edge}{x:Operand}{c:Operand}{y:Operand}
theorem J3(hx:ev L x=some v)(hN:blt d N=true)(h:Reg P N ops q rest ds ((d,v)::L) w A B X Z):Reg P N ops q (⟨some d,.move x,ty,pos,af,none⟩::rest) ds L w A B X Z:=
 Reg.val v rfl rfl hN (fun a H w' _=>by simp[execOp,H.eval hx]) h
theorem G7(hx:ev L x=some v)(hN:blt d N=true)(h:Reg P N ops q rest ds ((d,v)::L) w A B X Z):Reg P N ops q (⟨some d,.assign x,ty,pos,af,none⟩::rest) ds L w A B X Z:=
 Reg.val v rfl rfl hN (fun a H w' _=>by simp[execOp,H.eval hx]) h
theorem AUT(I:ev L c=some (.bool true))(hx:ev L x=some v)(hN:blt d N=true)(h:Reg P N ops q rest ds ((d,v)::L) w A B X Z):
  Reg P N ops q (⟨some d,.pick c x y,ty,pos,af,none⟩::rest) ds L w A B X Z:=
 Reg.val v rfl rfl hN (fun a H w' _=>by simp[execOp,H.eval hx,H.eval I,asBool]) h
theorem AUU(I:ev L c=some (.bool false))(hy:ev L y=some v)(hN:blt d N=true)(h:Reg P N ops q rest ds ((d,v)::L) w A B X Z):
  Reg P N ops q (⟨some d,.pick c x y,ty,pos,af,none⟩::rest) ds L w A B X Z:=
 Reg.val v rfl rfl hN (fun a H w' _=>by simp[execOp,H.eval hy,H.eval I,asBool]) h
section cmp
variable{t t':TypeId}{x y:Operand}{k k':IntKind}{i j:Int}(hx:ev L x=some (.int k i))(hy:ev L y=some (.int k j))(hN:blt d N=true)
include hx hy hN
theorem AGv(h:Reg P N ops q rest ds ((d,.bool (decide (i<j)))::L) w A B X Z):Reg P N ops q (⟨some d,.binOp .lss t x y t',ty,pos,af,none⟩::rest) ds L w A B X Z:=
 Reg.val _ rfl rfl hN (fun a H w' _=>by simp[execOp,H.eval hx,H.eval hy,eqGuard_lss,binOp_lss]) h
theorem AUV(h:Reg P N ops q rest ds ((d,.bool (decide (i<=j)))::L) w A B X Z):Reg P N ops q (⟨some d,.binOp .leq t x y t',ty,pos,af,none⟩::rest) ds L w A B X Z:=
 Reg.val _ rfl rfl hN (fun a H w' _=>by simp[execOp,H.eval hx,H.eval hy,eqGuard_leq,binOp_leq]) h
theorem AUW(h:Reg P N ops q rest ds ((d,.bool (decide (j<i)))::L) w A B X Z):Reg P N ops q (⟨some d,.binOp .gtr t x y t',ty,pos,af,none⟩::rest) ds L w A B X Z:=
 Reg.val _ rfl rfl hN (fun a H w' _=>by simp[execOp,H.eval hx,H.eval hy,eqGuard_gtr,binOp_gtr]) h
theorem AQQ(h:Reg P N ops q rest ds ((d,.bool (decide (j<=i)))::L) w A B X Z):Reg P N ops q (⟨some d,.binOp .geq t x y t',ty,pos,af,none⟩::rest) ds L w A B X Z:=
 Reg.val _ rfl rfl hN (fun a H w' _=>by simp[execOp,H.eval hx,H.eval hy,eqGuard_geq,binOp_geq]) h
theorem AUX(h:Reg P N ops q rest ds ((d,.bool (decide (i=j)))::L) w A B X Z):Reg P N ops q (⟨some d,.binOp .eql t x y t',ty,pos,af,none⟩::rest) ds L w A B X Z:=
 Reg.val _ rfl rfl hN (fun a H w' _=>by simp[execOp,H.eval hx,H.eval hy,eqGuard_at_int,binOp_eql];rfl) h
theorem AQR(h:Reg P N ops q rest ds ((d,.bool (!decide (i=j)))::L) w A B X Z):Reg P N ops q (⟨some d,.binOp .neq t x y t',ty,pos,af,none⟩::rest) ds L w A B X Z:=
 Reg.val _ rfl rfl hN (fun a H w' _=>by simp[execOp,H.eval hx,H.eval hy,eqGuard_at_int,binOp_neq];rfl) h
end cmp
theorem ACE{k:IntKind}{x:Int}(h:InK k x):k.wrap x=x:=by
 cases k<;>simp[InK,IntKind.min,IntKind.max,IntKind.signed,IntKind.bits,IntKind.wrap]at h ⊢ <;> (try split)<;>omega
section arith
variable{t t':TypeId}{x y:Operand}{k:IntKind}{i j:Int}(hx:ev L x=some (.int k i))(hy:ev L y=some (.int k j))(hN:blt d N=true)
include hx hy hN
theorem AGw(I:InK k (i+j))(h:Reg P N ops q rest ds ((d,.int k (i+j))::L) w A B X Z):Reg P N ops q (⟨some d,.binOp .add t x y t',ty,pos,af,none⟩::rest) ds L w A B X Z:=
 Reg.val _ rfl rfl hN (fun a H w' _=>by simp[execOp,H.eval hx,H.eval hy,eqGuard_add,binOp_add,Op.intArith,ACE I]) h
theorem AMU(I:InK k (i-j))(h:Reg P N ops q rest ds ((d,.int k (i-j))::L) w A B X Z):Reg P N ops q (⟨some d,.binOp .sub t x y t',ty,pos,af,none⟩::rest) ds L w A B X Z:=
 Reg.val _ rfl rfl hN (fun a H w' _=>by simp[execOp,H.eval hx,H.eval hy,eqGuard_sub,binOp_sub,Op.intArith,ACE I]) h
theorem AUY(I:InK k (i*j))(h:Reg P N ops q rest ds ((d,.int k (i*j))::L) w A B X Z):Reg P N ops q (⟨some d,.binOp .mul t x y t',ty,pos,af,none⟩::rest) ds L w A B X Z:=
 Reg.val _ rfl rfl hN (fun a H w' _=>by simp[execOp,H.eval hx,H.eval hy,eqGuard_mul,binOp_mul,Op.intArith,ACE I]) h
theorem AUZ(H:0<=i)(D:0<j)(U:InK k i)(h:Reg P N ops q rest ds ((d,.int k (i / j))::L) w A B X Z):Reg P N ops q (⟨some d,.binOp .quo t x y t',ty,pos,af,none⟩::rest) ds L w A B X Z:=
 Reg.val _ rfl rfl hN (fun a I w' _=>by
  have W:j≠0:=by omega
  have hd:i.tdiv j=i / j:=Int.tdiv_eq_ediv_of_nonneg H;have V:i / j<=i:=Int.ediv_le_self _ H;have C:0<=i / j:=Int.ediv_nonneg H (by omega);have hk:k.min<=0:=by cases k<;>simp[IntKind.min,IntKind.signed,IntKind.bits]
  have J:InK k (i / j):=⟨by omega,by have:=U.2;omega⟩;simp[execOp,I.eval hx,I.eval hy,eqGuard_quo,binOp_quo,Op.intDiv,W,hd,ACE J]) h
theorem AUa(J:0<=i)(U:0<j)(h:Reg P N ops q rest ds ((d,.int k (i % j))::L) w A B X Z):Reg P N ops q (⟨some d,.binOp .rem t x y t',ty,pos,af,none⟩::rest) ds L w A B X Z:=
 Reg.val _ rfl rfl hN (fun a H w' _=>by
  have I:j≠0:=by omega
  have hd:i.tmod j=i % j:=Int.tmod_eq_emod_of_nonneg J;simp[execOp,H.eval hx,H.eval hy,eqGuard_rem,binOp_rem,Op.intDiv,I,hd]) h
end arith
variable{t:TypeId}{k:IntKind}{i:Int}{s:TypeId}{α:Type}{E:Enc α}{M:List Nat}{e:TypeId}{xs:List α}{n:Nat}{b:Nat}{o:Nat}{cs:List Value}{f:Nat}{fields:Array Field}{fl:Field}{vs:List Value}{ts:Array TypeId}
theorem AUb{b:Bool}(hx:ev L x=some (.bool b))(hN:blt d N=true)(h:Reg P N ops q rest ds ((d,.bool (!b))::L) w A B X Z):
  Reg P N ops q (⟨some d,.unOp .not t x,ty,pos,af,none⟩::rest) ds L w A B X Z:=
 Reg.val _ rfl rfl hN (fun a H w' _=>by simp[execOp,H.eval hx,Op.unary]) h
theorem AUc(hx:ev L x=some (.int k i))(hN:blt d N=true)(H:InK k (-i))(h:Reg P N ops q rest ds ((d,.int k (-i))::L) w A B X Z):
  Reg P N ops q (⟨some d,.unOp .neg t x,ty,pos,af,none⟩::rest) ds L w A B X Z:=
 Reg.val _ rfl rfl hN (fun a I w' _=>by simp[execOp,I.eval hx,Op.unary,Op.intArith,ACE H]) h
theorem AUd{k k':IntKind}{du:TypeDesc}(hx:ev L x=some (.int k i))(I:P.underlying s=some du)(H:P.underlying t=some (.int k'))(hN:blt d N=true)(J:InK k' i)(h:Reg P N ops q rest ds ((d,.int k' i)::L) w A B X Z):Reg P N ops q (⟨some d,.convert s t x,ty,pos,af,none⟩::rest) ds L w A B X Z:=
 Reg.val _ rfl rfl hN (fun a U w' _=>by simp[execOp,U.eval hx,convert,run_underlying I,run_underlying H,Conv.intToInt,ACE J]) h
theorem AUe{w0:World}(hx:ev L x=some v)(hv:RdS E M w0 v xs)(H:P.underlying t=some (.slice e))(hN:blt d N=true)(h:Reg P N ops q rest ds ((d,.int .i64 xs.length)::L) w A B X Z):Reg P N ops q (⟨some d,.call ⟨.builtin .len,#[x],#[t]⟩,ty,pos,af,none⟩::rest) ds L w A B X Z:=by
 obtain⟨a,c,rfl,_⟩:=hv;exact Reg.val _ rfl rfl hN (fun a I w' _=>by simp[execOp,resolve,invoke,builtin,I.eval hx,Builtin.len_,run_underlying H,goInt]) h
theorem AEq{a:Option Addr}{n c:Nat}(hx:ev L x=some (.slice a n c))(H:P.underlying t=some (.slice e))(hN:blt d N=true)(h:Reg P N ops q rest ds ((d,.int .i64 n)::L) w A B X Z):Reg P N ops q (⟨some d,.call ⟨.builtin .len,#[x],#[t]⟩,ty,pos,af,none⟩::rest) ds L w A B X Z:=
 Reg.val _ rfl rfl hN (fun a I w' _=>by simp[execOp,resolve,invoke,builtin,I.eval hx,Builtin.len_,run_underlying H,goInt]) h
theorem Cells.at{w:World}(h:Cells w b o cs)(j:Nat)(H:cs[j]?=some v):w.cell? ⟨b,o+j,none⟩=some v:=h j v H
theorem add_none(b o n:Nat):Addr.add ⟨b,o,none⟩ n=⟨b,o+n,none⟩:=Addr.add_lit b o n
theorem AWd{x y:Operand}(hx:ev L x=some v)(hy:ev L y=some (.int k i))(hv:RdS E M w v xs)(hi:0<=i/\i<xs.length)(U:P.underlying t=some (.slice e))(V:∀w,(sizeOf e).run P w=.ok E.n w)(hN:blt d N=true)(h:∀b o cs y,xs[i.toNat]?=some y->E.R M w cs y->RdC M w b o cs->Reg P N ops q rest ds ((d,.pointer (some ⟨b,o,none⟩))::L) w A B X Z):
  Reg P N ops q (⟨some d,.indexAddr t x y,ty,pos,af,none⟩::rest) ds L w A B X Z:=by
 have H:i.toNat<xs.length:=by omega
 obtain⟨b,o,c,cs,rfl,W,I,C,D⟩:=hv.at i.toNat H
 refine Reg.val (.pointer (some ⟨b,o+i.toNat*E.n,none⟩)) rfl rfl hN (fun a J w' _=>?_) (h b _ cs _ (AX7 H) C ⟨W,I,D⟩)
 simp[execOp,J.eval hx,J.eval hy,Instr.indexAt,asIntOf,run_underlying U,hi.1,hi.2,V,add_none]
theorem AUf(hx:ev L x=some v)(H:v.cells=cs.toArray)(hN:blt d N=true)(h:∀b w',b=w.heap.size->Ext w w'->b<w'.heap.size->w'.heap[b]?=some (.cells cs.toArray e (0,0))->Reg P N ops .seq rest ds ((d,.pointer (some ⟨b,0,none⟩))::L) w' A B X Z):
  Reg P N ops .seq (⟨some d,.box e x,ty,pos,af,none⟩::rest) ds L w A B X Z:=by
 refine P4 (.pointer (some ⟨w.heap.size,0,none⟩)) (w.alloc (.cells cs.toArray e)) rfl rfl hN (fun a I=>?_) (h _ _ rfl (Kp.alloc _ _ _) (by simp) (heap_alloc_new w _))
 simp[execOp,I.eval hx,Instr.box,newVar,newRow,H]
theorem H9{w:World}{fz:Nat×Nat}(J:b∉M)(h:w.heap[b]?=some (.cells cs.toArray e fz)):RdC M w b 0 cs:=by
 refine⟨J,?_,fun j u I=>?_⟩
 . rcases AYF b w.heap.size with H|H
   . exact H
   . simp[Array.getElem?_eq_none H]at h
 . show(match w.heap[b]? with|some (.cells c _ _)=>if Option.isSome (none:Option Nat) then none else c[0+j]?|_=>none)=some u
   rw[h];simpa using I
theorem RdS.cells1{w:World}(H:RdS E M w v xs):v.cells=[v].toArray:=by
 obtain⟨a,c,rfl,_⟩:=H;rfl
def Row(e:TypeId)(w:World)(b:Nat)(cs:List Value):Prop:=w.heap[b]?=some (.cells cs.toArray e (0,0))
theorem Row.rd{w:World}(h:Row e w b cs):RdC [] w b 0 cs:=H9 (by simp) h
def B8:List Value->Nat->List Value->List Value
 |cs,_,[]=>cs
 |[],_,_=>[]
 |_::r,0,v::vs=>v::B8 r 0 vs
 |c::r,n+1,vs=>c::B8 r n vs
theorem ABD{b o f m:Nat}(hx:ev L x=some (.pointer (some ⟨b,o,none⟩)))(I:P.underlying s=some (.struct fields))(J:fields[f]?=some fl)(H:∀w,(sizeOf fl.type).run P w=.ok (m+1) w)(hN:blt d N=true)(h:Reg P N ops q rest ds ((d,.pointer (some ⟨b,o+fl.offset,none⟩))::L) w A B X Z):
  Reg P N ops q (⟨some d,.fieldAddr s x f,ty,pos,af,none⟩::rest) ds L w A B X Z:=
 Reg.val _ rfl rfl hN (fun a U w' _=>by simp[execOp,U.eval hx,Instr.fieldAt,run_underlying I,J,Instr.sureAddr,fieldPlace,H,add_none]) h
theorem V9{p:Addr}(hx:ev L x=some (.pointer (some p)))(U:w.cell? p=some v)(J:∀w,(isAgg e).run P w=.ok false w)(hN:blt d N=true)(h:Reg P N ops q rest ds ((d,v)::L) w A B X Z):Reg P N ops q (⟨some d,.load e x,ty,pos,af,none⟩::rest) ds L w A B X Z:=
 Reg.val v rfl rfl hN (fun a V w' H=>by
  have I:=H.ext.cell (by simp) U;simp[execOp,V.eval hx,Instr.loadAt,Instr.sureAddr,loadVar,J,I]) h
theorem AAs(hx:ev L x=some (.pointer (some ⟨b,o,none⟩)))(W:Cells w b o cs)(V:∀w,(isAgg e).run P w=.ok true w)(J:cs.length=n)(I:∀w,(sizeOf e).run P w=.ok n w)(hN:blt d N=true)(h:Reg P N ops q rest ds ((d,.agg cs.toArray)::L) w A B X Z):Reg P N ops q (⟨some d,.load e x,ty,pos,af,none⟩::rest) ds L w A B X Z:=by
 subst J;refine Reg.val _ rfl rfl hN (fun a C w' H=>?_) h;have:=run_loadCells_list (P:=P) w' ⟨b,o,none⟩ cs (fun j v U=>by rw[add_none];exact H.ext.cell (by simp) (W j v U));simp[execOp,C.eval hx,Instr.loadAt,Instr.sureAddr,loadVar,V,I,this]
theorem ASV(hx:ev L x=some (.agg cs.toArray))(H:P.underlying s=some (.struct fields))(I:fields[f]?=some fl)(J:∀w,(isAgg fl.type).run P w=.ok false w)(hv:cs[fl.offset]?=some v)(hN:blt d N=true)(h:Reg P N ops q rest ds ((d,v)::L) w A B X Z):Reg P N ops q (⟨some d,.field s x f,ty,pos,af,none⟩::rest) ds L w A B X Z:=
 Reg.val v rfl rfl hN (fun a U w' _=>by simp[execOp,U.eval hx,Instr.field,run_underlying H,I,asAgg,part,J,hv]) h
theorem AF9{i:Nat}(hx:ev L x=some (.tuple vs.toArray))(hv:vs[i]?=some v)(hN:blt d N=true)(h:Reg P N ops q rest ds ((d,v)::L) w A B X Z):Reg P N ops q (⟨some d,.extract x i,ty,pos,af,none⟩::rest) ds L w A B X Z:=
 Reg.val v rfl rfl hN (fun a H w' _=>by simp[execOp,H.eval hx,Instr.extract,hv]) h
def evs(L:A7):List Operand->Option (List Value)
 |[]=>some []
 |x::r=>match ev L x with
  |some v=>match evs L r with
   |some vs=>some (v::vs)
   |none=>none
  |none=>none
theorem AAh{a:Act}(H:Knows N ds L a):∀(xs:List Operand) (vs:List Value),evs L xs=some vs->xs.map a.eval=vs
 |[],vs,h=>by simp[evs]at h;subst h;rfl
 |x::r,vs,h=>by
  simp only[evs]at h;split at h
  . rename_i v hv;split at h
    . rename_i us I;cases h
      simp[H.eval hv,AAh H r us I]
    . cases h
  . cases h
theorem AO2{w':World}{xs:List Operand}(J:Knows N ds L a)(H:evs L xs=some vs)(I:∀args w,(callFunc f args).run P w=.ok (.enter f args) w){g:Option (Nat×Bool)}{dd:Option Tmp}:
  (execOp a.eval ⟨dd,.call ⟨.value (.func f),xs.toArray,ts⟩,ty,pos,af,g⟩).run P w'=.ok (.enter f vs.toArray) w':=by
 have:=AAh J xs vs H
 simp[execOp,resolve,Act.eval,Deferred.ofValue,invoke,I,this]
theorem X6{xs:List Operand}(H:evs L xs=some vs)(I:∀args w,(callFunc f args).run P w=.ok (.enter f args) w)(hN:blt d N=true)(h:Calls P f vs.toArray w fun e w'=>∃v,e=.returned v/\Reg P N ops .seq rest ds ((d,v)::L) w' A B X Z):
  Reg P N ops .seq (⟨some d,.call ⟨.value (.func f),xs.toArray,ts⟩,ty,pos,af,none⟩::rest) ds L w A B X Z:=
 Reg.call rfl rfl hN (fun a J=>AO2 J H I) h
def ob:Value->List Nat
 |.slice (some a) _ (_+1)=>[a.block]
 |_=>[]
def Chunks{α:Type}(E:Enc α)(M:List Nat)(w:World):List Value->List α->Prop
 |cs,[]=>cs=[]
 |cs,x::r=>∃c rest,cs=c++rest/\E.R M w c x/\Chunks E M w rest r
variable{α:Type}{E:Enc α}{M:List Nat}{g:Nat}{e:TypeId}{Bb:Nat}{xs:List α}
theorem Chunks.len:∀{cs:List Value} {xs:List α},Chunks E M w cs xs->cs.length=xs.length*E.n
 |cs,[],h=>by have h:cs=[]:=h;simp[h]
 |cs,x::r,⟨c,rest,h,I,H⟩=>by
  have:=E.len I;have:=Chunks.len H;simp[*,Nat.add_mul];omega
theorem Chunks.one:∀{cs:List Value} {xs:List α},Chunks E M w cs xs->∀u∈cs,u.oneCell'=true
 |cs,[],h,u,H=>by have h:cs=[]:=h;subst h;cases H
 |cs,x::r,⟨c,rest,h,J,I⟩,u,H=>by
  subst h;rcases mem_append.1 H with H|H
  . exact E.one J u H
  . exact Chunks.one I u H
theorem Chunks.adv{M M':List Nat}{w w':World}(H:Adv M M' w w'):∀{cs:List Value} {xs:List α},Chunks E M w cs xs->Chunks E M' w' cs xs
 |_,[],h=>h
 |_,_::_,⟨c,rest,h,J,I⟩=>⟨c,rest,h,E.adv J H,Chunks.adv H I⟩
theorem Chunks.append{ds:List Value}{ys:List α}(hd:Chunks E M w ds ys):∀{cs:List Value} {xs:List α},Chunks E M w cs xs->Chunks E M w (cs++ds) (xs++ys)
 |cs,[],h=>by have h:cs=[]:=h;subst h;exact hd
 |cs,x::r,⟨c,rest,h,I,H⟩=>⟨c,rest++ds,by rw[h,AYU],I,Chunks.append hd H⟩
theorem Chunks.get:∀{cs:List Value} {xs:List α},Chunks E M w cs xs->∀i (h:i<xs.length),E.R M w ((cs.drop (i*E.n)).take E.n) xs[i]
 |cs,[],_,i,hi=>by simp at hi
 |cs,x::r,⟨c,rest,h,H,I⟩,0,_=>by
  have hl:=E.len H;subst h;simpa[<-hl] using H
 |cs,x::r,⟨c,rest,h,H,I⟩,i+1,hi=>by
  have hl:=E.len H;have:=Chunks.get I i (by simpa using hi);subst h;have hd:(c++rest).drop ((i+1)*E.n)=rest.drop (i*E.n):=by
   rw[AYl,AZY,Nat.add_comm,<-hl];simp[List.drop_append,List.drop_eq_nil_of_le]
  rw[hd];simpa using this
theorem AEg{α:Type}{E:Enc α}{M:List Nat}{w:World}:∀(xs:List α) (f:Nat->List Value),(∀i (h:i<xs.length),E.R M w (f i) xs[i])->Chunks E M w ((List.range xs.length).map f).flatten xs
 |[],f,_=>rfl
 |x::r,f,h=>by
  refine⟨f 0,((List.range r.length).map fun i=>f (i+1)).flatten,?_,h 0 (by simp),AEg r (fun i=>f (i+1)) fun i hi=>?_⟩
  . simp[List.range_succ_eq_map,List.map_map,Function.comp_def]
  . exact h (i+1) (by simpa using hi)
def Own{α:Type}(E:Enc α)(e:TypeId)(Bb:Nat)(M:List Nat)(w:World)(v:Value)(xs:List α):Prop:=
 (∃a,v=.slice a 0 0/\xs=[]) \/
 ∃g cap cur,v=.slice (some ⟨g,0,none⟩) xs.length (cap+1)/\Bb<=g/\w.heap[g]?=some (.cells cur e (0,0))/\xs.length<=cap+1/\cap+1<=maxLen/\cur.size=(cap+1)*E.n/\Chunks E (g::M) w (cur.toList.take (xs.length*E.n)) xs
theorem AO3(E:Enc α)(e:TypeId)(Bb:Nat)(M:List Nat)(w:World)(a:Option Addr):Own E e Bb M w (.slice a 0 0) []:=.inl ⟨a,rfl,rfl⟩
theorem Own.nil(E:Enc α)(e:TypeId)(Bb:Nat)(M:List Nat)(w:World):Own E e Bb M w (.slice none 0 0) []:=.inl ⟨_,rfl,rfl⟩
theorem K7{o:Obj}(h:w.heap[g]?=some o):g<w.heap.size:=by
 rcases AYF g w.heap.size with H|H
 . exact H
 . rw[AYq H]at h;cases h
theorem AHp{a:Option Addr}{n:Nat}:ob (.slice a n 0)=[]:=by cases a<;>rfl
theorem Own.ge(h:Own E e Bb M w v xs):∀b∈ob v,Bb<=b/\b<w.heap.size:=by
 rcases h with⟨a,rfl,rfl⟩|⟨g,cap,cur,rfl,J,I,_⟩
 . intro b H;rw[AHp]at H;cases H
 . intro b H;have:b=g:=by simpa[ob] using H
   subst this;exact⟨J,K7 I⟩
theorem Own.shape(h:Own E e Bb M w v xs):∃a c,v=.slice a xs.length c/\xs.length<=c/\c<=9223372036854775807:=by
 rcases h with⟨a,rfl,rfl⟩|⟨g,cap,cur,rfl,U,J,I,H,_⟩
 . exact⟨a,0,rfl,by simp,by omega⟩
 . exact⟨_,_,rfl,I,by simp only[maxLen]at H;omega⟩
theorem Own.len(h:Own E e Bb M w v xs):xs.length<=9223372036854775807:=by
 obtain⟨a,c,_,I,H⟩:=h.shape;omega
theorem ACO{cur:Array Value}{z:Nat×Nat}(h:w.heap[g]?=some (.cells cur e z)){j:Nat}{u:Value}(H:cur[j]?=some u):w.cell? ⟨g,j,none⟩=some u:=by
 show(match w.heap[g]? with|some (.cells c _ _)=>if Option.isSome (none:Option Nat) then none else c[j]?|_=>none)=some u
 rw[h];simpa using H
theorem Own.rd(h:Own E e Bb M w v xs)(I:∀b∈ob v,b∉M):RdS E M w v xs:=by
 rcases h with⟨a,rfl,rfl⟩|⟨g,cap,cur,rfl,D,J,W,V,C,U⟩
 . exact⟨a,0,rfl,by simp,by omega,.inl rfl⟩
 . refine⟨_,cap+1,rfl,W,V,.inr ⟨g,0,rfl,I g (by simp[ob]),K7 J,fun i hi=>?_⟩⟩;refine⟨_,E.mon (fun b I=>.inl (AX0 _ I)) (U.get i hi),fun j u H=>?_⟩;rw[AYa]at H;split at H
   . rw[AYu,AYa]at H;split at H
     . have:=ACO J (j:=i*E.n+j) (u:=u) (by simpa using H);simpa[Nat.add_assoc] using this
     . cases H
   . cases H
structure SlT(P:Program)(t e:TypeId)(n bytes:Nat):Prop where
 und:P.underlying t=some (.slice e)
 info:∃i z,P.info? e=some i/\i.zero=some z/\i.size=n/\i.bytes=bytes/\z.cells.size=n
theorem RdS.cells(h:RdS E M w v xs):∃a c news,v=.slice a xs.length c/\Chunks E M w news xs/\(xs=[]\/∃b o,a=some ⟨b,o,none⟩/\Cells w b o news):=by
 obtain⟨a,c,rfl,_,_,J⟩:=h;rcases J with rfl|⟨b,o,rfl,_,_,h⟩
 . exact⟨a,c,[],rfl,rfl,.inl rfl⟩
 . have H:∀i,∃cs,∀(hi:i<xs.length),E.R M w cs xs[i]/\Cells w b (o+i*E.n) cs:=fun i=>by
    by_cases hi:i<xs.length
    . obtain⟨cs,h⟩:=h i hi;exact⟨cs,fun _=>h⟩
    . exact⟨[],fun h=>absurd h hi⟩
   refine⟨_,c,((List.range xs.length).map fun i=>(H i).choose).flatten,rfl,AEg xs _ fun i hi=>((H i).choose_spec hi).1,.inr ⟨b,o,rfl,?_⟩⟩;have key:∀n,n<=xs.length->Cells w b o ((List.range n).map fun i=>(H i).choose).flatten/\((List.range n).map fun i=>(H i).choose).flatten.length=n*E.n:=by
    intro n;induction n with
    |zero=>intro _;exact⟨Cells.nil _ _ _,by simp⟩
    |succ n ih=>
     intro U
     obtain⟨ih1,ih2⟩:=ih (by omega)
     have I:=(H n).choose_spec (by omega)
     simp only[List.range_succ,List.map_append,List.map_cons,List.map_nil,List.flatten_append,List.flatten_cons,List.flatten_nil,List.append_nil]
     refine⟨ih1.append (by rw[ih2];exact I.2),?_⟩
     rw[AYN,ih2,E.len I.1,AYl,AZY]
   exact(key xs.length (AYE _)).1
theorem AMV{P:Program}{t e bytes:Nat}(T:SlT P t e E.n bytes){Bb:Nat}{v x:Value}{xs ys:List α}{ty:TypeId}(N:Own E e Bb M w v xs)(hx:RdS E (ob v++M) w x ys)(n:Bb<=w.heap.size)(F:xs.length+ys.length<=maxLen)(hbytes:(xs.length+ys.length)*bytes<=140737488355328):
  ∃v' w',(Builtin.append_ #[t,t] ty #[v,x]).run P w=.ok v' w'/\Own E e Bb M w' v' (xs++ys)/\Kp (ob v) w w'/\(∀b∈ob v',b∈ob v\/w.heap.size<=b):=by
 obtain⟨i,z,hi,L,Y,J,S⟩:=T.info
 have hpos':=E.pos
 obtain⟨a,c,news,rfl,W,hcell⟩:=hx.cells
 have hl:news.length=ys.length*i.size:=by rw[Y];exact W.len
 have p:=W.one
 by_cases hy:ys=[]
 . subst hy
   refine⟨v,w,?_,by rw[AYO];exact N,Kp.refl _ _,fun b J=>.inl J⟩
   rcases N with⟨a',rfl,rfl⟩|⟨g,cap,cur,rfl,_,_,Q,_⟩
   . cases a<;>cases a' <;> simp[Builtin.append_,run_underlying T.und,sizeOf,typeInfo,hi,Builtin.lenOf,Builtin.firstCells,loadCells,loadCellsFrom,storeCells]
   . cases a<;>simp[Builtin.append_,run_underlying T.und,sizeOf,typeInfo,hi,Builtin.lenOf,Builtin.firstCells,loadCells,loadCellsFrom,Q,storeCells]
 . rcases hcell with h|⟨b,o,rfl,m⟩
   . exact absurd h hy
   have hnews:∀j u,news[j]?=some u->w.cell? ((⟨b,o,none⟩:Addr).add j)=some u:=fun j u K=>by rw[add_none];exact m j u K
   have D:0<ys.length:=List.length_pos_iff.2 hy
   have hsmall:xs.length+ys.length<=9223372036854775807:=by simp only[maxLen]at F;omega
   have grown:∀(old:Nat) (cs:List Value),old<xs.length+ys.length->cs.length=xs.length*i.size->Chunks E (ob v++M) w cs xs ->
     Own E e Bb M (w.drew.alloc (.cells (cs.toArray++news.toArray++Builtin.zeroCells z.cells (grownCap w (xs.length+ys.length) old e-(xs.length+ys.length))) e)) (.slice (some ⟨w.heap.size,0,none⟩) (xs.length+ys.length) (grownCap w (xs.length+ys.length) old e)) (xs++ys) /\
     Kp (ob v) w (w.drew.alloc (.cells (cs.toArray++news.toArray++Builtin.zeroCells z.cells (grownCap w (xs.length+ys.length) old e-(xs.length+ys.length))) e)) /\
     (∀k∈ob (.slice (some ⟨w.heap.size,0,none⟩) (xs.length+ys.length) (grownCap w (xs.length+ys.length) old e)),k∈ob v\/w.heap.size<=k):=fun old cs N I V=>by
    have l:=grownCap_ge w (xs.length+ys.length) old e
    have X:grownCap w (xs.length+ys.length) old e<=maxLen:=grownCap_le_maxLen w _ old e F
    have hk:Kp (ob v) w (w.drew.alloc (.cells (cs.toArray++news.toArray++Builtin.zeroCells z.cells (grownCap w (xs.length+ys.length) old e-(xs.length+ys.length))) e)):=
     ⟨rfl,rfl,rfl,by simp,fun k hk _=>Below.heap_alloc w.drew _ k hk,fun _=>Nat.le_succ _⟩
    have U:(cs++news).length=(xs.length+ys.length)*i.size:=by rw[AYN,I,hl,AYl]
    obtain⟨gc,B⟩:∃gc,grownCap w (xs.length+ys.length) old e=gc+1:=⟨grownCap w (xs.length+ys.length) old e-1,by omega⟩
    refine⟨?_,hk,fun k A=>?_⟩
    . refine .inr ⟨w.heap.size,gc,_,by rw[AYN,B],n,heap_alloc_new w.drew _,by rw[AYN];omega,by omega,?_,?_⟩
      . simp only[Array.size_append,List.size_toArray,size_zeroCells,S,I,hl,<-Nat.add_mul,Y]
        congr 1
        omega
      . have O:((cs.toArray++news.toArray++Builtin.zeroCells z.cells (grownCap w (xs.length+ys.length) old e-(xs.length+ys.length))).toList.take ((xs++ys).length*E.n))=cs++news:=by
         simp only[Array.toList_append,List.append_assoc];rw[<-AYU,<-Y,AYN,<-U];exact List.take_left
        rw[O]
        have R:Adv (ob v++M) (w.heap.size::M) w (w.drew.alloc (.cells (cs.toArray++news.toArray++Builtin.zeroCells z.cells (grownCap w (xs.length+ys.length) old e-(xs.length+ys.length))) e)):=⟨hk.mono fun x hx=>.inl (mem_append.2 (.inl hx)),fun b J=>by
         rcases mem_cons.1 J with rfl|h
         . exact .inr (AYE _)
         . exact .inl (mem_append.2 (.inr h))⟩
        exact Chunks.append (Chunks.adv R W) (Chunks.adv R V)
    . rw[B]at A
      have:k=w.heap.size:=by simpa[ob] using A
      subst this;exact .inr (AYE _)
   rcases N with⟨a',rfl,rfl⟩|⟨g,cap,cur,rfl,f,H,Q,X,Z,V⟩
   . have H:=grown 0 [] (by simpa using D) (by simp) rfl
     simp only[List.length_nil,Nat.zero_add,List.nil_append,Array.empty_append]at H ⊢
     cases a' with
     |none=>
      have C:=run_append_nil (P:=P) w t ty e i z T.und hi L ⟨b,o,none⟩ ys.length c news hl hnews D (by simp only[List.length_nil]at hsmall;omega) (by rw[J];simp only[List.length_nil,Nat.zero_add]at hbytes;omega)
      exact⟨_,_,C,H.1,H.2.1,H.2.2⟩
     |some a'=>
      have C:=run_append_grow (P:=P) w t ty e i z T.und hi L a' 0 0 [] (by simp) (fun j u K=>by simp at K) ⟨b,o,none⟩ ys.length c news hl hnews (by omega) (by simp only[List.length_nil]at hsmall;omega) (growslice_fits (by omega) (by rw[J];simpa using hbytes))
      simp only[Nat.zero_add,Array.empty_append]at C
      exact⟨_,_,C,H.1,H.2.1,H.2.2⟩
   . have I:(cur.toList.take (xs.length*E.n)).length=xs.length*i.size:=by
      have d:cur.toList.length=cur.size:=AY5;rw[AYj,d,Z,Y];exact AZM (AYy _ Q)
     have U:(cur.toList.take (xs.length*E.n)++news).length=(xs.length+ys.length)*i.size:=by rw[AYN,I,hl,AYl]
     by_cases hroom:xs.length+ys.length<=cap+1
     . have G:xs.length*i.size+news.length<=cur.size:=by rw[hl,Z,<-AYl,Y];exact AYy _ hroom
       have C:=run_append_room (P:=P) w t ty e i T.und hi g xs.length (cap+1) cur H ⟨b,o,none⟩ ys.length c news hl hnews p hroom G
       have hk:Kp (ob (.slice (some ⟨g,0,none⟩) xs.length (cap+1))) w (w.setRow g (cur.toList.take (xs.length*i.size)++news++cur.toList.drop (xs.length*i.size+news.length)).toArray):=
        ⟨rfl,rfl,rfl,by simp,fun k _ hk=>setRow_other w g k _ (fun e=>hk (by simp[ob,e])),fun _=>AYE _⟩
       have R:Adv (ob (.slice (some ⟨g,0,none⟩) xs.length (cap+1))++M) (g::M) w (w.setRow g (cur.toList.take (xs.length*i.size)++news++cur.toList.drop (xs.length*i.size+news.length)).toArray):=⟨hk.mono fun x hx=>.inl (mem_append.2 (.inl hx)),fun b J=>.inl J⟩
       refine⟨_,_,C,.inr ⟨g,cap,_,by rw[AYN],f,setRow_heap w g cur _ e _ H,by rw[AYN];exact hroom,X,?_,?_⟩,hk,fun b J=>.inl (by simpa[ob] using J)⟩
       . simp only[List.size_toArray,List.length_append,List.length_take,List.length_drop,Array.length_toList]
         omega
       . have O:((cur.toList.take (xs.length*i.size)++news++cur.toList.drop (xs.length*i.size+news.length)).toArray.toList.take ((xs++ys).length*E.n))=cur.toList.take (xs.length*E.n)++news:=by
          rw[<-Y]at U ⊢;rw[AYN,<-U];exact List.take_left
         rw[O]
         exact Chunks.append (Chunks.adv R W) (Chunks.adv R V)
     . have holds:∀j u,(cur.toList.take (xs.length*E.n))[j]?=some u->w.cell? ((⟨g,0,none⟩:Addr).add j)=some u:=fun j u K=>by
        rw[add_none];rw[AYa]at K;split at K
        . simpa using ACO H (by simpa using K)
        . cases K
       have C:=run_append_grow (P:=P) w t ty e i z T.und hi L ⟨g,0,none⟩ xs.length (cap+1) (cur.toList.take (xs.length*E.n)) I holds ⟨b,o,none⟩ ys.length c news hl hnews (by omega) (by omega) (growslice_fits (by omega) (by rw[J];exact hbytes))
       have H:=grown (cap+1) (cur.toList.take (xs.length*E.n)) (by omega) I V
       exact⟨_,_,C,H.1,H.2.1,H.2.2⟩
variable{d:Nat}{ty:TypeId}{pos:String}{af:Array Edge}{t:TypeId}{x:Operand}{y:Operand}{cs:List Value}
theorem ASW{Bb e':Nat}{w0:World}(hx:ev L x=some v)(hv:Own E e' Bb M w0 v xs)(H:P.underlying t=some (.slice e))(hN:blt d N=true)(h:Reg P N ops q rest ds ((d,.int .i64 xs.length)::L) w A B X Z):Reg P N ops q (⟨some d,.call ⟨.builtin .len,#[x],#[t]⟩,ty,pos,af,none⟩::rest) ds L w A B X Z:=by
 obtain⟨a,c,rfl,_⟩:=hv.shape;exact AEq hx H hN h
theorem AUg{t e bytes:Nat}(T:SlT P t e E.n bytes){v x:Value}{xs ys:List α}{s y:Operand}(V:ev L s=some v)(hy:ev L y=some x)(C:Own E e Bb M w v xs)(hx:RdS E (ob v++M) w x ys)(F:Bb<=w.heap.size)(H:(xs.length+ys.length)*bytes<=140737488355328/\xs.length+ys.length<=140737488355328)(hN:blt d N=true)(h:∀v' w',Own E e Bb M w' v' (xs++ys)->Kp (ob v) w w'->Adv (ob v++M) (ob v'++M) w w'->(∀b∈ob v',b∈ob v\/w.heap.size<=b)->Reg P N ops .seq rest ds ((d,v')::L) w' A B X Z):
  Reg P N ops .seq (⟨some d,.call ⟨.builtin .append,#[s,y],#[t,t]⟩,ty,pos,af,none⟩::rest) ds L w A B X Z:=by
 obtain⟨v',w',W,K,U,J⟩:=AMV T (ty:=ty) C hx F (by simp only[maxLen];omega) H.1
 refine P4 v' w' rfl rfl hN (fun a I=>?_) (h v' w' K U ⟨U.mono fun x hx=>.inl (mem_append.2 (.inl hx)),fun b D=>?_⟩ J)
 . simp[execOp,resolve,invoke,builtin,I.eval V,I.eval hy,W]
 . rcases mem_append.1 D with h|h
   . rcases J b h with h|h
     . exact .inl (mem_append.2 (.inl h))
     . exact .inr h
   . exact .inl (mem_append.2 (.inr h))
theorem AEr:∀(cs:List Value) (o:Nat) (vs:List Value),(B8 cs o vs).length=cs.length
 |cs,o,[]=>by cases cs<;>rfl
 |[],_,_::_=>rfl
 |_::r,0,v::vs=>by simp[B8,AEr r 0 vs]
 |c::r,n+1,v::vs=>by simp[B8,AEr r n (v::vs)]
theorem ADH(b:Nat)(e:TypeId):∀(vs:List Value) (i:Nat) (cs:List Value) (w:World) (o:Nat),Row e w b cs->o+i+vs.length<=cs.length->(∀u∈vs,u.oneCell'=true) ->
  ∃w',(storeCells ⟨b,o,none⟩ vs i).run P w=.ok () w'/\Row e w' b (B8 cs (o+i) vs)/\Kp [b] w w'
 |[],i,cs,w,o,h,_,_=>⟨w,by simp[storeCells],by cases cs<;>exact h,Kp.refl _ _⟩
 |v::vs,i,cs,w,o,h,hl,C=>by
  have F:=h.rd.lt;have hi:o+i<cs.length:=by simp at hl;omega
  have O:w.cell? ⟨b,o+i,none⟩=some cs[o+i]:=by
   have:=h.rd.cells (o+i) cs[o+i] (AX7 hi);simpa using this
  have K:w.frozen? ⟨b,o+i,none⟩=false:=by
   have W:w.heap[b]?=some (.cells cs.toArray e (0,0)):=h;show(match w.heap[b]? with|some (.cells _ _ (lo,hi))=>lo<=o+i&&o+i<hi|_=>false)=false;rw[W];simp
  have I:Row e (w.setCell ⟨b,o+i,none⟩ v) b (cs.set (o+i) v):=by
   have W:w.heap[b]?=some (.cells cs.toArray e (0,0)):=h;show(w.heap.modify b _)[b]?=_;rw[AZi,AYB rfl,W];simp
  have H:B8 (cs.set (o+i) v) (o+(i+1)) vs=B8 cs (o+i) (v::vs):=by
   have key:∀(cs:List Value) (n:Nat),n<cs.length->B8 (cs.set n v) (n+1) vs=B8 cs n (v::vs):=by
    intro cs;induction cs with
    |nil=>intro n J;simp at J
    |cons c r ih=>
     intro n J
     cases n with
     |zero=>cases vs<;>simp[B8]<;>(cases r<;>rfl)
     |succ n=>
      simp only[List.set_cons_succ]
      cases vs with
      |nil=>have:=ih n (by simpa using J);simp only[B8]at this ⊢;rw[this]
      |cons u us=>have:=ih n (by simpa using J);simp only[B8]at this ⊢;rw[this]
   exact key cs (o+i) hi
  obtain⟨w',E,U,hk⟩:=ADH b e vs (i+1) _ _ o I (by simp at hl ⊢;omega) fun u D=>C u (AX0 _ D);refine⟨w',?_,by rw[<-H];exact U,(Kp.setCell w ⟨b,o+i,none⟩ v (by simp)).trans hk⟩;have V:=run_store P w ⟨b,o+i,none⟩ v .plain (C v (by simp));simp[storeCells,add_none,V,O,K,E]
theorem AO4{b o n:Nat}{cs vs:List Value}(hx:ev L x=some (.pointer (some ⟨b,o,none⟩)))(hy:ev L y=some v)(hv:v.cells=vs.toArray)(V:Row e w b cs)(U:∀w,(sizeOf t).run P w=.ok n w)(W:vs.length=n)(hl:Nat.ble (o+vs.length) cs.length=true)(C:∀u∈vs,u.oneCell'=true)(h:∀w',Row e w' b (B8 cs o vs)->Kp [b] w w'->Reg P N ops .seq rest ds L w' A B X Z):
  Reg P N ops .seq (⟨none,.store t x y,ty,pos,af,none⟩::rest) ds L w A B X Z:=by
 subst W
 obtain⟨w',H,I,hk⟩:=ADH (P:=P) b e vs 0 cs w o V (AYT hl) C
 refine Reg.sto w' rfl rfl (fun a J=>?_) (h w' I hk)
 simp[execOp,J.eval hx,J.eval hy,Instr.storeAt,Instr.sureAddr,storeVar,hv,U,H]
theorem ASX{z:Value}(H:∀w,(zeroValue e).run P w=.ok z w)(I:z.cells=cs.toArray)(hN:blt d N=true)(h:∀b w',b=w.heap.size->Ext w w'->b<w'.heap.size->w'.heap[b]?=some (.cells cs.toArray e (0,0))->Reg P N ops .seq rest ds ((d,.pointer (some ⟨b,0,none⟩))::L) w' A B X Z):
  Reg P N ops .seq (⟨some d,.alloc e,ty,pos,af,none⟩::rest) ds L w A B X Z:=by
 refine P4 (.pointer (some ⟨w.heap.size,0,none⟩)) (w.alloc (.cells cs.toArray e)) rfl rfl hN (fun a J=>?_) (h _ _ rfl (Kp.alloc _ _ _) (by simp) (heap_alloc_new w _))
 simp[execOp,Instr.alloc,H,newVar,newRow,I]
variable{d:Nat}{ty:TypeId}{pos:String}{af:Array Edge}{t:TypeId}{t':TypeId}{x:Operand}{y:Operand}{b:Bool}{n:Nat}{k:IntKind}{k':IntKind}{i:Int}{j:Int}{ts:Array TypeId}{c:Nat}{vf:Value}{args:List Value}{vs:List Value}{f:Operand}
section
variable{a:Option Addr}
theorem AUh{xs ys:List Value}(J:∀w,(Op.equalIn 10000 t (.agg xs.toArray) (.agg ys.toArray)).run P w=.ok b w)(I:P.eqGuardType P.depth t=false)(hx:ev L x=some (.agg xs.toArray))(hy:ev L y=some (.agg ys.toArray))(hN:blt d N=true)(h:Reg P N ops q rest ds ((d,.bool b)::L) w A B X Z):Reg P N ops q (⟨some d,.binOp .eql t x y t',ty,pos,af,none⟩::rest) ds L w A B X Z:=
 Reg.val _ rfl rfl hN (fun a H w' _=>by simp[execOp,H.eval hx,H.eval hy,run_eqGuard_agg w' .eql t x y xs.toArray ys.toArray I,run_eql_struct,J]) h
theorem AUi{xs ys:List Value}(J:∀w,(Op.equalIn 10000 t (.agg xs.toArray) (.agg ys.toArray)).run P w=.ok b w)(I:P.eqGuardType P.depth t=false)(hx:ev L x=some (.agg xs.toArray))(hy:ev L y=some (.agg ys.toArray))(hN:blt d N=true)(h:Reg P N ops q rest ds ((d,.bool (!b))::L) w A B X Z):Reg P N ops q (⟨some d,.binOp .neq t x y t',ty,pos,af,none⟩::rest) ds L w A B X Z:=
 Reg.val _ rfl rfl hN (fun a H w' _=>by simp[execOp,H.eval hx,H.eval hy,run_eqGuard_agg w' .neq t x y xs.toArray ys.toArray I,run_neq_struct,J]) h
theorem AUj{s:TypeId}{f n:Nat}{cs:List Value}{fields:Array Field}{fl:Field}(hx:ev L x=some (.agg cs.toArray))(I:P.underlying s=some (.struct fields))(J:fields[f]?=some fl)(U:∀w,(isAgg fl.type).run P w=.ok true w)(H:∀w,(sizeOf fl.type).run P w=.ok n w)(hN:blt d N=true)(h:Reg P N ops q rest ds ((d,.agg ((cs.drop fl.offset).take n).toArray)::L) w A B X Z):Reg P N ops q (⟨some d,.field s x f,ty,pos,af,none⟩::rest) ds L w A B X Z:=
 Reg.val _ rfl rfl hN (fun a V w' _=>by simp[execOp,V.eval hx,Instr.field,run_underlying I,J,asAgg,part,U,H,List.extract_eq_take_drop]) h
theorem AUk(hx:ev L x=some (.int k i))(hy:ev L y=some (.int k' j))(hN:blt d N=true)(h:Reg P N ops q rest ds ((d,.int k (min i j))::L) w A B X Z):Reg P N ops q (⟨some d,.call ⟨.builtin .min,#[x,y],ts⟩,ty,pos,af,none⟩::rest) ds L w A B X Z:=
 Reg.val _ rfl rfl hN (fun a H w' _=>by
  have e:(if j<i then j else i)=min i j:=by omega
  simp[execOp,resolve,invoke,builtin,H.eval hx,H.eval hy,run_min_int2,e]) h
theorem AUl(hx:ev L x=some (.int k i))(hy:ev L y=some (.int k' j))(hN:blt d N=true)(h:Reg P N ops q rest ds ((d,.int k (max i j))::L) w A B X Z):Reg P N ops q (⟨some d,.call ⟨.builtin .max,#[x,y],ts⟩,ty,pos,af,none⟩::rest) ds L w A B X Z:=
 Reg.val _ rfl rfl hN (fun a H w' _=>by
  have e:(if j > i then j else i)=max i j:=by omega
  simp[execOp,resolve,invoke,builtin,H.eval hx,H.eval hy,run_max_int2,e]) h
theorem RdS.take{w:World}(I:RdS E M w (.slice a n c) xs)(k:Nat)(hk:k<=xs.length):RdS E M w (.slice a k c) (xs.take k):=by
 obtain⟨a',c',J,D,C,W⟩:=I;cases J
 refine⟨a,c,by simp[Nat.min_eq_left hk],by simp;omega,C,?_⟩;rcases W with rfl|⟨b,o,rfl,V,H,U⟩
 . exact .inl (by simp)
 . exact .inr ⟨b,o,rfl,V,H,fun i hi=>by simpa using U i (by simp at hi;omega)⟩
theorem RdS.drop{w:World}(J:RdS E M w (.slice a n c) xs)(k:Nat)(hk:k<=xs.length):
  RdS E M w (.slice (if c=k then a else a.map (·.add (k*E.n))) (n-k) (c-k)) (xs.drop k):=by
 obtain⟨a',c',U,O,K,F⟩:=J
 cases U
 refine⟨if c=k then a else a.map (·.add (k*E.n)),c-k,by simp,by simp;omega,by simp only[maxLen]at K ⊢;omega,?_⟩
 rcases F with rfl|⟨b,o,rfl,W,H,V⟩
 . exact .inl (by simp)
 . by_cases I:c=k
   . left
     have:xs.length=k:=by omega
     exact AYp (by omega)
   . right
     refine⟨b,o+k*E.n,by simp[I,add_none],W,H,fun i hi=>?_⟩
     obtain⟨cs,C,D⟩:=V (k+i) (by simp at hi;omega)
     refine⟨cs,by simpa using C,?_⟩
     have e:o+k*E.n+i*E.n=o+(k+i)*E.n:=by rw[AYl];omega
     rw[e];exact D
theorem AUm(hx:ev L x=some v)(hy:ev L y=some (.int k i))(hv:RdS E M w v xs)(hi:0<=i/\i<=xs.length)(J:P.underlying t=some (.slice e))(V:∀w,(sizeOf e).run P w=.ok E.n w)(hN:blt d N=true)(h:∀v',RdS E M w v' (xs.take i.toNat)->ob v'=ob v->Reg P N ops q rest ds ((d,v')::L) w A B X Z):
  Reg P N ops q (⟨some d,.slice t x none (some y) none,ty,pos,af,none⟩::rest) ds L w A B X Z:=by
 obtain⟨a,c,rfl,F,D⟩:=hv.shape
 have I:P.underlying t=some (.slice (P.elem t)):=by simp[Program.elem,J]
 have C:P.elem t=e:=by simp[Program.elem,J]
 have H:sliced a 0 i.toNat c E.n=.slice a i.toNat c:=by
  simp only[sliced,Nat.zero_mul,Nat.sub_zero];congr 1;split
  . rfl
  . cases a<;>simp[Addr.add]
 refine Reg.val (.slice a i.toNat c) rfl rfl hN (fun a' U w' _=>?_) (h _ (hv.take i.toNat (by omega)) (by cases a<;>cases c<;>rfl))
 have W:=run_slice_h (P:=P) w' t a xs.length c I k i hi.1 (by omega)
 simp[execOp,U.eval hx,U.eval hy,run_sliceAt_slice w' t _ _ _ _ I,W,C,V,H]
theorem AUn(hx:ev L x=some v)(hy:ev L y=some (.int k i))(hv:RdS E M w v xs)(hi:0<=i/\i<=xs.length)(I:P.underlying t=some (.slice e))(U:∀w,(sizeOf e).run P w=.ok E.n w)(hN:blt d N=true)(h:∀v',RdS E M w v' (xs.drop i.toNat)->Reg P N ops q rest ds ((d,v')::L) w A B X Z):
  Reg P N ops q (⟨some d,.slice t x (some y) none none,ty,pos,af,none⟩::rest) ds L w A B X Z:=by
 obtain⟨a,c,rfl,D,C⟩:=hv.shape
 have H:P.underlying t=some (.slice (P.elem t)):=by simp[Program.elem,I]
 have W:P.elem t=e:=by simp[Program.elem,I]
 refine Reg.val _ rfl rfl hN (fun a' J w' _=>?_) (h _ (hv.drop i.toNat (by omega)))
 have V:=run_slice_l (P:=P) w' t a xs.length c H k i hi.1 (by omega)
 simp[execOp,J.eval hx,J.eval hy,run_sliceAt_slice w' t _ _ _ _ H,V,W,U,sliced]
def CallsV(P:Program)(vf:Value)(args:List Value)(w:World)(R:Ending->World->Prop):Prop:=
 ∃g caps,vf=.func (.func g) #[] caps/\(∀args w,(callFunc g args).run P w=.ok (.enter g args) w)/\Calls P g (args.toArray++caps) w R
theorem CallsV.mono{R R':Ending->World->Prop}(h:CallsV P vf args w R)(H:∀e w',R e w'->R' e w'):CallsV P vf args w R':=by
 obtain⟨g,caps,U,J,I⟩:=h;exact⟨g,caps,U,J,I.mono H⟩
theorem CallsV.of{caps:Array Value}(I:∀args w,(callFunc g args).run P w=.ok (.enter g args) w)(H:Calls P g (args.toArray++caps) w R):CallsV P (.func (.func g) #[] caps) args w R:=⟨g,caps,rfl,I,H⟩
theorem ADz{xs:List Operand}(H:evs L xs=some vs)(hN:blt d N=true)(h:Reg P N ops q rest ds ((d,.func (.func g) #[] vs.toArray)::L) w A B X Z):
  Reg P N ops q (⟨some d,.makeFunc (.func g) #[] xs.toArray,ty,pos,af,none⟩::rest) ds L w A B X Z:=
 Reg.val _ rfl rfl hN (fun a I w' _=>by
  have:=AAh I xs vs H;simp[execOp,Instr.makeFunc,this]) h
theorem ADV{xs:List Operand}(J:ev L f=some vf)(H:evs L xs=some vs)(hN:blt d N=true)(h:CallsV P vf vs w fun e w'=>∃v,e=.returned v/\Reg P N ops .seq rest ds ((d,v)::L) w' A B X Z):
  Reg P N ops .seq (⟨some d,.call ⟨.value f,xs.toArray,ts⟩,ty,pos,af,none⟩::rest) ds L w A B X Z:=by
 obtain⟨g,caps,rfl,V,U⟩:=h
 refine Reg.call (f:=g) (args:=vs.toArray++caps) rfl rfl hN (fun a I=>?_) U
 have:=AAh I xs vs H
 simp[execOp,resolve,I.eval J,Deferred.ofValue,invoke,V,this]
theorem AD0{xs:List Operand}(J:ev L f=some vf)(H:evs L xs=some vs)(h:CallsV P vf vs w fun e w'=>∃v,e=.returned v/\Reg P N ops .seq rest ds L w' A B X Z):
  Reg P N ops .seq (⟨none,.call ⟨.value f,xs.toArray,ts⟩,ty,pos,af,none⟩::rest) ds L w A B X Z:=by
 obtain⟨g,caps,rfl,V,U⟩:=h
 refine ANh (f:=g) (args:=vs.toArray++caps) rfl rfl (fun a I=>?_) U
 have:=AAh I xs vs H
 simp[execOp,resolve,I.eval J,Deferred.ofValue,invoke,V,this]
theorem AEs(off:Nat):∀(cs:List Value) (j:Nat) (pre suf:List Value),off+j=pre.length->cs.length<=suf.length ->
  ((cs.zipIdx j).foldl (fun acc (x:Value×Nat)=>acc.setIfInBounds (off+x.2) x.1) (pre++suf).toArray)=(pre++cs++suf.drop cs.length).toArray
 |[],j,pre,suf,_,_=>by simp
 |c::cs,j,pre,suf,h,hl=>by
  match suf,hl with
  |x::suf,hl=>
   have H:((pre++x::suf).toArray.setIfInBounds (off+j) c)=((pre++[c])++suf).toArray:=by
    rw[h];simp
   simp only[List.zipIdx_cons,List.foldl_cons,H]
   rw[AEs off cs (j+1) (pre++[c]) suf (by simp;omega) (by simp at hl;omega)]
   simp
def Cls:List Value->List (List Value)->Prop
 |[],[]=>True
 |v::vs,c::cs=>v.cells=c.toArray/\Cls vs cs
 |_,_=>False
def Chs{α:Type}(E:Enc α)(M:List Nat)(w:World):List (List Value)->List α->Prop
 |[],[]=>True
 |c::cs,x::xs=>E.R M w c x/\Chs E M w cs xs
 |_,_=>False
theorem Chs.chunks{w:World}:∀{css:List (List Value)} {xs:List α},Chs E M w css xs->Chunks E M w css.flatten xs
 |[],[],_=>rfl
 |c::cs,x::xs,⟨h,H⟩=>⟨c,cs.flatten,rfl,h,Chs.chunks H⟩
 |[],_::_,h=>h.elim
 |_::_,[],h=>h.elim
theorem Chs.len{w:World}:∀{css:List (List Value)} {xs:List α},Chs E M w css xs->css.length=xs.length/\∀c∈css,c.length=E.n
 |[],[],_=>⟨rfl,fun _ h=>by cases h⟩
 |c::cs,x::xs,⟨h,I⟩=>by
  obtain⟨U,J⟩:=Chs.len I;refine⟨by simp[U],fun c' H=>?_⟩;rcases mem_cons.1 H with rfl|H
  . exact E.len h
  . exact J c' H
 |[],_::_,h=>h.elim
 |_::_,[],h=>h.elim
theorem AJW(size:Nat):∀(vs:List Value) (css:List (List Value)) (k:Nat) (pre suf:List Value),Cls vs css->(∀c∈css,c.length=size)->pre.length=k*size->suf.length=css.length*size ->
  Instr.fill (fun i=>some (i*size,size)) (pre++suf).toArray ((List.range' k vs.length).zip vs)=some (pre++css.flatten).toArray
 |[],[],k,pre,suf,_,_,_,h=>by
  have:suf=[]:=AYw (by simpa using h);simp[Instr.fill,this]
 |v::vs,c::css,k,pre,suf,⟨hv,W⟩,U,V,hl=>by
  have H:c.length=size:=U c (by simp);have J:size<=suf.length:=by rw[hl];simp[Nat.add_mul]
  have C:¬(c.length≠size\/(pre++suf).length<k*size+c.length):=by
   simp;constructor
   . exact H
   . omega
  have hfold:=AEs (k*size) c 0 pre suf (by omega) (by omega);have ih:=AJW size vs css (k+1) (pre++c) (suf.drop c.length) W (fun c' I=>U c' (AX0 _ I)) (by simp[V,H,Nat.add_mul]) (by simp[hl,H,Nat.add_mul]);simp only[List.length_cons,List.range'_succ,List.zip_cons_cons,Instr.fill,hv];rw[if_neg (by simpa using C)];rw[<-Array.foldl_toList];simp only[Array.toList_zipIdx];rw[hfold,ih];simp
 |[],_::_,_,_,_,h,_,_,_=>h.elim
 |_::_,[],_,_,_,h,_,_,_=>h.elim
theorem AWe{t e bytes:Nat}(T:SlT P t e E.n bytes){Bb:Nat}{parts:List (Nat×Operand)}{css:List (List Value)}(hi:parts.map (·.1)=List.range n)(C:evs L (parts.map (·.2))=some vs)(o:Cls vs css)(hx:Chs E M w css xs)(hM:MLt M w)(hB:Bb<=w.heap.size)(k:Nat.ble (n*E.n) 16777216=true)(hN:blt d N=true)(h:∀v' w',Ext w w'->Own E e Bb M w' v' xs->RdS E M w' v' xs->(∀b∈ob v',w.heap.size<=b)->Reg P N ops .seq rest ds ((d,v')::L) w' A B X Z):
  Reg P N ops .seq (⟨some d,.buildSlice t n parts.toArray,ty,pos,af,none⟩::rest) ds L w A B X Z:=by
 obtain⟨i,z,Y,r,F,H,q⟩:=T.info
 obtain⟨y,Q⟩:=hx.len
 have O:∀(vs:List Value) (css:List (List Value)),Cls vs css->vs.length=css.length:=by
  intro vs;induction vs with
  |nil=>intro css h;cases css with|nil=>rfl|cons _ _=>exact h.elim
  |cons v vs ih=>intro css h;cases css with|nil=>exact h.elim|cons c css=>simp[ih css h.2]
 have D:=O vs css o
 have u:parts.length=n:=by have:=AX9 List.length hi;simpa using this
 have G:∀(xs:List Operand) (vs:List Value),evs L xs=some vs->xs.length=vs.length:=by
  intro xs;induction xs with
  |nil=>intro vs h;simp[evs]at h;subst h;rfl
  |cons x xs ih=>
   intro vs h
   simp only[evs]at h
   split at h
   . split at h
     . rename_i us s
       cases h
       simp[ih us s]
     . cases h
   . cases h
 have V:n=vs.length:=by have:=G _ _ C;simp at this;omega
 have hflat:css.flatten.length=n*i.size:=by
  have:∀(l:List (List Value)),(∀c∈l,c.length=E.n)->l.flatten.length=l.length*E.n:=by
   intro l;induction l with
   |nil=>intro _;simp
   |cons c l ih=>intro h;simp[h c (by simp),ih fun c' W=>h c' (mem_cons_of_mem _ W),Nat.add_mul];omega
  rw[this css Q,F,V,D]
 have S:¬(2 ^ 24<n*i.size):=by have:=AYT k;rw[F];omega
 have U:xs.length=n:=by omega
 have I:Own E e Bb M (w.alloc (.cells css.flatten.toArray e)) (.slice (some ⟨w.heap.size,0,none⟩) n n) xs:=by
  cases n with
  |zero=>exact .inl ⟨_,rfl,AYw U⟩
  |succ m=>
   refine .inr ⟨w.heap.size,m,css.flatten.toArray,by rw[U],hB,heap_alloc_new w _,by omega,?_,by simp[hflat,F],?_⟩
   . have:=AYT k
     have:=E.pos
     have:(m+1)<=(m+1)*E.n:=AZZ (m+1) E.pos
     simp only[maxLen];omega
   . rw[U,show css.flatten.toArray.toList=css.flatten from rfl,AYk (by rw[hflat,F];exact AYE _)]
     refine Chunks.adv ⟨Kp.alloc _ _ _,fun b H=>?_⟩ hx.chunks
     rcases mem_cons.1 H with rfl|H
     . exact .inr (AYE _)
     . exact .inl H
 have J:∀b∈ob (.slice (some ⟨w.heap.size,0,none⟩) n n),w.heap.size<=b:=fun b H=>by
  cases n with
  |zero=>cases H
  |succ m=>
   have:b=w.heap.size:=by simpa[ob] using H
   omega
 refine P4 (.slice (some ⟨w.heap.size,0,none⟩) n n) (w.alloc (.cells css.flatten.toArray e)) rfl rfl hN (fun a ha=>?_) (h _ _ (Kp.alloc _ _ _) I (I.rd fun b H hm=>by have:=J b H;have:=hM b hm;omega) J)
 . have K:=AAh ha _ _ C
   have hparts:(parts.map fun (p:Nat×Operand)=>(p.1,a.eval p.2))=(List.range n).zip vs:=by
    rw[<-hi,<-K,AYe,List.zip_map'];rfl
   have hfill:∀zc:Array Value,zc.size=n*i.size->Instr.fill (fun j=>some (j*i.size,i.size)) zc ((List.range n).zip vs)=some css.flatten.toArray:=fun zc R=>by
    have:=AJW i.size vs css 0 [] zc.toList o (fun c W=>by rw[F];exact Q c W) (by simp) (by rw[Array.length_toList,R,V,D]);rw[List.range_eq_range',V];simpa using this
   by_cases g:n*i.size=0
   . have f:=hfill (Array.map (fun _=>default) (Array.range 0)) (by simp[g])
     simp[execOp,Instr.buildSlice,run_underlying T.und,sizeOf,typeInfo,Y,g,hparts,f,newRow]
   . have f:=hfill ((Array.range (n*i.size)).map fun j=>z.cells[j % z.cells.size]!) (by simp)
     simp[execOp,Instr.buildSlice,run_underlying T.und,sizeOf,typeInfo,zeroValue,r,Y,S,g,hparts,f,newRow]
end
theorem CallsV.ofL{P:Program}{w:World}{g:Nat}{caps args all:List Value}{R:Ending->World->Prop}(J:∀args w,(callFunc g args).run P w=.ok (.enter g args) w)(H:args++caps=all)(I:Calls P g all.toArray w R):CallsV P (.func (.func g) #[] caps.toArray) args w R:=by
 subst H;exact CallsV.of J (by simpa using I)
variable{d:Nat}{ty:TypeId}{pos:String}{af:Array Edge}
theorem AUo{α:Type}{E:Enc α}{M:List Nat}{w0:World}{xs:List α}{t t' e:TypeId}{x y:Operand}{v:Value}(hv:RdS E M w0 v xs)(hx:ev L x=some v)(hy:ev L y=some (.slice none 0 0))(I:P.underlying t=some (.slice e))(hN:blt d N=true)(h:∀b:Bool,(b=true->xs=[])->Reg P N ops q rest ds ((d,.bool b)::L) w A B X Z):Reg P N ops q (⟨some d,.binOp .eql t x y t',ty,pos,af,none⟩::rest) ds L w A B X Z:=by
 obtain⟨a,c,rfl,_,_,W⟩:=hv;refine Reg.val (.bool a.isNone) rfl rfl hN (fun a' H w' _=>?_) (h _ fun V=>?_)
 . have U:(Op.equal t (.slice a xs.length c) (.slice none 0 0)).run P w'=.ok a.isNone w':=by
    have key:∀n,(Op.equalIn (n+1) t (.slice a xs.length c) (.slice none 0 0)).run P w'=.ok a.isNone w':=fun n=>by cases a<;>simp[Op.equalIn,run_underlying I]
    exact key 9999
   have J:eqGuard .eql t x y (.slice a xs.length c) (.slice none 0 0)=pure ():=by rfl
   simp[execOp,H.eval hx,H.eval hy,J,binOp,U]
 . rcases W with rfl|⟨b,o,rfl,_⟩
   . rfl
   . cases V
def AO5(v:Value):Prop:=∃a,v=.slice a 0 0
variable{c:List Value}{cs:List (List Value)}
theorem Cls.nil:Cls [] []:=trivial
theorem Cls.cons{v:Value}{vs:List Value}(h:v.cells=c.toArray)(H:Cls vs cs):Cls (v::vs) (c::cs):=⟨h,H⟩
theorem Chs.nil:Chs E M w [] []:=trivial
theorem Chs.cons{x:α}{xs:List α}(h:E.R M w c x)(H:Chs E M w cs xs):Chs E M w (c::cs) (x::xs):=⟨h,H⟩
theorem AFz{α:Type}{E:Enc α}{M:List Nat}{w:World}{c':List Value}{y:α}(hy:E.R M w c' y):∀{cs:List Value} {xs:List α},Chunks E M w cs xs->∀i,i<xs.length->Chunks E M w (cs.take (i*E.n)++c'++cs.drop (i*E.n+E.n)) (xs.set i y)
 |cs,[],_,i,hi=>by simp at hi
 |cs,x::r,⟨c,rest,h,H,I⟩,0,_=>by
  have hl:=E.len H;subst h;refine⟨c',rest,?_,hy,I⟩;simp[<-hl]
 |cs,x::r,⟨c,rest,h,H,I⟩,i+1,hi=>by
  have hl:=E.len H;subst h;have ih:=AFz hy I i (by simpa using hi);refine⟨c,_,?_,H,ih⟩;have e1:(i+1)*E.n=c.length+i*E.n:=by rw[AYl,AZY,hl];omega
  rw[e1];simp[List.take_append,List.drop_append,Nat.add_assoc,List.drop_eq_nil_of_le,List.take_of_length_le]
theorem Own.at_{α:Type}{E:Enc α}{e:TypeId}{Bb:Nat}{M:List Nat}{w:World}{v:Value}{xs:List α}(h:Own E e Bb M w v xs)(hx:0<xs.length):∃g cap cur,v=.slice (some ⟨g,0,none⟩) xs.length (cap+1)/\ob v=[g]/\Bb<=g/\w.heap[g]?=some (.cells cur e (0,0))/\xs.length<=cap+1/\cap+1<=maxLen/\cur.size=(cap+1)*E.n/\Chunks E (g::M) w (cur.toList.take (xs.length*E.n)) xs:=by
 rcases h with⟨a,rfl,rfl⟩|⟨g,cap,cur,rfl,h⟩
 . simp at hx
 . exact⟨g,cap,cur,rfl,rfl,h⟩
theorem AUp{α:Type}{E:Enc α}{e' Bb:Nat}{M:List Nat}{w0:World}{t e:TypeId}{x y:Operand}{v:Value}{xs:List α}{k:IntKind}{i:Int}(hx:ev L x=some v)(hy:ev L y=some (.int k i))(hv:Own E e' Bb M w0 v xs)(hi:0<=i/\i<xs.length)(J:P.underlying t=some (.slice e))(U:∀w,(sizeOf e).run P w=.ok E.n w)(hN:blt d N=true)(h:∀g,ob v=[g]->Reg P N ops q rest ds ((d,.pointer (some ⟨g,i.toNat*E.n,none⟩))::L) w A B X Z):
  Reg P N ops q (⟨some d,.indexAddr t x y,ty,pos,af,none⟩::rest) ds L w A B X Z:=by
 obtain⟨g,cap,cur,rfl,H,_⟩:=hv.at_ (by omega)
 refine Reg.val (.pointer (some ⟨g,i.toNat*E.n,none⟩)) rfl rfl hN (fun a I w' _=>?_) (h g H)
 simp[execOp,I.eval hx,I.eval hy,Instr.indexAt,asIntOf,run_underlying J,hi.1,hi.2,U,add_none]
theorem W0:∀(cs:List Value) (o:Nat) (vs:List Value),o+vs.length<=cs.length->B8 cs o vs=cs.take o++vs++cs.drop (o+vs.length)
 |cs,o,[],_=>by cases cs<;>simp[B8]
 |[],o,v::vs,h=>by simp at h
 |c::r,0,v::vs,h=>by
  have:=W0 r 0 vs (by simpa using h);simp only[B8,this];simp
 |c::r,n+1,v::vs,h=>by
  have:=W0 r n (v::vs) (by simp at h ⊢;omega);simp only[B8,this];rw[show n+1+(v::vs).length=(n+(v::vs).length)+1 by omega];simp
variable{b:Bool}{k:IntKind}{x:Int}{i:Int}
section
variable{A:Option α}{B:Option α}
theorem R0{α β:Type}{a:Option α}{f:α->Option β}{r:β}(h:Option.bind a f=some r):∃x,a=some x/\f x=some r:=by
 cases a with
 |none=>cases h
 |some x=>exact⟨x,rfl,h⟩
theorem cdT{r:α}(H:b=true)(h:cond b A B=some r):A=some r:=by subst H;exact h
theorem cdF{r:α}(H:b=false)(h:cond b A B=some r):B=some r:=by subst H;exact h
def chk(k:IntKind)(x:Int):Option Int:=if k.min<=x/\x<=k.max then some x else none
theorem U5{x y:Int}(h:chk k x=some y):y=x/\InK k y:=by
 unfold chk at h;split at h
 . rename_i hk;cases h;exact⟨rfl,hk⟩
 . cases h
theorem ASY(h:InK k x):chk k x=some x:=AYB h
theorem AQ5(h:-9223372036854775808<=x/\x<=9223372036854775807):chk .i64 x=some x:=ASY (InK.i64.2 h)
def ixo{α:Type}(l:List α)(i:Int):Option α:=if 0<=i then l[i.toNat]? else none
theorem AAC{l:List α}{y:α}(h:ixo l i=some y):0<=i/\i<l.length/\l[i.toNat]?=some y:=by
 unfold ixo at h;split at h
 . rename_i hi;have:i.toNat<l.length:=by
    rcases AYF i.toNat l.length with H|H
    . exact H
    . rw[AYC H]at h;cases h
   exact⟨hi,by omega,h⟩
 . cases h
theorem AQ6{l:List α}{i:Nat}:ixo l (i:Int)=l[i]?:=by simp[ixo]
def ABE{α:Type}(l:List α)(i:Int)(x:α):Option (List α):=if 0<=i/\i<l.length then some (l.set i.toNat x) else none
theorem AGA{l m:List α}{x:α}(h:ABE l i x=some m):0<=i/\i<l.length/\m=l.set i.toNat x:=by
 unfold ABE at h;split at h
 . rename_i hi;cases h;exact⟨hi.1,hi.2,rfl⟩
 . cases h
end
instance {k:IntKind} {x:Int}:Decidable (InK k x):=inferInstanceAs (Decidable (_/\_))
def AJX(k:IntKind)(x y:Int):Option Int:=if 0<=x/\0<y/\InK k x then some (x / y) else none
variable{y:Int}{z:Int}{S:Type}
section
variable{R:Type}{body:S->Option (S⊕R)}
theorem AJY{k:IntKind}(h:AJX k x y=some z):0<=x/\0<y/\InK k x/\z=x / y:=by
 unfold AJX at h;split at h
 . rename_i hi;cases h;exact⟨hi.1,hi.2.1,hi.2.2,rfl⟩
 . cases h
def AJZ(x y:Int):Option Int:=if 0<=x/\0<y then some (x % y) else none
theorem AJa(h:AJZ x y=some z):0<=x/\0<y/\z=x % y:=by
 unfold AJZ at h;split at h
 . rename_i hi;cases h;exact⟨hi.1,hi.2,rfl⟩
 . cases h
def AGx{α:Type}(l:List α)(i:Int):Option (List α):=if 0<=i/\i<=l.length then some (l.drop i.toNat) else none
def ABR{α:Type}(l:List α)(i:Int):Option (List α):=if 0<=i/\i<=l.length then some (l.take i.toNat) else none
theorem ANj{l m:List α}(h:AGx l i=some m):(0<=i/\i<=l.length)/\m=l.drop i.toNat:=by
 unfold AGx at h;split at h
 . rename_i hi;cases h;exact⟨hi,rfl⟩
 . cases h
theorem AIW{l m:List α}(h:ABR l i=some m):(0<=i/\i<=l.length)/\m=l.take i.toNat:=by
 unfold ABR at h;split at h
 . rename_i hi;cases h;exact⟨hi,rfl⟩
 . cases h
def appo{α:Type}(b:Nat)(xs ys:List α):Option (List α):=if (xs.length+ys.length)*b<=140737488355328/\xs.length+ys.length<=140737488355328 then some (xs++ys) else none
theorem ACP{b:Nat}{xs ys l:List α}(h:appo b xs ys=some l):((xs.length+ys.length)*b<=140737488355328/\xs.length+ys.length<=140737488355328)/\l=xs++ys:=by
 unfold appo at h;split at h
 . rename_i hi;cases h;exact⟨hi,rfl⟩
 . cases h
theorem RdS.inK(H:RdS E M w v xs):InK .i64 xs.length:=InK.i64.2 (by have:=H.len;omega)
theorem Own.inK{e:TypeId}{Bb:Nat}(H:Own E e Bb M w v xs):InK .i64 xs.length:=InK.i64.2 (by have:=H.len;omega)
def P1{S R:Type}(body:S->Option (S⊕R)):Nat->S->Option R
 |0,_=>none
 |n+1,s=>match body s with
  |none=>none
  |some (.inl s')=>P1 body n s'
  |some (.inr r)=>some r
theorem AGy{S R:Type}{body:S->Option (S⊕R)}:∀{n:Nat} {s:S} {r:R},P1 body n s=some r->P1 body (n+1) s=some r
 |0,_,_,h=>by cases h
 |n+1,s,r,h=>by
  simp only[P1]at h;split at h
  . cases h
  . rename_i s' H;rw[P1];simp only[H];exact AGy h
  . rename_i r' H;rw[P1];simp only[H];exact h
theorem AGz{n m:Nat}{s:S}{r:R}(h:P1 body n s=some r)(hm:n<=m):P1 body m s=some r:=by
 induction m with
 |zero=>
  have:n=0:=by omega
  subst this;exact h
 |succ m ih=>
  rcases AYF m n with H|H
  . have:n=m+1:=by omega
    subst this;exact h
  . exact AGy (ih H)
end
open Classical in
def C0{S R:Type}(body:S->Option (S⊕R))(s:S):Option R:=
 if h:∃r n,P1 body n s=some r then some h.choose else none
variable{s:S}
section
variable{R:Type}{body:S->Option (S⊕R)}
theorem loopM_some{r:R}:C0 body s=some r↔∃n,P1 body n s=some r:=by
 unfold C0;constructor
 . intro h;split at h
   . rename_i hx;cases h;exact hx.choose_spec
   . cases h
 . rintro⟨n,H⟩;have hx:∃r n,P1 body n s=some r:=⟨r,n,H⟩;rw[dif_pos hx];obtain⟨m,hm⟩:=hx.choose_spec;have J:=AGz hm (Nat.le_max_left m n);have I:=AGz H (Nat.le_max_right m n);rw[J]at I;exact I
theorem AJb(body:S->Option (S⊕R))(s:S):C0 body s=match body s with
  |none=>none
  |some (.inl s')=>C0 body s'
  |some (.inr r)=>some r:=by
 apply Option.ext
 intro r
 rw[loopM_some]
 cases I:body s with
 |none=>
  simp only[reduceCtorEq,iff_false,not_exists]
  intro n H
  cases n with
  |zero=>cases H
  |succ n=>simp[P1,I]at H
 |some y=>
  cases y with
  |inl s'=>
   simp only[loopM_some]
   constructor
   . rintro⟨n,H⟩
     cases n with
     |zero=>cases H
     |succ n=>exact⟨n,by simpa[P1,I] using H⟩
   . rintro⟨n,H⟩
     exact⟨n+1,by simpa[P1,I] using H⟩
  |inr r'=>
   constructor
   . rintro⟨n,H⟩
     cases n with
     |zero=>cases H
     |succ n=>simpa[P1,I] using H
   . intro h;exact⟨1,by simpa[P1,I] using h⟩
theorem AJc{s s':S}(h:body s=some (.inl s')):C0 body s=C0 body s':=by rw[AJb,h]
theorem ACv{r:R}(h:body s=some (.inr r)):C0 body s=some r:=by rw[AJb,h]
end
section arith
variable{t t':TypeId}{x y:Operand}{k:IntKind}{i j n:Int}(hx:ev L x=some (.int k i))(hy:ev L y=some (.int k j))(hN:blt d N=true)
include hx hy hN
theorem AQS(I:n=i+j/\InK k n)(h:Reg P N ops q rest ds ((d,.int k n)::L) w A B X Z):Reg P N ops q (⟨some d,.binOp .add t x y t',ty,pos,af,none⟩::rest) ds L w A B X Z:=by
 obtain⟨rfl,H⟩:=I;exact AGw hx hy hN H h
theorem AUq(I:n=i-j/\InK k n)(h:Reg P N ops q rest ds ((d,.int k n)::L) w A B X Z):Reg P N ops q (⟨some d,.binOp .sub t x y t',ty,pos,af,none⟩::rest) ds L w A B X Z:=by
 obtain⟨rfl,H⟩:=I;exact AMU hx hy hN H h
theorem AUr(I:n=i*j/\InK k n)(h:Reg P N ops q rest ds ((d,.int k n)::L) w A B X Z):Reg P N ops q (⟨some d,.binOp .mul t x y t',ty,pos,af,none⟩::rest) ds L w A B X Z:=by
 obtain⟨rfl,H⟩:=I;exact AUY hx hy hN H h
theorem AUs(I:0<=i/\0<j/\InK k i/\n=i / j)(h:Reg P N ops q rest ds ((d,.int k n)::L) w A B X Z):Reg P N ops q (⟨some d,.binOp .quo t x y t',ty,pos,af,none⟩::rest) ds L w A B X Z:=by
 obtain⟨U,J,H,rfl⟩:=I;exact AUZ hx hy hN U J H h
theorem AUt(H:0<=i/\0<j/\n=i % j)(h:Reg P N ops q rest ds ((d,.int k n)::L) w A B X Z):Reg P N ops q (⟨some d,.binOp .rem t x y t',ty,pos,af,none⟩::rest) ds L w A B X Z:=by
 obtain⟨J,I,rfl⟩:=H;exact AUa hx hy hN J I h
end arith
variable{t:TypeId}{n:Int}
section
variable{x:Operand}
theorem AUu(hx:ev L x=some (.int k i))(hN:blt d N=true)(I:n=-i/\InK k n)(h:Reg P N ops q rest ds ((d,.int k n)::L) w A B X Z):
  Reg P N ops q (⟨some d,.unOp .neg t x,ty,pos,af,none⟩::rest) ds L w A B X Z:=by
 obtain⟨rfl,H⟩:=I;exact AUc hx hN H h
theorem AUv{s t:TypeId}{k k':IntKind}{du:TypeDesc}(hx:ev L x=some (.int k i))(I:P.underlying s=some du)(H:P.underlying t=some (.int k'))(hN:blt d N=true)(U:n=i/\InK k' n)(h:Reg P N ops q rest ds ((d,.int k' n)::L) w A B X Z):Reg P N ops q (⟨some d,.convert s t x,ty,pos,af,none⟩::rest) ds L w A B X Z:=by
 obtain⟨rfl,J⟩:=U;exact AUd hx I H hN J h
theorem ASZ{α:Type}{E:Enc α}{M:List Nat}{t e:TypeId}{x y:Operand}{v:Value}{xs:List α}{z:α}(hx:ev L x=some v)(hy:ev L y=some (.int k i))(hv:RdS E M w v xs)(hi:ixo xs i=some z)(J:P.underlying t=some (.slice e))(U:∀w,(sizeOf e).run P w=.ok E.n w)(hN:blt d N=true)(h:∀b o cs,E.R M w cs z->RdC M w b o cs->Reg P N ops q rest ds ((d,.pointer (some ⟨b,o,none⟩))::L) w A B X Z):
  Reg P N ops q (⟨some d,.indexAddr t x y,ty,pos,af,none⟩::rest) ds L w A B X Z:=by
 obtain⟨D,C,I⟩:=AAC hi
 refine AWd hx hy hv ⟨D,C⟩ J U hN fun b o cs y H V W=>?_
 rw[I]at H;cases H
 exact h b o cs V W
end
structure Res where
 fp:List Nat
 mu:List Nat
 holds:List Nat->World->Prop
 adv:∀{M M':List Nat} {w w':World},Adv M M' w w'->(∀b∈fp,w'.heap[b]?=w.heap[b]?)->holds M w->holds M' w'
 lt:∀{M:List Nat} {w:World},holds M w->∀b∈fp,b<w.heap.size
def mm:List Res->List Nat->List Nat
 |[],M=>M
 |r::σ,M=>r.fp++mm σ M
theorem mem_mm{σ:List Res}{M:List Nat}{b:Nat}:b∈mm σ M↔(∃r∈σ,b∈r.fp)\/b∈M:=by
 induction σ with
 |nil=>simp[mm]
 |cons r σ ih=>simp[mm,ih,or_assoc]
class Fx where
 ob:Nat->Option Obj
instance (priority:=50) fx0:Fx:=⟨fun _=>none⟩
structure Hp[Fx](w0:World)(Mu M:List Nat)(σ:List Res)(w:World):Prop where
 kp:Kp Mu w0 w
 mlt:MLt (mm σ M) w
 adv:Adv (Mu++M) (mm σ M) w0 w
 base:∀b∈M,b<w0.heap.size\/∃o,Fx.ob b=some o
 sepM:∀r∈σ,∀b∈r.fp,b∉M
 own:∀r∈σ,(∀b∈r.mu,b∈Mu)/\∀b∈r.fp,b∈r.mu\/w0.heap.size<=b
 dis:∀(i j:Nat) (r r':Res),σ[i]?=some r->σ[j]?=some r'->i≠j->∀b∈r.fp,b∉r'.fp
 all:∀r∈σ,r.holds (mm σ M) w
 fx:∀b o,Fx.ob b=some o->b∈M/\w.heap[b]?=some o
variable{w':World}{Mu:List Nat}{σ:List Res}{σ':List Res}
section
variable{b:Nat}{i:Nat}
theorem Hp.ltM[Fx](h:Hp w0 Mu M σ w)(H:b∈M):b<w.heap.size:=h.mlt b (mem_mm.2 (.inr H))
theorem Hp.base0(h:@Hp _ fx0 w0 Mu M σ w):MLt M w0:=fun b H=>(h.base b H).elim id fun⟨_,h⟩=>by cases h
theorem Hp.start(I:MLt M w):@Hp _ fx0 w Mu M [] w:=⟨Kp.refl _ _,I,Adv.drop (fun _ H=>AX3 _ H),fun b H=>.inl (I b H),(fun _ h=>by cases h),(fun _ h=>by cases h),(fun _ _ _ _ h=>by simp at h),(fun _ h=>by cases h),fun _ _ h=>by cases h⟩
theorem Hp.ext[Fx](h:Hp w0 Mu M σ w)(e:Ext w w'):Hp w0 Mu M σ w':=
 ⟨h.kp.trans e.kp,h.mlt.ext e,h.adv.trans (Adv.of_ext e),h.base,h.sepM,h.own,h.dis,(fun r I=>Res.adv r (Adv.of_ext e) (fun b H=>e.block b (r.lt (h.all r I) b H) (by simp)) (h.all r I)),fun b o H=>⟨(h.fx b o H).1,(e.block b (h.ltM (h.fx b o H).1) (by simp)).trans (h.fx b o H).2⟩⟩
theorem Hp.get[Fx](h:Hp w0 Mu M σ w)(i:Nat){r:Res}(hi:σ[i]?=some r):r.holds (mm σ M) w:=h.all r (AX1 hi)
theorem Hp.addA[Fx]{r:Res}(h:Hp w0 Mu M σ w)(e:Ext w w')(H:∀b∈r.fp,w.heap.size<=b/\b<w'.heap.size):Adv (mm σ M) (mm (r::σ) M) w w':=
 ⟨e.kp,fun b I=>(mem_append.1 I).elim (fun h=>.inr (H b h).1) .inl⟩
theorem Hp.add[Fx]{r:Res}(h:Hp w0 Mu M σ w)(e:Ext w w')(U:∀b∈r.fp,w.heap.size<=b/\b<w'.heap.size)(hm:r.mu=[])(E:r.holds (mm (r::σ) M) w'):Hp w0 Mu M (r::σ) w':=by
 have hA:=h.addA e U;have D:=h.ext e;refine⟨D.kp,fun b H=>?_,h.adv.trans hA,h.base,fun s I b H V=>?_,fun s I=>?_,fun i j s s' hi W C b H J=>?_,fun s I=>?_,D.fx⟩
 . exact(mem_append.1 H).elim (fun h=>(U b h).2) (D.mlt b)
 . rcases mem_cons.1 I with rfl|I
   . have:=(U b H).1;have:=h.ltM V;omega
   . exact h.sepM s I b H V
 . rcases mem_cons.1 I with rfl|I
   . exact⟨(by rw[hm];intro b H;cases H),fun b H=>.inr (AYG h.kp.size (U b H).1)⟩
   . exact h.own s I
 . cases i with
   |zero=>
    simp at hi;subst hi
    cases j with
    |zero=>exact C rfl
    |succ j=>
     have:=s'.lt (h.all s' (AX1 W)) b J
     have:=(U b H).1
     omega
   |succ i=>
    cases j with
    |zero=>
     simp at W;subst W
     have:=s.lt (h.all s (AX1 hi)) b H
     have:=(U b J).1
     omega
    |succ j=>exact h.dis i j s s' hi W (by omega) b H J
 . rcases mem_cons.1 I with rfl|I
   . exact E
   . exact s.adv hA (fun b H=>e.block b (s.lt (h.all s I) b H) (by simp)) (h.all s I)
theorem ANk{r:Res}(J:b∈mm (σ.set i r) M):b∈r.fp\/b∈mm σ M:=by
 rcases mem_mm.1 J with⟨s,I,H⟩|J
 . rcases AZE I with I|rfl
   . exact .inr (mem_mm.2 (.inl ⟨s,I,H⟩))
   . exact .inl H
 . exact .inr (mem_mm.2 (.inr J))
theorem Hp.updA[Fx]{r r':Res}(h:Hp w0 Mu M σ w)(i:Nat)(hi:σ[i]?=some r)(hk:Kp r.fp w w')(J:∀b∈r'.fp,b∈r.fp\/w.heap.size<=b):Adv (mm σ M) (mm (σ.set i r') M) w w':=by
 have H:∀b∈r.fp,b∈mm σ M:=fun b I=>mem_mm.2 (.inl ⟨r,AX1 hi,I⟩);exact⟨hk.mono fun b I=>.inl (H b I),fun b I=>(ANk I).elim (fun V=>(J b V).elim (fun U=>.inl (H b U)) .inr) .inl⟩
theorem ANl{r:Res}(hi:σ[i]?=some r)(H:b∈mm σ M):b∈r.fp\/b∈mm (σ.eraseIdx i) M:=by
 rcases mem_mm.1 H with⟨s,V,H⟩|H
 . obtain⟨j,I⟩:=AYW V;by_cases J:j=i
   . subst J;rw[hi]at I;cases I;exact .inl H
   . refine .inr (mem_mm.2 (.inl ⟨s,?_,H⟩));rcases AYF j i with U|U
     . exact AX1 (i:=j) (by rw[AZQ,AYB U];exact I)
     . exact AX1 (i:=j-1) (by rw[AZQ,if_neg (by omega),show j-1+1=j by omega];exact I)
 . exact .inr (mem_mm.2 (.inr H))
theorem ALY{r r':Res}(hi:σ[i]?=some r)(U:b∈mm (σ.set i r') M):b∈r'.fp\/b∈mm (σ.eraseIdx i) M:=by
 have J:i<σ.length:=by
  rcases AYF i σ.length with H|H
  . exact H
  . rw[AYC H]at hi;cases hi
 have H:(σ.set i r')[i]?=some r':=by simp[J]
 rcases ANl H U with I|I
 . exact .inl I
 . rw[List.eraseIdx_set_eq]at I;exact .inr I
theorem Hp.upd2[Fx]{r r':Res}(h:Hp w0 Mu M σ w)(i:Nat)(hi:σ[i]?=some r)(hk:Kp r.fp w w')(X:∀b∈r'.fp,b∈r.fp\/w.heap.size<=b)(hm:r'.mu=r.mu)(N:∀M',(∀b∈M',b∈r'.fp\/b∈mm (σ.eraseIdx i) M)->r'.holds M' w'):Hp w0 Mu M (σ.set i r') w':=by
 have hA:=h.updA i hi hk X;have B:=AX1 hi;have U:=h.own r B;have A:=N (mm (σ.set i r') M) fun b H=>ALY hi H;have R:i<σ.length:=by
  rcases AYF i σ.length with I|I
  . exact I
  . rw[AYC I]at hi;cases hi
 have K:∀b∈r'.fp,b∈r.fp\/w.heap.size<=b:=X;have W:∀j s,σ[j]?=some s->j≠i->∀b∈s.fp,b∉r'.fp/\w'.heap[b]?=w.heap[b]?:=fun j s V F b H=>by
  have G:=s.lt (h.all s (AX1 V)) b H;have T:=h.dis j i s r V hi F b H;exact⟨fun C=>(K b C).elim T (fun h=>by omega),hk.block b G T⟩
 have J:∀j s,(σ.set i r')[j]?=some s->(j=i/\s=r')\/(j≠i/\σ[j]?=some s):=fun j s V=>by
  rw[AZS]at V;split at V
  . rename_i e;simp at V;exact .inl ⟨e.symm,V.symm⟩
  . rename_i e;exact .inr ⟨fun h=>e h.symm,V⟩
 refine⟨h.kp.tail hk fun b H=>(U.2 b H).elim (fun I=>.inl (U.1 b I)) .inr,fun b H=>?_,h.adv.trans hA,h.base,fun s E b H O=>?_,fun s E=>?_,fun j k s s' V Y F b H C=>?_,fun s E=>?_,fun b o H=>⟨(h.fx b o H).1,(hk.block b (h.ltM (h.fx b o H).1) fun hm=>h.sepM r B b hm (h.fx b o H).1).trans (h.fx b o H).2⟩⟩
 . rcases ANk H with I|I
   . exact r'.lt A b I
   . exact AYH (h.mlt b I) hk.size
 . rcases AZE E with E|rfl
   . exact h.sepM s E b H O
   . rcases K b H with I|I
     . exact h.sepM r B b I O
     . have:=h.ltM O;omega
 . rcases AZE E with E|rfl
   . exact h.own s E
   . refine⟨by rw[hm];exact U.1,fun b H=>?_⟩;rcases K b H with I|I
     . rw[hm];exact U.2 b I
     . exact .inr (AYG h.kp.size I)
 . rcases J j s V with⟨rfl,rfl⟩|⟨I,D⟩
   . rcases J k s' Y with⟨rfl,rfl⟩|⟨Z,Q⟩
     . exact F rfl
     . exact(W k s' Q Z b C).1 H
   . rcases J k s' Y with⟨rfl,rfl⟩|⟨Z,Q⟩
     . exact(W j s D I b H).1 C
     . exact h.dis j k s s' D Q F b H C
 . obtain⟨j,V⟩:=AYW E;rcases J j s V with⟨rfl,rfl⟩|⟨I,D⟩
   . exact A
   . exact s.adv hA (fun b H=>(W j s D I b H).2) (h.all s (AX1 D))
theorem Hp.upd[Fx]{r r':Res}(h:Hp w0 Mu M σ w)(i:Nat)(hi:σ[i]?=some r)(hk:Kp r.fp w w')(U:∀b∈r'.fp,b∈r.fp\/w.heap.size<=b)(hm:r'.mu=r.mu)(V:∀M',(∀b∈M',b∈r'.fp\/b∈mm σ M)->r'.holds M' w'):Hp w0 Mu M (σ.set i r') w':=
 h.upd2 i hi hk U hm fun M' I=>V M' fun b H=>(I b H).elim .inl fun W=>.inr (mem_mm.2 ((mem_mm.1 W).elim (fun⟨s,J,H⟩=>.inl ⟨s,(AYK σ i).subset J,H⟩) .inr))
theorem Z1(I:σ'.Sublist σ)(H:b∈mm σ' M):b∈mm σ M:=by
 rcases mem_mm.1 H with⟨s,h,H⟩|H
 . exact mem_mm.2 (.inl ⟨s,I.subset h,H⟩)
 . exact mem_mm.2 (.inr H)
theorem AHq(H:σ'.Sublist σ):Adv (mm σ M) (mm σ' M) w w:=Adv.drop fun _ I=>Z1 H I
theorem AQ7{Q:Res->Res->Prop}{σ σ':List Res}(H:σ'.Sublist σ)(h:σ.Pairwise Q):σ'.Pairwise Q:=h.sublist H
theorem pair_iff{σ:List Res}:(∀(i j:Nat) (r r':Res),σ[i]?=some r->σ[j]?=some r'->i≠j->∀b∈r.fp,b∉r'.fp)↔σ.Pairwise fun (r r':Res)=>∀b∈r.fp,b∉r'.fp:=by
 rw[AYt];constructor
 . intro h i j hi I W;exact h i j _ _ (AX7 hi) (AX7 I) (by omega)
 . intro h i j r r' hi I U b V J;have gi:i<σ.length:=by rcases AYF i σ.length with H|H;exact H;rw[AYC H]at hi;cases hi
   have gj:j<σ.length:=by rcases AYF j σ.length with H|H;exact H;rw[AYC H]at I;cases I
   rw[AX7 gi]at hi;rw[AX7 gj]at I;cases hi;cases I
   rcases Nat.lt_or_gt_of_ne U with H|H
   . exact h i j gi gj H b V J
   . exact h j i gj gi H b J V
theorem Hp.sub[Fx](H:σ'.Sublist σ)(h:Hp w0 Mu M σ w):Hp w0 Mu M σ' w:=
 ⟨h.kp,fun b J=>h.mlt b (Z1 H J),h.adv.trans (AHq H),h.base,fun r I=>h.sepM r (H.subset I),fun r I=>h.own r (H.subset I),pair_iff.2 (AQ7 H (pair_iff.1 h.dis)),(fun r I=>
  r.adv (AHq H) (fun _ _=>rfl) (h.all r (H.subset I))),h.fx⟩
theorem Hp.erase[Fx](k:Nat)(h:Hp w0 Mu M σ w):Hp w0 Mu M (σ.eraseIdx k) w:=h.sub (AYK σ k)
theorem G5(k:Nat):Adv (mm σ M) (mm (σ.eraseIdx k) M) w w:=AHq (AYK σ k)
theorem Hp.apart[Fx](h:Hp w0 Mu M σ w)(i:Nat){r:Res}(hi:σ[i]?=some r):∀b∈r.fp,b∉mm (σ.eraseIdx i) M:=fun b J H=>by
 rcases mem_mm.1 H with⟨s,U,H⟩|H
 . obtain⟨j,I⟩:=AYW U;rw[AZQ]at I;split at I
   . exact h.dis i j r s hi I (by omega) b J H
   . exact h.dis i (j+1) r s hi I (by omega) b J H
 . exact h.sepM r (AX1 hi) b J H
end
def rowR(e:TypeId)(b:Nat)(cs:List Value):Res where
 fp:=[b]
 mu:=[]
 holds:=fun _ w=>Row e w b cs
 adv:=fun _ hb h=>by
  have:=hb b (by simp);exact this.trans h
 lt:=fun h x hx=>by
  have:x=b:=by simpa using hx
  subst this;exact h.rd.lt
variable{M':List Nat}
theorem AO6{w w':World}(I:Adv M M' w w')(J:∀b∈ob v,w'.heap[b]?=w.heap[b]?)(h:Own E e Bb M w v xs):Own E e Bb M' w' v xs:=by
 rcases h with h|⟨g,cap,cur,rfl,F,D,C,W,V,U⟩
 . exact .inl h
 . refine .inr ⟨g,cap,cur,rfl,F,by rw[J g (by simp[ob])];exact D,C,W,V,Chunks.adv ⟨I.kp.mono fun x hx=>.inl (AX0 _ hx),fun b H=>?_⟩ U⟩;rcases mem_cons.1 H with rfl|h
   . exact .inl (AX4 ..)
   . rcases I.new b h with h|h
     . exact .inl (AX0 _ h)
     . exact .inr h
def ownR{α:Type}(mu:List Nat)(E:Enc α)(e:TypeId)(v:Value)(xs:List α):Res where
 fp:=ob v
 mu:=mu
 holds:=fun M w=>Own E e 0 M w v xs
 adv:=AO6
 lt:=fun h b hb=>(h.ge b hb).2
theorem Own.mon(h:Own E e Bb M w v xs)(I:∀b∈M',b∈ob v\/b∈M):Own E e Bb M' w v xs:=by
 rcases h with h|⟨g,cap,cur,rfl,D,C,W,V,U,J⟩
 . exact .inl h
 . refine .inr ⟨g,cap,cur,rfl,D,C,W,V,U,Chunks.adv (Adv.drop fun b H=>?_) J⟩;rcases mem_cons.1 H with rfl|H
   . exact AX4 ..
   . rcases I b H with H|H
     . have:b=g:=by simpa[ob] using H
       subst this;exact AX4 ..
     . exact AX0 _ H
variable{mu:List Nat}
section
variable{b:Nat}{cs:List Value}
theorem Hp.row[Fx](h:Hp w0 Mu M σ w)(i:Nat)(hi:σ[i]?=some (rowR e b cs)):Row e w b cs:=h.get i hi
theorem Hp.ownAt[Fx](h:Hp w0 Mu M σ w)(i:Nat)(hi:σ[i]?=some (ownR mu E e v xs)):Own E e 0 (mm σ M) w v xs:=h.get i hi
theorem Hp.ownSub[Fx](h:Hp w0 Mu M σ w)(i:Nat)(hi:σ[i]?=some (ownR mu E e v xs)):∀b∈ob v,b∈mm σ M:=fun b H=>mem_mm.2 (.inl ⟨_,AX1 hi,H⟩)
theorem Hp.freeze[Fx](h:Hp w0 Mu M σ w)(i:Nat)(hi:σ[i]?=some (ownR mu E e v xs)):RdS E (mm (σ.eraseIdx i) M) w v xs:=
 ((h.ownAt i hi).mon fun b H=>.inr (Z1 (AYK σ i) H)).rd fun b H=>h.apart i hi b H
theorem Hp.freezeRow[Fx](h:Hp w0 Mu M σ w)(i:Nat)(hi:σ[i]?=some (rowR e b cs)):RdC (mm (σ.eraseIdx i) M) w b 0 cs:=
 H9 (h.apart i hi b (by simp[rowR])) (h.row i hi)
end
def AJd:List Res->Nat->Option Res
 |[],_=>none
 |r::_,0=>some r
 |_::σ,n+1=>AJd σ n
theorem nthR_eq:∀(σ:List Res) (i:Nat),AJd σ i=σ[i]?
 |[],_=>rfl
 |_::_,0=>rfl
 |_::σ,n+1=>nthR_eq σ n
def sel(σ:List Res):List Nat->List Res
 |[]=>[]
 |i::r=>match AJd σ i with
  |some x=>x::sel σ r
  |none=>sel σ r
theorem Y0{σ:List Res}{x:Res}:∀{l:List Nat},x∈sel σ l->∃i∈l,σ[i]?=some x
 |[],h=>by cases h
 |i::r,h=>by
  simp only[sel]at h;split at h
  . rename_i y hy;rw[nthR_eq]at hy;rcases mem_cons.1 h with rfl|h
    . exact⟨i,by simp,hy⟩
    . obtain⟨j,H,hx⟩:=Y0 h;exact⟨j,by simp[H],hx⟩
  . obtain⟨j,H,hx⟩:=Y0 h;exact⟨j,by simp[H],hx⟩
def ABY:List Nat->Bool
 |[]=>true
 |i::r=>!r.contains i&&ABY r
theorem AGB{σ:List Res}{Q:Res->Res->Prop}(h:∀(i j:Nat) (r r':Res),σ[i]?=some r->σ[j]?=some r'->i≠j->Q r r'):∀{l:List Nat},ABY l=true->(sel σ l).Pairwise Q
 |[],_=>List.Pairwise.nil
 |i::r,H=>by
  simp only[ABY,Bool.and_eq_true,Bool.not_eq_true',List.contains_eq_mem,decide_eq_false_iff_not]at H;simp only[sel];split
  . rename_i y hy;rw[nthR_eq]at hy;refine List.Pairwise.cons (fun x hx=>?_) (AGB h H.2);obtain⟨j,I,hx⟩:=Y0 hx;exact h i j y x hy hx (fun e=>H.1 (e▸I))
  . exact AGB h H.2
theorem ADW{l:List Nat}{b:Nat}(H:b∈mm (sel σ l) M):b∈mm σ M:=by
 rcases mem_mm.1 H with⟨s,h,H⟩|H
 . obtain⟨i,_,hi⟩:=Y0 h;exact mem_mm.2 (.inl ⟨s,AX1 hi,H⟩)
 . exact mem_mm.2 (.inr H)
theorem AHr(l:List Nat):Adv (mm σ M) (mm (sel σ l) M) w w:=Adv.drop fun _ H=>ADW H
theorem Hp.sel[Fx](h:Hp w0 Mu M σ w)(l:List Nat)(hl:ABY l=true):Hp w0 Mu M (sel σ l) w:=
 ⟨h.kp,fun b I=>h.mlt b (ADW I),h.adv.trans (AHr l),h.base,fun r H=>h.sepM r (by obtain⟨i,_,hi⟩:=Y0 H;exact AX1 hi),fun r H=>h.own r (by obtain⟨i,_,hi⟩:=Y0 H;exact AX1 hi),
  pair_iff.2 (AGB h.dis hl),(fun r H=>r.adv (AHr l) (fun _ _=>rfl) (h.all r (by obtain⟨i,_,hi⟩:=Y0 H;exact AX1 hi))),h.fx⟩
theorem Hp.lendRd[Fx](h:Hp w0 Mu M σ w)(l:List Nat)(i:Nat){α:Type}{mu:List Nat}{E:Enc α}{e:TypeId}{v:Value}{xs:List α}(hl:l.contains i=false)(hi:σ[i]?=some (ownR mu E e v xs)):RdS E (mm (Sx.sel σ l) M) w v xs:=
 ((h.ownAt i hi).mon fun b I=>.inr (ADW I)).rd fun b I H=>by
  rcases mem_mm.1 H with⟨s,J,H⟩|H
  . obtain⟨j,U,J⟩:=Y0 J;refine h.dis i j _ s hi J (fun e=>?_) b I H;subst e;simp at hl;exact hl U
  . exact h.sepM _ (AX1 hi) b I H
theorem AB3{α:Type}(E:Enc α)(e:TypeId):Adv (mm σ M) (mm (ownR [] E e (.slice none 0 0) []::σ) M) w w:=⟨Kp.refl _ _,fun _ H=>.inl H⟩
theorem Hp.addNilH[Fx]{α:Type}(_:Hp w0 Mu M σ w)(E:Enc α)(e:TypeId):Adv (mm σ M) (mm (ownR [] E e (.slice none 0 0) []::σ) M) w w:=AB3 E e
theorem Hp.addNil[Fx]{α:Type}(h:Hp w0 Mu M σ w)(E:Enc α)(e:TypeId):Hp w0 Mu M (ownR [] E e (.slice none 0 0) []::σ) w:=
 h.add (Kp.refl _ _) (fun _ H=>by cases H) rfl (Own.nil _ _ _ _ _)
variable{n:Nat}{vs:List Value}
section
variable{x:Operand}{cs:List Value}{y:Operand}
theorem AAD[Fx](J:Hp w0 Mu M σ w)(hx:ev L x=some v)(V:v.cells=cs.toArray)(hN:blt d N=true)(h:∀b w',Hp w0 Mu M (rowR e b cs::σ) w'->Adv (mm σ M) (mm (rowR e b cs::σ) M) w w'->Reg P N ops .seq rest ds ((d,.pointer (some ⟨b,0,none⟩))::L) w' A B X Z):
  Reg P N ops .seq (⟨some d,.box e x,ty,pos,af,none⟩::rest) ds L w A B X Z:=
 AUf hx V hN fun b w' C H U W=>by
  have I:∀x∈(rowR e b cs).fp,w.heap.size<=x/\x<w'.heap.size:=fun x hx=>by
   have:x=b:=by simpa[rowR] using hx
   omega
  exact h b w' (J.add H I rfl W) (J.addA H I)
theorem ACQ[Fx]{z:Value}(J:Hp w0 Mu M σ w)(U:∀w,(zeroValue e).run P w=.ok z w)(W:z.cells=cs.toArray)(hN:blt d N=true)(h:∀b w',Hp w0 Mu M (rowR e b cs::σ) w'->Adv (mm σ M) (mm (rowR e b cs::σ) M) w w'->Reg P N ops .seq rest ds ((d,.pointer (some ⟨b,0,none⟩))::L) w' A B X Z):
  Reg P N ops .seq (⟨some d,.alloc e,ty,pos,af,none⟩::rest) ds L w A B X Z:=
 ASX U W hN fun b w' D H V C=>by
  have I:∀x∈(rowR e b cs).fp,w.heap.size<=x/\x<w'.heap.size:=fun x hx=>by
   have:x=b:=by simpa[rowR] using hx
   omega
  exact h b w' (J.add H I rfl C) (J.addA H I)
theorem ABF[Fx](i:Nat){e t:TypeId}{b o n:Nat}(I:Hp w0 Mu M σ w)(hi:σ[i]?=some (rowR e b cs))(hx:ev L x=some (.pointer (some ⟨b,o,none⟩)))(hy:ev L y=some v)(hv:v.cells=vs.toArray)(J:∀w,(sizeOf t).run P w=.ok n w)(U:vs.length=n)(hl:Nat.ble (o+vs.length) cs.length=true)(W:∀u∈vs,u.oneCell'=true)(h:∀w',Hp w0 Mu M (σ.set i (rowR e b (B8 cs o vs))) w'->Adv (mm σ M) (mm (σ.set i (rowR e b (B8 cs o vs))) M) w w'->Reg P N ops .seq rest ds L w' A B X Z):
  Reg P N ops .seq (⟨none,.store t x y,ty,pos,af,none⟩::rest) ds L w A B X Z:=
 AO4 hx hy hv (I.row i hi) J U hl W fun w' V hk=>
  h w' (I.upd i hi hk (fun b H=>.inl H) rfl fun _ _=>V) (I.updA (r':=rowR e b (B8 cs o vs)) i hi hk fun b H=>.inl H)
theorem AFQ[Fx](i:Nat){t e bytes:Nat}(T:SlT P t e E.n bytes){mu:List Nat}{v x:Value}{xs ys:List α}{s y:Operand}(J:Hp w0 Mu M σ w)(hi:σ[i]?=some (ownR mu E e v xs))(W:ev L s=some v)(hy:ev L y=some x)(hx:RdS E (mm σ M) w x ys)(I:(xs.length+ys.length)*bytes<=140737488355328/\xs.length+ys.length<=140737488355328)(hN:blt d N=true)(h:∀v' w',Hp w0 Mu M (σ.set i (ownR mu E e v' (xs++ys))) w'->Adv (mm σ M) (mm (σ.set i (ownR mu E e v' (xs++ys))) M) w w'->Reg P N ops .seq rest ds ((d,v')::L) w' A B X Z):
  Reg P N ops .seq (⟨some d,.call ⟨.builtin .append,#[s,y],#[t,t]⟩,ty,pos,af,none⟩::rest) ds L w A B X Z:=by
 have H:=J.ownSub i hi
 refine AUg T (Bb:=0) (M:=mm σ M) W hy (J.ownAt i hi) (hx.adv (Adv.drop fun b D=>(mem_append.1 D).elim (H b) id)) (AYh _) I hN fun v' w' C hk F V=>?_
 refine h v' w' (J.upd i hi hk V rfl fun M' U=>C.mon U) (J.updA (r':=ownR mu E e v' (xs++ys)) i hi hk V)
theorem AJe[Fx]{t e bytes:Nat}(T:SlT P t e E.n bytes){parts:List (Nat×Operand)}{css:List (List Value)}(W:Hp w0 Mu M σ w)(hi:parts.map (·.1)=List.range n)(V:evs L (parts.map (·.2))=some vs)(F:Cls vs css)(hx:Chs E (mm σ M) w css xs)(D:Nat.ble (n*E.n) 16777216=true)(hN:blt d N=true)(h:∀v' w',Hp w0 Mu M (ownR [] E e v' xs::σ) w'->Adv (mm σ M) (mm (ownR [] E e v' xs::σ) M) w w'->Reg P N ops .seq rest ds ((d,v')::L) w' A B X Z):
  Reg P N ops .seq (⟨some d,.buildSlice t n parts.toArray,ty,pos,af,none⟩::rest) ds L w A B X Z:=
 AWe T (Bb:=0) (M:=mm σ M) hi V F hx W.mlt (AYh _) D hN fun v' w' H C K I=>by
  have J:∀b∈(ownR [] E e v' xs).fp,w.heap.size<=b/\b<w'.heap.size:=fun b U=>⟨I b U,(C.ge b U).2⟩;exact h v' w' (W.add H J rfl (C.mon fun b U=>(mem_append.1 U).elim .inl .inr)) (W.addA H J)
end
theorem AQ8(h:AJX k x y=some z):InK k z:=by
 obtain⟨H,W,I,rfl⟩:=AJY h;have V:x / y<=x:=Int.ediv_le_self _ H;have U:0<=x / y:=Int.ediv_nonneg H (by omega);have J:k.min<=0:=by cases k<;>simp[IntKind.min,IntKind.signed,IntKind.bits]
 exact⟨by omega,by have:=I.2;omega⟩
theorem AQ9(h:AJZ x y=some z)(hx:InK k x):InK k z:=by
 obtain⟨I,H,rfl⟩:=AJa h;have V:x % y<=x:=by
  rcases Int.lt_or_le x y with hl|hl
  . rw[Int.emod_eq_of_lt I hl];exact Int.le_refl _
  . have:=Int.emod_lt_of_pos x H;omega
 have U:0<=x % y:=Int.emod_nonneg _ (by omega);have J:k.min<=0:=by cases k<;>simp[IntKind.min,IntKind.signed,IntKind.bits]
 exact⟨by omega,by have:=hx.2;omega⟩
theorem AO7(hx:InK k x)(hy:InK k y):InK k (min x y):=by
 unfold InK at *;omega
theorem AO8(hx:InK k x)(hy:InK k y):InK k (max x y):=by
 unfold InK at *;omega
theorem Own.oneC(h:Own E e Bb M w v xs):v.oneCell'=true:=by
 obtain⟨a,c,rfl,_⟩:=h.shape;rfl
theorem Own.cells1(h:Own E e Bb M w v xs):v.cells=[v].toArray:=by
 obtain⟨a,c,rfl,_⟩:=h.shape;rfl
theorem Hp.ownOut[Fx](h:Hp w0 Mu M σ w)(i:Nat){E:Enc α}{e:TypeId}{xs:List α}(hi:σ[i]?=some (ownR [] E e v xs)):Own E e 0 M w v xs/\∀b∈ob v,w0.heap.size<=b:=
 ⟨(h.ownAt i hi).mon fun _ H=>.inr (mem_mm.2 (.inr H)),fun b H=>((h.own _ (AX1 hi)).2 b H).elim (fun h=>by cases h) id⟩
theorem Hp.addLit[Fx](h:Hp w0 Mu M σ w)(E:Enc α)(t:TypeId)(k:AO5 v):Hp w0 Mu M (ownR [] E t v []::σ) w:=by
 obtain⟨a,rfl⟩:=k;exact h.add (Kp.refl _ _) (fun b H=>by simp only[ownR,AHp]at H;cases H) rfl (AO3 _ _ _ _ _ _)
theorem AMW(E:Enc α)(t:TypeId)(k:AO5 v):Adv (mm σ M) (mm (ownR [] E t v []::σ) M) w w:=by
 obtain⟨a,rfl⟩:=k;exact⟨Kp.refl _ _,fun b H=>by
  rcases mem_append.1 H with h|h
  . simp only[ownR,AHp]at h;cases h
  . exact .inl h⟩
theorem AJf(σ τ:List Res):mm σ (mm τ M)=mm (σ++τ) M:=by
 induction σ with
 |nil=>rfl
 |cons r σ ih=>simp only[mm,List.cons_append,ih]
inductive RsOk(P:Program)(L:A7)(w:World):ResultVar->Value->Prop
 |tmp {t:Nat} {v:Value} (h:A5 L t=some v):RsOk P L w (.tmp t) v
 |agg {t b o n:Nat} {e:TypeId} {cs:List Value} (h:A5 L t=some (.pointer (some ⟨b,o,none⟩))) (hc:Cells w b o cs) (he:∀w,(isAgg e).run P w=.ok true w) (hn:cs.length=n) (hz:∀w,(sizeOf e).run P w=.ok n w):RsOk P L w (.cell t e) (.agg cs.toArray)
 |one {t:Nat} {p:Addr} {e:TypeId} {v:Value} (h:A5 L t=some (.pointer (some p))) (hc:w.cell? p=some v) (he:∀w,(isAgg e).run P w=.ok false w):RsOk P L w (.cell t e) v
inductive AllRs(P:Program)(L:A7)(w:World):List ResultVar->List Value->Prop
 |nil:AllRs P L w [] []
 |cons {r:ResultVar} {v:Value} {rs:List ResultVar} {vs:List Value} (h:RsOk P L w r v) (hr:AllRs P L w rs vs):AllRs P L w (r::rs) (v::vs)
def ACw:List Value->Value
 |[v]=>v
 |vs=>.tuple vs.toArray
def AG0(T:Array Value)(r:ResultVar):Sem Value:=match r with
 |.tmp t=>pure (T.getD t undef)
 |.cell x t=>do loadVar t (<-asAddr (T.getD x undef))
theorem RsOk.run{P:Program}{N:Nat}{ds:List Deferred}{L:A7}{w:World}{r:ResultVar}{v:Value}(h:RsOk P L w r v){a:Act}(J:Knows N ds L a):(AG0 a.tmps r).run P w=.ok v w:=by
 cases h with
 |tmp h=>simp only[AG0];rw[J.getD h];simp
 |agg h I H W U=>
  rename_i t b o n e cs
  subst W
  have V:=run_loadCells_list (P:=P) w ⟨b,o,none⟩ cs (fun j v C=>by rw[add_none];exact I j v C)
  simp only[AG0];rw[J.getD h]
  simp[asAddr,loadVar,H,U,V]
 |one h I H=>
  simp only[AG0];rw[J.getD h]
  simp[asAddr,loadVar,H,I]
theorem AMX(fn:Func)(T:Array Value):results fn T=(do let vs <-fn.results.mapM (AG0 T);pure (if h:vs.size=1 then vs[0] else .tuple vs)):=rfl
theorem N8{P:Program}{fn:Func}{R:Ending->World->Prop}{L:A7}{w:World}{rs:List ResultVar}{vs:List Value}(W:fn.results=rs.toArray)(hv:AllRs P L w rs vs)(hl:Nat.ble vs.length 4=true)(h:R (.returned (ACw vs)) w):ABC P fn R [] L w:=by
 refine⟨rfl,ACw vs,fun a J=>?_,h⟩;rw[AMX,W];cases hv with
 |nil=>simp[ACw]
 |cons H t1=>
  have H:=H.run J
  cases t1 with
  |nil=>simp[ACw,H]
  |cons I t2=>
   have I:=I.run J
   cases t2 with
   |nil=>simp[ACw,H,I]
   |cons U t3=>
    have U:=U.run J
    cases t3 with
    |nil=>simp[ACw,H,I,U]
    |cons V t4=>
     have V:=V.run J
     cases t4 with
     |nil=>simp[ACw,H,I,U,V]
     |cons C t5=>simp at hl
theorem AO9{x:Operand}{p:Addr}(hx:ev L x=some (.pointer (some p)))(hN:blt d N=true)(h:Reg P N ops q rest ds ((d,.pointer (some p))::L) w A B X Z):Reg P N ops q (⟨some d,.nilCheck x,ty,pos,af,none⟩::rest) ds L w A B X Z:=
 Reg.val _ rfl rfl hN (fun a H w' _=>by simp[execOp,H.eval hx]) h
theorem ASa{t e n:TypeId}{x:Operand}{a:Option Addr}{l c:Nat}{k k':IntKind}(hx:ev L x=some (.slice a l c))(I:P.underlying t=some (.slice e))(J:∀w,(sizeOf e).run P w=.ok n w)(hN:blt d N=true)(h:∀v',AO5 v'->Reg P N ops q rest ds ((d,v')::L) w A B X Z):
  Reg P N ops q (⟨some d,.slice t x none (some (.const (.int k 0))) (some (.const (.int k' 0))),ty,pos,af,none⟩::rest) ds L w A B X Z:=by
 have H:P.underlying t=some (.slice (P.elem t)):=by simp[Program.elem,I]
 have V:P.elem t=e:=by simp[Program.elem,I]
 refine Reg.val (.slice a 0 0) rfl rfl hN (fun a' W w' _=>?_) (h _ ⟨a,rfl⟩)
 have U:=run_slice_hm (P:=P) w' t a l c H k k' 0 0 (by omega) (by omega) (by omega)
 have D:a'.eval (.const (.int k 0))=.int k 0:=rfl
 have C:a'.eval (.const (.int k' 0))=.int k' 0:=rfl
 simp[execOp,W.eval hx,D,C,run_sliceAt_slice w' t _ _ _ _ H,U,V,J,sliced]
open Classical in
def AJg{α β:Type}(xs:List α)(f:Bool->Option β):Option β:=if xs=[] then(if f true=f false then f true else none) else f false
variable{β:Type}{f:Bool->Option β}{t:TypeId}{t':TypeId}{k':IntKind}{j:Int}{n:Int}
section
variable{x:Operand}{y:Operand}{c:Bool}
theorem APA{r:β}(h:AJg xs f=some r)(I:b=true->xs=[]):f b=some r:=by
 unfold AJg at h;split at h
 . split at h
   . rename_i H;cases b with
     |true=>exact h
     |false=>rw[<-H];exact h
   . cases h
 . rename_i hx;cases b with
   |true=>exact absurd (I rfl) hx
   |false=>exact h
theorem ANm{r:Option β}(I:xs=[]->f true=r)(H:f false=r):AJg xs f=r:=by
 unfold AJg;split
 . rename_i hx;rw[I hx,H];simp
 . exact H
def AGC(x y:Int)(b:Nat):Option Int:=if 0<=y then some (x.fdiv (2 ^ min y.toNat b)) else none
def AGD(k:IntKind)(x y:Int):Option Int:=if 0<=y then some (k.wrap (x*2 ^ min y.toNat k.bits)) else none
def AJh(k:IntKind)(x y:Int):Int:=k.wrap ((BitVec.ofInt k.bits x &&& BitVec.ofInt k.bits y).toNat:Int)
theorem AUw(hx:ev L x=some (.int k i))(hy:ev L y=some (.int k' j))(hN:blt d N=true)(H:AGC i j k.bits=some n)(h:Reg P N ops q rest ds ((d,.int k n)::L) w A B X Z):Reg P N ops q (⟨some d,.binOp .shr t x y t',ty,pos,af,none⟩::rest) ds L w A B X Z:=by
 unfold AGC at H;split at H
 . rename_i U;cases H
   have I:¬j<0:=by omega
   exact Reg.val _ rfl rfl hN (fun a J w' _=>by simp[execOp,J.eval hx,J.eval hy,eqGuard_shr,binOp_shr,Op.shift,I]) h
 . cases H
theorem AUx(hx:ev L x=some (.int k i))(hy:ev L y=some (.int k' j))(hN:blt d N=true)(H:AGD k i j=some n)(h:Reg P N ops q rest ds ((d,.int k n)::L) w A B X Z):Reg P N ops q (⟨some d,.binOp .shl t x y t',ty,pos,af,none⟩::rest) ds L w A B X Z:=by
 unfold AGD at H;split at H
 . rename_i U;cases H
   have I:¬j<0:=by omega
   exact Reg.val _ rfl rfl hN (fun a J w' _=>by simp[execOp,J.eval hx,J.eval hy,eqGuard_shl,binOp_shl,Op.shift,I]) h
 . cases H
theorem AUy(hx:ev L x=some (.int k i))(hy:ev L y=some (.int k j))(hN:blt d N=true)(h:Reg P N ops q rest ds ((d,.int k (AJh k i j))::L) w A B X Z):Reg P N ops q (⟨some d,.binOp .and t x y t',ty,pos,af,none⟩::rest) ds L w A B X Z:=
 Reg.val _ rfl rfl hN (fun a H w' _=>by simp[execOp,H.eval hx,H.eval hy,eqGuard_and,binOp_and,Op.intBits,AJh]) h
theorem AJi(k:IntKind)(x:Int):InK k (k.wrap x):=by
 cases k<;>simp[InK,IntKind.min,IntKind.max,IntKind.signed,IntKind.bits,IntKind.wrap]<;>(try split)<;>omega
theorem andI_in{x y:Int}:InK k (AJh k x y):=AJi _ _
theorem ARA{x y n:Int}(h:AGD k x y=some n):InK k n:=by
 unfold AGD at h;split at h
 . cases h;exact AJi _ _
 . cases h
theorem ARB{x y n:Int}{b:Nat}(h:AGC x y b=some n)(hx:InK k x):InK k n:=by
 unfold AGC at h;split at h
 . cases h
   have J:(0:Int)<2 ^ min y.toNat b:=Int.pow_pos (by omega);rw[Int.fdiv_eq_ediv_of_nonneg _ (by omega)];have U:k.min<=0:=by cases k<;>simp[IntKind.min,IntKind.signed,IntKind.bits]
   have V:0<=k.max:=by cases k<;>simp[IntKind.max,IntKind.signed,IntKind.bits]
   have Q:=hx.1;have O:=hx.2;rcases Int.lt_or_le x 0 with I|H
   . have a1:x<=x / 2 ^ min y.toNat b:=by
      have:=Int.ediv_mul_le x (show(2:Int) ^ min y.toNat b≠0 by omega);have K:x / 2 ^ min y.toNat b<0:=Int.ediv_neg_of_neg_of_pos I J;have F:=Int.lt_ediv_add_one_mul_self x J;rcases Int.lt_or_le (x / 2 ^ min y.toNat b) x with W|W
      . exfalso;have C:x / 2 ^ min y.toNat b+1<=x:=by omega
        have E:(x / 2 ^ min y.toNat b+1)*2 ^ min y.toNat b<=x*2 ^ min y.toNat b:=Int.mul_le_mul_of_nonneg_right C (by omega);have D:x*2 ^ min y.toNat b<=x*1:=Int.mul_le_mul_of_nonpos_left (by omega) (by omega);omega
      . exact W
     have a2:x / 2 ^ min y.toNat b<0:=Int.ediv_neg_of_neg_of_pos I J;exact⟨by omega,by omega⟩
   . have a1:=Int.ediv_le_self (2 ^ min y.toNat b) H;have a2:0<=x / 2 ^ min y.toNat b:=Int.ediv_nonneg H (by omega);exact⟨by omega,by omega⟩
 . cases h
theorem AUz(hx:ev L x=some (.bool b))(hy:ev L y=some (.bool c))(hN:blt d N=true)(I:P.underlying t=some .bool)(h:Reg P N ops q rest ds ((d,.bool (b==c))::L) w A B X Z):Reg P N ops q (⟨some d,.binOp .eql t x y t',ty,pos,af,none⟩::rest) ds L w A B X Z:=by
 refine Reg.val (.bool (b==c)) rfl rfl hN (fun a H w' _=>?_) h;have U:(Op.equal t (.bool b) (.bool c)).run P w'=.ok (b==c) w':=by
  have key:∀n,(Op.equalIn (n+1) t (.bool b) (.bool c)).run P w'=.ok (b==c) w':=fun n=>by simp[Op.equalIn,run_underlying I]
  exact key 9999
 have J:eqGuard .eql t x y (.bool b) (.bool c)=pure ():=by rfl
 simp[execOp,H.eval hx,H.eval hy,J,binOp,U]
theorem AU0(hx:ev L x=some (.bool b))(hy:ev L y=some (.bool c))(hN:blt d N=true)(I:P.underlying t=some .bool)(h:Reg P N ops q rest ds ((d,.bool (!(b==c)))::L) w A B X Z):Reg P N ops q (⟨some d,.binOp .neq t x y t',ty,pos,af,none⟩::rest) ds L w A B X Z:=by
 refine Reg.val (.bool (!(b==c))) rfl rfl hN (fun a H w' _=>?_) h;have U:(Op.equal t (.bool b) (.bool c)).run P w'=.ok (b==c) w':=by
  have key:∀n,(Op.equalIn (n+1) t (.bool b) (.bool c)).run P w'=.ok (b==c) w':=fun n=>by simp[Op.equalIn,run_underlying I]
  exact key 9999
 have J:eqGuard .neq t x y (.bool b) (.bool c)=pure ():=by rfl
 simp[execOp,H.eval hx,H.eval hy,J,binOp,U]
def fillL(pl:List (Nat×Nat)):List Value->List (Nat×List Value)->Option (List Value)
 |cs,[]=>some cs
 |cs,(i,vs)::r=>match pl[i]? with
  |none=>none
  |some (off,size)=>if vs.length=size/\off+vs.length<=cs.length then fillL pl (B8 cs off vs) r else none
theorem AIX(pl:List (Nat×Nat))(f:Nat->Option (Nat×Nat))(I:∀i,f i=pl[i]?):∀(parts:List (Nat×Value)) (ps:List (Nat×List Value)) (cs out:List Value),
  parts.map (·.1)=ps.map (·.1)->Cls (parts.map (·.2)) (ps.map (·.2))->fillL pl cs ps=some out->Instr.fill f cs.toArray parts=some out.toArray
 |[],[],cs,out,_,_,h=>by simp[fillL]at h;subst h;rfl
 |(i,v)::parts,(j,vs)::ps,cs,out,hi,⟨hv,U⟩,h=>by
  simp only[List.map_cons,List.cons.injEq]at hi;obtain⟨rfl,hi⟩:=hi;simp only[fillL]at h;have hv:v.cells=vs.toArray:=hv;rw[Instr.fill,I];cases H:pl[i]? with
  |none=>simp[H]at h
  |some p=>
   obtain⟨off,size⟩:=p
   simp only[H]at h
   split at h
   . rename_i J
     have V:¬(v.cells.size≠size\/off+v.cells.size > cs.toArray.size):=by rw[hv];simp;exact J
     simp only[]
     rw[if_neg (by simpa using V)]
     have hfold:=AEs off vs 0 (cs.take off) (cs.drop off) (by simp;omega) (by simp;omega)
     rw[hv,<-Array.foldl_toList]
     simp only[Array.toList_zipIdx]
     rw[List.take_append_drop]at hfold
     rw[hfold]
     refine AIX pl f I parts ps _ out hi U ?_
     rw[<-h]
     congr 1
     rw[W0 _ _ _ (by omega)]
     simp[List.drop_drop]
   . cases h
 |[],_::_,_,_,h,_,_=>by simp at h
 |_::_,[],_,_,h,_,_=>by simp at h
theorem ASb{fields:Array Field}{z:Value}{zc out:List Value}{parts:List (Nat×Operand)}{vs:List Value}{css:List (List Value)}(pl:List (Nat×Nat))(C:∀w,(zeroValue t).run P w=.ok z w)(J:z.cells=zc.toArray)(E:P.underlying t=some (.struct fields))(V:∀w,(fields.mapM (fun f=>Prod.mk f.offset <$> sizeOf f.type):Sem (Array (Nat×Nat))).run P w=.ok pl.toArray w)(U:evs L (parts.map (·.2))=some vs)(W:Cls vs css)(O:fillL pl zc ((parts.map (·.1)).zip css)=some out)(hN:blt d N=true)(h:Reg P N ops q rest ds ((d,.agg out.toArray)::L) w A B X Z):Reg P N ops q (⟨some d,.build t parts.toArray,ty,pos,af,none⟩::rest) ds L w A B X Z:=by
 refine Reg.val _ rfl rfl hN (fun a Q w' _=>?_) h;have H:=AAh Q _ _ U;have I:∀(vs:List Value) (css:List (List Value)),Cls vs css->vs.length=css.length:=by
  intro vs;induction vs with
  |nil=>intro css h;cases css with|nil=>rfl|cons _ _=>exact h.elim
  |cons v vs ih=>intro css h;cases css with|nil=>exact h.elim|cons c css=>simp[ih css h.2]
 have D:=I vs css W;have K:parts.length=vs.length:=by rw[<-H];simp
 have hparts:(parts.map fun (p:Nat×Operand)=>(p.1,a.eval p.2))=(parts.map (·.1)).zip vs:=by
  rw[<-H,AYe,List.zip_map'];rfl
 have F:=AIX pl (fun i=>pl[i]?) (fun i=>rfl) ((parts.map (·.1)).zip vs) ((parts.map (·.1)).zip css) zc out
  (by rw[List.map_fst_zip (by simp;omega),List.map_fst_zip (by simp;omega)]) (by rw[List.map_snd_zip (by simp;omega),List.map_snd_zip (by simp;omega)];exact W) O
 simp only[execOp,Instr.build];simp[C,J,run_underlying E,V,hparts,F]
theorem Own.cellsAt{E:Enc α}{e Bb:Nat}{M:List Nat}{w:World}{v:Value}{g j:Nat}{z:α}(h:Own E e Bb M w v xs)(V:ob v=[g])(H:xs[j]?=some z):∃cs,E.R M w cs z/\Cells w g (j*E.n) cs:=by
 have hl:j<xs.length:=by
  rcases AYF j xs.length with h|h
  . exact h
  . rw[AYC h]at H;cases H
 obtain⟨g',cap,cur,rfl,I,_,hheap,W,_,hsize,U⟩:=h.at_ (by omega);rw[I]at V;have J:g'=g:=by simpa using V
 subst J;rw[AX7 hl]at H;cases H
 refine⟨_,E.mon (fun b C=>.inl (AX0 _ C)) (U.get j hl),fun k u hk=>?_⟩;rw[AYa]at hk;split at hk
 . rw[AYu,AYa]at hk;split at hk
   . exact ACO hheap (j:=j*E.n+k) (u:=u) (by simpa using hk)
   . cases hk
 . cases hk
end
variable{Mu M:List Nat}{σ:List Res}{mu:List Nat}
section
variable{x:Operand}{y:Operand}{z:α}
theorem AWf[Fx](i:Nat){e' t e:TypeId}{k:IntKind}(I:Hp w0 Mu M σ w)(hi:σ[i]?=some (ownR mu E e' v xs))(hx:ev L x=some v)(hy:ev L y=some (.int k j))(J:ixo xs j=some z)(U:P.underlying t=some (.slice e))(V:∀w,(sizeOf e).run P w=.ok E.n w)(hN:blt d N=true)(h:∀g cs,ob v=[g]->E.R (mm σ M) w cs z->Cells w g (j.toNat*E.n) cs->Reg P N ops q rest ds ((d,.pointer (some ⟨g,j.toNat*E.n,none⟩))::L) w A B X Z):
  Reg P N ops q (⟨some d,.indexAddr t x y,ty,pos,af,none⟩::rest) ds L w A B X Z:=by
 obtain⟨K,F,D⟩:=AAC J
 refine AUp hx hy (I.ownAt i hi) ⟨K,F⟩ U V hN fun g H=>?_
 obtain⟨cs,W,C⟩:=(I.ownAt i hi).cellsAt H D
 exact h g cs H W C
theorem AU1[Fx](i:Nat){v u:Value}{xs l:List α}{g o n:Nat}{cs vs:List Value}{z z':α}(G:Hp w0 Mu M σ w)(hi:σ[i]?=some (ownR mu E e v xs))(hx:ev L x=some (.pointer (some ⟨g,j.toNat*E.n+o,none⟩)))(hy:ev L y=some u)(hu:u.cells=vs.toArray)(hg:ob v=[g])(V:ABE xs j z'=some l)(hR:E.R (mm σ M) w cs z)(hC:Cells w g (j.toNat*E.n) cs)(r:E.R (mm σ M) w (B8 cs o vs) z')(hl:Nat.ble (o+vs.length) cs.length=true)(S:∀w,(sizeOf t).run P w=.ok n w)(hn:vs.length=n)(h1:∀u∈vs,u.oneCell'=true)(h:∀w',Hp w0 Mu M (σ.set i (ownR mu E e v l)) w'->Adv (mm σ M) (mm (σ.set i (ownR mu E e v l)) M) w w'->Reg P N ops .seq rest ds L w' A B X Z):
  Reg P N ops .seq (⟨none,.store t x y,ty,pos,af,none⟩::rest) ds L w A B X Z:=by
 subst hn
 obtain⟨hj0,hj1,rfl⟩:=AGA V
 have Q:j.toNat<xs.length:=by omega
 have ho:=G.ownAt i hi
 obtain⟨g',cap,cur,rfl,J,hB,hheap,K,F,hsize,q⟩:=ho.at_ (by omega)
 have T:=hg
 rw[J]at T
 have m:g'=g:=by simpa using T
 subst m
 have hlen:=E.len hR
 have d:=AYT hl
 have hroom:j.toNat*E.n+E.n<=xs.length*E.n:=by
  have:=AYy E.n (show j.toNat+1<=xs.length from Q);rw[AYl,AZY]at this;exact this
 have hroom2:xs.length*E.n<=(cap+1)*E.n:=AYy _ K
 have H:cur.toList.length=(cap+1)*E.n:=by rw[<-hsize];exact AY5
 have C:Row e w g' cur.toList:=hheap
 have p:cs=(cur.toList.drop (j.toNat*E.n)).take E.n:=by
  apply AYr;intro k;rcases AYF k E.n with hk|hk
  . have h5:k<cs.length:=by omega
    have h6:=hC k _ (AX7 h5);have h7:w.cell? ⟨g',j.toNat*E.n+k,none⟩=cur.toList[j.toNat*E.n+k]?:=by
     show(match w.heap[g']? with|some (.cells c _ _)=>if Option.isSome (none:Option Nat) then none else c[j.toNat*E.n+k]?|_=>none)=_
     rw[hheap];simp
    rw[AYa,AYB hk,AYu,<-h7,h6,AX7 h5]
  . rw[AYC (by omega),AYC (by simp;omega)]
 obtain⟨w',W,R,hk⟩:=ADH (P:=P) g' e vs 0 cur.toList w (j.toNat*E.n+o) C (by rw[H];omega) h1
 have O:Kp (ob (Value.slice (some ⟨g',0,none⟩) xs.length (cap+1))) w w':=by
  rw[J];exact hk
 have I:=G.ownSub i hi
 rw[J]at I
 have f:g'∈mm σ M:=I g' (by simp)
 have Y:Adv (g'::mm σ M) (g'::mm σ M) w w':=⟨hk.mono fun x hx=>.inl (by simp at hx;subst hx;exact AX4 ..),fun _ h=>.inl h⟩
 have D:Own E e 0 (mm σ M) w' (Value.slice (some ⟨g',0,none⟩) xs.length (cap+1)) (xs.set j.toNat z'):=by
  refine .inr ⟨g',cap,(B8 cur.toList (j.toNat*E.n+o) vs).toArray,by simp,Nat.zero_le _,by simpa[Row] using R,by simpa using K,F,by simp[AEr,H],?_⟩;have he:((B8 cur.toList (j.toNat*E.n+o) vs).toArray.toList.take ((xs.set j.toNat z').length*E.n))=(cur.toList.take (xs.length*E.n)).take (j.toNat*E.n)++B8 cs o vs++(cur.toList.take (xs.length*E.n)).drop (j.toNat*E.n+E.n):=by
   rw[show(B8 cur.toList (j.toNat*E.n+o) vs).toArray.toList=B8 cur.toList (j.toNat*E.n+o) vs from rfl,W0 _ _ _ (by rw[H];omega),W0 cs _ _ d,AZg,p];apply AYr;intro i;simp only[List.getElem?_take,List.getElem?_append,List.length_append,List.length_take,List.getElem?_drop,List.length_drop,H];grind
  rw[he];refine Chunks.adv Y (AFz (E.mon (fun b U=>?_) r) q j.toNat Q);rcases mem_cons.1 U with rfl|U
  . exact .inl f
  . exact .inl U
 refine Reg.sto w' rfl rfl (fun a ha=>?_) (h w' (G.upd i hi O (fun b U=>.inl U) rfl fun M' s=>D.mon s) (G.updA (r':=ownR mu E e _ (xs.set j.toNat z')) i hi O fun b U=>.inl U))
 simp[execOp,ha.eval hx,ha.eval hy,Instr.storeAt,Instr.sureAddr,storeVar,hu,S,W]
end
variable{mu:List Nat}
theorem ABS(V:MLt M w)(hd:∀b∈ob v,b∉M)(h:Own E e 0 M w v xs):@Hp _ fx0 w (ob v) M [ownR (ob v) E e v xs] w:=by
 refine⟨Kp.refl _ _,fun b H=>?_,Adv.refl _ _,fun b H=>.inl (V b H),fun r J b H=>?_,fun r J=>?_,fun i j r r' hi W U=>?_,fun r J=>?_,fun _ _ h=>by cases h⟩
 . rcases mem_append.1 H with I|I
   . exact(h.ge b I).2
   . exact V b I
 . have:r=ownR (ob v) E e v xs:=by simpa using J
   subst this;exact hd b H
 . have:r=ownR (ob v) E e v xs:=by simpa using J
   subst this;exact⟨fun b H=>H,fun b H=>.inl H⟩
 . cases i with
   |zero=>cases j with
    |zero=>exact absurd rfl U
    |succ j=>simp at W
   |succ i=>simp at hi
 . have:r=ownR (ob v) E e v xs:=by simpa using J
   subst this;exact h.mon fun b H=>by
    rcases mem_append.1 H with I|I
    . exact .inl I
    . exact .inr I
theorem Hp.ownBack[Fx]{u:Value}(h:Hp w0 (ob u) M σ w)(i:Nat)(hi:σ[i]?=some (ownR mu E e v xs)):
  Own E e 0 M w v xs/\(∀b∈ob v,b∈ob u\/w0.heap.size<=b)/\Kp (ob u) w0 w:=
 ⟨(h.ownAt i hi).mon fun _ H=>.inr (mem_mm.2 (.inr H)),fun b H=>((h.own _ (AX1 hi)).2 b H).elim (fun I=>.inl ((h.own _ (AX1 hi)).1 b I)) .inr,h.kp⟩
theorem AD1(i:Nat)(hi:σ[i]?=some (ownR mu E e v xs)):Adv (mm σ M) (ob v++mm (σ.eraseIdx i) M) w w:=
 Adv.drop fun b H=>(mem_append.1 H).elim (fun h=>mem_mm.2 (.inl ⟨_,AX1 hi,h⟩)) (Z1 (AYK σ i))
theorem Hp.lendOwn[Fx](h:Hp w0 Mu M σ w)(i:Nat)(hi:σ[i]?=some (ownR mu E e v xs)):Own E e 0 (mm (σ.eraseIdx i) M) w v xs:=(h.ownAt i hi).mon fun b H=>.inr (Z1 (AYK σ i) H)
theorem Hp.lendM[Fx](h:Hp w0 Mu M σ w)(i:Nat)(hi:σ[i]?=some (ownR mu E e v xs)):MLt (ob v++mm (σ.eraseIdx i) M) w:=fun b I=>
 (mem_append.1 I).elim (fun H=>h.mlt b (h.ownSub i hi b H)) (fun H=>h.mlt b (Z1 (AYK σ i) H))
theorem Adv.lent{L M:List Nat}{w w':World}(e:Kp L w w'):Adv (L++M) (L++M) w w':=⟨e.mono fun b H=>.inl (AX2 _ H),fun _ H=>.inl H⟩
theorem Hp.took[Fx]{v v':Value}{xs ys:List α}(h:Hp w0 Mu M σ w)(i:Nat)(hi:σ[i]?=some (ownR mu E e v xs))(H:Own E e 0 (mm (σ.eraseIdx i) M) w' v' ys/\(∀b∈ob v',b∈ob v\/w.heap.size<=b)/\Kp (ob v) w w'):
 Hp w0 Mu M (σ.set i (ownR mu E e v' ys)) w':=h.upd2 i hi H.2.2 H.2.1 rfl fun M' I=>H.1.mon I
theorem Chunks.take:∀{cs:List Value} {ys:List α},Chunks E M w cs ys->∀k,k<=ys.length->Chunks E M w (cs.take (k*E.n)) (ys.take k)
 |cs,[],H,k,_=>by have H:cs=[]:=H;subst H;simp;rfl
 |cs,y::ys,⟨c,rest,e,I,J⟩,0,_=>by simp;rfl
 |cs,y::ys,⟨c,rest,e,I,J⟩,k+1,hk=>by
  have hl:=E.len I;refine⟨c,rest.take (k*E.n),?_,I,Chunks.take J k (by simpa using hk)⟩;rw[e,AYl,AZY,Nat.add_comm,<-hl];simp[List.take_append];exact AYk (Nat.le_add_right _ _)
theorem Own.take{e:TypeId}{Bb:Nat}{a:Option Addr}{n c:Nat}{xs:List α}(h:Own E e Bb M w (.slice a n c) xs)(k:Nat)(hk:k<=xs.length):Own E e Bb M w (.slice a k c) (xs.take k):=by
 rcases h with⟨a',H,rfl⟩|⟨g,cap,cur,H,W,V,C,U,J,I⟩
 . cases H
   have:k=0:=by simpa using hk
   subst this;exact .inl ⟨_,rfl,rfl⟩
 . cases H
   refine .inr ⟨g,cap,cur,by rw[AYj,AZM hk],W,V,by rw[AYj];omega,U,J,?_⟩;have:=I.take k hk;rw[List.take_take]at this;rw[AYj,AZM hk];rwa [AZM (AYy _ hk)]at this
theorem APB{P:Program}{N:Nat}{ops:Array Oper}{rest:List Oper}{ds:List Deferred}{L:A7}{A B:A3}{X:Nat->A3}{Z:List PanicEntry->A3}{o:Oper}(v:Value)(w':World)(J:o.guard=none)(hd:o.dst=none)(I:∀a,Knows N ds L a->(execOp a.eval o).run P w=.ok (.value v) w')(h:Reg P N ops .seq rest ds L w' A B X Z):Reg P N ops .seq (o::rest) ds L w A B X Z:=by
 intro a H;refine wpList_plain J fun K hK=>?_;simp only[Oper.wp,I a H,Oper.upon_value,hd];exact hK _ _ (h _ H)
theorem AWg[Fx](i:Nat){α:Type}{E:Enc α}{mu:List Nat}{e' t e:TypeId}{x y:Operand}{v:Value}{xs l:List α}{k:IntKind}{j:Int}(C:Hp w0 Mu M σ w)(hi:σ[i]?=some (ownR mu E e' v xs))(hx:ev L x=some v)(hy:ev L y=some (.int k j))(hl:ABR xs j=some l)(D:P.underlying t=some (.slice e))(O:∀w,(sizeOf e).run P w=.ok E.n w)(hN:blt d N=true)(h:∀v',Hp w0 Mu M (σ.set i (ownR mu E e' v' l)) w->Adv (mm σ M) (mm (σ.set i (ownR mu E e' v' l)) M) w w->Reg P N ops .seq rest ds ((d,v')::L) w A B X Z):
  Reg P N ops .seq (⟨some d,.slice t x none (some y) none,ty,pos,af,none⟩::rest) ds L w A B X Z:=by
 obtain⟨⟨Y,S⟩,rfl⟩:=AIW hl
 have F:=C.ownAt i hi
 obtain⟨a,c,rfl,R,G⟩:=F.shape
 have J:P.underlying t=some (.slice (P.elem t)):=by simp[Program.elem,D]
 have T:P.elem t=e:=by simp[Program.elem,D]
 have I:sliced a 0 j.toNat c E.n=.slice a j.toNat c:=by
  simp only[sliced,Nat.zero_mul,Nat.sub_zero];congr 1;split
  . rfl
  . cases a<;>simp[Addr.add]
 have U:=F.take j.toNat (by omega)
 have V:∀b∈ob (Value.slice a j.toNat c),b∈ob (Value.slice a xs.length c):=fun b H=>by cases a<;>cases c<;>first|exact H|simpa[ob] using H
 refine Reg.val (.slice a j.toNat c) rfl rfl hN (fun a' K w' _=>?_) (h _ (C.upd i hi (Kp.refl _ _) (fun b H=>.inl (V b H)) rfl fun M' W=>U.mon W) (C.updA (r':=ownR mu E e' (.slice a j.toNat c) _) i hi (Kp.refl _ _) fun b H=>.inl (V b H)))
 have Q:=run_slice_h (P:=P) w' t a xs.length c J k j Y (by omega)
 simp[execOp,K.eval hx,K.eval hy,run_sliceAt_slice w' t _ _ _ _ J,Q,T,O,I]
def mko{α:Type}(b:Nat)(z:α)(n:Int):Option (List α):=if 0<=n/\(b:Int)*n<=140737488355328/\n<=140737488355328 then some (replicate n.toNat z) else none
theorem ARC{α:Type}{b:Nat}{z:α}{n:Int}{l:List α}(h:mko b z n=some l):(0<=n/\(b:Int)*n<=140737488355328/\n<=140737488355328)/\l=replicate n.toNat z:=by
 unfold mko at h;split at h
 . cases h;exact⟨by assumption,rfl⟩
 . cases h
theorem Chunks.same{α:Type}{E:Enc α}{M:List Nat}{w:World}{v:Value}{z:α}(h:E.R M w [v] z):∀n,Chunks E M w (replicate n v) (replicate n z)
 |0=>rfl
 |n+1=>⟨[v],replicate n v,rfl,h,Chunks.same h n⟩
theorem AWh[Fx]{α:Type}{E:Enc α}{t e bytes:Nat}(T:SlT P t e E.n bytes){z:Value}{z0:α}(S:(P.info? e).bind (·.zero)=some z)(I:z.cells=#[z])(g:∀M w,E.R M w [z] z0){x y:Operand}{k k':IntKind}{m:Int}{xs:List α}(R:Hp w0 Mu M σ w)(hx:ev L x=some (.int k m))(hy:ev L y=some (.int k' m))(hm:mko bytes z0 m=some xs)(hN:blt d N=true)(h:∀v' w',Hp w0 Mu M (ownR [] E e v' xs::σ) w'->Adv (mm σ M) (mm (ownR [] E e v' xs::σ) M) w w'->Reg P N ops .seq rest ds ((d,v')::L) w' A B X Z):
  Reg P N ops .seq (⟨some d,.makeSlice t x y,ty,pos,af,none⟩::rest) ds L w A B X Z:=by
 obtain⟨⟨p,J,f⟩,rfl⟩:=ARC hm
 obtain⟨i,z',F,V,c,Q,O⟩:=T.info
 have K:z'=z:=by
  have:(P.info? e).bind (·.zero)=some z':=by rw[F];exact V
  rw[S]at this;exact(AXz this).symm
 subst K
 have U:E.n=1:=by rw[<-O,I];rfl
 have hcells:madeCells z'.cells (m.toNat*i.size)=(replicate m.toNat z').toArray:=by
  rw[c,U,I,Nat.mul_one];apply Array.ext
  . simp[madeCells]
  . intro j o l;simp[madeCells,Nat.mod_one]
 obtain⟨n,rfl⟩:∃n:Nat,m=n:=⟨m.toNat,by omega⟩
 rw[Int.toNat_natCast]at hcells h
 let w1:=w.alloc (.cells (replicate n z').toArray e)
 have W:Ext w w1:=Kp.alloc _ _ _
 have H:Own E e 0 (mm σ M) w1 (.slice (some ⟨w.heap.size,0,none⟩) n n) (replicate n z0):=by
  cases n with
  |zero=>exact .inl ⟨_,rfl,rfl⟩
  |succ j=>
   refine .inr ⟨w.heap.size,j,(replicate (j+1) z').toArray,by simp,Nat.zero_le _,heap_alloc_new w _,by simp,by simp only[maxLen];omega,by simp[U],?_⟩
   rw[U,Nat.mul_one,List.length_replicate]
   rw[AYk (by simp)]
   exact Chunks.same (g _ _) _
 have C:∀b∈ob (.slice (some ⟨w.heap.size,0,none⟩) n n),w.heap.size<=b:=fun b J=>by
  cases n with
  |zero=>cases J
  |succ m=>
   have:b=w.heap.size:=by simpa[ob] using J
   omega
 have D:∀b∈(ownR [] E e (.slice (some ⟨w.heap.size,0,none⟩) n n) (replicate n z0)).fp,w.heap.size<=b/\b<w1.heap.size:=fun b J=>⟨C b J,(H.ge b J).2⟩
 refine P4 (.slice (some ⟨w.heap.size,0,none⟩) n n) w1 rfl rfl hN (fun a G=>?_) (h _ _ (R.add W D rfl (H.mon fun b J=>(mem_append.1 J).elim .inl .inr)) (R.addA W D))
 have Y:=run_make (P:=P) w t e i z' T.und F V k k' (n:Int) (n:Int) (by omega) (Int.le_refl _) (by rw[Q];omega) (by omega)
 rw[Int.toNat_natCast,hcells]at Y
 simp[execOp,G.eval hx,G.eval hy,Y,w1]
end Go.Sx
namespace Go.Sx
open Go Go.RowKit Go.ChangeMaps
variable[Trk]
def Vl{α:Type}(E:Enc α)(ag:Bool)(M:List Nat)(w:World)(v:Value)(x:α):Prop:=∃cs,E.R M w cs x/\((ag=true/\v=.agg cs.toArray)\/(ag=false/\cs=[v]))
variable{α:Type}{E:Enc α}{ag:Bool}{M:List Nat}{M':List Nat}{w:World}{v:Value}{x:α}
theorem Vl.adv{w w':World}(H:Adv M M' w w')(h:Vl E ag M w v x):Vl E ag M' w' v x:=by
 obtain⟨cs,J,I⟩:=h;exact⟨cs,E.adv J H,I⟩
theorem Vl.mon(H:∀b∈M',b∈M\/w.heap.size<=b)(h:Vl E ag M w v x):Vl E ag M' w v x:=by
 obtain⟨cs,J,I⟩:=h;exact⟨cs,E.mon H J,I⟩
end Go.Sx
end
