/-
  What DisputeBefore stands on, part 1: memory, code, plain reckoning.
-/
import Derived.WalkKit
import Derived.Deep.Quiet
import Derived.Orders
open List (getElem?_append_left mem_append mem_cons mem_cons_of_mem mem_cons_self mem_map mem_of_getElem? mem_singleton)
open Nat (beq blt le_trans lt_of_lt_of_le)
set_option linter.unusedVariables false
set_option linter.unusedSectionVars false
noncomputable section
namespace Go
abbrev AaO:=@Option.some.inj
abbrev AaP:=@mem_of_getElem?
abbrev AaQ:=@mem_cons_of_mem
abbrev AaR:=@List.mem_append_left
abbrev AaS:=@List.mem_append_right
abbrev AaT:=@mem_cons_self
abbrev AaU:=@Nat.eq_of_beq_eq_true
abbrev AaV:=@List.getElem?_eq_getElem
abbrev AaW:=@of_decide_eq_true
abbrev AaX:=@congrArg
abbrev AaY:=@decide_eq_false
abbrev AaZ:=@of_decide_eq_false
abbrev Aaa:=@List.getElem?_eq_none
abbrev Aab:=@decide_eq_true
abbrev Aac:=@if_pos
abbrev Aad:=@le_trans
abbrev Aae:=@Nat.le_refl
abbrev Aaf:=@List.length_append
abbrev Aag:=@Nat.lt_or_ge
abbrev Aah:=@lt_of_lt_of_le
abbrev Aai:=@List.map_append
abbrev Aaj:=@List.map_cons
abbrev Aak:=@List.getElem_mem
abbrev Aal:=@List.eraseIdx_sublist
abbrev Aam:=@List.nil_append
abbrev Aan:=@List.append_nil
abbrev Aao:=@Nat.zero_add
abbrev Aap:=@mem_cons
abbrev Aaq:=@mem_append
abbrev Aar:=@List.getElem?_of_mem
abbrev Aas:=@Nat.zero_le
abbrev Aat:=@Nat.le_of_ble_eq_true
abbrev Aau:=@List.map_map
abbrev Aav:=@List.length_singleton
abbrev Aaw:=@getElem?_append_left
abbrev Aax:=@List.append_assoc
abbrev Aay:=@List.take_length
abbrev Aaz:=@List.not_mem_nil
abbrev Aa0:=@Option.map_some
abbrev Aa1:=@List.length_map
abbrev Aa2:=@List.attach_map_subtype_val
abbrev Aa3:=@List.length_take
abbrev Aa4:=@List.getElem?_map
abbrev Aa5:=@List.filter_cons
abbrev Aa6:=@List.getElem?_take
abbrev Aa7:=@List.take_of_length_le
abbrev Aa8:=@List.getElem?_append_right
abbrev Aa9:=@List.ext_getElem?
abbrev AbA:=@List.getElem?_set_ne
abbrev AbB:=@Nat.add_mul
abbrev AbC:=@List.mem_map_of_mem
abbrev AbD:=@List.length_filter_le
abbrev AbE:=@List.filter_sublist
abbrev AbF:=@Nat.mul_le_mul_right
abbrev AbG:=@Option.bind_some
abbrev AbH:=@List.cons_append
abbrev AbI:=@Array.toList_modify
abbrev AbJ:=@List.length_nil
abbrev AbK:=@List.getElem?_drop
abbrev AbL:=@List.length_cons
abbrev AbM:=@List.foldlM_cons
abbrev AbN:=@List.perm_ext_iff_of_nodup
abbrev AbO:=@List.drop_eq_nil_of_le
abbrev AbP:=@Array.getElem?_eq_none
abbrev AbQ:=@List.pairwise_iff_getElem
abbrev AbR:=@List.eq_nil_of_length_eq_zero
abbrev AbS:=@List.getElem?_modify
abbrev AbT:=@Nat.add_sub_cancel_left
abbrev AbU:=@Nat.add_assoc
abbrev AbV:=@List.getElem_of_mem
abbrev AbW:=@Iff.rfl
abbrev AbX:=@Array.length_toList
abbrev AbY:=@Array.getD_eq_getD_getElem?
abbrev AbZ:=@List.getElem?_set_self
abbrev Aba:=@List.foldlM_append
abbrev Abb:=@List.filter_append
abbrev Abc:=@List.Perm.refl
abbrev Abd:=@Array.getElem?_eq_getElem
abbrev Abe:=@Nat.min_eq_left
abbrev Abf:=@Nat.blt_eq
abbrev Abg:=@Option.getD_some
abbrev Abh:=@Array.getElem?_toList
abbrev Abi:=@List.pairwise_map
abbrev Abj:=@Array.toList_push
abbrev Abk:=@List.mem_or_eq_of_mem_set
abbrev Abl:=@List.mem_of_find?_eq_some
abbrev Abm:=@Nat.lt_succ_self
abbrev Abn:=@List.nodup_range
abbrev Abo:=@List.drop_append
abbrev Abp:=@List.all_eq_true
abbrev Abq:=@List.Sublist.map
abbrev Abr:=@mem_map
abbrev Abs:=@List.getElem?_cons_succ
abbrev Abt:=@List.all_cons
abbrev Abu:=@List.getElem?_eraseIdx
abbrev Abv:=@List.getElem?_set
abbrev Abw:=@List.nodup_nil
abbrev Abx:=@Nat.ble_eq_true_of_le
abbrev Aby:=@List.take_append_drop
abbrev Abz:=@List.getElem?_toArray
abbrev Ab0:=@List.length_drop
abbrev Ab1:=@List.mem_of_mem_take
abbrev Ab2:=@Option.bind_eq_bind
abbrev Ab3:=@Nat.one_mul
abbrev Ab4:=@List.length_set
abbrev Ab5:=@List.drop_eq_getElem_cons
abbrev Ab6:=@Classical.byContradiction
abbrev Ab7:=@Option.some.injEq
abbrev Ab8:=@List.take_add_one
abbrev Ab9:=@Nat.le_mul_of_pos_right
abbrev AcA:=@List.pairwise_singleton
abbrev AcB:=@List.take_append
abbrev AcC:=@List.any_eq_true
abbrev AcD:=@List.pairwise_lt_range
abbrev AcE:=@Ne.symm
abbrev AcF:=@List.singleton_append
abbrev AcG:=@List.find?_some
abbrev AcH:=@List.cons.injEq
abbrev AcI:=@Array.getElem?_modify
abbrev AcJ:=@List.contains_eq_mem
abbrev AcK:=@Array.toArray_toList
abbrev AcL:=@List.drop_drop
abbrev AcM:=@Prod.mk.injEq
abbrev AcN:=@List.zip_cons_cons
abbrev AcO:=@List.set_cons_succ
abbrev AcP:=@mem_singleton
abbrev AcQ:=@Nat.lt_trichotomy
abbrev AcR:=@List.size_toArray
abbrev AcS:=@List.nodup_append
abbrev AcT:=@List.foldl_append
abbrev AcU:=@List.filter_congr
abbrev AcV:=@List.Pairwise.imp
end Go
namespace Go.Sx
open Go Go.RowKit
class Trk where
 t:Prop
variable[Trk]
structure Kp[Trk](M:List Nat)(w w':World):Prop where
 os:w'.os=w.os
 tape:w'.tape=w.tape
 output:w'.output=w.output
 size:w.heap.size<=w'.heap.size
 block:∀b,b<w.heap.size->b∉M->w'.heap[b]?=w.heap[b]?
 drawn:Trk.t->w.drawn<=w'.drawn
abbrev Ext(w w':World):Prop:=Kp [] w w'
section
variable{M:List Nat}{a:World}{b:World}{c:World}{w:World}{w':World}{p:Addr}{v:Value}
theorem Kp.refl(M:List Nat)(w:World):Kp M w w:=⟨rfl,rfl,rfl,Aae _,fun _ _ _=>rfl,fun _=>Aae _⟩
theorem Kp.trans(h:Kp M a b)(k:Kp M b c):Kp M a c:=
 ⟨k.os.trans h.os,k.tape.trans h.tape,k.output.trans h.output,Aad h.size k.size,
  fun x hx hm=>(k.block x (Aah hx h.size) hm).trans (h.block x hx hm),fun t=>Aad (h.drawn t) (k.drawn t)⟩
theorem Kp.mono{M M':List Nat}{a b:World}(h:Kp M a b)(hs:∀x∈M,x∈M'\/a.heap.size<=x):Kp M' a b:=
 ⟨h.os,h.tape,h.output,h.size,fun x hx hm=>h.block x hx fun hx'=>(hs x hx').elim hm (fun h=>absurd hx (by omega)),h.drawn⟩
theorem Ext.kp(h:Ext a b):Kp M a b:=h.mono (fun _ hx=>by cases hx)
theorem Ext.below(h:Ext a b):Below a.heap.size a b:=⟨h.os,h.tape,h.output,h.size,fun k hk=>h.block k hk (by simp)⟩
theorem Ext.tail(h:Ext a b)(k:Kp M b c)(hM:∀x∈M,a.heap.size<=x):Ext a c:=
 ⟨k.os.trans h.os,k.tape.trans h.tape,k.output.trans h.output,Aad h.size k.size,
  fun x hx _=>(k.block x (Aah hx h.size) (fun hm=>by have:=hM x hm;omega)).trans (h.block x hx (by simp)),fun t=>Aad (h.drawn t) (k.drawn t)⟩
theorem Kp.tail{M0 M:List Nat}(h:Kp M0 a b)(k:Kp M b c)(hM:∀x∈M,x∈M0\/a.heap.size<=x):Kp M0 a c:=
 ⟨k.os.trans h.os,k.tape.trans h.tape,k.output.trans h.output,Aad h.size k.size,
  fun x hx hm0=>(k.block x (Aah hx h.size) (fun hm=>(hM x hm).elim hm0 (fun h=>absurd hx (by omega)))).trans (h.block x hx hm0),fun t=>Aad (h.drawn t) (k.drawn t)⟩
theorem Kp.cell(h:Kp M w w')(hm:p.block∉M)(hv:w.cell? p=some v):w'.cell? p=some v:=by
 have hlt:p.block<w.heap.size:=by
  rcases Aag p.block w.heap.size with h|h
  . exact h
  . simp[World.cell?,Array.getElem?_eq_none h]at hv
 rw[World.cell?_of_block (w:=w) (h.block p.block hlt hm)];exact hv
theorem AGV(hv:w.cell? p=some v):p.block<w.heap.size:=by
 rcases Aag p.block w.heap.size with h|h
 . exact h
 . simp[World.cell?,Array.getElem?_eq_none h]at hv
theorem AKN{row:Option Nat}(h:w.grownBy w' row)(hd:Trk.t->w.drawn<=w'.drawn)(hM:∀k,row=some k->k∈M):Kp M w w':=
 ⟨h.os,h.tape,h.output,h.size,fun b hb hm=>h.block b hb fun e=>hm (hM b e.symm),hd⟩
theorem Kp.alloc(M:List Nat)(w:World)(o:Obj):Kp M w (w.alloc o):=
 ⟨rfl,rfl,rfl,by simp,fun b hb _=>Below.heap_alloc _ _ _ hb,fun _=>Aae _⟩
theorem Kp.drew(M:List Nat)(w:World):Kp M w { w with drawn:=w.drawn+1 }:=⟨rfl,rfl,rfl,Aae _,fun _ _ _=>rfl,fun _=>Nat.le_succ _⟩
theorem Kp.setCell(w:World)(a:Addr)(v:Value)(h:a.block∈M):Kp M w (w.setCell a v):=
 ⟨rfl,rfl,rfl,by simp[World.setCell],fun b _ hm=>Below.heap_setCell _ _ _ _ (fun e=>hm (e▸h)),fun _=>Aae _⟩
theorem Ext.grown{a b:World}(h:Ext a b)(t:Trk.t):∃q os,b={ a with heap:=a.heap++os,drawn:=a.drawn+q }:=by
 refine⟨b.drawn-a.drawn,b.heap.extract a.heap.size b.heap.size,?_⟩;have h1:b.heap=a.heap++b.heap.extract a.heap.size b.heap.size:=by
  refine Array.ext_getElem? fun i=>?_;rw[Array.getElem?_append];split
  . rename_i hi;exact h.block i hi (by simp)
  . rename_i hi;rw[Array.getElem?_extract];split
    . rename_i h2;congr 1;omega
    . rename_i h2;rw[AbP];have:=h.size;omega
 have h2:b.drawn=a.drawn+(b.drawn-a.drawn):=by have:=h.drawn t;omega
 obtain⟨bh,bt,bd,bo,bu⟩:=b;have e1:=h.os;have e2:=h.tape;have e3:=h.output;simp only at e1 e2 e3 h1 h2 ⊢;rw[<-h1,<-h2,e1,e2,e3]
def Cells(w:World)(b o:Nat)(cs:List Value):Prop:=∀j v,cs[j]?=some v->w.cell? ⟨b,o+j,none⟩=some v
theorem Cells.kp(h:Kp M w w'){b o:Nat}{cs:List Value}(hb:b∉M)(hc:Cells w b o cs):Cells w' b o cs:=
 fun j v hj=>h.cell (p:=⟨b,o+j,none⟩) hb (hc j v hj)
theorem Cells.append{b o:Nat}{xs ys:List Value}(h:Cells w b o xs)(h':Cells w b (o+xs.length) ys):Cells w b o (xs++ys):=fun j v hj=>by
 rcases Aag j xs.length with hl|hl
 . rw[Aaw hl]at hj;exact h j v hj
 . rw[Aa8 hl]at hj;have:=h' (j-xs.length) v hj;rwa [AbU,Nat.add_sub_cancel' hl]at this
theorem Cells.nil(w:World)(b o:Nat):Cells w b o []:=fun j v hj=>by simp at hj
end
structure Enc(α:Type)where
 n:Nat
 pos:0<n
 R:List Nat->World->List Value->α->Prop
 len:∀{M w cs x},R M w cs x->cs.length=n
 kp:∀{M w w' cs x},Kp M w w'->R M w cs x->R M w' cs x
 mon:∀{M M' w cs x},(∀b∈M',b∈M\/w.heap.size<=b)->R M w cs x->R M' w cs x
 one:∀{M w cs x},R M w cs x->∀u∈cs,u.oneCell'=true
def RdS{α:Type}(E:Enc α)(M:List Nat)(w:World)(v:Value)(xs:List α):Prop:=
 ∃(a:Option Addr) (c:Nat),v=.slice a xs.length c/\xs.length<=c/\c<=maxLen /\
  (xs=[]\/∃b o,a=some ⟨b,o,none⟩/\b∉M/\b<w.heap.size/\∀i (h:i<xs.length),∃cs,E.R M w cs xs[i]/\Cells w b (o+i*E.n) cs)
section
variable{α:Type}{E:Enc α}{M:List Nat}{w:World}{v:Value}{xs:List α}{x:Int}
theorem RdS.kp{w w':World}(h:Kp M w w')(hr:RdS E M w v xs):RdS E M w' v xs:=by
 obtain⟨a,c,hv,h1,h2,h3⟩:=hr;refine⟨a,c,hv,h1,h2,?_⟩;rcases h3 with h3|⟨b,o,ha,hb,hlt,hc⟩
 . exact .inl h3
 . refine .inr ⟨b,o,ha,hb,Aah hlt h.size,fun i hi=>?_⟩;obtain⟨cs,hR,hC⟩:=hc i hi;exact⟨cs,E.kp h hR,hC.kp h hb⟩
theorem RdS.mon{M M':List Nat}(hm:∀b∈M',b∈M\/w.heap.size<=b)(hr:RdS E M w v xs):RdS E M' w v xs:=by
 obtain⟨a,c,hv,h1,h2,h3⟩:=hr;refine⟨a,c,hv,h1,h2,?_⟩;rcases h3 with h3|⟨b,o,ha,hb,hlt,hc⟩
 . exact .inl h3
 . refine .inr ⟨b,o,ha,fun hbm=>(hm b hbm).elim hb (fun h=>absurd hlt (by omega)),hlt,fun i hi=>?_⟩;obtain⟨cs,hR,hC⟩:=hc i hi;exact⟨cs,E.mon hm hR,hC⟩
theorem RdS.len(hr:RdS E M w v xs):xs.length<=9223372036854775807:=by
 obtain⟨a,c,hv,h1,h2,h3⟩:=hr;have:maxLen=9223372036854775807:=rfl;omega
theorem RdS.shape(hr:RdS E M w v xs):∃a c,v=.slice a xs.length c/\xs.length<=c/\c<=9223372036854775807:=by
 obtain⟨a,c,hv,h1,h2,h3⟩:=hr;exact⟨a,c,hv,h1,h2⟩
theorem RdS.nil(E:Enc α)(M:List Nat)(w:World):RdS E M w (.slice none 0 0) []:=⟨none,0,rfl,Aae _,Aas _,.inl rfl⟩
theorem RdS.at{α:Type}{E:Enc α}{M:List Nat}{w:World}{v:Value}{xs:List α}(hr:RdS E M w v xs)(i:Nat)(hi:i<xs.length):
  ∃b o c cs,v=.slice (some ⟨b,o,none⟩) xs.length c/\b∉M/\b<w.heap.size/\E.R M w cs xs[i]/\Cells w b (o+i*E.n) cs:=by
 obtain⟨a,c,hv,h1,h2,h3⟩:=hr
 rcases h3 with h3|⟨b,o,ha,hb,hlt,hc⟩
 . subst h3;simp at hi
 . obtain⟨cs,hR,hC⟩:=hc i hi
   exact⟨b,o,c,cs,by rw[hv,ha],hb,hlt,hR,hC⟩
def InK(k:IntKind)(x:Int):Prop:=k.min<=x/\x<=k.max
theorem InK.i64:InK .i64 x↔-9223372036854775808<=x/\x<=9223372036854775807:=by simp[InK,IntKind.min,IntKind.max,IntKind.signed,IntKind.bits]
theorem InK.u8:InK .u8 x↔0<=x/\x<=255:=by simp[InK,IntKind.min,IntKind.max,IntKind.signed,IntKind.bits]
theorem InK.u16:InK .u16 x↔0<=x/\x<=65535:=by simp[InK,IntKind.min,IntKind.max,IntKind.signed,IntKind.bits]
theorem InK.u32:InK .u32 x↔0<=x/\x<=4294967295:=by simp[InK,IntKind.min,IntKind.max,IntKind.signed,IntKind.bits]
end
structure Adv(M M':List Nat)(w w':World):Prop where
 kp:Kp M w w'
 new:∀b∈M',b∈M\/w.heap.size<=b
section
variable{M:List Nat}{M':List Nat}{a:World}{b:World}{w:World}{w':World}{α:Type}
theorem Adv.refl(M:List Nat)(w:World):Adv M M w w:=⟨Kp.refl _ _,fun _ h=>.inl h⟩
theorem Adv.trans{M M' M'':List Nat}{a b c:World}(h:Adv M M' a b)(k:Adv M' M'' b c):Adv M M'' a c:=by
 refine⟨⟨k.kp.os.trans h.kp.os,k.kp.tape.trans h.kp.tape,k.kp.output.trans h.kp.output,Aad h.kp.size k.kp.size,fun x hx hm=>?_,fun t=>Aad (h.kp.drawn t) (k.kp.drawn t)⟩,fun x hx=>?_⟩
 . refine(k.kp.block x (Aah hx h.kp.size) fun hm'=>?_).trans (h.kp.block x hx hm);rcases h.new x hm' with h1|h1
   . exact hm h1
   . omega
 . rcases k.new x hx with h1|h1
   . exact h.new x h1
   . exact .inr (Aad h.kp.size h1)
theorem Adv.of_ext(h:Ext a b):Adv M M a b:=⟨h.kp,fun _ h=>.inl h⟩
theorem Adv.drop(h:∀b∈M',b∈M):Adv M M' w w:=⟨Kp.refl _ _,fun b hb=>.inl (h b hb)⟩
def MLt(M:List Nat)(w:World):Prop:=∀b∈M,b<w.heap.size
theorem MLt.ext{M M0:List Nat}(h:MLt M w)(e:Kp M0 w w'):MLt M w':=fun b hb=>Aah (h b hb) e.size
theorem RdS.adv{E:Enc α}{v:Value}{xs:List α}(hr:RdS E M w v xs)(h:Adv M M' w w'):RdS E M' w' v xs:=
 (hr.mon (M':=M++M') (fun b hb=>by
  rcases mem_append.1 hb with hb|hb
  . exact .inl hb
  . exact h.new b hb)).kp (h.kp.mono fun x hx=>.inl (mem_append.2 (.inl hx))) |>.mon fun b hb=>.inl (mem_append.2 (.inr hb))
theorem Enc.adv(E:Enc α){cs:List Value}{x:α}(hr:E.R M w cs x)(h:Adv M M' w w'):E.R M' w' cs x:=
 E.mon (fun b hb=>.inl (mem_append.2 (.inr hb))) (E.kp (h.kp.mono fun x hx=>.inl (mem_append.2 (.inl hx))) (E.mon (M':=M++M') (fun b hb=>by
  rcases mem_append.1 hb with hb|hb
  . exact .inl hb
  . exact h.new b hb) hr))
end
structure RdC(M:List Nat)(w:World)(b o:Nat)(cs:List Value):Prop where
 out:b∉M
 lt:b<w.heap.size
 cells:Cells w b o cs
section
variable{M:List Nat}{w:World}{cs:List Value}{α:Type}{E:Enc α}{v:Value}{β:Type}
theorem RdC.adv{M M':List Nat}{w w':World}{b o:Nat}(hr:RdC M w b o cs)(h:Adv M M' w w'):RdC M' w' b o cs:=
 ⟨fun hb=>(h.new b hb).elim hr.out (fun h=>absurd hr.lt (by omega)),Aah hr.lt h.kp.size,hr.cells.kp h.kp hr.out⟩
theorem RdS.oneC{xs:List α}(hr:RdS E M w v xs):v.oneCell'=true:=by
 obtain⟨a,c,rfl,_⟩:=hr;rfl
theorem one0:∀u∈([]:List Value),u.oneCell'=true:=fun _ h=>by cases h
theorem one1{r:List Value}(h:v.oneCell'=true)(hr:∀u∈r,u.oneCell'=true):∀u∈v::r,u.oneCell'=true:=fun u hu=>by
 rcases mem_cons.1 hu with h1|h1
 . rw[h1];exact h
 . exact hr u h1
def A9(k:IntKind):Enc Int where
 n:=1
 pos:=by decide
 R:=fun _ _ cs x=>cs=[.int k x]/\InK k x
 len:=fun h=>by rw[h.1];rfl
 kp:=fun _ h=>h
 mon:=fun _ h=>h
 one:=fun h u hu=>by rw[h.1]at hu;simp at hu;subst hu;rfl
def boolE:Enc Bool where
 n:=1
 pos:=by decide
 R:=fun _ _ cs x=>cs=[.bool x]
 len:=fun h=>by rw[h];rfl
 kp:=fun _ h=>h
 mon:=fun _ h=>h
 one:=fun h u hu=>by rw[h]at hu;simp at hu;subst hu;rfl
def E6{α:Type}(E:Enc α):Enc (List α) where
 n:=1
 pos:=by decide
 R:=fun M w cs x=>∃v,cs=[v]/\RdS E M w v x
 len:=fun⟨v,h,_⟩=>by rw[h];rfl
 kp:=fun hk ⟨v,h,hr⟩=>⟨v,h,hr.kp hk⟩
 mon:=fun hm ⟨v,h,hr⟩=>⟨v,h,hr.mon hm⟩
 one:=fun⟨v,h,hr⟩ u hu=>by
  rw[h]at hu;simp at hu;subst hu;obtain⟨a,c,rfl,_⟩:=hr;rfl
def B2{α β:Type}(E:Enc α)(F:Enc β):Enc (α×β) where
 n:=E.n+F.n
 pos:=by have:=E.pos;omega
 R:=fun M w cs x=>∃c1 c2,cs=c1++c2/\E.R M w c1 x.1/\F.R M w c2 x.2
 len:=fun⟨c1,c2,h,h1,h2⟩=>by rw[h,Aaf,E.len h1,F.len h2]
 kp:=fun hk ⟨c1,c2,h,h1,h2⟩=>⟨c1,c2,h,E.kp hk h1,F.kp hk h2⟩
 mon:=fun hm ⟨c1,c2,h,h1,h2⟩=>⟨c1,c2,h,E.mon hm h1,F.mon hm h2⟩
 one:=fun⟨c1,c2,h,h1,h2⟩ u hu=>by
  rw[h,Aaq]at hu;exact hu.elim (E.one h1 u) (F.one h2 u)
def S6{α β:Type}(f:β->α)(E:Enc α):Enc β where
 n:=E.n
 pos:=E.pos
 R:=fun M w cs x=>E.R M w cs (f x)
 len:=fun h=>E.len h
 kp:=fun hk h=>E.kp hk h
 mon:=fun hm h=>E.mon hm h
 one:=fun h=>E.one h
@[simp] theorem AZ2(k:IntKind):(A9 k).n=1:=rfl
@[simp] theorem AZ0:boolE.n=1:=rfl
@[simp] theorem AYc(E:Enc α):(E6 E).n=1:=rfl
@[simp] theorem AZ1(E:Enc α)(F:Enc β):(B2 E F).n=E.n+F.n:=rfl
@[simp] theorem AZ3(f:β->α)(E:Enc α):(S6 f E).n=E.n:=rfl
theorem intE_R{k:IntKind}{x:Int}:(A9 k).R M w cs x↔cs=[.int k x]/\InK k x:=AbW
theorem boolE_R{x:Bool}:boolE.R M w cs x↔cs=[.bool x]:=AbW
theorem sliceE_R{x:List α}:(E6 E).R M w cs x↔∃v,cs=[v]/\RdS E M w v x:=AbW
theorem prodE_R{F:Enc β}{x:α×β}:
 (B2 E F).R M w cs x↔∃c1 c2,cs=c1++c2/\E.R M w c1 x.1/\F.R M w c2 x.2:=AbW
theorem mapE_R{f:β->α}{x:β}:(S6 f E).R M w cs x↔E.R M w cs (f x):=AbW
end
end Go.Sx
namespace Go.Sx
open Go Go.RowKit
variable[Trk]
abbrev A8:=List (Nat×Value)
def A6:A8->Nat->Option Value
 |[],_=>none
 |(k,v)::r,t=>bif beq k t then some v else A6 r t
def ev(L:A8):Operand->Option Value
 |.tmp t=>A6 L t
 |.const v=>some v
 |.global g=>some (.pointer (some ⟨g,0,none⟩))
 |.func f=>some (.func (.func f) #[] #[])
structure Knows(N:Nat)(ds:List Deferred)(L:A8)(a:Act):Prop where
 size:a.tmps.size=N
 defers:a.defers=ds
 val:∀t v,A6 L t=some v->a.tmps[t]?=some v
section
variable{N:Nat}{ds:List Deferred}{L:A8}{a:Act}{v:Value}{L':A8}
theorem Knows.eval(h:Knows N ds L a){x:Operand}(hx:ev L x=some v):a.eval x=v:=by
 cases x with
 |tmp t=>
  have:=h.val t v hx
  simp only[Act.eval,Array.getD_eq_getD_getElem?,this,Option.getD_some]
 |const u=>exact AaO hx
 |global g=>exact AaO hx
 |func f=>exact AaO hx
theorem Knows.put(h:Knows N ds L a){d:Nat}(hd:blt d N=true)(v:Value):Knows N ds ((d,v)::L) (a.put (some d) v):=by
 have hd':d<N:=by simpa[Nat.blt_eq] using hd
 refine⟨by simp[Act.put,h.size],h.defers,fun t u ht=>?_⟩;simp only[A6]at ht;cases hb:beq d t with
 |true=>
  have:d=t:=AaU hb
  subst this
  simp only[hb,cond_true,Option.some.injEq]at ht
  subst ht
  simp[Act.put,h.size,hd']
 |false=>
  have hne:d≠t:=fun e=>by subst e;simp at hb
  simp only[hb,cond_false]at ht
  simp only[Act.put]
  rw[Array.getElem?_setIfInBounds_ne hne]
  exact h.val t u ht
def Sub(L L':A8):Prop:=∀t v,A6 L t=some v->A6 L' t=some v
theorem Sub.refl(L:A8):Sub L L:=fun _ _ h=>h
theorem Sub.nil(L:A8):Sub [] L:=fun _ _ h=>by simp[A6]at h
theorem Sub.cons{t:Nat}(h:A6 L' t=some v)(hr:Sub L L'):Sub ((t,v)::L) L':=fun u x hu=>by
 simp only[A6]at hu;cases hb:beq t u with
 |true=>
  have:t=u:=AaU hb
  subst this
  simp only[hb,cond_true,Option.some.injEq]at hu
  subst hu;exact h
 |false=>
  simp only[hb,cond_false]at hu
  exact hr u x hu
theorem Knows.sub(h:Knows N ds L' a)(hs:Sub L L'):Knows N ds L a:=
 ⟨h.size,h.defers,fun t v ht=>h.val t v (hs t v ht)⟩
abbrev A5:=List Deferred->A8->World->Prop
def S7(N:Nat)(A B:A5)(X:Nat->A5)(Z:List PanicEntry->A5):Exit->Act->World->Prop
 |.normal,a,w=>∃ds L,Knows N ds L a/\A ds L w
 |.ret,a,w=>∃ds L,Knows N ds L a/\B ds L w
 |.exit i,a,w=>∃ds L,Knows N ds L a/\X i ds L w
 |.panic c,a,w=>∃ds L,Knows N ds L a/\Z c ds L w
 |_,_,_=>False
end
inductive PK where
 |c (v:Value)
 |p (K:Value->World->Prop)
 |f (K:Value->World->Prop)
def ANu:Value->List Nat
 |.slice (some a) _ _=>[a.block]
 |.pointer (some a)=>[a.block]
 |_=>[]
def PK.holds:PK->Value->World->Prop
 |.c v,u,_=>u=v
 |.p K,u,w=>K u w
 |.f K,u,w=>K u w/\∀b∈ANu u,b<w.heap.size
def PK.stays:PK->Prop
 |.c _=>True
 |.p K|.f K=>∀v w w',Ext w w'->K v w->K v w'
def PK.pure:PK->Prop
 |.c _=>True
 |.p K=>∀v w w',K v w->K v w'
 |.f _=>False
def PK.newer:PK->Value->World->Prop
 |.f _,v,w=>∀b∈ANu v,w.heap.size<=b
 |_,_,_=>True
def PK.isF:PK->Bool
 |.f _=>true
 |_=>false
inductive Md where
 |seq
 |quiet
 |flow (PR:List (Nat×PK))
 |fix (PR PZ:List (Nat×PK))
def Md.drawn:Md->Bool|.seq=>false|_=>true
def Cl(q:Md)(w w':World):Prop:=match q with|.seq=>w'=w|_=>Ext w w'
theorem Cl.ext{q:Md}{w w':World}(h:Cl q w w'):Ext w w':=by
 cases q with
 |seq=>have h:w'=w:=h;subst h;exact Kp.refl _ _
 |quiet=>exact h
 |flow PR=>exact h
 |fix _ _=>exact h
def AAb:List (Nat×PK)->Nat->Option PK
 |[],_=>none
 |(k,x)::r,t=>bif beq k t then some x else AAb r t
def AYd(u u':Value):Prop:=∀b∈ANu u,b∉ANu u'
structure KnowsP(N:Nat)(ds:List Deferred)(PE:List (Nat×PK))(a:Act)(w:World)(S:Nat->Prop):Prop where
 size:a.tmps.size=N
 defers:a.defers=ds
 val:∀t,S t->∀x,AAb PE t=some x->∃u,a.tmps[t]?=some u/\x.holds u w
 sep:∀t t' x x',t≠t'->S t->S t'->AAb PE t=some x->AAb PE t'=some x'->x.isF=true->x'.isF=true->∀u u',a.tmps[t]?=some u->a.tmps[t']?=some u'->AYd u u'
def ACk(P:Program)(ops:Array Oper)(o:Oper)(a:Act)(w:World)(x:PK):Prop:=
 if Region.wanted o (yielded ops a.tmps) then o.wp P a w (fun a2 w2=>∃v,a2=a.put o.dst v/\Ext w w2/\x.holds v w2/\x.newer v w) (fun _ _ _=>False) else x.holds undef w
def Ob(P:Program)(N:Nat)(ops:Array Oper)(ds:List Deferred)(w0:World)(PE:List (Nat×PK))(o:Oper)(x:PK):Prop:=
 (∀cs b,o.op≠.select cs b)->∀a w,Ext w0 w->KnowsP N ds PE a w (fun t=>t∈o.looksAt ops)->ACk P ops o a w x
def AR8(P:Program)(N:Nat)(ops:Array Oper)(ds:List Deferred)(w0:World)(G:List (Nat×PK)->Prop):List Oper->List (Nat×PK)->Prop
 |[],PE=>G PE
 |o::r,PE=>∃d x,o.dst=some d/\blt d N=true/\x.stays/\Ob P N ops ds w0 PE o x/\AR8 P N ops ds w0 G r ((d,x)::PE)
def AUF(P:Program)(N:Nat)(ops:Array Oper)(ds:List Deferred)(w0:World)(G:List (Nat×PK)->Prop):List Oper->List (Nat×PK)->Prop
 |[],PE=>G PE
 |o::r,PE=>∃d x,o.dst=some d/\blt d N=true/\x.pure/\Ob P N ops ds w0 PE o x/\AUF P N ops ds w0 G r ((d,x)::PE)
structure Fits(N:Nat)(PE:List (Nat×PK))(L:A8)(PR:List (Nat×PK)):Prop where
 c:∀t v,A6 L t=some v->AAb PE t=some (.c v)
 n:∀t v,A6 L t=some v->t<N
 p:∀t x,AAb PR t=some x->A6 L t=none->AAb PE t=some x
 s:∀t x,AAb PE t=some x->x.stays
def Reg(P:Program)(N:Nat)(ops:Array Oper)(q:Md)(l:List Oper)(ds:List Deferred)(L:A8)(w:World)(A B:A5)(X:Nat->A5)(Z:List PanicEntry->A5):Prop:=
 match q with
 |.seq=>∀a,Knows N ds L a->wpList P ops (S7 N A B X Z) l a w
 |.quiet=>∀a,Knows N ds L a->wpQuiet P ops (Ext w) (fun a'=>∀w',Ext w w'->S7 N A B X Z .normal a' w') l a
 |.flow PR=>∀PE,Fits N PE L PR->AR8 P N ops ds w (fun PE'=>∀a w',Ext w w'->KnowsP N ds PE' a w' (fun _=>True)->S7 N A B X Z .normal a w') l PE
 |.fix PR PZ=>∀PE,Fits N PE L PR->AUF P N ops ds w (fun PE'=>∃L',Fits N PE' L' PZ/\A ds L' w) l PE
def CW(P:Program)(N:Nat)(c:Code)(ds:List Deferred)(L:A8)(w:World)(A B:A5)(X:Nat->A5)(Z:List PanicEntry->A5):Prop:=∀a,Knows N ds L a->c.wp P (S7 N A B X Z) a w
section
variable{P:Program}{N:Nat}{ops:Array Oper}{q:Md}{rest:List Oper}{ds:List Deferred}{L:A8}{w:World}{A B:A5}{X:Nat->A5}{Z:List PanicEntry->A5}
section
variable{o:Oper}{a:Act}{d:Nat}{t:Nat}{PE:List (Nat×PK)}{PR:List (Nat×PK)}{L':A8}{f:Nat}{args:Array Value}{j:Nat}{b:Bool}{op:Op}{after:Array Edge}{id:Nat}{x:Code}{y:Code}{c:Code}{ι:Type}
theorem Reg.nil(h:A ds L w):Reg P N ops .seq [] ds L w A B X Z:=fun a ha=>wpList_nil ⟨ds,L,ha,h⟩
theorem AUG{L:A8}(hs:a.tmps.size=N)(hd:a.defers=ds)(hn:∀t v,A6 L t=some v->t<N)(hv:∀t v,A6 L t=some v->t∈o.looksAt ops->a.tmps[t]?=some v):
  ∃a',Knows N ds L a'/\∀t∈o.looksAt ops,a'.tmps[t]?=a.tmps[t]?:=by
 refine⟨{ a with tmps:=Array.ofFn fun i:Fin N=>if i.val∈o.looksAt ops then a.tmps.getD i.val undef else(A6 L i.val).getD undef },⟨by simp,hd,fun t v ht=>?_⟩,fun t ht=>?_⟩
 . have hlt:=hn t v ht
   simp only[Array.getElem?_ofFn,hlt,dif_pos]
   by_cases hm:t∈o.looksAt ops
   . have:=hv t v ht hm
     simp[hm,Array.getD_eq_getD_getElem?,this]
   . simp[hm,ht]
 . by_cases hlt:t<N
   . have h1:t<a.tmps.size:=by rw[hs];exact hlt
     simp[hlt,ht,h1]
   . have h1:¬t<a.tmps.size:=by rw[hs];exact hlt
     simp[hlt,h1]
theorem AFY{a a':Act}(h:∀t∈o.looksAt ops,a'.tmps[t]?=a.tmps[t]?):∀x∈o.op.operands,a'.eval x=a.eval x:=fun x hx=>by
 cases x with
 |tmp t=>
  have:=h t (AaR _ (List.mem_filterMap.2 ⟨.tmp t,by simpa using hx,rfl⟩))
  simp only[Act.eval,Array.getD_eq_getD_getElem?,this]
 |const u=>rfl
 |global g=>rfl
 |func f=>rfl
theorem AEv{x:PK}:AAb ((d,x)::PE) t=if d=t then some x else AAb PE t:=by
 by_cases h:d=t
 . subst h;simp[AAb]
 . have:beq d t=false:=by
    cases hb:beq d t with
    |false=>rfl
    |true=>exact absurd (AaU hb) h
   simp[AAb,this,h]
theorem look_cons{x:Value}{PE:A8}:A6 ((d,x)::PE) t=if d=t then some x else A6 PE t:=by
 by_cases h:d=t
 . subst h;simp[A6]
 . have:beq d t=false:=by
    cases hb:beq d t with
    |false=>rfl
    |true=>exact absurd (AaU hb) h
   simp[A6,this,h]
theorem Fits.putC(h:Fits N PE L PR)(hN:d<N)(v:Value):Fits N ((d,.c v)::PE) ((d,v)::L) PR:=by
 refine⟨fun t u ht=>?_,fun t u ht=>?_,fun t K hK hl=>?_,fun t x hx=>?_⟩
 . rw[look_cons]at ht;rw[AEv];split at ht
   . rename_i hd;rw[Aac hd];cases ht;rfl
   . rename_i hd;rw[if_neg hd];exact h.c t u ht
 . rw[look_cons]at ht;split at ht
   . rename_i hd;omega
   . exact h.n t u ht
 . rw[look_cons]at hl;rw[AEv];split at hl
   . cases hl
   . rename_i hd;rw[if_neg hd];exact h.p t K hK hl
 . rw[AEv]at hx;split at hx
   . cases hx;trivial
   . exact h.s t x hx
theorem Fits.same(h:Fits N PE L PR)(hl:∀t,A6 L' t=A6 L t):Fits N PE L' PR:=
 ⟨fun t v ht=>h.c t v (by rw[<-hl];exact ht),fun t v ht=>h.n t v (by rw[<-hl];exact ht),fun t K hK ht=>h.p t K hK (by rw[<-hl];exact ht),h.s⟩
theorem AJk{w:World}{v:Value}{x:PK}(hr:Region.wanted o (yielded ops a.tmps)=true->(execOp a.eval o).run P w=.ok (.value v) w)(hw:Region.wanted o (yielded ops a.tmps)=true)(hx:x.holds v w)(hf:x.newer v w):ACk P ops o a w x:=by
 simp only[ACk,hw,if_true,Oper.wp,hr hw,Oper.upon];exact⟨v,rfl,Kp.refl _ _,hx,hf⟩
theorem Reg.val(v:Value)(hg:o.guard=none)(hd:o.dst=some d)(hN:blt d N=true)(hr:∀a,Knows N ds L a->∀w',Cl q w w'->(execOp a.eval o).run P w'=.ok (.value v) w')(h:Reg P N ops q rest ds ((d,v)::L) w A B X Z):Reg P N ops q (o::rest) ds L w A B X Z:=by
 cases q with
 |seq=>
  intro a ha
  refine wpList_plain hg fun K hK=>?_
  have:=hr a ha w rfl
  simp only[Oper.wp,this,Oper.upon_value,hd]
  exact hK _ _ (h _ (ha.put hN v))
 |quiet=>
  intro a ha
  refine wpQuiet_step fun K hK=>?_
  simp only[Region.wanted,hg,if_true]
  refine⟨v,fun w' hw'=>?_,?_⟩
  . have:=hr a ha w' hw'
    simp only[Oper.quietAt,this,Oper.quietUpon,and_self]
  . rw[hd];exact hK _ (h _ (ha.put hN v))
 |flow PR=>
  intro PE hf
  have hlt:d<N:=by simpa[Nat.blt_eq] using hN
  refine⟨d,.c v,hd,hN,trivial,fun hs a w1 he hk=>?_,h _ (hf.putC hlt v)⟩
  obtain⟨a',ha',hl⟩:=AUG (ops:=ops) (o:=o) (L:=L) hk.size hk.defers hf.n fun t u ht hm=>by
   obtain⟨y,hy,hh⟩:=hk.val t hm _ (hf.c t u ht);have hh:y=u:=hh;rw[hy,hh]
  refine AJk (v:=v) (fun _=>?_) (by simp[Region.wanted,hg]) rfl trivial
  rw[<-execOp_congr o hs (AFY hl)]
  exact hr a' ha' w1 he
 |fix PR PZ=>
  intro PE hf
  have hlt:d<N:=by simpa[Nat.blt_eq] using hN
  refine⟨d,.c v,hd,hN,trivial,fun hs a w1 he hk=>?_,h _ (hf.putC hlt v)⟩
  obtain⟨a',ha',hl⟩:=AUG (ops:=ops) (o:=o) (L:=L) hk.size hk.defers hf.n fun t u ht hm=>by
   obtain⟨y,hy,hh⟩:=hk.val t hm _ (hf.c t u ht);have hh:y=u:=hh;rw[hy,hh]
  refine AJk (v:=v) (fun _=>?_) (by simp[Region.wanted,hg]) rfl trivial
  rw[<-execOp_congr o hs (AFY hl)]
  exact hr a' ha' w1 he
theorem N0(v:Value)(w':World)(hg:o.guard=none)(hd:o.dst=some d)(hN:blt d N=true)(hr:∀a,Knows N ds L a->(execOp a.eval o).run P w=.ok (.value v) w')(h:Reg P N ops .seq rest ds ((d,v)::L) w' A B X Z):Reg P N ops .seq (o::rest) ds L w A B X Z:=by
 intro a ha;refine wpList_plain hg fun K hK=>?_;simp only[Oper.wp,hr a ha,Oper.upon_value,hd];exact hK _ _ (h _ (ha.put hN v))
theorem Reg.sto(w':World)(hg:o.guard=none)(hd:o.dst=none)(hr:∀a,Knows N ds L a->(execOp a.eval o).run P w=.ok .skip w')(h:Reg P N ops .seq rest ds L w' A B X Z):Reg P N ops .seq (o::rest) ds L w A B X Z:=by
 intro a ha;refine wpList_plain hg fun K hK=>?_;simp only[Oper.wp,hr a ha,Oper.upon_skip,hd];exact hK _ _ (h _ ha)
theorem Reg.call(hg:o.guard=none)(hd:o.dst=some d)(hN:blt d N=true)(hr:∀a,Knows N ds L a->(execOp a.eval o).run P w=.ok (.enter f args) w)(h:Calls P f args w fun e w'=>∃v,e=.returned v/\Reg P N ops .seq rest ds ((d,v)::L) w' A B X Z):Reg P N ops .seq (o::rest) ds L w A B X Z:=by
 intro a ha;refine wpList_plain hg fun K hK=>?_;simp only[Oper.wp,hr a ha,Oper.upon_enter,hd];refine h.mono ?_;rintro e w' ⟨v,rfl,h⟩;exact hK _ _ (h _ (ha.put hN v))
theorem API(hg:o.guard=none)(hd:o.dst=none)(hr:∀a,Knows N ds L a->(execOp a.eval o).run P w=.ok (.enter f args) w)(h:Calls P f args w fun e w'=>∃v,e=.returned v/\Reg P N ops .seq rest ds L w' A B X Z):Reg P N ops .seq (o::rest) ds L w A B X Z:=by
 intro a ha;refine wpList_plain hg fun K hK=>?_;simp only[Oper.wp,hr a ha,Oper.upon_enter,hd];refine h.mono ?_;rintro e w' ⟨v,rfl,h⟩;exact hK _ _ (h _ ha)
theorem T6(ha:Knows N ds L a)(hj:(ops[j]?).bind (·.dst)=some t)(ht:A6 L t=some (.bool b)):yielded ops a.tmps j=some b:=by
 simp only[yielded,hj,Option.bind_some,ha.val t _ ht]
theorem AB6{w1:World}{S:Nat->Prop}(hk:KnowsP N ds PE a w1 S)(hj:(ops[j]?).bind (·.dst)=some t)(hS:S t)(ht:AAb PE t=some (.c (.bool b))):yielded ops a.tmps j=some b:=by
 obtain⟨u,hu,hh⟩:=hk.val t hS _ ht;have hh:u=.bool b:=hh;subst hh;simp only[yielded,hj,Option.bind_some,hu]
theorem Reg.take{d:Option Tmp}{ty:TypeId}{pos:String}(hj:(ops[j]?).bind (·.dst)=some t)(ht:A6 L t=some (.bool b))(h:Reg P N ops q (⟨d,op,ty,pos,after,none⟩::rest) ds L w A B X Z):Reg P N ops q (⟨d,op,ty,pos,after,some (j,b)⟩::rest) ds L w A B X Z:=by
 cases q with
 |seq=>
  intro a ha
  have:=h a ha
  simp only[wpList,Region.wanted,T6 ha hj ht,BEq.rfl,if_true]at this ⊢
  exact this
 |quiet=>
  intro a ha
  have:=h a ha
  simp only[wpQuiet,Region.wanted,T6 ha hj ht,BEq.rfl,if_true]at this ⊢
  exact this
 |flow PR=>
  intro PE hf
  obtain⟨d',x,h1,h2,h3,h4,h5⟩:=h PE hf
  refine⟨d',x,h1,h2,h3,fun hs a w1 he hk=>?_,h5⟩
  have hy:=AB6 hk hj (by simp[Oper.looksAt,hj]) (hf.c t _ ht)
  have:=h4 hs a w1 he ⟨hk.size,hk.defers,fun t ht x hx=>hk.val t (by simp only[Oper.looksAt,List.append_nil]at ht;exact AaR _ ht) x hx,
   fun t t' x x' hne ht ht'=>hk.sep t t' x x' hne (by simp only[Oper.looksAt,List.append_nil]at ht;exact AaR _ ht) (by simp only[Oper.looksAt,List.append_nil]at ht';exact AaR _ ht')⟩
  simp only[ACk,Region.wanted,hy,BEq.rfl,if_true]at this ⊢
  exact this
 |fix PR PZ=>
  intro PE hf
  obtain⟨d',x,h1,h2,h3,h4,h5⟩:=h PE hf
  refine⟨d',x,h1,h2,h3,fun hs a w1 he hk=>?_,h5⟩
  have hy:=AB6 hk hj (by simp[Oper.looksAt,hj]) (hf.c t _ ht)
  have:=h4 hs a w1 he ⟨hk.size,hk.defers,fun t ht x hx=>hk.val t (by simp only[Oper.looksAt,List.append_nil]at ht;exact AaR _ ht) x hx,
   fun t t' x x' hne ht ht'=>hk.sep t t' x x' hne (by simp only[Oper.looksAt,List.append_nil]at ht;exact AaR _ ht) (by simp only[Oper.looksAt,List.append_nil]at ht';exact AaR _ ht')⟩
  simp only[ACk,Region.wanted,hy,BEq.rfl,if_true]at this ⊢
  exact this
theorem Reg.pass{ty:TypeId}{pos:String}{b b':Bool}(hN:blt d N=true)(hj:(ops[j]?).bind (·.dst)=some t)(ht:A6 L t=some (.bool b'))(hb:(b'==b)=false)(h:Reg P N ops q rest ds ((d,undef)::L) w A B X Z):Reg P N ops q (⟨some d,op,ty,pos,after,some (j,b)⟩::rest) ds L w A B X Z:=by
 have hw:∀a,Knows N ds L a->Region.wanted (⟨some d,op,ty,pos,after,some (j,b)⟩:Oper) (yielded ops a.tmps)=false:=fun a ha=>by
  simp only[Region.wanted,T6 ha hj ht];simpa using hb
 cases q with
 |seq=>
  intro a ha
  simp only[wpList,hw a ha,Bool.false_eq_true,if_false]
  exact h _ (ha.put hN _)
 |quiet=>
  intro a ha
  simp only[wpQuiet,hw a ha,Bool.false_eq_true,if_false]
  exact h _ (ha.put hN _)
 |flow PR=>
  intro PE hf
  have hlt:d<N:=by simpa[Nat.blt_eq] using hN
  refine⟨d,.c undef,rfl,hN,trivial,fun hs a w1 he hk=>?_,h _ (hf.putC hlt _)⟩
  have hy:=AB6 hk hj (by simp[Oper.looksAt,hj]) (hf.c t _ ht)
  have hne:((some b':Option Bool)==some b)=false:=by simpa using hb
  simp only[ACk,Region.wanted,hy,hne,Bool.false_eq_true,if_false]
  rfl
 |fix PR PZ=>
  intro PE hf
  have hlt:d<N:=by simpa[Nat.blt_eq] using hN
  refine⟨d,.c undef,rfl,hN,trivial,fun hs a w1 he hk=>?_,h _ (hf.putC hlt _)⟩
  have hy:=AB6 hk hj (by simp[Oper.looksAt,hj]) (hf.c t _ ht)
  have hne:((some b':Option Bool)==some b)=false:=by simpa using hb
  simp only[ACk,Region.wanted,hy,hne,Bool.false_eq_true,if_false]
  rfl
theorem APJ{ty:TypeId}{pos:String}(hN:blt d N=true)(hj:(ops[j]?).bind (·.dst)=some t)(ht:A6 L t=some undef)(h:Reg P N ops q rest ds ((d,undef)::L) w A B X Z):Reg P N ops q (⟨some d,op,ty,pos,after,some (j,b)⟩::rest) ds L w A B X Z:=by
 have hy:∀a,Knows N ds L a->yielded ops a.tmps j=none:=fun a ha=>by simp only[yielded,hj,Option.bind_some,ha.val t _ ht];rfl
 have hw:∀a,Knows N ds L a->Region.wanted (⟨some d,op,ty,pos,after,some (j,b)⟩:Oper) (yielded ops a.tmps)=false:=fun a ha=>by
  simp only[Region.wanted,hy a ha];rfl
 cases q with
 |seq=>
  intro a ha
  simp only[wpList,hw a ha,Bool.false_eq_true,if_false]
  exact h _ (ha.put hN _)
 |quiet=>
  intro a ha
  simp only[wpQuiet,hw a ha,Bool.false_eq_true,if_false]
  exact h _ (ha.put hN _)
 |flow PR=>
  intro PE hf
  have hlt:d<N:=by simpa[Nat.blt_eq] using hN
  refine⟨d,.c undef,rfl,hN,trivial,fun hs a w1 he hk=>?_,h _ (hf.putC hlt _)⟩
  have hyy:yielded ops a.tmps j=none:=by
   obtain⟨u,hu,hh⟩:=hk.val t (by simp[Oper.looksAt,hj]) _ (hf.c t _ ht);have hh:u=undef:=hh;subst hh;simp only[yielded,hj,Option.bind_some,hu];rfl
  have hne:((none:Option Bool)==some b)=false:=rfl
  simp only[ACk,Region.wanted,hyy,hne,Bool.false_eq_true,if_false]
  rfl
 |fix PR PZ=>
  intro PE hf
  have hlt:d<N:=by simpa[Nat.blt_eq] using hN
  refine⟨d,.c undef,rfl,hN,trivial,fun hs a w1 he hk=>?_,h _ (hf.putC hlt _)⟩
  have hyy:yielded ops a.tmps j=none:=by
   obtain⟨u,hu,hh⟩:=hk.val t (by simp[Oper.looksAt,hj]) _ (hf.c t _ ht);have hh:u=undef:=hh;subst hh;simp only[yielded,hj,Option.bind_some,hu];rfl
  have hne:((none:Option Bool)==some b)=false:=rfl
  simp only[ACk,Region.wanted,hyy,hne,Bool.false_eq_true,if_false]
  rfl
theorem AH4{l:List Oper}{x:Bool}(ht:A6 L t=some (.bool x))(hT:x=true->Reg P N ops q l ds ((t,.bool true)::L) w A B X Z)(hF:x=false->Reg P N ops q l ds ((t,.bool false)::L) w A B X Z):Reg P N ops q l ds L w A B X Z:=by
 have key:∀b,x=b->Sub ((t,.bool b)::L) L:=fun b hb=>Sub.cons (by rw[ht,hb]) (Sub.refl L);have keyF:∀b,x=b->∀u,A6 ((t,.bool b)::L) u=A6 L u:=fun b hb u=>by
  rw[look_cons];split
  . rename_i e;subst e;rw[ht,hb]
  . rfl
 cases x with
 |true=>cases q<;>first|exact fun a ha=>hT rfl a (ha.sub (key true rfl))|exact fun PE hf=>hT rfl PE (hf.same (keyF true rfl))
 |false=>cases q<;>first|exact fun a ha=>hF rfl a (ha.sub (key false rfl))|exact fun PE hf=>hF rfl PE (hf.same (keyF false rfl))
theorem A7{l:List Oper}(h:Reg P N l.toArray .seq l ds L w A B X Z):CW P N (.region id l.toArray false) ds L w A B X Z:=fun a ha=>wp_region_lit (h a ha)
theorem A3(h:CW P N x ds L w (fun ds' L' w'=>CW P N y ds' L' w' A B X Z) B X Z):CW P N (.seq x y) ds L w A B X Z:=fun a ha=>
 wp_seq (wp_mono (h a ha) fun e a' w' hq=>by
  cases e with
  |normal=>obtain⟨ds',L',ha',hk⟩:=hq;exact hk a' ha'
  |_=>exact hq)
theorem E2(h:A ds L w):CW P N .skip ds L w A B X Z:=fun a ha=>wp_skip ⟨ds,L,ha,h⟩
theorem C0(h:B ds L w):CW P N .ret ds L w A B X Z:=fun a ha=>wp_ret ⟨ds,L,ha,h⟩
theorem T3(h:X id ds L w):CW P N (.exit id) ds L w A B X Z:=fun a ha=>wp_exit ⟨ds,L,ha,h⟩
theorem T4{c:Operand}(hc:ev L c=some (.bool b))(ht:b=true->CW P N x ds L w A B X Z)(hf:b=false->CW P N y ds L w A B X Z):CW P N (.cond c x y) ds L w A B X Z:=
 fun a ha=>wp_cond_split (ha.eval hc) (fun h=>ht h a ha) (fun h=>hf h a ha)
theorem ABr{c:Operand}(hc:ev L c=some (.bool true))(h:CW P N x ds L w A B X Z):CW P N (.cond c x y) ds L w A B X Z:=T4 hc (fun _=>h) (fun e=>by cases e)
theorem ABG{c:Operand}(hc:ev L c=some (.bool false))(h:CW P N y ds L w A B X Z):CW P N (.cond c x y) ds L w A B X Z:=T4 hc (fun e=>by cases e) (fun _=>h)
def exB(id:Nat)(A:A5)(X:Nat->A5)(i:Nat):A5:=bif beq i id then A else X i
theorem J7(h:A ds L w):exB id A X id ds L w:=by simpa[exB] using h
theorem APK{id i:Nat}(hi:beq i id=false)(h:X i ds L w):exB id A X i ds L w:=by simpa[exB,hi] using h
theorem C4(h:CW P N c ds L w A B (exB id A X) Z):CW P N (.block id c) ds L w A B X Z:=fun a ha=>
 wp_block (wp_mono (h a ha) fun e a' w' hq=>by
  cases e with
  |exit i=>
   obtain⟨ds',L',ha',hx⟩:=hq
   simp only[Exit.inBlock]
   by_cases hi:i=id
   . subst hi
     rw[Aac rfl]
     exact⟨ds',L',ha',by simpa[exB] using hx⟩
   . rw[if_neg hi]
     refine⟨ds',L',ha',?_⟩
     have hb:beq i id=false:=by
      cases hb:beq i id with
      |false=>rfl
      |true=>exact absurd (AaU hb) hi
     simpa[exB,hb] using hx
  |_=>exact hq)
theorem AAc(E:ι->A8)(I:ι->World->Prop)(μ:ι->Nat)(i0:ι)(h0:I i0 w)(hs:Sub (E i0) L)(round:∀i w,I i w->CW P N c ds (E i) w (fun ds' L' w'=>ds'=ds/\∃i',I i' w'/\Sub (E i') L'/\μ i'<μ i) B X Z):CW P N (.loop c) ds L w A B X Z:=by
 intro a ha b k cs;have key:∀n a w i,μ i=n->I i w->Knows N ds (E i) a ->
   ∃e a' w',(S7 N A B X Z) e a' w'/\Arrives P (lone (b.at a (.code c::.inLoop c::k)) cs w) b k cs e a' w':=by
  intro n
  induction n using Nat.strongRecOn with
  |_ n ih=>
   intro a w i hn hI hk
   obtain⟨e,a₁,w₁,hq,harr⟩:=round i w hI a hk b (.inLoop c::k) cs
   cases e with
   |normal=>
    obtain⟨ds₁,L₁,hk₁,rfl,i',hI',hs',hlt⟩:=hq
    obtain⟨e₂,a₂,w₂,hq₂,harr₂⟩:=ih (μ i') (hn▸hlt) a₁ w₁ i' rfl hI' (hk₁.sub hs')
    exact⟨e₂,a₂,w₂,hq₂,.of_steps (Steps.trans harr (.one step_inLoop)) harr₂⟩
   |exit id=>exact⟨.exit id,a₁,w₁,hq,.pass (x:=.inLoop c) rfl (fun _ _=>.inl (by simp)) harr⟩
   |goto l=>exact hq.elim
   |ret=>exact⟨.ret,a₁,w₁,hq,.pass (x:=.inLoop c) rfl (fun _ _=>.inl (by simp)) harr⟩
   |panic ch=>exact⟨.panic ch,a₁,w₁,hq,.pass (x:=.inLoop c) rfl (fun _ _=>.inl (by simp)) harr⟩
   |outgrown=>exact hq.elim
 obtain⟨e,a',w',hq,harr⟩:=key _ a w i0 rfl h0 (ha.sub hs);exact⟨e,a',w',hq,.of_steps (.one step_loop) harr⟩
theorem AKk(m:Nat)(E:ι->A8)(I:ι->World->Prop)(μ:ι->Nat)(i0:ι)(h0:I i0 w)(hs:Sub (E i0++L.drop m) L)(round:∀i w,I i w->CW P N c ds (E i++L.drop m) w (fun ds' L' w'=>ds'=ds/\∃i',I i' w'/\Sub (E i'++L.drop m) L'/\μ i'<μ i) B X Z):CW P N (.loop c) ds L w A B X Z:=
 AAc (fun i=>E i++L.drop m) I μ i0 h0 hs round
theorem AC7(hs:Sub L L')(h:CW P N c ds L w A B X Z):CW P N c ds L' w A B X Z:=fun a ha=>h a (ha.sub hs)
theorem AEQ{A' B':A5}{X':Nat->A5}{Z':List PanicEntry->A5}(h:CW P N c ds L w A' B' X' Z')(hq:∀e a w,S7 N A' B' X' Z' e a w->S7 N A B X Z e a w):CW P N c ds L w A B X Z:=fun a ha=>wp_mono (h a ha) hq
end
end
def ABs(P:Program)(fn:Func)(R:Ending->World->Prop)(ds:List Deferred)(L:A8)(w:World):Prop:=
 ds=[]/\∃v,(∀a,Knows fn.ntmps ds L a->(results fn a.tmps).run P w=.ok v w)/\R (.returned v) w
def AYe(R:Ending->World->Prop)(c:List PanicEntry)(ds:List Deferred)(_:A8)(w:World):Prop:=ds=[]/\R (.panicked c) w
def NoX(_:Nat)(_:List Deferred)(_:A8)(_:World):Prop:=False
def T7:Nat->List Value->A8
 |_,[]=>[]
 |i,v::r=>(i,v)::T7 (i+1) r
theorem AEA:∀(l:List Value) (i t:Nat) (v:Value),A6 (T7 i l) t=some v->∃j,t=i+j/\l[j]?=some v
 |[],i,t,v,h=>by simp[T7,A6]at h
 |u::r,i,t,v,h=>by
  simp only[T7,A6]at h;cases hb:beq i t with
  |true=>
   have:=AaU hb
   subst this
   simp only[hb,cond_true,Option.some.injEq]at h
   exact⟨0,rfl,by simpa using h⟩
  |false=>
   simp only[hb,cond_false]at h
   obtain⟨j,rfl,hj⟩:=AEA r (i+1) t v h
   exact⟨j+1,by omega,by simpa using hj⟩
theorem B9{P:Program}{f:FuncId}{fn:Func}{c:Code}{l:List Value}{w:World}{R:Ending->World->Prop}{N:Nat}(hf:P.funcs[f]?=some fn)(hb:fn.body=some c)(hN:fn.ntmps=N)(hl:Nat.ble l.length N=true)(h:CW P N c [] (T7 0 l) w (ABs P fn R) (ABs P fn R) NoX (AYe R)):Calls P f l.toArray w R:=by
 subst hN;refine calls_of_wp hf hb (wp_mono (h _ ⟨?_,rfl,?_⟩) ?_)
 . have:l.length<=fn.ntmps:=Aat hl;simp;omega
 . intro t v ht;obtain⟨j,rfl,hj⟩:=AEA l 0 t v ht;have hlt:j<l.length:=by
    rcases Aag j l.length with h|h
    . exact h
    . simp[List.getElem?_eq_none h]at hj
   simp only[Nat.zero_add];rw[Array.getElem?_append_left (by simpa using hlt)];simpa using hj
 . intro e a w' hq;cases e with
   |normal=>obtain⟨ds,L,ha,rfl,v,hv,hR⟩:=hq;exact⟨ha.defers,v,hv a ha,hR⟩
   |ret=>obtain⟨ds,L,ha,rfl,v,hv,hR⟩:=hq;exact⟨ha.defers,v,hv a ha,hR⟩
   |panic ch=>obtain⟨ds,L,ha,rfl,hR⟩:=hq;exact⟨ha.defers,hR⟩
   |exit i=>obtain⟨ds,L,ha,hx⟩:=hq;exact hx.elim
   |goto l=>exact hq.elim
   |outgrown=>exact hq.elim
section
variable{P:Program}{fn:Func}{R:Ending->World->Prop}{L:A8}{w:World}
theorem Knows.getD{N:Nat}{ds:List Deferred}{L:A8}{a:Act}(h:Knows N ds L a){t:Nat}{v:Value}(ht:A6 L t=some v):a.tmps.getD t undef=v:=by
 simp only[Array.getD_eq_getD_getElem?,h.val t v ht,Option.getD_some]
theorem AUH(hr:fn.results=#[])(h:R (.returned (.tuple #[])) w):ABs P fn R [] L w:=⟨rfl,_,fun a _=>results_none hr _ _ _,h⟩
theorem fin1{t:Nat}{v:Value}(hr:fn.results=#[.tmp t])(hv:A6 L t=some v)(h:R (.returned v) w):ABs P fn R [] L w:=
 ⟨rfl,v,fun a ha=>by rw[results_tmp hr,ha.getD hv],h⟩
theorem AYf{t u:Nat}{v x:Value}(hr:fn.results=#[.tmp t,.tmp u])(hv:A6 L t=some v)(hx:A6 L u=some x)(h:R (.returned (.tuple #[v,x])) w):ABs P fn R [] L w:=
 ⟨rfl,_,fun a ha=>by rw[results_tmp2 hr,ha.getD hv,ha.getD hx],h⟩
end
def NoZ(_:List PanicEntry)(_:List Deferred)(_:A8)(_:World):Prop:=False
section
variable{P:Program}{N:Nat}{ops:Array Oper}{md:Region.Mode}{ds:List Deferred}{w0:World}
theorem AER{listed:Array Bool}{i:Nat}(hi:i<listed.size)(x y:Bool):listed.getD i x=listed.getD i y:=by simp[hi]
end
section
variable{P:Program}{N:Nat}{ops:Array Oper}{q:Md}{rest:List Oper}{ds:List Deferred}{L:A8}{w:World}{A B:A5}{X:Nat->A5}{Z:List PanicEntry->A5}
variable{d:Nat}{ty:TypeId}{pos:String}{af:Array Edge}
section
variable{x:Operand}{v:Value}{c:Operand}{y:Operand}
theorem E5(hx:ev L x=some v)(hN:blt d N=true)(h:Reg P N ops q rest ds ((d,v)::L) w A B X Z):Reg P N ops q (⟨some d,.move x,ty,pos,af,none⟩::rest) ds L w A B X Z:=
 Reg.val v rfl rfl hN (fun a ha w' _=>by simp[execOp,ha.eval hx]) h
theorem C6(hx:ev L x=some v)(hN:blt d N=true)(h:Reg P N ops q rest ds ((d,v)::L) w A B X Z):Reg P N ops q (⟨some d,.assign x,ty,pos,af,none⟩::rest) ds L w A B X Z:=
 Reg.val v rfl rfl hN (fun a ha w' _=>by simp[execOp,ha.eval hx]) h
theorem ANv(hc:ev L c=some (.bool true))(hx:ev L x=some v)(hN:blt d N=true)(h:Reg P N ops q rest ds ((d,v)::L) w A B X Z):
  Reg P N ops q (⟨some d,.pick c x y,ty,pos,af,none⟩::rest) ds L w A B X Z:=
 Reg.val v rfl rfl hN (fun a ha w' _=>by simp[execOp,ha.eval hx,ha.eval hc,asBool]) h
theorem ANw(hc:ev L c=some (.bool false))(hy:ev L y=some v)(hN:blt d N=true)(h:Reg P N ops q rest ds ((d,v)::L) w A B X Z):
  Reg P N ops q (⟨some d,.pick c x y,ty,pos,af,none⟩::rest) ds L w A B X Z:=
 Reg.val v rfl rfl hN (fun a ha w' _=>by simp[execOp,ha.eval hy,ha.eval hc,asBool]) h
end
section cmp
variable{t t':TypeId}{x y:Operand}{k k':IntKind}{i j:Int}(hx:ev L x=some (.int k i))(hy:ev L y=some (.int k j))(hN:blt d N=true)
include hx hy hN
theorem AEw(h:Reg P N ops q rest ds ((d,.bool (decide (i<j)))::L) w A B X Z):Reg P N ops q (⟨some d,.binOp .lss t x y t',ty,pos,af,none⟩::rest) ds L w A B X Z:=
 Reg.val _ rfl rfl hN (fun a ha w' _=>by simp[execOp,ha.eval hx,ha.eval hy,eqGuard_lss,binOp_lss]) h
theorem ANx(h:Reg P N ops q rest ds ((d,.bool (decide (i<=j)))::L) w A B X Z):Reg P N ops q (⟨some d,.binOp .leq t x y t',ty,pos,af,none⟩::rest) ds L w A B X Z:=
 Reg.val _ rfl rfl hN (fun a ha w' _=>by simp[execOp,ha.eval hx,ha.eval hy,eqGuard_leq,binOp_leq]) h
theorem AR9(h:Reg P N ops q rest ds ((d,.bool (decide (j<i)))::L) w A B X Z):Reg P N ops q (⟨some d,.binOp .gtr t x y t',ty,pos,af,none⟩::rest) ds L w A B X Z:=
 Reg.val _ rfl rfl hN (fun a ha w' _=>by simp[execOp,ha.eval hx,ha.eval hy,eqGuard_gtr,binOp_gtr]) h
theorem ANy(h:Reg P N ops q rest ds ((d,.bool (decide (j<=i)))::L) w A B X Z):Reg P N ops q (⟨some d,.binOp .geq t x y t',ty,pos,af,none⟩::rest) ds L w A B X Z:=
 Reg.val _ rfl rfl hN (fun a ha w' _=>by simp[execOp,ha.eval hx,ha.eval hy,eqGuard_geq,binOp_geq]) h
theorem ANz(h:Reg P N ops q rest ds ((d,.bool (decide (i=j)))::L) w A B X Z):Reg P N ops q (⟨some d,.binOp .eql t x y t',ty,pos,af,none⟩::rest) ds L w A B X Z:=
 Reg.val _ rfl rfl hN (fun a ha w' _=>by simp[execOp,ha.eval hx,ha.eval hy,eqGuard_at_int,binOp_eql];rfl) h
theorem AN0(h:Reg P N ops q rest ds ((d,.bool (!decide (i=j)))::L) w A B X Z):Reg P N ops q (⟨some d,.binOp .neq t x y t',ty,pos,af,none⟩::rest) ds L w A B X Z:=
 Reg.val _ rfl rfl hN (fun a ha w' _=>by simp[execOp,ha.eval hx,ha.eval hy,eqGuard_at_int,binOp_neq];rfl) h
end cmp
theorem AC0{k:IntKind}{x:Int}(h:InK k x):k.wrap x=x:=by
 cases k<;>simp[InK,IntKind.min,IntKind.max,IntKind.signed,IntKind.bits,IntKind.wrap]at h ⊢ <;> (try split)<;>omega
section arith
variable{t t':TypeId}{x y:Operand}{k:IntKind}{i j:Int}(hx:ev L x=some (.int k i))(hy:ev L y=some (.int k j))(hN:blt d N=true)
include hx hy hN
theorem AH5(hr:InK k (i+j))(h:Reg P N ops q rest ds ((d,.int k (i+j))::L) w A B X Z):Reg P N ops q (⟨some d,.binOp .add t x y t',ty,pos,af,none⟩::rest) ds L w A B X Z:=
 Reg.val _ rfl rfl hN (fun a ha w' _=>by simp[execOp,ha.eval hx,ha.eval hy,eqGuard_add,binOp_add,Op.intArith,AC0 hr]) h
theorem AN1(hr:InK k (i-j))(h:Reg P N ops q rest ds ((d,.int k (i-j))::L) w A B X Z):Reg P N ops q (⟨some d,.binOp .sub t x y t',ty,pos,af,none⟩::rest) ds L w A B X Z:=
 Reg.val _ rfl rfl hN (fun a ha w' _=>by simp[execOp,ha.eval hx,ha.eval hy,eqGuard_sub,binOp_sub,Op.intArith,AC0 hr]) h
theorem AWL(hr:InK k (i*j))(h:Reg P N ops q rest ds ((d,.int k (i*j))::L) w A B X Z):Reg P N ops q (⟨some d,.binOp .mul t x y t',ty,pos,af,none⟩::rest) ds L w A B X Z:=
 Reg.val _ rfl rfl hN (fun a ha w' _=>by simp[execOp,ha.eval hx,ha.eval hy,eqGuard_mul,binOp_mul,Op.intArith,AC0 hr]) h
theorem AWM(h0:0<=i)(h1:0<j)(hr:InK k i)(h:Reg P N ops q rest ds ((d,.int k (i / j))::L) w A B X Z):Reg P N ops q (⟨some d,.binOp .quo t x y t',ty,pos,af,none⟩::rest) ds L w A B X Z:=
 Reg.val _ rfl rfl hN (fun a ha w' _=>by
  have hj:j≠0:=by omega
  have hd:i.tdiv j=i / j:=Int.tdiv_eq_ediv_of_nonneg h0;have hle:i / j<=i:=Int.ediv_le_self _ h0;have hge:0<=i / j:=Int.ediv_nonneg h0 (by omega);have hk:k.min<=0:=by cases k<;>simp[IntKind.min,IntKind.signed,IntKind.bits]
  have hw:InK k (i / j):=⟨by omega,by have:=hr.2;omega⟩;simp[execOp,ha.eval hx,ha.eval hy,eqGuard_quo,binOp_quo,Op.intDiv,hj,hd,AC0 hw]) h
theorem AWN(h0:0<=i)(h1:0<j)(h:Reg P N ops q rest ds ((d,.int k (i % j))::L) w A B X Z):Reg P N ops q (⟨some d,.binOp .rem t x y t',ty,pos,af,none⟩::rest) ds L w A B X Z:=
 Reg.val _ rfl rfl hN (fun a ha w' _=>by
  have hj:j≠0:=by omega
  have hd:i.tmod j=i % j:=Int.tmod_eq_emod_of_nonneg h0;simp[execOp,ha.eval hx,ha.eval hy,eqGuard_rem,binOp_rem,Op.intDiv,hj,hd]) h
end arith
section
variable{t:TypeId}{x:Operand}{k:IntKind}{i:Int}{s:TypeId}{α:Type}{E:Enc α}{M:List Nat}{e:TypeId}{v:Value}{xs:List α}{n:Nat}{b:Nat}{o:Nat}{cs:List Value}{f:Nat}{fields:Array Field}{fl:Field}{vs:List Value}{a:Act}{ts:Array TypeId}
theorem ASA{b:Bool}(hx:ev L x=some (.bool b))(hN:blt d N=true)(h:Reg P N ops q rest ds ((d,.bool (!b))::L) w A B X Z):
  Reg P N ops q (⟨some d,.unOp .not t x,ty,pos,af,none⟩::rest) ds L w A B X Z:=
 Reg.val _ rfl rfl hN (fun a ha w' _=>by simp[execOp,ha.eval hx,Op.unary]) h
theorem AWO(hx:ev L x=some (.int k i))(hN:blt d N=true)(hr:InK k (-i))(h:Reg P N ops q rest ds ((d,.int k (-i))::L) w A B X Z):
  Reg P N ops q (⟨some d,.unOp .neg t x,ty,pos,af,none⟩::rest) ds L w A B X Z:=
 Reg.val _ rfl rfl hN (fun a ha w' _=>by simp[execOp,ha.eval hx,Op.unary,Op.intArith,AC0 hr]) h
theorem AWP{k k':IntKind}{du:TypeDesc}(hx:ev L x=some (.int k i))(hs:P.underlying s=some du)(ht:P.underlying t=some (.int k'))(hN:blt d N=true)(hr:InK k' i)(h:Reg P N ops q rest ds ((d,.int k' i)::L) w A B X Z):Reg P N ops q (⟨some d,.convert s t x,ty,pos,af,none⟩::rest) ds L w A B X Z:=
 Reg.val _ rfl rfl hN (fun a ha w' _=>by simp[execOp,ha.eval hx,convert,run_underlying hs,run_underlying ht,Conv.intToInt,AC0 hr]) h
theorem AN2{w0:World}(hx:ev L x=some v)(hv:RdS E M w0 v xs)(ht:P.underlying t=some (.slice e))(hN:blt d N=true)(h:Reg P N ops q rest ds ((d,.int .i64 xs.length)::L) w A B X Z):Reg P N ops q (⟨some d,.call ⟨.builtin .len,#[x],#[t]⟩,ty,pos,af,none⟩::rest) ds L w A B X Z:=by
 obtain⟨a,c,rfl,_⟩:=hv;exact Reg.val _ rfl rfl hN (fun a ha w' _=>by simp[execOp,resolve,invoke,builtin,ha.eval hx,Builtin.len_,run_underlying ht,goInt]) h
theorem AFk{a:Option Addr}{n c:Nat}(hx:ev L x=some (.slice a n c))(ht:P.underlying t=some (.slice e))(hN:blt d N=true)(h:Reg P N ops q rest ds ((d,.int .i64 n)::L) w A B X Z):Reg P N ops q (⟨some d,.call ⟨.builtin .len,#[x],#[t]⟩,ty,pos,af,none⟩::rest) ds L w A B X Z:=
 Reg.val _ rfl rfl hN (fun a ha w' _=>by simp[execOp,resolve,invoke,builtin,ha.eval hx,Builtin.len_,run_underlying ht,goInt]) h
theorem Cells.at{w:World}(h:Cells w b o cs)(j:Nat)(hj:cs[j]?=some v):w.cell? ⟨b,o+j,none⟩=some v:=h j v hj
theorem add_none(b o n:Nat):Addr.add ⟨b,o,none⟩ n=⟨b,o+n,none⟩:=Addr.add_lit b o n
theorem AYg{x y:Operand}(hx:ev L x=some v)(hy:ev L y=some (.int k i))(hv:RdS E M w v xs)(hi:0<=i/\i<xs.length)(ht:P.underlying t=some (.slice e))(hs:∀w,(sizeOf e).run P w=.ok E.n w)(hN:blt d N=true)(h:∀b o cs y,xs[i.toNat]?=some y->E.R M w cs y->RdC M w b o cs->Reg P N ops q rest ds ((d,.pointer (some ⟨b,o,none⟩))::L) w A B X Z):
  Reg P N ops q (⟨some d,.indexAddr t x y,ty,pos,af,none⟩::rest) ds L w A B X Z:=by
 have hin:i.toNat<xs.length:=by omega
 obtain⟨b,o,c,cs,rfl,hb,hlt,hR,hC⟩:=hv.at i.toNat hin
 refine Reg.val (.pointer (some ⟨b,o+i.toNat*E.n,none⟩)) rfl rfl hN (fun a ha w' _=>?_) (h b _ cs _ (AaV hin) hR ⟨hb,hlt,hC⟩)
 simp[execOp,ha.eval hx,ha.eval hy,Instr.indexAt,asIntOf,run_underlying ht,hi.1,hi.2,hs,add_none]
theorem AWQ(hx:ev L x=some v)(hc:v.cells=cs.toArray)(hN:blt d N=true)(h:∀b w',b=w.heap.size->Ext w w'->b<w'.heap.size->w'.heap[b]?=some (.cells cs.toArray e (0,0))->Reg P N ops .seq rest ds ((d,.pointer (some ⟨b,0,none⟩))::L) w' A B X Z):
  Reg P N ops .seq (⟨some d,.box e x,ty,pos,af,none⟩::rest) ds L w A B X Z:=by
 refine N0 (.pointer (some ⟨w.heap.size,0,none⟩)) (w.alloc (.cells cs.toArray e)) rfl rfl hN (fun a ha=>?_) (h _ _ rfl (Kp.alloc _ _ _) (by simp) (heap_alloc_new w _))
 simp[execOp,ha.eval hx,Instr.box,newVar,newRow,hc]
theorem G5{w:World}{fz:Nat×Nat}(hb:b∉M)(h:w.heap[b]?=some (.cells cs.toArray e fz)):RdC M w b 0 cs:=by
 refine⟨hb,?_,fun j u hj=>?_⟩
 . rcases Aag b w.heap.size with h1|h1
   . exact h1
   . simp[Array.getElem?_eq_none h1]at h
 . show(match w.heap[b]? with|some (.cells c _ _)=>if Option.isSome (none:Option Nat) then none else c[0+j]?|_=>none)=some u
   rw[h];simpa using hj
theorem RdS.cells1{w:World}(hr:RdS E M w v xs):v.cells=[v].toArray:=by
 obtain⟨a,c,rfl,_⟩:=hr;rfl
def Row(e:TypeId)(w:World)(b:Nat)(cs:List Value):Prop:=w.heap[b]?=some (.cells cs.toArray e (0,0))
theorem Row.rd{w:World}(h:Row e w b cs):RdC [] w b 0 cs:=G5 (by simp) h
def B6:List Value->Nat->List Value->List Value
 |cs,_,[]=>cs
 |[],_,_=>[]
 |_::r,0,v::vs=>v::B6 r 0 vs
 |c::r,n+1,vs=>c::B6 r n vs
theorem M3{b o f m:Nat}(hx:ev L x=some (.pointer (some ⟨b,o,none⟩)))(hs:P.underlying s=some (.struct fields))(hf:fields[f]?=some fl)(hz:∀w,(sizeOf fl.type).run P w=.ok (m+1) w)(hN:blt d N=true)(h:Reg P N ops q rest ds ((d,.pointer (some ⟨b,o+fl.offset,none⟩))::L) w A B X Z):
  Reg P N ops q (⟨some d,.fieldAddr s x f,ty,pos,af,none⟩::rest) ds L w A B X Z:=
 Reg.val _ rfl rfl hN (fun a ha w' _=>by simp[execOp,ha.eval hx,Instr.fieldAt,run_underlying hs,hf,Instr.sureAddr,fieldPlace,hz,add_none]) h
theorem J8{p:Addr}(hx:ev L x=some (.pointer (some p)))(hc:w.cell? p=some v)(he:∀w,(isAgg e).run P w=.ok false w)(hN:blt d N=true)(h:Reg P N ops q rest ds ((d,v)::L) w A B X Z):Reg P N ops q (⟨some d,.load e x,ty,pos,af,none⟩::rest) ds L w A B X Z:=
 Reg.val v rfl rfl hN (fun a ha w' hw'=>by
  have hc':=hw'.ext.cell (by simp) hc;simp[execOp,ha.eval hx,Instr.loadAt,Instr.sureAddr,loadVar,he,hc']) h
theorem Y0(hx:ev L x=some (.pointer (some ⟨b,o,none⟩)))(hc:Cells w b o cs)(he:∀w,(isAgg e).run P w=.ok true w)(hn:cs.length=n)(hz:∀w,(sizeOf e).run P w=.ok n w)(hN:blt d N=true)(h:Reg P N ops q rest ds ((d,.agg cs.toArray)::L) w A B X Z):Reg P N ops q (⟨some d,.load e x,ty,pos,af,none⟩::rest) ds L w A B X Z:=by
 subst hn;refine Reg.val _ rfl rfl hN (fun a ha w' hw'=>?_) h;have:=run_loadCells_list (P:=P) w' ⟨b,o,none⟩ cs (fun j v hj=>by rw[add_none];exact hw'.ext.cell (by simp) (hc j v hj));simp[execOp,ha.eval hx,Instr.loadAt,Instr.sureAddr,loadVar,he,hz,this]
theorem AQg(hx:ev L x=some (.agg cs.toArray))(hs:P.underlying s=some (.struct fields))(hf:fields[f]?=some fl)(he:∀w,(isAgg fl.type).run P w=.ok false w)(hv:cs[fl.offset]?=some v)(hN:blt d N=true)(h:Reg P N ops q rest ds ((d,v)::L) w A B X Z):Reg P N ops q (⟨some d,.field s x f,ty,pos,af,none⟩::rest) ds L w A B X Z:=
 Reg.val v rfl rfl hN (fun a ha w' _=>by simp[execOp,ha.eval hx,Instr.field,run_underlying hs,hf,asAgg,part,he,hv]) h
theorem AEx{i:Nat}(hx:ev L x=some (.tuple vs.toArray))(hv:vs[i]?=some v)(hN:blt d N=true)(h:Reg P N ops q rest ds ((d,v)::L) w A B X Z):Reg P N ops q (⟨some d,.extract x i,ty,pos,af,none⟩::rest) ds L w A B X Z:=
 Reg.val v rfl rfl hN (fun a ha w' _=>by simp[execOp,ha.eval hx,Instr.extract,hv]) h
def evs(L:A8):List Operand->Option (List Value)
 |[]=>some []
 |x::r=>match ev L x with
  |some v=>match evs L r with
   |some vs=>some (v::vs)
   |none=>none
  |none=>none
theorem ABN{a:Act}(ha:Knows N ds L a):∀(xs:List Operand) (vs:List Value),evs L xs=some vs->xs.map a.eval=vs
 |[],vs,h=>by simp[evs]at h;subst h;rfl
 |x::r,vs,h=>by
  simp only[evs]at h;split at h
  . rename_i v hv;split at h
    . rename_i us hu;cases h
      simp[ha.eval hv,ABN ha r us hu]
    . cases h
  . cases h
theorem AQh{w':World}{xs:List Operand}(ha:Knows N ds L a)(hvs:evs L xs=some vs)(hf:∀args w,(callFunc f args).run P w=.ok (.enter f args) w){g:Option (Nat×Bool)}{dd:Option Tmp}:
  (execOp a.eval ⟨dd,.call ⟨.value (.func f),xs.toArray,ts⟩,ty,pos,af,g⟩).run P w'=.ok (.enter f vs.toArray) w':=by
 have:=ABN ha xs vs hvs
 simp[execOp,resolve,Act.eval,Deferred.ofValue,invoke,hf,this]
theorem G6{xs:List Operand}(hvs:evs L xs=some vs)(hf:∀args w,(callFunc f args).run P w=.ok (.enter f args) w)(hN:blt d N=true)(h:Calls P f vs.toArray w fun e w'=>∃v,e=.returned v/\Reg P N ops .seq rest ds ((d,v)::L) w' A B X Z):
  Reg P N ops .seq (⟨some d,.call ⟨.value (.func f),xs.toArray,ts⟩,ty,pos,af,none⟩::rest) ds L w A B X Z:=
 Reg.call rfl rfl hN (fun a ha=>AQh ha hvs hf) h
end
end
def ob:Value->List Nat
 |.slice (some a) _ (_+1)=>[a.block]
 |_=>[]
def Chunks{α:Type}(E:Enc α)(M:List Nat)(w:World):List Value->List α->Prop
 |cs,[]=>cs=[]
 |cs,x::r=>∃c rest,cs=c++rest/\E.R M w c x/\Chunks E M w rest r
section
variable{α:Type}{E:Enc α}{M:List Nat}{w:World}{g:Nat}{e:TypeId}{Bb:Nat}{v:Value}{xs:List α}
theorem Chunks.len:∀{cs:List Value} {xs:List α},Chunks E M w cs xs->cs.length=xs.length*E.n
 |cs,[],h=>by have h:cs=[]:=h;simp[h]
 |cs,x::r,⟨c,rest,h,hR,hr⟩=>by
  have:=E.len hR;have:=Chunks.len hr;simp[*,Nat.add_mul];omega
theorem Chunks.one:∀{cs:List Value} {xs:List α},Chunks E M w cs xs->∀u∈cs,u.oneCell'=true
 |cs,[],h,u,hu=>by have h:cs=[]:=h;subst h;cases hu
 |cs,x::r,⟨c,rest,h,hR,hr⟩,u,hu=>by
  subst h;rcases mem_append.1 hu with hu|hu
  . exact E.one hR u hu
  . exact Chunks.one hr u hu
theorem Chunks.adv{M M':List Nat}{w w':World}(ha:Adv M M' w w'):∀{cs:List Value} {xs:List α},Chunks E M w cs xs->Chunks E M' w' cs xs
 |_,[],h=>h
 |_,_::_,⟨c,rest,h,hR,hr⟩=>⟨c,rest,h,E.adv hR ha,Chunks.adv ha hr⟩
theorem Chunks.append{ds:List Value}{ys:List α}(hd:Chunks E M w ds ys):∀{cs:List Value} {xs:List α},Chunks E M w cs xs->Chunks E M w (cs++ds) (xs++ys)
 |cs,[],h=>by have h:cs=[]:=h;subst h;exact hd
 |cs,x::r,⟨c,rest,h,hR,hr⟩=>⟨c,rest++ds,by rw[h,Aax],hR,Chunks.append hd hr⟩
theorem Chunks.get:∀{cs:List Value} {xs:List α},Chunks E M w cs xs->∀i (h:i<xs.length),E.R M w ((cs.drop (i*E.n)).take E.n) xs[i]
 |cs,[],_,i,hi=>by simp at hi
 |cs,x::r,⟨c,rest,h,hR,hr⟩,0,_=>by
  have hl:=E.len hR;subst h;simpa[<-hl] using hR
 |cs,x::r,⟨c,rest,h,hR,hr⟩,i+1,hi=>by
  have hl:=E.len hR;have:=Chunks.get hr i (by simpa using hi);subst h;have hd:(c++rest).drop ((i+1)*E.n)=rest.drop (i*E.n):=by
   rw[AbB,Ab3,Nat.add_comm,<-hl];simp[List.drop_append,List.drop_eq_nil_of_le]
  rw[hd];simpa using this
theorem AFZ{α:Type}{E:Enc α}{M:List Nat}{w:World}:∀(xs:List α) (f:Nat->List Value),(∀i (h:i<xs.length),E.R M w (f i) xs[i])->Chunks E M w ((List.range xs.length).map f).flatten xs
 |[],f,_=>rfl
 |x::r,f,h=>by
  refine⟨f 0,((List.range r.length).map fun i=>f (i+1)).flatten,?_,h 0 (by simp),AFZ r (fun i=>f (i+1)) fun i hi=>?_⟩
  . simp[List.range_succ_eq_map,List.map_map,Function.comp_def]
  . exact h (i+1) (by simpa using hi)
def Own{α:Type}(E:Enc α)(e:TypeId)(Bb:Nat)(M:List Nat)(w:World)(v:Value)(xs:List α):Prop:=
 (∃a,v=.slice a 0 0/\xs=[]) \/
 ∃g cap cur,v=.slice (some ⟨g,0,none⟩) xs.length (cap+1)/\Bb<=g/\w.heap[g]?=some (.cells cur e (0,0))/\xs.length<=cap+1/\cap+1<=maxLen/\cur.size=(cap+1)*E.n/\Chunks E (g::M) w (cur.toList.take (xs.length*E.n)) xs
theorem AQi(E:Enc α)(e:TypeId)(Bb:Nat)(M:List Nat)(w:World)(a:Option Addr):Own E e Bb M w (.slice a 0 0) []:=.inl ⟨a,rfl,rfl⟩
theorem Own.nil(E:Enc α)(e:TypeId)(Bb:Nat)(M:List Nat)(w:World):Own E e Bb M w (.slice none 0 0) []:=.inl ⟨_,rfl,rfl⟩
theorem G0{o:Obj}(h:w.heap[g]?=some o):g<w.heap.size:=by
 rcases Aag g w.heap.size with h1|h1
 . exact h1
 . rw[AbP h1]at h;cases h
theorem AI0{a:Option Addr}{n:Nat}:ob (.slice a n 0)=[]:=by cases a<;>rfl
theorem Own.ge(h:Own E e Bb M w v xs):∀b∈ob v,Bb<=b/\b<w.heap.size:=by
 rcases h with⟨a,rfl,rfl⟩|⟨g,cap,cur,rfl,h1,h2,_⟩
 . intro b hb;rw[AI0]at hb;cases hb
 . intro b hb;have:b=g:=by simpa[ob] using hb
   subst this;exact⟨h1,G0 h2⟩
theorem Own.shape(h:Own E e Bb M w v xs):∃a c,v=.slice a xs.length c/\xs.length<=c/\c<=9223372036854775807:=by
 rcases h with⟨a,rfl,rfl⟩|⟨g,cap,cur,rfl,h1,h2,h3,h4,_⟩
 . exact⟨a,0,rfl,by simp,by omega⟩
 . exact⟨_,_,rfl,h3,by simp only[maxLen]at h4;omega⟩
theorem Own.len(h:Own E e Bb M w v xs):xs.length<=9223372036854775807:=by
 obtain⟨a,c,_,h1,h2⟩:=h.shape;omega
theorem AC9{cur:Array Value}{z:Nat×Nat}(h:w.heap[g]?=some (.cells cur e z)){j:Nat}{u:Value}(hj:cur[j]?=some u):w.cell? ⟨g,j,none⟩=some u:=by
 show(match w.heap[g]? with|some (.cells c _ _)=>if Option.isSome (none:Option Nat) then none else c[j]?|_=>none)=some u
 rw[h];simpa using hj
theorem Own.rd(h:Own E e Bb M w v xs)(hb:∀b∈ob v,b∉M):RdS E M w v xs:=by
 rcases h with⟨a,rfl,rfl⟩|⟨g,cap,cur,rfl,h1,h2,h3,h4,h5,h6⟩
 . exact⟨a,0,rfl,by simp,by omega,.inl rfl⟩
 . refine⟨_,cap+1,rfl,h3,h4,.inr ⟨g,0,rfl,hb g (by simp[ob]),G0 h2,fun i hi=>?_⟩⟩;refine⟨_,E.mon (fun b hb=>.inl (AaQ _ hb)) (h6.get i hi),fun j u hj=>?_⟩;rw[Aa6]at hj;split at hj
   . rw[AbK,Aa6]at hj;split at hj
     . have:=AC9 h2 (j:=i*E.n+j) (u:=u) (by simpa using hj);simpa[Nat.add_assoc] using this
     . cases hj
   . cases hj
end
structure SlT(P:Program)(t e:TypeId)(n bytes:Nat):Prop where
 und:P.underlying t=some (.slice e)
 info:∃i z,P.info? e=some i/\i.zero=some z/\i.size=n/\i.bytes=bytes/\z.cells.size=n
section
variable{α:Type}{E:Enc α}{M:List Nat}{w:World}{v:Value}{xs:List α}
theorem RdS.cells(h:RdS E M w v xs):∃a c news,v=.slice a xs.length c/\Chunks E M w news xs/\(xs=[]\/∃b o,a=some ⟨b,o,none⟩/\Cells w b o news):=by
 obtain⟨a,c,rfl,_,_,h3⟩:=h;rcases h3 with rfl|⟨b,o,rfl,_,_,h⟩
 . exact⟨a,c,[],rfl,rfl,.inl rfl⟩
 . have h':∀i,∃cs,∀(hi:i<xs.length),E.R M w cs xs[i]/\Cells w b (o+i*E.n) cs:=fun i=>by
    by_cases hi:i<xs.length
    . obtain⟨cs,h⟩:=h i hi;exact⟨cs,fun _=>h⟩
    . exact⟨[],fun h=>absurd h hi⟩
   refine⟨_,c,((List.range xs.length).map fun i=>(h' i).choose).flatten,rfl,AFZ xs _ fun i hi=>((h' i).choose_spec hi).1,.inr ⟨b,o,rfl,?_⟩⟩;have key:∀n,n<=xs.length->Cells w b o ((List.range n).map fun i=>(h' i).choose).flatten/\((List.range n).map fun i=>(h' i).choose).flatten.length=n*E.n:=by
    intro n;induction n with
    |zero=>intro _;exact⟨Cells.nil _ _ _,by simp⟩
    |succ n ih=>
     intro hn
     obtain⟨ih1,ih2⟩:=ih (by omega)
     have hs:=(h' n).choose_spec (by omega)
     simp only[List.range_succ,List.map_append,List.map_cons,List.map_nil,List.flatten_append,List.flatten_cons,List.flatten_nil,List.append_nil]
     refine⟨ih1.append (by rw[ih2];exact hs.2),?_⟩
     rw[Aaf,ih2,E.len hs.1,AbB,Ab3]
   exact(key xs.length (Aae _)).1
theorem AN3{P:Program}{t e bytes:Nat}(T:SlT P t e E.n bytes){Bb:Nat}{v x:Value}{xs ys:List α}{ty:TypeId}(ho:Own E e Bb M w v xs)(hx:RdS E (ob v++M) w x ys)(hB:Bb<=w.heap.size)(hlen:xs.length+ys.length<=maxLen)(hbytes:(xs.length+ys.length)*bytes<=140737488355328):
  ∃v' w',(Builtin.append_ #[t,t] ty #[v,x]).run P w=.ok v' w'/\Own E e Bb M w' v' (xs++ys)/\Kp (ob v) w w'/\(∀b∈ob v',b∈ob v\/w.heap.size<=b):=by
 obtain⟨i,z,hi,hz,hs,hb,hzs⟩:=T.info
 have hpos':=E.pos
 obtain⟨a,c,news,rfl,hch,hcell⟩:=hx.cells
 have hl:news.length=ys.length*i.size:=by rw[hs];exact hch.len
 have h1:=hch.one
 by_cases hy:ys=[]
 . subst hy
   refine⟨v,w,?_,by rw[Aan];exact ho,Kp.refl _ _,fun b hb=>.inl hb⟩
   rcases ho with⟨a',rfl,rfl⟩|⟨g,cap,cur,rfl,_,_,hnc,_⟩
   . cases a<;>cases a' <;> simp[Builtin.append_,run_underlying T.und,sizeOf,typeInfo,hi,Builtin.lenOf,Builtin.firstCells,loadCells,loadCellsFrom,storeCells]
   . cases a<;>simp[Builtin.append_,run_underlying T.und,sizeOf,typeInfo,hi,Builtin.lenOf,Builtin.firstCells,loadCells,loadCellsFrom,hnc,storeCells]
 . rcases hcell with h|⟨b,o,rfl,hC⟩
   . exact absurd h hy
   have hnews:∀j u,news[j]?=some u->w.cell? ((⟨b,o,none⟩:Addr).add j)=some u:=fun j u hj=>by rw[add_none];exact hC j u hj
   have hpos:0<ys.length:=List.length_pos_iff.2 hy
   have hsmall:xs.length+ys.length<=9223372036854775807:=by simp only[maxLen]at hlen;omega
   have grown:∀(old:Nat) (cs:List Value),old<xs.length+ys.length->cs.length=xs.length*i.size->Chunks E (ob v++M) w cs xs ->
     Own E e Bb M (w.drew.alloc (.cells (cs.toArray++news.toArray++Builtin.zeroCells z.cells (grownCap w (xs.length+ys.length) old e-(xs.length+ys.length))) e)) (.slice (some ⟨w.heap.size,0,none⟩) (xs.length+ys.length) (grownCap w (xs.length+ys.length) old e)) (xs++ys) /\
     Kp (ob v) w (w.drew.alloc (.cells (cs.toArray++news.toArray++Builtin.zeroCells z.cells (grownCap w (xs.length+ys.length) old e-(xs.length+ys.length))) e)) /\
     (∀k∈ob (.slice (some ⟨w.heap.size,0,none⟩) (xs.length+ys.length) (grownCap w (xs.length+ys.length) old e)),k∈ob v\/w.heap.size<=k):=fun old cs ho hcl hcs=>by
    have hge:=grownCap_ge w (xs.length+ys.length) old e
    have hcm:grownCap w (xs.length+ys.length) old e<=maxLen:=grownCap_le_maxLen w _ old e hlen
    have hk:Kp (ob v) w (w.drew.alloc (.cells (cs.toArray++news.toArray++Builtin.zeroCells z.cells (grownCap w (xs.length+ys.length) old e-(xs.length+ys.length))) e)):=
     ⟨rfl,rfl,rfl,by simp,fun k hk _=>Below.heap_alloc w.drew _ k hk,fun _=>Nat.le_succ _⟩
    have hll:(cs++news).length=(xs.length+ys.length)*i.size:=by rw[Aaf,hcl,hl,AbB]
    obtain⟨gc,hgc⟩:∃gc,grownCap w (xs.length+ys.length) old e=gc+1:=⟨grownCap w (xs.length+ys.length) old e-1,by omega⟩
    refine⟨?_,hk,fun k hk'=>?_⟩
    . refine .inr ⟨w.heap.size,gc,_,by rw[Aaf,hgc],hB,heap_alloc_new w.drew _,by rw[Aaf];omega,by omega,?_,?_⟩
      . simp only[Array.size_append,List.size_toArray,size_zeroCells,hzs,hcl,hl,<-Nat.add_mul,hs]
        congr 1
        omega
      . have htk:((cs.toArray++news.toArray++Builtin.zeroCells z.cells (grownCap w (xs.length+ys.length) old e-(xs.length+ys.length))).toList.take ((xs++ys).length*E.n))=cs++news:=by
         simp only[Array.toList_append,List.append_assoc];rw[<-Aax,<-hs,Aaf,<-hll];exact List.take_left
        rw[htk]
        have ha:Adv (ob v++M) (w.heap.size::M) w (w.drew.alloc (.cells (cs.toArray++news.toArray++Builtin.zeroCells z.cells (grownCap w (xs.length+ys.length) old e-(xs.length+ys.length))) e)):=⟨hk.mono fun x hx=>.inl (mem_append.2 (.inl hx)),fun b hb=>by
         rcases mem_cons.1 hb with rfl|h
         . exact .inr (Aae _)
         . exact .inl (mem_append.2 (.inr h))⟩
        exact Chunks.append (Chunks.adv ha hch) (Chunks.adv ha hcs)
    . rw[hgc]at hk'
      have:k=w.heap.size:=by simpa[ob] using hk'
      subst this;exact .inr (Aae _)
   rcases ho with⟨a',rfl,rfl⟩|⟨g,cap,cur,rfl,hbg,hg,hnc,hcm,hcc,hcs⟩
   . have hg:=grown 0 [] (by simpa using hpos) (by simp) rfl
     simp only[List.length_nil,Nat.zero_add,List.nil_append,Array.empty_append]at hg ⊢
     cases a' with
     |none=>
      have hr:=run_append_nil (P:=P) w t ty e i z T.und hi hz ⟨b,o,none⟩ ys.length c news hl hnews hpos (by simp only[List.length_nil]at hsmall;omega) (by rw[hb];simp only[List.length_nil,Nat.zero_add]at hbytes;omega)
      exact⟨_,_,hr,hg.1,hg.2.1,hg.2.2⟩
     |some a'=>
      have hr:=run_append_grow (P:=P) w t ty e i z T.und hi hz a' 0 0 [] (by simp) (fun j u hj=>by simp at hj) ⟨b,o,none⟩ ys.length c news hl hnews (by omega) (by simp only[List.length_nil]at hsmall;omega) (growslice_fits (by omega) (by rw[hb];simpa using hbytes))
      simp only[Nat.zero_add,Array.empty_append]at hr
      exact⟨_,_,hr,hg.1,hg.2.1,hg.2.2⟩
   . have hcl:(cur.toList.take (xs.length*E.n)).length=xs.length*i.size:=by
      have hcz:cur.toList.length=cur.size:=AbX;rw[Aa3,hcz,hcc,hs];exact Abe (AbF _ hnc)
     have hll:(cur.toList.take (xs.length*E.n)++news).length=(xs.length+ys.length)*i.size:=by rw[Aaf,hcl,hl,AbB]
     by_cases hroom:xs.length+ys.length<=cap+1
     . have hfit:xs.length*i.size+news.length<=cur.size:=by rw[hl,hcc,<-AbB,hs];exact AbF _ hroom
       have hr:=run_append_room (P:=P) w t ty e i T.und hi g xs.length (cap+1) cur hg ⟨b,o,none⟩ ys.length c news hl hnews h1 hroom hfit
       have hk:Kp (ob (.slice (some ⟨g,0,none⟩) xs.length (cap+1))) w (w.setRow g (cur.toList.take (xs.length*i.size)++news++cur.toList.drop (xs.length*i.size+news.length)).toArray):=
        ⟨rfl,rfl,rfl,by simp,fun k _ hk=>setRow_other w g k _ (fun e=>hk (by simp[ob,e])),fun _=>Aae _⟩
       have ha:Adv (ob (.slice (some ⟨g,0,none⟩) xs.length (cap+1))++M) (g::M) w (w.setRow g (cur.toList.take (xs.length*i.size)++news++cur.toList.drop (xs.length*i.size+news.length)).toArray):=⟨hk.mono fun x hx=>.inl (mem_append.2 (.inl hx)),fun b hb=>.inl hb⟩
       refine⟨_,_,hr,.inr ⟨g,cap,_,by rw[Aaf],hbg,setRow_heap w g cur _ e _ hg,by rw[Aaf];exact hroom,hcm,?_,?_⟩,hk,fun b hb=>.inl (by simpa[ob] using hb)⟩
       . simp only[List.size_toArray,List.length_append,List.length_take,List.length_drop,Array.length_toList]
         omega
       . have htk:((cur.toList.take (xs.length*i.size)++news++cur.toList.drop (xs.length*i.size+news.length)).toArray.toList.take ((xs++ys).length*E.n))=cur.toList.take (xs.length*E.n)++news:=by
          rw[<-hs]at hll ⊢;rw[Aaf,<-hll];exact List.take_left
         rw[htk]
         exact Chunks.append (Chunks.adv ha hch) (Chunks.adv ha hcs)
     . have holds:∀j u,(cur.toList.take (xs.length*E.n))[j]?=some u->w.cell? ((⟨g,0,none⟩:Addr).add j)=some u:=fun j u hj=>by
        rw[add_none];rw[Aa6]at hj;split at hj
        . simpa using AC9 hg (by simpa using hj)
        . cases hj
       have hr:=run_append_grow (P:=P) w t ty e i z T.und hi hz ⟨g,0,none⟩ xs.length (cap+1) (cur.toList.take (xs.length*E.n)) hcl holds ⟨b,o,none⟩ ys.length c news hl hnews (by omega) (by omega) (growslice_fits (by omega) (by rw[hb];exact hbytes))
       have hg:=grown (cap+1) (cur.toList.take (xs.length*E.n)) (by omega) hcl hcs
       exact⟨_,_,hr,hg.1,hg.2.1,hg.2.2⟩
end
section
variable{P:Program}{N:Nat}{ops:Array Oper}{q:Md}{rest:List Oper}{ds:List Deferred}{L:A8}{w:World}{A B:A5}{X:Nat->A5}{Z:List PanicEntry->A5}
variable{d:Nat}{ty:TypeId}{pos:String}{af:Array Edge}
section
variable{α:Type}{E:Enc α}{Bb:Nat}{M:List Nat}{t:TypeId}{e:TypeId}{x:Operand}{v:Value}{xs:List α}{y:Operand}{cs:List Value}
theorem AFl{Bb e':Nat}{w0:World}(hx:ev L x=some v)(hv:Own E e' Bb M w0 v xs)(ht:P.underlying t=some (.slice e))(hN:blt d N=true)(h:Reg P N ops q rest ds ((d,.int .i64 xs.length)::L) w A B X Z):Reg P N ops q (⟨some d,.call ⟨.builtin .len,#[x],#[t]⟩,ty,pos,af,none⟩::rest) ds L w A B X Z:=by
 obtain⟨a,c,rfl,_⟩:=hv.shape;exact AFk hx ht hN h
theorem AWR{t e bytes:Nat}(T:SlT P t e E.n bytes){v x:Value}{xs ys:List α}{s y:Operand}(hs:ev L s=some v)(hy:ev L y=some x)(ho:Own E e Bb M w v xs)(hx:RdS E (ob v++M) w x ys)(hB:Bb<=w.heap.size)(hlen:(xs.length+ys.length)*bytes<=140737488355328/\xs.length+ys.length<=140737488355328)(hN:blt d N=true)(h:∀v' w',Own E e Bb M w' v' (xs++ys)->Kp (ob v) w w'->Adv (ob v++M) (ob v'++M) w w'->(∀b∈ob v',b∈ob v\/w.heap.size<=b)->Reg P N ops .seq rest ds ((d,v')::L) w' A B X Z):
  Reg P N ops .seq (⟨some d,.call ⟨.builtin .append,#[s,y],#[t,t]⟩,ty,pos,af,none⟩::rest) ds L w A B X Z:=by
 obtain⟨v',w',hr,h1,h2,h3⟩:=AN3 T (ty:=ty) ho hx hB (by simp only[maxLen];omega) hlen.1
 refine N0 v' w' rfl rfl hN (fun a ha=>?_) (h v' w' h1 h2 ⟨h2.mono fun x hx=>.inl (mem_append.2 (.inl hx)),fun b hb=>?_⟩ h3)
 . simp[execOp,resolve,invoke,builtin,ha.eval hs,ha.eval hy,hr]
 . rcases mem_append.1 hb with h|h
   . rcases h3 b h with h|h
     . exact .inl (mem_append.2 (.inl h))
     . exact .inr h
   . exact .inl (mem_append.2 (.inr h))
theorem ADl:∀(cs:List Value) (o:Nat) (vs:List Value),(B6 cs o vs).length=cs.length
 |cs,o,[]=>by cases cs<;>rfl
 |[],_,_::_=>rfl
 |_::r,0,v::vs=>by simp[B6,ADl r 0 vs]
 |c::r,n+1,v::vs=>by simp[B6,ADl r n (v::vs)]
theorem AB7(b:Nat)(e:TypeId):∀(vs:List Value) (i:Nat) (cs:List Value) (w:World) (o:Nat),Row e w b cs->o+i+vs.length<=cs.length->(∀u∈vs,u.oneCell'=true) ->
  ∃w',(storeCells ⟨b,o,none⟩ vs i).run P w=.ok () w'/\Row e w' b (B6 cs (o+i) vs)/\Kp [b] w w'
 |[],i,cs,w,o,h,_,_=>⟨w,by simp[storeCells],by cases cs<;>exact h,Kp.refl _ _⟩
 |v::vs,i,cs,w,o,h,hl,h1=>by
  have hlt:=h.rd.lt;have hi:o+i<cs.length:=by simp at hl;omega
  have hc:w.cell? ⟨b,o+i,none⟩=some cs[o+i]:=by
   have:=h.rd.cells (o+i) cs[o+i] (AaV hi);simpa using this
  have hf:w.frozen? ⟨b,o+i,none⟩=false:=by
   have h':w.heap[b]?=some (.cells cs.toArray e (0,0)):=h;show(match w.heap[b]? with|some (.cells _ _ (lo,hi))=>lo<=o+i&&o+i<hi|_=>false)=false;rw[h'];simp
  have hrow:Row e (w.setCell ⟨b,o+i,none⟩ v) b (cs.set (o+i) v):=by
   have h':w.heap[b]?=some (.cells cs.toArray e (0,0)):=h;show(w.heap.modify b _)[b]?=_;rw[AcI,Aac rfl,h'];simp
  have hset:B6 (cs.set (o+i) v) (o+(i+1)) vs=B6 cs (o+i) (v::vs):=by
   have key:∀(cs:List Value) (n:Nat),n<cs.length->B6 (cs.set n v) (n+1) vs=B6 cs n (v::vs):=by
    intro cs;induction cs with
    |nil=>intro n hn;simp at hn
    |cons c r ih=>
     intro n hn
     cases n with
     |zero=>cases vs<;>simp[B6]<;>(cases r<;>rfl)
     |succ n=>
      simp only[List.set_cons_succ]
      cases vs with
      |nil=>have:=ih n (by simpa using hn);simp only[B6]at this ⊢;rw[this]
      |cons u us=>have:=ih n (by simpa using hn);simp only[B6]at this ⊢;rw[this]
   exact key cs (o+i) hi
  obtain⟨w',hr,hw',hk⟩:=AB7 b e vs (i+1) _ _ o hrow (by simp at hl ⊢;omega) fun u hu=>h1 u (AaQ _ hu);refine⟨w',?_,by rw[<-hset];exact hw',(Kp.setCell w ⟨b,o+i,none⟩ v (by simp)).trans hk⟩;have hst:=run_store P w ⟨b,o+i,none⟩ v .plain (h1 v (by simp));simp[storeCells,add_none,hst,hc,hf,hr]
theorem AN4{b o n:Nat}{cs vs:List Value}(hx:ev L x=some (.pointer (some ⟨b,o,none⟩)))(hy:ev L y=some v)(hv:v.cells=vs.toArray)(hr:Row e w b cs)(hz:∀w,(sizeOf t).run P w=.ok n w)(hn:vs.length=n)(hl:Nat.ble (o+vs.length) cs.length=true)(h1:∀u∈vs,u.oneCell'=true)(h:∀w',Row e w' b (B6 cs o vs)->Kp [b] w w'->Reg P N ops .seq rest ds L w' A B X Z):
  Reg P N ops .seq (⟨none,.store t x y,ty,pos,af,none⟩::rest) ds L w A B X Z:=by
 subst hn
 obtain⟨w',hrun,hw',hk⟩:=AB7 (P:=P) b e vs 0 cs w o hr (Aat hl) h1
 refine Reg.sto w' rfl rfl (fun a ha=>?_) (h w' hw' hk)
 simp[execOp,ha.eval hx,ha.eval hy,Instr.storeAt,Instr.sureAddr,storeVar,hv,hz,hrun]
theorem AUI{z:Value}(hz:∀w,(zeroValue e).run P w=.ok z w)(hc:z.cells=cs.toArray)(hN:blt d N=true)(h:∀b w',b=w.heap.size->Ext w w'->b<w'.heap.size->w'.heap[b]?=some (.cells cs.toArray e (0,0))->Reg P N ops .seq rest ds ((d,.pointer (some ⟨b,0,none⟩))::L) w' A B X Z):
  Reg P N ops .seq (⟨some d,.alloc e,ty,pos,af,none⟩::rest) ds L w A B X Z:=by
 refine N0 (.pointer (some ⟨w.heap.size,0,none⟩)) (w.alloc (.cells cs.toArray e)) rfl rfl hN (fun a ha=>?_) (h _ _ rfl (Kp.alloc _ _ _) (by simp) (heap_alloc_new w _))
 simp[execOp,Instr.alloc,hz,newVar,newRow,hc]
end
end
section
variable{P:Program}{N:Nat}{ops:Array Oper}{q:Md}{rest:List Oper}{ds:List Deferred}{L:A8}{w:World}{A B:A5}{X:Nat->A5}{Z:List PanicEntry->A5}
variable{d:Nat}{ty:TypeId}{pos:String}{af:Array Edge}
section
variable{t:TypeId}{t':TypeId}{x:Operand}{y:Operand}{b:Bool}{n:Nat}{k:IntKind}{k':IntKind}{i:Int}{j:Int}{ts:Array TypeId}{α:Type}{E:Enc α}{M:List Nat}{a:Option Addr}{c:Nat}{xs:List α}{e:TypeId}{v:Value}{vf:Value}{args:List Value}{R:Ending->World->Prop}{g:Nat}{vs:List Value}{f:Operand}
theorem AWS{xs ys:List Value}(he:∀w,(Op.equalIn 10000 t (.agg xs.toArray) (.agg ys.toArray)).run P w=.ok b w)(hg:P.eqGuardType P.depth t=false)(hx:ev L x=some (.agg xs.toArray))(hy:ev L y=some (.agg ys.toArray))(hN:blt d N=true)(h:Reg P N ops q rest ds ((d,.bool b)::L) w A B X Z):Reg P N ops q (⟨some d,.binOp .eql t x y t',ty,pos,af,none⟩::rest) ds L w A B X Z:=
 Reg.val _ rfl rfl hN (fun a ha w' _=>by simp[execOp,ha.eval hx,ha.eval hy,run_eqGuard_agg w' .eql t x y xs.toArray ys.toArray hg,run_eql_struct,he]) h
theorem AWT{xs ys:List Value}(he:∀w,(Op.equalIn 10000 t (.agg xs.toArray) (.agg ys.toArray)).run P w=.ok b w)(hg:P.eqGuardType P.depth t=false)(hx:ev L x=some (.agg xs.toArray))(hy:ev L y=some (.agg ys.toArray))(hN:blt d N=true)(h:Reg P N ops q rest ds ((d,.bool (!b))::L) w A B X Z):Reg P N ops q (⟨some d,.binOp .neq t x y t',ty,pos,af,none⟩::rest) ds L w A B X Z:=
 Reg.val _ rfl rfl hN (fun a ha w' _=>by simp[execOp,ha.eval hx,ha.eval hy,run_eqGuard_agg w' .neq t x y xs.toArray ys.toArray hg,run_neq_struct,he]) h
theorem AWU{s:TypeId}{f n:Nat}{cs:List Value}{fields:Array Field}{fl:Field}(hx:ev L x=some (.agg cs.toArray))(hs:P.underlying s=some (.struct fields))(hf:fields[f]?=some fl)(he:∀w,(isAgg fl.type).run P w=.ok true w)(hz:∀w,(sizeOf fl.type).run P w=.ok n w)(hN:blt d N=true)(h:Reg P N ops q rest ds ((d,.agg ((cs.drop fl.offset).take n).toArray)::L) w A B X Z):Reg P N ops q (⟨some d,.field s x f,ty,pos,af,none⟩::rest) ds L w A B X Z:=
 Reg.val _ rfl rfl hN (fun a ha w' _=>by simp[execOp,ha.eval hx,Instr.field,run_underlying hs,hf,asAgg,part,he,hz,List.extract_eq_take_drop]) h
theorem ASB(hx:ev L x=some (.int k i))(hy:ev L y=some (.int k' j))(hN:blt d N=true)(h:Reg P N ops q rest ds ((d,.int k (min i j))::L) w A B X Z):Reg P N ops q (⟨some d,.call ⟨.builtin .min,#[x,y],ts⟩,ty,pos,af,none⟩::rest) ds L w A B X Z:=
 Reg.val _ rfl rfl hN (fun a ha w' _=>by
  have e:(if j<i then j else i)=min i j:=by omega
  simp[execOp,resolve,invoke,builtin,ha.eval hx,ha.eval hy,run_min_int2,e]) h
theorem ASC(hx:ev L x=some (.int k i))(hy:ev L y=some (.int k' j))(hN:blt d N=true)(h:Reg P N ops q rest ds ((d,.int k (max i j))::L) w A B X Z):Reg P N ops q (⟨some d,.call ⟨.builtin .max,#[x,y],ts⟩,ty,pos,af,none⟩::rest) ds L w A B X Z:=
 Reg.val _ rfl rfl hN (fun a ha w' _=>by
  have e:(if j > i then j else i)=max i j:=by omega
  simp[execOp,resolve,invoke,builtin,ha.eval hx,ha.eval hy,run_max_int2,e]) h
theorem RdS.take{w:World}(hr:RdS E M w (.slice a n c) xs)(k:Nat)(hk:k<=xs.length):RdS E M w (.slice a k c) (xs.take k):=by
 obtain⟨a',c',he,h1,h2,h3⟩:=hr;cases he
 refine⟨a,c,by simp[Nat.min_eq_left hk],by simp;omega,h2,?_⟩;rcases h3 with rfl|⟨b,o,rfl,hb,hlt,hc⟩
 . exact .inl (by simp)
 . exact .inr ⟨b,o,rfl,hb,hlt,fun i hi=>by simpa using hc i (by simp at hi;omega)⟩
theorem RdS.drop{w:World}(hr:RdS E M w (.slice a n c) xs)(k:Nat)(hk:k<=xs.length):
  RdS E M w (.slice (if c=k then a else a.map (·.add (k*E.n))) (n-k) (c-k)) (xs.drop k):=by
 obtain⟨a',c',he,h1,h2,h3⟩:=hr
 cases he
 refine⟨if c=k then a else a.map (·.add (k*E.n)),c-k,by simp,by simp;omega,by simp only[maxLen]at h2 ⊢;omega,?_⟩
 rcases h3 with rfl|⟨b,o,rfl,hb,hlt,hc⟩
 . exact .inl (by simp)
 . by_cases hck:c=k
   . left
     have:xs.length=k:=by omega
     exact AbO (by omega)
   . right
     refine⟨b,o+k*E.n,by simp[hck,add_none],hb,hlt,fun i hi=>?_⟩
     obtain⟨cs,hR,hC⟩:=hc (k+i) (by simp at hi;omega)
     refine⟨cs,by simpa using hR,?_⟩
     have e:o+k*E.n+i*E.n=o+(k+i)*E.n:=by rw[AbB];omega
     rw[e];exact hC
theorem AWV(hx:ev L x=some v)(hy:ev L y=some (.int k i))(hv:RdS E M w v xs)(hi:0<=i/\i<=xs.length)(ht:P.underlying t=some (.slice e))(hs:∀w,(sizeOf e).run P w=.ok E.n w)(hN:blt d N=true)(h:∀v',RdS E M w v' (xs.take i.toNat)->ob v'=ob v->Reg P N ops q rest ds ((d,v')::L) w A B X Z):
  Reg P N ops q (⟨some d,.slice t x none (some y) none,ty,pos,af,none⟩::rest) ds L w A B X Z:=by
 obtain⟨a,c,rfl,h1,h2⟩:=hv.shape
 have ht':P.underlying t=some (.slice (P.elem t)):=by simp[Program.elem,ht]
 have he:P.elem t=e:=by simp[Program.elem,ht]
 have hval:sliced a 0 i.toNat c E.n=.slice a i.toNat c:=by
  simp only[sliced,Nat.zero_mul,Nat.sub_zero];congr 1;split
  . rfl
  . cases a<;>simp[Addr.add]
 refine Reg.val (.slice a i.toNat c) rfl rfl hN (fun a' ha w' _=>?_) (h _ (hv.take i.toNat (by omega)) (by cases a<;>cases c<;>rfl))
 have hr:=run_slice_h (P:=P) w' t a xs.length c ht' k i hi.1 (by omega)
 simp[execOp,ha.eval hx,ha.eval hy,run_sliceAt_slice w' t _ _ _ _ ht',hr,he,hs,hval]
theorem AWW(hx:ev L x=some v)(hy:ev L y=some (.int k i))(hv:RdS E M w v xs)(hi:0<=i/\i<=xs.length)(ht:P.underlying t=some (.slice e))(hs:∀w,(sizeOf e).run P w=.ok E.n w)(hN:blt d N=true)(h:∀v',RdS E M w v' (xs.drop i.toNat)->Reg P N ops q rest ds ((d,v')::L) w A B X Z):
  Reg P N ops q (⟨some d,.slice t x (some y) none none,ty,pos,af,none⟩::rest) ds L w A B X Z:=by
 obtain⟨a,c,rfl,h1,h2⟩:=hv.shape
 have ht':P.underlying t=some (.slice (P.elem t)):=by simp[Program.elem,ht]
 have he:P.elem t=e:=by simp[Program.elem,ht]
 refine Reg.val _ rfl rfl hN (fun a' ha w' _=>?_) (h _ (hv.drop i.toNat (by omega)))
 have hr:=run_slice_l (P:=P) w' t a xs.length c ht' k i hi.1 (by omega)
 simp[execOp,ha.eval hx,ha.eval hy,run_sliceAt_slice w' t _ _ _ _ ht',hr,he,hs,sliced]
def CallsV(P:Program)(vf:Value)(args:List Value)(w:World)(R:Ending->World->Prop):Prop:=
 ∃g caps,vf=.func (.func g) #[] caps/\(∀args w,(callFunc g args).run P w=.ok (.enter g args) w)/\Calls P g (args.toArray++caps) w R
theorem CallsV.mono{R R':Ending->World->Prop}(h:CallsV P vf args w R)(hr:∀e w',R e w'->R' e w'):CallsV P vf args w R':=by
 obtain⟨g,caps,h1,h2,h3⟩:=h;exact⟨g,caps,h1,h2,h3.mono hr⟩
theorem CallsV.of{caps:Array Value}(h2:∀args w,(callFunc g args).run P w=.ok (.enter g args) w)(h3:Calls P g (args.toArray++caps) w R):CallsV P (.func (.func g) #[] caps) args w R:=⟨g,caps,rfl,h2,h3⟩
theorem AEB{xs:List Operand}(hvs:evs L xs=some vs)(hN:blt d N=true)(h:Reg P N ops q rest ds ((d,.func (.func g) #[] vs.toArray)::L) w A B X Z):
  Reg P N ops q (⟨some d,.makeFunc (.func g) #[] xs.toArray,ty,pos,af,none⟩::rest) ds L w A B X Z:=
 Reg.val _ rfl rfl hN (fun a ha w' _=>by
  have:=ABN ha xs vs hvs;simp[execOp,Instr.makeFunc,this]) h
theorem ABO{xs:List Operand}(hf:ev L f=some vf)(hvs:evs L xs=some vs)(hN:blt d N=true)(h:CallsV P vf vs w fun e w'=>∃v,e=.returned v/\Reg P N ops .seq rest ds ((d,v)::L) w' A B X Z):
  Reg P N ops .seq (⟨some d,.call ⟨.value f,xs.toArray,ts⟩,ty,pos,af,none⟩::rest) ds L w A B X Z:=by
 obtain⟨g,caps,rfl,h2,h3⟩:=h
 refine Reg.call (f:=g) (args:=vs.toArray++caps) rfl rfl hN (fun a ha=>?_) h3
 have:=ABN ha xs vs hvs
 simp[execOp,resolve,ha.eval hf,Deferred.ofValue,invoke,h2,this]
theorem AHE{xs:List Operand}(hf:ev L f=some vf)(hvs:evs L xs=some vs)(h:CallsV P vf vs w fun e w'=>∃v,e=.returned v/\Reg P N ops .seq rest ds L w' A B X Z):
  Reg P N ops .seq (⟨none,.call ⟨.value f,xs.toArray,ts⟩,ty,pos,af,none⟩::rest) ds L w A B X Z:=by
 obtain⟨g,caps,rfl,h2,h3⟩:=h
 refine API (f:=g) (args:=vs.toArray++caps) rfl rfl (fun a ha=>?_) h3
 have:=ABN ha xs vs hvs
 simp[execOp,resolve,ha.eval hf,Deferred.ofValue,invoke,h2,this]
theorem AFm(off:Nat):∀(cs:List Value) (j:Nat) (pre suf:List Value),off+j=pre.length->cs.length<=suf.length ->
  ((cs.zipIdx j).foldl (fun acc (x:Value×Nat)=>acc.setIfInBounds (off+x.2) x.1) (pre++suf).toArray)=(pre++cs++suf.drop cs.length).toArray
 |[],j,pre,suf,_,_=>by simp
 |c::cs,j,pre,suf,h,hl=>by
  match suf,hl with
  |x::suf,hl=>
   have hset:((pre++x::suf).toArray.setIfInBounds (off+j) c)=((pre++[c])++suf).toArray:=by
    rw[h];simp
   simp only[List.zipIdx_cons,List.foldl_cons,hset]
   rw[AFm off cs (j+1) (pre++[c]) suf (by simp;omega) (by simp at hl;omega)]
   simp
def Cls:List Value->List (List Value)->Prop
 |[],[]=>True
 |v::vs,c::cs=>v.cells=c.toArray/\Cls vs cs
 |_,_=>False
def Chs{α:Type}(E:Enc α)(M:List Nat)(w:World):List (List Value)->List α->Prop
 |[],[]=>True
 |c::cs,x::xs=>E.R M w c x/\Chs E M w cs xs
 |_,_=>False
theorem Chs.chunks{w:World}:∀{css:List (List Value)} {xs:List α},Chs E M w css xs->Chunks E M w css.flatten xs
 |[],[],_=>rfl
 |c::cs,x::xs,⟨h,hr⟩=>⟨c,cs.flatten,rfl,h,Chs.chunks hr⟩
 |[],_::_,h=>h.elim
 |_::_,[],h=>h.elim
theorem Chs.len{w:World}:∀{css:List (List Value)} {xs:List α},Chs E M w css xs->css.length=xs.length/\∀c∈css,c.length=E.n
 |[],[],_=>⟨rfl,fun _ h=>by cases h⟩
 |c::cs,x::xs,⟨h,hr⟩=>by
  obtain⟨h1,h2⟩:=Chs.len hr;refine⟨by simp[h1],fun c' hc'=>?_⟩;rcases mem_cons.1 hc' with rfl|hc'
  . exact E.len h
  . exact h2 c' hc'
 |[],_::_,h=>h.elim
 |_::_,[],h=>h.elim
theorem AKl(size:Nat):∀(vs:List Value) (css:List (List Value)) (k:Nat) (pre suf:List Value),Cls vs css->(∀c∈css,c.length=size)->pre.length=k*size->suf.length=css.length*size ->
  Instr.fill (fun i=>some (i*size,size)) (pre++suf).toArray ((List.range' k vs.length).zip vs)=some (pre++css.flatten).toArray
 |[],[],k,pre,suf,_,_,_,h=>by
  have:suf=[]:=AbR (by simpa using h);simp[Instr.fill,this]
 |v::vs,c::css,k,pre,suf,⟨hv,hc⟩,hs,hp,hl=>by
  have hcl:c.length=size:=hs c (by simp);have hsuf:size<=suf.length:=by rw[hl];simp[Nat.add_mul]
  have h1:¬(c.length≠size\/(pre++suf).length<k*size+c.length):=by
   simp;constructor
   . exact hcl
   . omega
  have hfold:=AFm (k*size) c 0 pre suf (by omega) (by omega);have ih:=AKl size vs css (k+1) (pre++c) (suf.drop c.length) hc (fun c' hc'=>hs c' (AaQ _ hc')) (by simp[hp,hcl,Nat.add_mul]) (by simp[hl,hcl,Nat.add_mul]);simp only[List.length_cons,List.range'_succ,List.zip_cons_cons,Instr.fill,hv];rw[if_neg (by simpa using h1)];rw[<-Array.foldl_toList];simp only[Array.toList_zipIdx];rw[hfold,ih];simp
 |[],_::_,_,_,_,h,_,_,_=>h.elim
 |_::_,[],_,_,_,h,_,_,_=>h.elim
theorem AYh{t e bytes:Nat}(T:SlT P t e E.n bytes){Bb:Nat}{parts:List (Nat×Operand)}{css:List (List Value)}(hi:parts.map (·.1)=List.range n)(hvs:evs L (parts.map (·.2))=some vs)(hc:Cls vs css)(hx:Chs E M w css xs)(hM:MLt M w)(hB:Bb<=w.heap.size)(hn:Nat.ble (n*E.n) 16777216=true)(hN:blt d N=true)(h:∀v' w',Ext w w'->Own E e Bb M w' v' xs->RdS E M w' v' xs->(∀b∈ob v',w.heap.size<=b)->Reg P N ops .seq rest ds ((d,v')::L) w' A B X Z):
  Reg P N ops .seq (⟨some d,.buildSlice t n parts.toArray,ty,pos,af,none⟩::rest) ds L w A B X Z:=by
 obtain⟨i,z,hi0,hz,hs,hb,hzs⟩:=T.info
 obtain⟨hl1,hl2⟩:=hx.len
 have hlen:∀(vs:List Value) (css:List (List Value)),Cls vs css->vs.length=css.length:=by
  intro vs;induction vs with
  |nil=>intro css h;cases css with|nil=>rfl|cons _ _=>exact h.elim
  |cons v vs ih=>intro css h;cases css with|nil=>exact h.elim|cons c css=>simp[ih css h.2]
 have hvl:=hlen vs css hc
 have hpl:parts.length=n:=by have:=AaX List.length hi;simpa using this
 have hevl:∀(xs:List Operand) (vs:List Value),evs L xs=some vs->xs.length=vs.length:=by
  intro xs;induction xs with
  |nil=>intro vs h;simp[evs]at h;subst h;rfl
  |cons x xs ih=>
   intro vs h
   simp only[evs]at h
   split at h
   . split at h
     . rename_i us hu
       cases h
       simp[ih us hu]
     . cases h
   . cases h
 have hnv:n=vs.length:=by have:=hevl _ _ hvs;simp at this;omega
 have hflat:css.flatten.length=n*i.size:=by
  have:∀(l:List (List Value)),(∀c∈l,c.length=E.n)->l.flatten.length=l.length*E.n:=by
   intro l;induction l with
   |nil=>intro _;simp
   |cons c l ih=>intro h;simp[h c (by simp),ih fun c' hc'=>h c' (mem_cons_of_mem _ hc'),Nat.add_mul];omega
  rw[this css hl2,hs,hnv,hvl]
 have hn':¬(2 ^ 24<n*i.size):=by have:=Aat hn;rw[hs];omega
 have hxl:xs.length=n:=by omega
 have hown:Own E e Bb M (w.alloc (.cells css.flatten.toArray e)) (.slice (some ⟨w.heap.size,0,none⟩) n n) xs:=by
  cases n with
  |zero=>exact .inl ⟨_,rfl,AbR hxl⟩
  |succ m=>
   refine .inr ⟨w.heap.size,m,css.flatten.toArray,by rw[hxl],hB,heap_alloc_new w _,by omega,?_,by simp[hflat,hs],?_⟩
   . have:=Aat hn
     have:=E.pos
     have:(m+1)<=(m+1)*E.n:=Ab9 (m+1) E.pos
     simp only[maxLen];omega
   . rw[hxl,show css.flatten.toArray.toList=css.flatten from rfl,Aa7 (by rw[hflat,hs];exact Aae _)]
     refine Chunks.adv ⟨Kp.alloc _ _ _,fun b hb=>?_⟩ hx.chunks
     rcases mem_cons.1 hb with rfl|hb
     . exact .inr (Aae _)
     . exact .inl hb
 have hnew:∀b∈ob (.slice (some ⟨w.heap.size,0,none⟩) n n),w.heap.size<=b:=fun b hb=>by
  cases n with
  |zero=>cases hb
  |succ m=>
   have:b=w.heap.size:=by simpa[ob] using hb
   omega
 refine N0 (.slice (some ⟨w.heap.size,0,none⟩) n n) (w.alloc (.cells css.flatten.toArray e)) rfl rfl hN (fun a ha=>?_) (h _ _ (Kp.alloc _ _ _) hown (hown.rd fun b hb hm=>by have:=hnew b hb;have:=hM b hm;omega) hnew)
 . have hmap:=ABN ha _ _ hvs
   have hparts:(parts.map fun (p:Nat×Operand)=>(p.1,a.eval p.2))=(List.range n).zip vs:=by
    rw[<-hi,<-hmap,Aau,List.zip_map'];rfl
   have hfill:∀zc:Array Value,zc.size=n*i.size->Instr.fill (fun j=>some (j*i.size,i.size)) zc ((List.range n).zip vs)=some css.flatten.toArray:=fun zc hzc=>by
    have:=AKl i.size vs css 0 [] zc.toList hc (fun c hc'=>by rw[hs];exact hl2 c hc') (by simp) (by rw[Array.length_toList,hzc,hnv,hvl]);rw[List.range_eq_range',hnv];simpa using this
   by_cases h0:n*i.size=0
   . have hf:=hfill (Array.map (fun _=>default) (Array.range 0)) (by simp[h0])
     simp[execOp,Instr.buildSlice,run_underlying T.und,sizeOf,typeInfo,hi0,h0,hparts,hf,newRow]
   . have hf:=hfill ((Array.range (n*i.size)).map fun j=>z.cells[j % z.cells.size]!) (by simp)
     simp[execOp,Instr.buildSlice,run_underlying T.und,sizeOf,typeInfo,zeroValue,hz,hi0,hn',h0,hparts,hf,newRow]
end
end
theorem CallsV.ofL{P:Program}{w:World}{g:Nat}{caps args all:List Value}{R:Ending->World->Prop}(h2:∀args w,(callFunc g args).run P w=.ok (.enter g args) w)(he:args++caps=all)(h3:Calls P g all.toArray w R):CallsV P (.func (.func g) #[] caps.toArray) args w R:=by
 subst he;exact CallsV.of h2 (by simpa using h3)
section
variable{P:Program}{N:Nat}{ops:Array Oper}{q:Md}{rest:List Oper}{ds:List Deferred}{L:A8}{w:World}{A B:A5}{X:Nat->A5}{Z:List PanicEntry->A5}{d:Nat}{ty:TypeId}{pos:String}{af:Array Edge}
theorem ASD{α:Type}{E:Enc α}{M:List Nat}{w0:World}{xs:List α}{t t' e:TypeId}{x y:Operand}{v:Value}(hv:RdS E M w0 v xs)(hx:ev L x=some v)(hy:ev L y=some (.slice none 0 0))(ht:P.underlying t=some (.slice e))(hN:blt d N=true)(h:∀b:Bool,(b=true->xs=[])->Reg P N ops q rest ds ((d,.bool b)::L) w A B X Z):Reg P N ops q (⟨some d,.binOp .eql t x y t',ty,pos,af,none⟩::rest) ds L w A B X Z:=by
 obtain⟨a,c,rfl,_,_,h3⟩:=hv;refine Reg.val (.bool a.isNone) rfl rfl hN (fun a' ha w' _=>?_) (h _ fun hb=>?_)
 . have he:(Op.equal t (.slice a xs.length c) (.slice none 0 0)).run P w'=.ok a.isNone w':=by
    have key:∀n,(Op.equalIn (n+1) t (.slice a xs.length c) (.slice none 0 0)).run P w'=.ok a.isNone w':=fun n=>by cases a<;>simp[Op.equalIn,run_underlying ht]
    exact key 9999
   have hg:eqGuard .eql t x y (.slice a xs.length c) (.slice none 0 0)=pure ():=by rfl
   simp[execOp,ha.eval hx,ha.eval hy,hg,binOp,he]
 . rcases h3 with rfl|⟨b,o,rfl,_⟩
   . rfl
   . cases hb
end
def AQj(v:Value):Prop:=∃a,v=.slice a 0 0
section
variable{c:List Value}{cs:List (List Value)}{α:Type}{E:Enc α}{M:List Nat}{w:World}
theorem Cls.nil:Cls [] []:=trivial
theorem Cls.cons{v:Value}{vs:List Value}(h:v.cells=c.toArray)(hr:Cls vs cs):Cls (v::vs) (c::cs):=⟨h,hr⟩
theorem Chs.nil:Chs E M w [] []:=trivial
theorem Chs.cons{x:α}{xs:List α}(h:E.R M w c x)(hr:Chs E M w cs xs):Chs E M w (c::cs) (x::xs):=⟨h,hr⟩
end
theorem AG3{α:Type}{E:Enc α}{M:List Nat}{w:World}{c':List Value}{y:α}(hy:E.R M w c' y):∀{cs:List Value} {xs:List α},Chunks E M w cs xs->∀i,i<xs.length->Chunks E M w (cs.take (i*E.n)++c'++cs.drop (i*E.n+E.n)) (xs.set i y)
 |cs,[],_,i,hi=>by simp at hi
 |cs,x::r,⟨c,rest,h,hR,hr⟩,0,_=>by
  have hl:=E.len hR;subst h;refine⟨c',rest,?_,hy,hr⟩;simp[<-hl]
 |cs,x::r,⟨c,rest,h,hR,hr⟩,i+1,hi=>by
  have hl:=E.len hR;subst h;have ih:=AG3 hy hr i (by simpa using hi);refine⟨c,_,?_,hR,ih⟩;have e1:(i+1)*E.n=c.length+i*E.n:=by rw[AbB,Ab3,hl];omega
  rw[e1];simp[List.take_append,List.drop_append,Nat.add_assoc,List.drop_eq_nil_of_le,List.take_of_length_le]
theorem Own.at_{α:Type}{E:Enc α}{e:TypeId}{Bb:Nat}{M:List Nat}{w:World}{v:Value}{xs:List α}(h:Own E e Bb M w v xs)(hx:0<xs.length):∃g cap cur,v=.slice (some ⟨g,0,none⟩) xs.length (cap+1)/\ob v=[g]/\Bb<=g/\w.heap[g]?=some (.cells cur e (0,0))/\xs.length<=cap+1/\cap+1<=maxLen/\cur.size=(cap+1)*E.n/\Chunks E (g::M) w (cur.toList.take (xs.length*E.n)) xs:=by
 rcases h with⟨a,rfl,rfl⟩|⟨g,cap,cur,rfl,h⟩
 . simp at hx
 . exact⟨g,cap,cur,rfl,rfl,h⟩
section
variable{P:Program}{N:Nat}{ops:Array Oper}{q:Md}{rest:List Oper}{ds:List Deferred}{L:A8}{w:World}{A B:A5}{X:Nat->A5}{Z:List PanicEntry->A5}{d:Nat}{ty:TypeId}{pos:String}{af:Array Edge}
theorem AWX{α:Type}{E:Enc α}{e' Bb:Nat}{M:List Nat}{w0:World}{t e:TypeId}{x y:Operand}{v:Value}{xs:List α}{k:IntKind}{i:Int}(hx:ev L x=some v)(hy:ev L y=some (.int k i))(hv:Own E e' Bb M w0 v xs)(hi:0<=i/\i<xs.length)(ht:P.underlying t=some (.slice e))(hs:∀w,(sizeOf e).run P w=.ok E.n w)(hN:blt d N=true)(h:∀g,ob v=[g]->Reg P N ops q rest ds ((d,.pointer (some ⟨g,i.toNat*E.n,none⟩))::L) w A B X Z):
  Reg P N ops q (⟨some d,.indexAddr t x y,ty,pos,af,none⟩::rest) ds L w A B X Z:=by
 obtain⟨g,cap,cur,rfl,hob,_⟩:=hv.at_ (by omega)
 refine Reg.val (.pointer (some ⟨g,i.toNat*E.n,none⟩)) rfl rfl hN (fun a ha w' _=>?_) (h g hob)
 simp[execOp,ha.eval hx,ha.eval hy,Instr.indexAt,asIntOf,run_underlying ht,hi.1,hi.2,hs,add_none]
theorem V2:∀(cs:List Value) (o:Nat) (vs:List Value),o+vs.length<=cs.length->B6 cs o vs=cs.take o++vs++cs.drop (o+vs.length)
 |cs,o,[],_=>by cases cs<;>simp[B6]
 |[],o,v::vs,h=>by simp at h
 |c::r,0,v::vs,h=>by
  have:=V2 r 0 vs (by simpa using h);simp only[B6,this];simp
 |c::r,n+1,v::vs,h=>by
  have:=V2 r n (v::vs) (by simp at h ⊢;omega);simp only[B6,this];rw[show n+1+(v::vs).length=(n+(v::vs).length)+1 by omega];simp
end
section
variable{α:Type}{β:Type}{b:Bool}{A:Option α}{B:Option α}{γ:Type}{f:α->Option γ}{g:β->Option γ}{k:IntKind}{x:Int}{i:Int}
theorem C5{a:Option α}{f:α->Option β}{r:β}(h:Option.bind a f=some r):∃x,a=some x/\f x=some r:=by
 cases a with
 |none=>cases h
 |some x=>exact⟨x,rfl,h⟩
theorem cdT{r:α}(hb:b=true)(h:cond b A B=some r):A=some r:=by subst hb;exact h
theorem cdF{r:α}(hb:b=false)(h:cond b A B=some r):B=some r:=by subst hb;exact h
theorem elimL{a:α}{r:γ}(h:Sum.elim f g (.inl a)=some r):f a=some r:=h
theorem elimR{b:β}{r:γ}(h:Sum.elim f g (.inr b)=some r):g b=some r:=h
def chk(k:IntKind)(x:Int):Option Int:=if k.min<=x/\x<=k.max then some x else none
theorem I8{x y:Int}(h:chk k x=some y):y=x/\InK k y:=by
 unfold chk at h;split at h
 . rename_i hk;cases h;exact⟨rfl,hk⟩
 . cases h
theorem AUJ(h:InK k x):chk k x=some x:=Aac h
theorem AI1(h:-9223372036854775808<=x/\x<=9223372036854775807):chk .i64 x=some x:=AUJ (InK.i64.2 h)
def ixo{α:Type}(l:List α)(i:Int):Option α:=if 0<=i then l[i.toNat]? else none
theorem AAd{l:List α}{y:α}(h:ixo l i=some y):0<=i/\i<l.length/\l[i.toNat]?=some y:=by
 unfold ixo at h;split at h
 . rename_i hi;have:i.toNat<l.length:=by
    rcases Aag i.toNat l.length with h1|h1
    . exact h1
    . rw[Aaa h1]at h;cases h
   exact⟨hi,by omega,h⟩
 . cases h
theorem ASr{l:List α}{i:Nat}:ixo l (i:Int)=l[i]?:=by simp[ixo]
def seto{α:Type}(l:List α)(i:Int)(x:α):Option (List α):=if 0<=i/\i<l.length then some (l.set i.toNat x) else none
theorem AHF{l m:List α}{x:α}(h:seto l i x=some m):0<=i/\i<l.length/\m=l.set i.toNat x:=by
 unfold seto at h;split at h
 . rename_i hi;cases h;exact⟨hi.1,hi.2,rfl⟩
 . cases h
end
instance {k:IntKind} {x:Int}:Decidable (InK k x):=inferInstanceAs (Decidable (_/\_))
def AKm(k:IntKind)(x y:Int):Option Int:=if 0<=x/\0<y/\InK k x then some (x / y) else none
section
variable{x:Int}{y:Int}{z:Int}{α:Type}{i:Int}{xs:List α}{E:Enc α}{M:List Nat}{w:World}{v:Value}{S:Type}{R:Type}{body:S->Option (S⊕R)}
theorem AKn{k:IntKind}(h:AKm k x y=some z):0<=x/\0<y/\InK k x/\z=x / y:=by
 unfold AKm at h;split at h
 . rename_i hi;cases h;exact⟨hi.1,hi.2.1,hi.2.2,rfl⟩
 . cases h
def AKo(x y:Int):Option Int:=if 0<=x/\0<y then some (x % y) else none
theorem AKp(h:AKo x y=some z):0<=x/\0<y/\z=x % y:=by
 unfold AKo at h;split at h
 . rename_i hi;cases h;exact⟨hi.1,hi.2,rfl⟩
 . cases h
def AA4{α:Type}(l:List α)(i:Int):Option (List α):=if 0<=i/\i<=l.length then some (l.drop i.toNat) else none
def AAG{α:Type}(l:List α)(i:Int):Option (List α):=if 0<=i/\i<=l.length then some (l.take i.toNat) else none
theorem AFn{l m:List α}(h:AA4 l i=some m):(0<=i/\i<=l.length)/\m=l.drop i.toNat:=by
 unfold AA4 at h;split at h
 . rename_i hi;cases h;exact⟨hi,rfl⟩
 . cases h
theorem AJl{l m:List α}(h:AAG l i=some m):(0<=i/\i<=l.length)/\m=l.take i.toNat:=by
 unfold AAG at h;split at h
 . rename_i hi;cases h;exact⟨hi,rfl⟩
 . cases h
def appo{α:Type}(b:Nat)(xs ys:List α):Option (List α):=if (xs.length+ys.length)*b<=140737488355328/\xs.length+ys.length<=140737488355328 then some (xs++ys) else none
theorem ABt{b:Nat}{xs ys l:List α}(h:appo b xs ys=some l):((xs.length+ys.length)*b<=140737488355328/\xs.length+ys.length<=140737488355328)/\l=xs++ys:=by
 unfold appo at h;split at h
 . rename_i hi;cases h;exact⟨hi,rfl⟩
 . cases h
theorem RdS.inK(hr:RdS E M w v xs):InK .i64 xs.length:=InK.i64.2 (by have:=hr.len;omega)
theorem Own.inK{e:TypeId}{Bb:Nat}(hr:Own E e Bb M w v xs):InK .i64 xs.length:=InK.i64.2 (by have:=hr.len;omega)
def M4{S R:Type}(body:S->Option (S⊕R)):Nat->S->Option R
 |0,_=>none
 |n+1,s=>match body s with
  |none=>none
  |some (.inl s')=>M4 body n s'
  |some (.inr r)=>some r
theorem AH6{S R:Type}{body:S->Option (S⊕R)}:∀{n:Nat} {s:S} {r:R},M4 body n s=some r->M4 body (n+1) s=some r
 |0,_,_,h=>by cases h
 |n+1,s,r,h=>by
  simp only[M4]at h;split at h
  . cases h
  . rename_i s' hs;rw[M4];simp only[hs];exact AH6 h
  . rename_i r' hs;rw[M4];simp only[hs];exact h
theorem AH7{n m:Nat}{s:S}{r:R}(h:M4 body n s=some r)(hm:n<=m):M4 body m s=some r:=by
 induction m with
 |zero=>
  have:n=0:=by omega
  subst this;exact h
 |succ m ih=>
  rcases Aag m n with h1|h1
  . have:n=m+1:=by omega
    subst this;exact h
  . exact AH6 (ih h1)
end
open Classical in
def B7{S R:Type}(body:S->Option (S⊕R))(s:S):Option R:=
 if h:∃r n,M4 body n s=some r then some h.choose else none
section
variable{S:Type}{R:Type}{body:S->Option (S⊕R)}{s:S}
theorem loopM_some{r:R}:B7 body s=some r↔∃n,M4 body n s=some r:=by
 unfold B7;constructor
 . intro h;split at h
   . rename_i hx;cases h;exact hx.choose_spec
   . cases h
 . rintro⟨n,hn⟩;have hx:∃r n,M4 body n s=some r:=⟨r,n,hn⟩;rw[dif_pos hx];obtain⟨m,hm⟩:=hx.choose_spec;have h1:=AH7 hm (Nat.le_max_left m n);have h2:=AH7 hn (Nat.le_max_right m n);rw[h1]at h2;exact h2
theorem AKq(body:S->Option (S⊕R))(s:S):B7 body s=match body s with
  |none=>none
  |some (.inl s')=>B7 body s'
  |some (.inr r)=>some r:=by
 apply Option.ext
 intro r
 rw[loopM_some]
 cases hb:body s with
 |none=>
  simp only[reduceCtorEq,iff_false,not_exists]
  intro n hn
  cases n with
  |zero=>cases hn
  |succ n=>simp[M4,hb]at hn
 |some y=>
  cases y with
  |inl s'=>
   simp only[loopM_some]
   constructor
   . rintro⟨n,hn⟩
     cases n with
     |zero=>cases hn
     |succ n=>exact⟨n,by simpa[M4,hb] using hn⟩
   . rintro⟨n,hn⟩
     exact⟨n+1,by simpa[M4,hb] using hn⟩
  |inr r'=>
   constructor
   . rintro⟨n,hn⟩
     cases n with
     |zero=>cases hn
     |succ n=>simpa[M4,hb] using hn
   . intro h;exact⟨1,by simpa[M4,hb] using h⟩
theorem AKr{s s':S}(h:body s=some (.inl s')):B7 body s=B7 body s':=by rw[AKq,h]
theorem ADm{r:R}(h:body s=some (.inr r)):B7 body s=some r:=by rw[AKq,h]
end
section
variable{P:Program}{N:Nat}{ops:Array Oper}{q:Md}{rest:List Oper}{ds:List Deferred}{L:A8}{w:World}{A B:A5}{X:Nat->A5}{Z:List PanicEntry->A5}
theorem AI2(m:Nat){ι:Type}{x y:Code}(E:ι->A8)(I:ι->World->Prop)(hx:CW P N x ds L w (fun ds' L' w'=>ds'=ds/\∃i,I i w'/\Sub (E i++L.drop m) L') B X Z)(hy:∀i w',I i w'->CW P N y ds (E i++L.drop m) w' A B X Z):CW P N (.seq x y) ds L w A B X Z:=
 A3 (AEQ hx fun e a w' hq=>by
  cases e with
  |normal=>obtain⟨ds',L',ha,rfl,i,hI,hs⟩:=hq;exact⟨_,L',ha,fun a' ha'=>hy i w' hI a' (ha'.sub hs)⟩
  |_=>exact hq)
theorem ABH(m:Nat){ι:Type}{x:Code}(E:ι->A8)(I:ι->World->Prop)(hx:CW P N x ds L w (fun ds' L' w'=>ds'=ds/\∃i,I i w'/\Sub (E i++L.drop m) L') B X Z)(hy:∀i w',I i w'->A ds (E i++L.drop m) w'):CW P N x ds L w A B X Z:=
 AEQ hx fun e a w' hq=>by
  cases e with
  |normal=>obtain⟨ds',L',ha,rfl,i,hI,hs⟩:=hq;exact⟨_,_,ha.sub hs,hy i w' hI⟩
  |_=>exact hq
theorem AHG(m:Nat){S R:Type}{ι:Type}{c:Code}(body:S->Option (S⊕R))(E:ι->A8)(st:ι->S)(I:ι->World->Prop)(i0:ι){x:R}(hx:B7 body (st i0)=some x)(h0:I i0 w)(hs:Sub (E i0++L.drop m) L)(round:∀i w,I i w->∀y,body (st i)=some y->(∀r,y=.inr r->r=x)->CW P N c ds (E i++L.drop m) w (fun ds' L' w'=>ds'=ds/\∃i',(I i' w'/\y=.inl (st i'))/\Sub (E i'++L.drop m) L') B X Z):CW P N (.loop c) ds L w A B X Z:=by
 obtain⟨n,hn⟩:=loopM_some.1 hx;refine AAc (ι:=ι×Nat) (fun p=>E p.1++L.drop m) (fun p w=>I p.1 w/\M4 body p.2 (st p.1)=some x) (fun p=>p.2) (i0,n) ⟨h0,hn⟩ hs fun p w hp=>?_;obtain⟨i,n⟩:=p;obtain⟨hI,hn⟩:=hp;cases n with
 |zero=>cases hn
 |succ n=>
  cases hb:body (st i) with
  |none=>simp[M4,hb]at hn
  |some y=>
   refine AEQ (round i w hI y hb fun r hr=>by subst hr;simpa[M4,hb] using hn) fun e a w' hq=>?_
   cases e with
   |normal=>
    obtain⟨ds',L',ha,rfl,i',⟨hI',hy⟩,hsub⟩:=hq
    refine⟨_,L',ha,rfl,(i',n),⟨hI',?_⟩,hsub,Abm n⟩
    subst hy
    simpa[M4,hb] using hn
   |_=>exact hq
end
section
variable{P:Program}{N:Nat}{ops:Array Oper}{q:Md}{rest:List Oper}{ds:List Deferred}{L:A8}{w:World}{A B:A5}{X:Nat->A5}{Z:List PanicEntry->A5}{d:Nat}{ty:TypeId}{pos:String}{af:Array Edge}
section arith
variable{t t':TypeId}{x y:Operand}{k:IntKind}{i j n:Int}(hx:ev L x=some (.int k i))(hy:ev L y=some (.int k j))(hN:blt d N=true)
include hx hy hN
theorem ACl(hn:n=i+j/\InK k n)(h:Reg P N ops q rest ds ((d,.int k n)::L) w A B X Z):Reg P N ops q (⟨some d,.binOp .add t x y t',ty,pos,af,none⟩::rest) ds L w A B X Z:=by
 obtain⟨rfl,hr⟩:=hn;exact AH5 hx hy hN hr h
theorem ASG(hn:n=i-j/\InK k n)(h:Reg P N ops q rest ds ((d,.int k n)::L) w A B X Z):Reg P N ops q (⟨some d,.binOp .sub t x y t',ty,pos,af,none⟩::rest) ds L w A B X Z:=by
 obtain⟨rfl,hr⟩:=hn;exact AN1 hx hy hN hr h
theorem AWY(hn:n=i*j/\InK k n)(h:Reg P N ops q rest ds ((d,.int k n)::L) w A B X Z):Reg P N ops q (⟨some d,.binOp .mul t x y t',ty,pos,af,none⟩::rest) ds L w A B X Z:=by
 obtain⟨rfl,hr⟩:=hn;exact AWL hx hy hN hr h
theorem AWZ(hn:0<=i/\0<j/\InK k i/\n=i / j)(h:Reg P N ops q rest ds ((d,.int k n)::L) w A B X Z):Reg P N ops q (⟨some d,.binOp .quo t x y t',ty,pos,af,none⟩::rest) ds L w A B X Z:=by
 obtain⟨h0,h1,hr,rfl⟩:=hn;exact AWM hx hy hN h0 h1 hr h
theorem AWa(hn:0<=i/\0<j/\n=i % j)(h:Reg P N ops q rest ds ((d,.int k n)::L) w A B X Z):Reg P N ops q (⟨some d,.binOp .rem t x y t',ty,pos,af,none⟩::rest) ds L w A B X Z:=by
 obtain⟨h0,h1,rfl⟩:=hn;exact AWN hx hy hN h0 h1 h
end arith
section
variable{t:TypeId}{x:Operand}{k:IntKind}{i:Int}{n:Int}
theorem AWb(hx:ev L x=some (.int k i))(hN:blt d N=true)(hn:n=-i/\InK k n)(h:Reg P N ops q rest ds ((d,.int k n)::L) w A B X Z):
  Reg P N ops q (⟨some d,.unOp .neg t x,ty,pos,af,none⟩::rest) ds L w A B X Z:=by
 obtain⟨rfl,hr⟩:=hn;exact AWO hx hN hr h
theorem AWc{s t:TypeId}{k k':IntKind}{du:TypeDesc}(hx:ev L x=some (.int k i))(hs:P.underlying s=some du)(ht:P.underlying t=some (.int k'))(hN:blt d N=true)(hn:n=i/\InK k' n)(h:Reg P N ops q rest ds ((d,.int k' n)::L) w A B X Z):Reg P N ops q (⟨some d,.convert s t x,ty,pos,af,none⟩::rest) ds L w A B X Z:=by
 obtain⟨rfl,hr⟩:=hn;exact AWP hx hs ht hN hr h
theorem AN5{α:Type}{E:Enc α}{M:List Nat}{t e:TypeId}{x y:Operand}{v:Value}{xs:List α}{z:α}(hx:ev L x=some v)(hy:ev L y=some (.int k i))(hv:RdS E M w v xs)(hi:ixo xs i=some z)(ht:P.underlying t=some (.slice e))(hs:∀w,(sizeOf e).run P w=.ok E.n w)(hN:blt d N=true)(h:∀b o cs,E.R M w cs z->RdC M w b o cs->Reg P N ops q rest ds ((d,.pointer (some ⟨b,o,none⟩))::L) w A B X Z):
  Reg P N ops q (⟨some d,.indexAddr t x y,ty,pos,af,none⟩::rest) ds L w A B X Z:=by
 obtain⟨h0,h1,hz⟩:=AAd hi
 refine AYg hx hy hv ⟨h0,h1⟩ ht hs hN fun b o cs y hy' hR hC=>?_
 rw[hz]at hy';cases hy'
 exact h b o cs hR hC
end
end
structure Res where
 fp:List Nat
 mu:List Nat
 holds:List Nat->World->Prop
 adv:∀{M M':List Nat} {w w':World},Adv M M' w w'->(∀b∈fp,w'.heap[b]?=w.heap[b]?)->holds M w->holds M' w'
 lt:∀{M:List Nat} {w:World},holds M w->∀b∈fp,b<w.heap.size
def mm:List Res->List Nat->List Nat
 |[],M=>M
 |r::σ,M=>r.fp++mm σ M
theorem mem_mm{σ:List Res}{M:List Nat}{b:Nat}:b∈mm σ M↔(∃r∈σ,b∈r.fp)\/b∈M:=by
 induction σ with
 |nil=>simp[mm]
 |cons r σ ih=>simp[mm,ih,or_assoc]
class Fx where
 ob:Nat->Option Obj
instance (priority:=50) fx0:Fx:=⟨fun _=>none⟩
structure Hp[Fx](w0:World)(Mu M:List Nat)(σ:List Res)(w:World):Prop where
 kp:Kp Mu w0 w
 mlt:MLt (mm σ M) w
 adv:Adv (Mu++M) (mm σ M) w0 w
 base:∀b∈M,b<w0.heap.size\/∃o,Fx.ob b=some o
 sepM:∀r∈σ,∀b∈r.fp,b∉M
 own:∀r∈σ,(∀b∈r.mu,b∈Mu)/\∀b∈r.fp,b∈r.mu\/w0.heap.size<=b
 dis:∀(i j:Nat) (r r':Res),σ[i]?=some r->σ[j]?=some r'->i≠j->∀b∈r.fp,b∉r'.fp
 all:∀r∈σ,r.holds (mm σ M) w
 fx:∀b o,Fx.ob b=some o->b∈M/\w.heap[b]?=some o
section
variable{w0 w w':World}{Mu M:List Nat}{σ:List Res}
section
variable{b:Nat}{i:Nat}{σ':List Res}
theorem Hp.ltM[Fx](h:Hp w0 Mu M σ w)(hb:b∈M):b<w.heap.size:=h.mlt b (mem_mm.2 (.inr hb))
theorem Hp.base0(h:@Hp _ fx0 w0 Mu M σ w):MLt M w0:=fun b hb=>(h.base b hb).elim id fun⟨_,h⟩=>by cases h
theorem Hp.start(hM:MLt M w):@Hp _ fx0 w Mu M [] w:=⟨Kp.refl _ _,hM,Adv.drop (fun _ hb=>AaS _ hb),fun b hb=>.inl (hM b hb),(fun _ h=>by cases h),(fun _ h=>by cases h),(fun _ _ _ _ h=>by simp at h),(fun _ h=>by cases h),fun _ _ h=>by cases h⟩
theorem Hp.ext[Fx](h:Hp w0 Mu M σ w)(e:Ext w w'):Hp w0 Mu M σ w':=
 ⟨h.kp.trans e.kp,h.mlt.ext e,h.adv.trans (Adv.of_ext e),h.base,h.sepM,h.own,h.dis,(fun r hr=>Res.adv r (Adv.of_ext e) (fun b hb=>e.block b (r.lt (h.all r hr) b hb) (by simp)) (h.all r hr)),fun b o hb=>⟨(h.fx b o hb).1,(e.block b (h.ltM (h.fx b o hb).1) (by simp)).trans (h.fx b o hb).2⟩⟩
theorem Hp.get[Fx](h:Hp w0 Mu M σ w)(i:Nat){r:Res}(hi:σ[i]?=some r):r.holds (mm σ M) w:=h.all r (AaP hi)
theorem Hp.addA[Fx]{r:Res}(h:Hp w0 Mu M σ w)(e:Ext w w')(hn:∀b∈r.fp,w.heap.size<=b/\b<w'.heap.size):Adv (mm σ M) (mm (r::σ) M) w w':=
 ⟨e.kp,fun b hb=>(mem_append.1 hb).elim (fun h=>.inr (hn b h).1) .inl⟩
theorem Hp.add[Fx]{r:Res}(h:Hp w0 Mu M σ w)(e:Ext w w')(hn:∀b∈r.fp,w.heap.size<=b/\b<w'.heap.size)(hm:r.mu=[])(hh:r.holds (mm (r::σ) M) w'):Hp w0 Mu M (r::σ) w':=by
 have hA:=h.addA e hn;have h':=h.ext e;refine⟨h'.kp,fun b hb=>?_,h.adv.trans hA,h.base,fun s hs b hb hbm=>?_,fun s hs=>?_,fun i j s s' hi hj hne b hb hb'=>?_,fun s hs=>?_,h'.fx⟩
 . exact(mem_append.1 hb).elim (fun h=>(hn b h).2) (h'.mlt b)
 . rcases mem_cons.1 hs with rfl|hs
   . have:=(hn b hb).1;have:=h.ltM hbm;omega
   . exact h.sepM s hs b hb hbm
 . rcases mem_cons.1 hs with rfl|hs
   . exact⟨(by rw[hm];intro b hb;cases hb),fun b hb=>.inr (Aad h.kp.size (hn b hb).1)⟩
   . exact h.own s hs
 . cases i with
   |zero=>
    simp at hi;subst hi
    cases j with
    |zero=>exact hne rfl
    |succ j=>
     have:=s'.lt (h.all s' (AaP hj)) b hb'
     have:=(hn b hb).1
     omega
   |succ i=>
    cases j with
    |zero=>
     simp at hj;subst hj
     have:=s.lt (h.all s (AaP hi)) b hb
     have:=(hn b hb').1
     omega
    |succ j=>exact h.dis i j s s' hi hj (by omega) b hb hb'
 . rcases mem_cons.1 hs with rfl|hs
   . exact hh
   . exact s.adv hA (fun b hb=>e.block b (s.lt (h.all s hs) b hb) (by simp)) (h.all s hs)
theorem AKs{r:Res}(hb:b∈mm (σ.set i r) M):b∈r.fp\/b∈mm σ M:=by
 rcases mem_mm.1 hb with⟨s,hs,hb'⟩|hb
 . rcases Abk hs with hs|rfl
   . exact .inr (mem_mm.2 (.inl ⟨s,hs,hb'⟩))
   . exact .inl hb'
 . exact .inr (mem_mm.2 (.inr hb))
theorem Hp.updA[Fx]{r r':Res}(h:Hp w0 Mu M σ w)(i:Nat)(hi:σ[i]?=some r)(hk:Kp r.fp w w')(hn:∀b∈r'.fp,b∈r.fp\/w.heap.size<=b):Adv (mm σ M) (mm (σ.set i r') M) w w':=by
 have hin:∀b∈r.fp,b∈mm σ M:=fun b hb=>mem_mm.2 (.inl ⟨r,AaP hi,hb⟩);exact⟨hk.mono fun b hb=>.inl (hin b hb),fun b hb=>(AKs hb).elim (fun h1=>(hn b h1).elim (fun h2=>.inl (hin b h2)) .inr) .inl⟩
theorem APL{r:Res}(hi:σ[i]?=some r)(hb:b∈mm σ M):b∈r.fp\/b∈mm (σ.eraseIdx i) M:=by
 rcases mem_mm.1 hb with⟨s,hs,hb⟩|hb
 . obtain⟨j,hj⟩:=Aar hs;by_cases hji:j=i
   . subst hji;rw[hi]at hj;cases hj;exact .inl hb
   . refine .inr (mem_mm.2 (.inl ⟨s,?_,hb⟩));rcases Aag j i with h1|h1
     . exact AaP (i:=j) (by rw[Abu,Aac h1];exact hj)
     . exact AaP (i:=j-1) (by rw[Abu,if_neg (by omega),show j-1+1=j by omega];exact hj)
 . exact .inr (mem_mm.2 (.inr hb))
theorem AMw{r r':Res}(hi:σ[i]?=some r)(hb:b∈mm (σ.set i r') M):b∈r'.fp\/b∈mm (σ.eraseIdx i) M:=by
 have hil:i<σ.length:=by
  rcases Aag i σ.length with h1|h1
  . exact h1
  . rw[Aaa h1]at hi;cases hi
 have h1:(σ.set i r')[i]?=some r':=by simp[hil]
 rcases APL h1 hb with h2|h2
 . exact .inl h2
 . rw[List.eraseIdx_set_eq]at h2;exact .inr h2
theorem Hp.upd2[Fx]{r r':Res}(h:Hp w0 Mu M σ w)(i:Nat)(hi:σ[i]?=some r)(hk:Kp r.fp w w')(hn:∀b∈r'.fp,b∈r.fp\/w.heap.size<=b)(hm:r'.mu=r.mu)(hh:∀M',(∀b∈M',b∈r'.fp\/b∈mm (σ.eraseIdx i) M)->r'.holds M' w'):Hp w0 Mu M (σ.set i r') w':=by
 have hA:=h.updA i hi hk hn;have hr:=AaP hi;have hown:=h.own r hr;have hh':=hh (mm (σ.set i r') M) fun b hb=>AMw hi hb;have hil:i<σ.length:=by
  rcases Aag i σ.length with h1|h1
  . exact h1
  . rw[Aaa h1]at hi;cases hi
 have hfp:∀b∈r'.fp,b∈r.fp\/w.heap.size<=b:=hn;have hoth:∀j s,σ[j]?=some s->j≠i->∀b∈s.fp,b∉r'.fp/\w'.heap[b]?=w.heap[b]?:=fun j s hj hne b hb=>by
  have hlt:=s.lt (h.all s (AaP hj)) b hb;have hnr:=h.dis j i s r hj hi hne b hb;exact⟨fun hb'=>(hfp b hb').elim hnr (fun h=>by omega),hk.block b hlt hnr⟩
 have hset:∀j s,(σ.set i r')[j]?=some s->(j=i/\s=r')\/(j≠i/\σ[j]?=some s):=fun j s hj=>by
  rw[Abv]at hj;split at hj
  . rename_i e;simp at hj;exact .inl ⟨e.symm,hj.symm⟩
  . rename_i e;exact .inr ⟨fun h=>e h.symm,hj⟩
 refine⟨h.kp.tail hk fun b hb=>(hown.2 b hb).elim (fun h1=>.inl (hown.1 b h1)) .inr,fun b hb=>?_,h.adv.trans hA,h.base,fun s hs b hb hbm=>?_,fun s hs=>?_,fun j k s s' hj hk' hne b hb hb'=>?_,fun s hs=>?_,fun b o hb=>⟨(h.fx b o hb).1,(hk.block b (h.ltM (h.fx b o hb).1) fun hm=>h.sepM r hr b hm (h.fx b o hb).1).trans (h.fx b o hb).2⟩⟩
 . rcases AKs hb with h1|h1
   . exact r'.lt hh' b h1
   . exact Aah (h.mlt b h1) hk.size
 . rcases Abk hs with hs|rfl
   . exact h.sepM s hs b hb hbm
   . rcases hfp b hb with h1|h1
     . exact h.sepM r hr b h1 hbm
     . have:=h.ltM hbm;omega
 . rcases Abk hs with hs|rfl
   . exact h.own s hs
   . refine⟨by rw[hm];exact hown.1,fun b hb=>?_⟩;rcases hfp b hb with h1|h1
     . rw[hm];exact hown.2 b h1
     . exact .inr (Aad h.kp.size h1)
 . rcases hset j s hj with⟨rfl,rfl⟩|⟨h1,h1'⟩
   . rcases hset k s' hk' with⟨rfl,rfl⟩|⟨h2,h2'⟩
     . exact hne rfl
     . exact(hoth k s' h2' h2 b hb').1 hb
   . rcases hset k s' hk' with⟨rfl,rfl⟩|⟨h2,h2'⟩
     . exact(hoth j s h1' h1 b hb).1 hb'
     . exact h.dis j k s s' h1' h2' hne b hb hb'
 . obtain⟨j,hj⟩:=Aar hs;rcases hset j s hj with⟨rfl,rfl⟩|⟨h1,h1'⟩
   . exact hh'
   . exact s.adv hA (fun b hb=>(hoth j s h1' h1 b hb).2) (h.all s (AaP h1'))
theorem Hp.upd[Fx]{r r':Res}(h:Hp w0 Mu M σ w)(i:Nat)(hi:σ[i]?=some r)(hk:Kp r.fp w w')(hn:∀b∈r'.fp,b∈r.fp\/w.heap.size<=b)(hm:r'.mu=r.mu)(hh:∀M',(∀b∈M',b∈r'.fp\/b∈mm σ M)->r'.holds M' w'):Hp w0 Mu M (σ.set i r') w':=
 h.upd2 i hi hk hn hm fun M' hM'=>hh M' fun b hb=>(hM' b hb).elim .inl fun h1=>.inr (mem_mm.2 ((mem_mm.1 h1).elim (fun⟨s,hs,hb⟩=>.inl ⟨s,(Aal σ i).subset hs,hb⟩) .inr))
theorem AAQ(hs:σ'.Sublist σ)(hb:b∈mm σ' M):b∈mm σ M:=by
 rcases mem_mm.1 hb with⟨s,h,hb⟩|hb
 . exact mem_mm.2 (.inl ⟨s,hs.subset h,hb⟩)
 . exact mem_mm.2 (.inr hb)
theorem AI3(hs:σ'.Sublist σ):Adv (mm σ M) (mm σ' M) w w:=Adv.drop fun _ hb=>AAQ hs hb
theorem ASs{Q:Res->Res->Prop}{σ σ':List Res}(hs:σ'.Sublist σ)(h:σ.Pairwise Q):σ'.Pairwise Q:=h.sublist hs
theorem pair_iff{σ:List Res}:(∀(i j:Nat) (r r':Res),σ[i]?=some r->σ[j]?=some r'->i≠j->∀b∈r.fp,b∉r'.fp)↔σ.Pairwise fun (r r':Res)=>∀b∈r.fp,b∉r'.fp:=by
 rw[AbQ];constructor
 . intro h i j hi hj hlt;exact h i j _ _ (AaV hi) (AaV hj) (by omega)
 . intro h i j r r' hi hj hne b hb hb';have gi:i<σ.length:=by rcases Aag i σ.length with h1|h1;exact h1;rw[Aaa h1]at hi;cases hi
   have gj:j<σ.length:=by rcases Aag j σ.length with h1|h1;exact h1;rw[Aaa h1]at hj;cases hj
   rw[AaV gi]at hi;rw[AaV gj]at hj;cases hi;cases hj
   rcases Nat.lt_or_gt_of_ne hne with h1|h1
   . exact h i j gi gj h1 b hb hb'
   . exact h j i gj gi h1 b hb' hb
theorem Hp.sub[Fx](hs:σ'.Sublist σ)(h:Hp w0 Mu M σ w):Hp w0 Mu M σ' w:=
 ⟨h.kp,fun b hb=>h.mlt b (AAQ hs hb),h.adv.trans (AI3 hs),h.base,fun r hr=>h.sepM r (hs.subset hr),fun r hr=>h.own r (hs.subset hr),pair_iff.2 (ASs hs (pair_iff.1 h.dis)),(fun r hr=>
  r.adv (AI3 hs) (fun _ _=>rfl) (h.all r (hs.subset hr))),h.fx⟩
theorem Hp.erase[Fx](k:Nat)(h:Hp w0 Mu M σ w):Hp w0 Mu M (σ.eraseIdx k) w:=h.sub (Aal σ k)
theorem E3(k:Nat):Adv (mm σ M) (mm (σ.eraseIdx k) M) w w:=AI3 (Aal σ k)
theorem Hp.eraseH[Fx](_:Hp w0 Mu M σ w)(k:Nat):Adv (mm σ M) (mm (σ.eraseIdx k) M) w w:=E3 k
theorem Hp.apart[Fx](h:Hp w0 Mu M σ w)(i:Nat){r:Res}(hi:σ[i]?=some r):∀b∈r.fp,b∉mm (σ.eraseIdx i) M:=fun b hb hb'=>by
 rcases mem_mm.1 hb' with⟨s,hs,hb'⟩|hb'
 . obtain⟨j,hj⟩:=Aar hs;rw[Abu]at hj;split at hj
   . exact h.dis i j r s hi hj (by omega) b hb hb'
   . exact h.dis i (j+1) r s hi hj (by omega) b hb hb'
 . exact h.sepM r (AaP hi) b hb hb'
end
end
def rowR(e:TypeId)(b:Nat)(cs:List Value):Res where
 fp:=[b]
 mu:=[]
 holds:=fun _ w=>Row e w b cs
 adv:=fun _ hb h=>by
  have:=hb b (by simp);exact this.trans h
 lt:=fun h x hx=>by
  have:x=b:=by simpa using hx
  subst this;exact h.rd.lt
section
variable{α:Type}{E:Enc α}{e:TypeId}{Bb:Nat}{M:List Nat}{M':List Nat}{w:World}{v:Value}{xs:List α}
theorem AQk{w w':World}(ha:Adv M M' w w')(hb:∀b∈ob v,w'.heap[b]?=w.heap[b]?)(h:Own E e Bb M w v xs):Own E e Bb M' w' v xs:=by
 rcases h with h|⟨g,cap,cur,rfl,h1,h2,h3,h4,h5,h6⟩
 . exact .inl h
 . refine .inr ⟨g,cap,cur,rfl,h1,by rw[hb g (by simp[ob])];exact h2,h3,h4,h5,Chunks.adv ⟨ha.kp.mono fun x hx=>.inl (AaQ _ hx),fun b hb'=>?_⟩ h6⟩;rcases mem_cons.1 hb' with rfl|h
   . exact .inl (AaT ..)
   . rcases ha.new b h with h|h
     . exact .inl (AaQ _ h)
     . exact .inr h
def ownR{α:Type}(mu:List Nat)(E:Enc α)(e:TypeId)(v:Value)(xs:List α):Res where
 fp:=ob v
 mu:=mu
 holds:=fun M w=>Own E e 0 M w v xs
 adv:=AQk
 lt:=fun h b hb=>(h.ge b hb).2
theorem Own.mon(h:Own E e Bb M w v xs)(hM:∀b∈M',b∈ob v\/b∈M):Own E e Bb M' w v xs:=by
 rcases h with h|⟨g,cap,cur,rfl,h1,h2,h3,h4,h5,h6⟩
 . exact .inl h
 . refine .inr ⟨g,cap,cur,rfl,h1,h2,h3,h4,h5,Chunks.adv (Adv.drop fun b hb=>?_) h6⟩;rcases mem_cons.1 hb with rfl|hb
   . exact AaT ..
   . rcases hM b hb with hb|hb
     . have:b=g:=by simpa[ob] using hb
       subst this;exact AaT ..
     . exact AaQ _ hb
end
section
variable{w0 w:World}{Mu M:List Nat}{σ:List Res}
section
variable{e:TypeId}{b:Nat}{cs:List Value}{α:Type}{mu:List Nat}{E:Enc α}{v:Value}{xs:List α}
theorem Hp.row[Fx](h:Hp w0 Mu M σ w)(i:Nat)(hi:σ[i]?=some (rowR e b cs)):Row e w b cs:=h.get i hi
theorem Hp.ownAt[Fx](h:Hp w0 Mu M σ w)(i:Nat)(hi:σ[i]?=some (ownR mu E e v xs)):Own E e 0 (mm σ M) w v xs:=h.get i hi
theorem Hp.ownSub[Fx](h:Hp w0 Mu M σ w)(i:Nat)(hi:σ[i]?=some (ownR mu E e v xs)):∀b∈ob v,b∈mm σ M:=fun b hb=>mem_mm.2 (.inl ⟨_,AaP hi,hb⟩)
theorem Hp.freeze[Fx](h:Hp w0 Mu M σ w)(i:Nat)(hi:σ[i]?=some (ownR mu E e v xs)):RdS E (mm (σ.eraseIdx i) M) w v xs:=
 ((h.ownAt i hi).mon fun b hb=>.inr (AAQ (Aal σ i) hb)).rd fun b hb=>h.apart i hi b hb
theorem Hp.freezeRow[Fx](h:Hp w0 Mu M σ w)(i:Nat)(hi:σ[i]?=some (rowR e b cs)):RdC (mm (σ.eraseIdx i) M) w b 0 cs:=
 G5 (h.apart i hi b (by simp[rowR])) (h.row i hi)
end
end
def AKt:List Res->Nat->Option Res
 |[],_=>none
 |r::_,0=>some r
 |_::σ,n+1=>AKt σ n
theorem nthR_eq:∀(σ:List Res) (i:Nat),AKt σ i=σ[i]?
 |[],_=>rfl
 |_::_,0=>rfl
 |_::σ,n+1=>nthR_eq σ n
def sel(σ:List Res):List Nat->List Res
 |[]=>[]
 |i::r=>match AKt σ i with
  |some x=>x::sel σ r
  |none=>sel σ r
theorem Z6{σ:List Res}{x:Res}:∀{l:List Nat},x∈sel σ l->∃i∈l,σ[i]?=some x
 |[],h=>by cases h
 |i::r,h=>by
  simp only[sel]at h;split at h
  . rename_i y hy;rw[nthR_eq]at hy;rcases mem_cons.1 h with rfl|h
    . exact⟨i,by simp,hy⟩
    . obtain⟨j,hj,hx⟩:=Z6 h;exact⟨j,by simp[hj],hx⟩
  . obtain⟨j,hj,hx⟩:=Z6 h;exact⟨j,by simp[hj],hx⟩
def ACF:List Nat->Bool
 |[]=>true
 |i::r=>!r.contains i&&ACF r
theorem AHH{σ:List Res}{Q:Res->Res->Prop}(h:∀(i j:Nat) (r r':Res),σ[i]?=some r->σ[j]?=some r'->i≠j->Q r r'):∀{l:List Nat},ACF l=true->(sel σ l).Pairwise Q
 |[],_=>List.Pairwise.nil
 |i::r,hn=>by
  simp only[ACF,Bool.and_eq_true,Bool.not_eq_true',List.contains_eq_mem,decide_eq_false_iff_not]at hn;simp only[sel];split
  . rename_i y hy;rw[nthR_eq]at hy;refine List.Pairwise.cons (fun x hx=>?_) (AHH h hn.2);obtain⟨j,hj,hx⟩:=Z6 hx;exact h i j y x hy hx (fun e=>hn.1 (e▸hj))
  . exact AHH h hn.2
section
variable{w0 w:World}{Mu M:List Nat}{σ:List Res}
theorem AES{l:List Nat}{b:Nat}(hb:b∈mm (sel σ l) M):b∈mm σ M:=by
 rcases mem_mm.1 hb with⟨s,h,hb⟩|hb
 . obtain⟨i,_,hi⟩:=Z6 h;exact mem_mm.2 (.inl ⟨s,AaP hi,hb⟩)
 . exact mem_mm.2 (.inr hb)
theorem ABP(l:List Nat):Adv (mm σ M) (mm (sel σ l) M) w w:=Adv.drop fun _ hb=>AES hb
theorem Hp.sel[Fx](h:Hp w0 Mu M σ w)(l:List Nat)(hl:ACF l=true):Hp w0 Mu M (sel σ l) w:=
 ⟨h.kp,fun b hb=>h.mlt b (AES hb),h.adv.trans (ABP l),h.base,fun r hr=>h.sepM r (by obtain⟨i,_,hi⟩:=Z6 hr;exact AaP hi),fun r hr=>h.own r (by obtain⟨i,_,hi⟩:=Z6 hr;exact AaP hi),
  pair_iff.2 (AHH h.dis hl),(fun r hr=>r.adv (ABP l) (fun _ _=>rfl) (h.all r (by obtain⟨i,_,hi⟩:=Z6 hr;exact AaP hi))),h.fx⟩
theorem Hp.lendRd[Fx](h:Hp w0 Mu M σ w)(l:List Nat)(i:Nat){α:Type}{mu:List Nat}{E:Enc α}{e:TypeId}{v:Value}{xs:List α}(hl:l.contains i=false)(hi:σ[i]?=some (ownR mu E e v xs)):RdS E (mm (Sx.sel σ l) M) w v xs:=
 ((h.ownAt i hi).mon fun b hb=>.inr (AES hb)).rd fun b hb hb'=>by
  rcases mem_mm.1 hb' with⟨s,hs,hb'⟩|hb'
  . obtain⟨j,hj,hs⟩:=Z6 hs;refine h.dis i j _ s hi hs (fun e=>?_) b hb hb';subst e;simp at hl;exact hl hj
  . exact h.sepM _ (AaP hi) b hb hb'
theorem ACm{α:Type}(E:Enc α)(e:TypeId):Adv (mm σ M) (mm (ownR [] E e (.slice none 0 0) []::σ) M) w w:=⟨Kp.refl _ _,fun _ hb=>.inl hb⟩
theorem Hp.addNilH[Fx]{α:Type}(_:Hp w0 Mu M σ w)(E:Enc α)(e:TypeId):Adv (mm σ M) (mm (ownR [] E e (.slice none 0 0) []::σ) M) w w:=ACm E e
theorem Hp.addNil[Fx]{α:Type}(h:Hp w0 Mu M σ w)(E:Enc α)(e:TypeId):Hp w0 Mu M (ownR [] E e (.slice none 0 0) []::σ) w:=
 h.add (Kp.refl _ _) (fun _ hb=>by cases hb) rfl (Own.nil _ _ _ _ _)
end
section
variable{P:Program}{N:Nat}{ops:Array Oper}{q:Md}{rest:List Oper}{ds:List Deferred}{L:A8}{w w0:World}{A B:A5}{X:Nat->A5}{Z:List PanicEntry->A5}{d:Nat}{ty:TypeId}{pos:String}{af:Array Edge}{Mu M:List Nat}{σ:List Res}
section
variable{e:TypeId}{x:Operand}{v:Value}{cs:List Value}{y:Operand}{n:Nat}{vs:List Value}{α:Type}{E:Enc α}{xs:List α}
theorem R7[Fx](hI:Hp w0 Mu M σ w)(hx:ev L x=some v)(hc:v.cells=cs.toArray)(hN:blt d N=true)(h:∀b w',Hp w0 Mu M (rowR e b cs::σ) w'->Adv (mm σ M) (mm (rowR e b cs::σ) M) w w'->Reg P N ops .seq rest ds ((d,.pointer (some ⟨b,0,none⟩))::L) w' A B X Z):
  Reg P N ops .seq (⟨some d,.box e x,ty,pos,af,none⟩::rest) ds L w A B X Z:=
 AWQ hx hc hN fun b w' hb hx' hlt hW=>by
  have hn:∀x∈(rowR e b cs).fp,w.heap.size<=x/\x<w'.heap.size:=fun x hx=>by
   have:x=b:=by simpa[rowR] using hx
   omega
  exact h b w' (hI.add hx' hn rfl hW) (hI.addA hx' hn)
theorem P5[Fx]{z:Value}(hI:Hp w0 Mu M σ w)(hz:∀w,(zeroValue e).run P w=.ok z w)(hc:z.cells=cs.toArray)(hN:blt d N=true)(h:∀b w',Hp w0 Mu M (rowR e b cs::σ) w'->Adv (mm σ M) (mm (rowR e b cs::σ) M) w w'->Reg P N ops .seq rest ds ((d,.pointer (some ⟨b,0,none⟩))::L) w' A B X Z):
  Reg P N ops .seq (⟨some d,.alloc e,ty,pos,af,none⟩::rest) ds L w A B X Z:=
 AUI hz hc hN fun b w' hb hx' hlt hW=>by
  have hn:∀x∈(rowR e b cs).fp,w.heap.size<=x/\x<w'.heap.size:=fun x hx=>by
   have:x=b:=by simpa[rowR] using hx
   omega
  exact h b w' (hI.add hx' hn rfl hW) (hI.addA hx' hn)
theorem N2[Fx](i:Nat){e t:TypeId}{b o n:Nat}(hI:Hp w0 Mu M σ w)(hi:σ[i]?=some (rowR e b cs))(hx:ev L x=some (.pointer (some ⟨b,o,none⟩)))(hy:ev L y=some v)(hv:v.cells=vs.toArray)(hz:∀w,(sizeOf t).run P w=.ok n w)(hn:vs.length=n)(hl:Nat.ble (o+vs.length) cs.length=true)(h1:∀u∈vs,u.oneCell'=true)(h:∀w',Hp w0 Mu M (σ.set i (rowR e b (B6 cs o vs))) w'->Adv (mm σ M) (mm (σ.set i (rowR e b (B6 cs o vs))) M) w w'->Reg P N ops .seq rest ds L w' A B X Z):
  Reg P N ops .seq (⟨none,.store t x y,ty,pos,af,none⟩::rest) ds L w A B X Z:=
 AN4 hx hy hv (hI.row i hi) hz hn hl h1 fun w' hW hk=>
  h w' (hI.upd i hi hk (fun b hb=>.inl hb) rfl fun _ _=>hW) (hI.updA (r':=rowR e b (B6 cs o vs)) i hi hk fun b hb=>.inl hb)
theorem ADn[Fx](i:Nat){t e bytes:Nat}(T:SlT P t e E.n bytes){mu:List Nat}{v x:Value}{xs ys:List α}{s y:Operand}(hI:Hp w0 Mu M σ w)(hi:σ[i]?=some (ownR mu E e v xs))(hs:ev L s=some v)(hy:ev L y=some x)(hx:RdS E (mm σ M) w x ys)(hlen:(xs.length+ys.length)*bytes<=140737488355328/\xs.length+ys.length<=140737488355328)(hN:blt d N=true)(h:∀v' w',Hp w0 Mu M (σ.set i (ownR mu E e v' (xs++ys))) w'->Adv (mm σ M) (mm (σ.set i (ownR mu E e v' (xs++ys))) M) w w'->Reg P N ops .seq rest ds ((d,v')::L) w' A B X Z):
  Reg P N ops .seq (⟨some d,.call ⟨.builtin .append,#[s,y],#[t,t]⟩,ty,pos,af,none⟩::rest) ds L w A B X Z:=by
 have hsub:=hI.ownSub i hi
 refine AWR T (Bb:=0) (M:=mm σ M) hs hy (hI.ownAt i hi) (hx.adv (Adv.drop fun b hb=>(mem_append.1 hb).elim (hsub b) id)) (Aas _) hlen hN fun v' w' ho hk ha hn=>?_
 refine h v' w' (hI.upd i hi hk hn rfl fun M' hM'=>ho.mon hM') (hI.updA (r':=ownR mu E e v' (xs++ys)) i hi hk hn)
theorem AEC[Fx]{t e bytes:Nat}(T:SlT P t e E.n bytes){parts:List (Nat×Operand)}{css:List (List Value)}(hI:Hp w0 Mu M σ w)(hi:parts.map (·.1)=List.range n)(hvs:evs L (parts.map (·.2))=some vs)(hc:Cls vs css)(hx:Chs E (mm σ M) w css xs)(hn:Nat.ble (n*E.n) 16777216=true)(hN:blt d N=true)(h:∀v' w',Hp w0 Mu M (ownR [] E e v' xs::σ) w'->Adv (mm σ M) (mm (ownR [] E e v' xs::σ) M) w w'->Reg P N ops .seq rest ds ((d,v')::L) w' A B X Z):
  Reg P N ops .seq (⟨some d,.buildSlice t n parts.toArray,ty,pos,af,none⟩::rest) ds L w A B X Z:=
 AYh T (Bb:=0) (M:=mm σ M) hi hvs hc hx hI.mlt (Aas _) hn hN fun v' w' hx' ho hr hnew=>by
  have hn':∀b∈(ownR [] E e v' xs).fp,w.heap.size<=b/\b<w'.heap.size:=fun b hb=>⟨hnew b hb,(ho.ge b hb).2⟩;exact h v' w' (hI.add hx' hn' rfl (ho.mon fun b hb=>(mem_append.1 hb).elim .inl .inr)) (hI.addA hx' hn')
end
end
section
variable{k:IntKind}{x:Int}{y:Int}{z:Int}{α:Type}{E:Enc α}{e:TypeId}{Bb:Nat}{M:List Nat}{w:World}{v:Value}{xs:List α}
theorem ASt(h:AKm k x y=some z):InK k z:=by
 obtain⟨h0,h1,hr,rfl⟩:=AKn h;have h2:x / y<=x:=Int.ediv_le_self _ h0;have h3:0<=x / y:=Int.ediv_nonneg h0 (by omega);have h4:k.min<=0:=by cases k<;>simp[IntKind.min,IntKind.signed,IntKind.bits]
 exact⟨by omega,by have:=hr.2;omega⟩
theorem ASu(h:AKo x y=some z)(hx:InK k x):InK k z:=by
 obtain⟨h0,h1,rfl⟩:=AKp h;have h2:x % y<=x:=by
  rcases Int.lt_or_le x y with hl|hl
  . rw[Int.emod_eq_of_lt h0 hl];exact Int.le_refl _
  . have:=Int.emod_lt_of_pos x h1;omega
 have h3:0<=x % y:=Int.emod_nonneg _ (by omega);have h4:k.min<=0:=by cases k<;>simp[IntKind.min,IntKind.signed,IntKind.bits]
 exact⟨by omega,by have:=hx.2;omega⟩
theorem AKu(hx:InK k x)(hy:InK k y):InK k (min x y):=by
 unfold InK at *;omega
theorem AKv(hx:InK k x)(hy:InK k y):InK k (max x y):=by
 unfold InK at *;omega
theorem Own.oneC(h:Own E e Bb M w v xs):v.oneCell'=true:=by
 obtain⟨a,c,rfl,_⟩:=h.shape;rfl
theorem Own.cells1(h:Own E e Bb M w v xs):v.cells=[v].toArray:=by
 obtain⟨a,c,rfl,_⟩:=h.shape;rfl
end
section
variable{w0 w w':World}{Mu M:List Nat}{σ:List Res}
section
variable{α:Type}{E:Enc α}{v:Value}{xs:List α}
theorem AKw:Adv (mm σ M) M w w:=Adv.drop fun _ hb=>mem_mm.2 (.inr hb)
theorem Hp.baseH[Fx](_:Hp w0 Mu M σ w):Adv (mm σ M) M w w:=AKw
theorem Hp.ownOut[Fx](h:Hp w0 Mu M σ w)(i:Nat){e:TypeId}(hi:σ[i]?=some (ownR [] E e v xs)):Own E e 0 M w v xs/\∀b∈ob v,w0.heap.size<=b:=
 ⟨(h.ownAt i hi).mon fun _ hb=>.inr (mem_mm.2 (.inr hb)),fun b hb=>((h.own _ (AaP hi)).2 b hb).elim (fun h=>by cases h) id⟩
theorem Hp.addOwn[Fx](h:Hp w0 Mu M σ w)(e:Ext w w'){t:TypeId}(ho:Own E t 0 (mm σ M) w' v xs/\∀b∈ob v,w.heap.size<=b):Hp w0 Mu M (ownR [] E t v xs::σ) w':=
 h.add e (fun b hb=>⟨ho.2 b hb,(ho.1.ge b hb).2⟩) rfl (ho.1.mon fun _ hb=>(mem_append.1 hb).elim .inl .inr)
theorem Hp.addLit[Fx](h:Hp w0 Mu M σ w)(E:Enc α)(t:TypeId)(k:AQj v):Hp w0 Mu M (ownR [] E t v []::σ) w:=by
 obtain⟨a,rfl⟩:=k;exact h.add (Kp.refl _ _) (fun b hb=>by simp only[ownR,AI0]at hb;cases hb) rfl (AQi _ _ _ _ _ _)
theorem AN6(E:Enc α)(t:TypeId)(k:AQj v):Adv (mm σ M) (mm (ownR [] E t v []::σ) M) w w:=by
 obtain⟨a,rfl⟩:=k;exact⟨Kp.refl _ _,fun b hb=>by
  rcases mem_append.1 hb with h|h
  . simp only[ownR,AI0]at h;cases h
  . exact .inl h⟩
theorem AZ6(σ τ:List Res):mm σ (mm τ M)=mm (σ++τ) M:=by
 induction σ with
 |nil=>rfl
 |cons r σ ih=>simp only[mm,List.cons_append,ih]
end
end
inductive RsOk(P:Program)(L:A8)(w:World):ResultVar->Value->Prop
 |tmp {t:Nat} {v:Value} (h:A6 L t=some v):RsOk P L w (.tmp t) v
 |agg {t b o n:Nat} {e:TypeId} {cs:List Value} (h:A6 L t=some (.pointer (some ⟨b,o,none⟩))) (hc:Cells w b o cs) (he:∀w,(isAgg e).run P w=.ok true w) (hn:cs.length=n) (hz:∀w,(sizeOf e).run P w=.ok n w):RsOk P L w (.cell t e) (.agg cs.toArray)
 |one {t:Nat} {p:Addr} {e:TypeId} {v:Value} (h:A6 L t=some (.pointer (some p))) (hc:w.cell? p=some v) (he:∀w,(isAgg e).run P w=.ok false w):RsOk P L w (.cell t e) v
inductive AllRs(P:Program)(L:A8)(w:World):List ResultVar->List Value->Prop
 |nil:AllRs P L w [] []
 |cons {r:ResultVar} {v:Value} {rs:List ResultVar} {vs:List Value} (h:RsOk P L w r v) (hr:AllRs P L w rs vs):AllRs P L w (r::rs) (v::vs)
def ADo:List Value->Value
 |[v]=>v
 |vs=>.tuple vs.toArray
def AH8(T:Array Value)(r:ResultVar):Sem Value:=match r with
 |.tmp t=>pure (T.getD t undef)
 |.cell x t=>do loadVar t (<-asAddr (T.getD x undef))
theorem RsOk.run{P:Program}{N:Nat}{ds:List Deferred}{L:A8}{w:World}{r:ResultVar}{v:Value}(h:RsOk P L w r v){a:Act}(ha:Knows N ds L a):(AH8 a.tmps r).run P w=.ok v w:=by
 cases h with
 |tmp h=>simp only[AH8];rw[ha.getD h];simp
 |agg h hc he hn hz=>
  rename_i t b o n e cs
  subst hn
  have hr:=run_loadCells_list (P:=P) w ⟨b,o,none⟩ cs (fun j v hj=>by rw[add_none];exact hc j v hj)
  simp only[AH8];rw[ha.getD h]
  simp[asAddr,loadVar,he,hz,hr]
 |one h hc he=>
  simp only[AH8];rw[ha.getD h]
  simp[asAddr,loadVar,he,hc]
theorem AN7(fn:Func)(T:Array Value):results fn T=(do let vs <-fn.results.mapM (AH8 T);pure (if h:vs.size=1 then vs[0] else .tuple vs)):=rfl
theorem H2{P:Program}{fn:Func}{R:Ending->World->Prop}{L:A8}{w:World}{rs:List ResultVar}{vs:List Value}(hr:fn.results=rs.toArray)(hv:AllRs P L w rs vs)(hl:Nat.ble vs.length 4=true)(h:R (.returned (ADo vs)) w):ABs P fn R [] L w:=by
 refine⟨rfl,ADo vs,fun a ha=>?_,h⟩;rw[AN7,hr];cases hv with
 |nil=>simp[ADo]
 |cons h1 t1=>
  have h1:=h1.run ha
  cases t1 with
  |nil=>simp[ADo,h1]
  |cons h2 t2=>
   have h2:=h2.run ha
   cases t2 with
   |nil=>simp[ADo,h1,h2]
   |cons h3 t3=>
    have h3:=h3.run ha
    cases t3 with
    |nil=>simp[ADo,h1,h2,h3]
    |cons h4 t4=>
     have h4:=h4.run ha
     cases t4 with
     |nil=>simp[ADo,h1,h2,h3,h4]
     |cons h5 t5=>simp at hl
section
variable{P:Program}{N:Nat}{ops:Array Oper}{q:Md}{rest:List Oper}{ds:List Deferred}{L:A8}{w w0:World}{A B:A5}{X:Nat->A5}{Z:List PanicEntry->A5}{d:Nat}{ty:TypeId}{pos:String}{af:Array Edge}
theorem ADA{x:Operand}{p:Addr}(hx:ev L x=some (.pointer (some p)))(hN:blt d N=true)(h:Reg P N ops q rest ds ((d,.pointer (some p))::L) w A B X Z):Reg P N ops q (⟨some d,.nilCheck x,ty,pos,af,none⟩::rest) ds L w A B X Z:=
 Reg.val _ rfl rfl hN (fun a ha w' _=>by simp[execOp,ha.eval hx]) h
theorem AUK{t e n:TypeId}{x:Operand}{a:Option Addr}{l c:Nat}{k k':IntKind}(hx:ev L x=some (.slice a l c))(ht:P.underlying t=some (.slice e))(hs:∀w,(sizeOf e).run P w=.ok n w)(hN:blt d N=true)(h:∀v',AQj v'->Reg P N ops q rest ds ((d,v')::L) w A B X Z):
  Reg P N ops q (⟨some d,.slice t x none (some (.const (.int k 0))) (some (.const (.int k' 0))),ty,pos,af,none⟩::rest) ds L w A B X Z:=by
 have ht':P.underlying t=some (.slice (P.elem t)):=by simp[Program.elem,ht]
 have he:P.elem t=e:=by simp[Program.elem,ht]
 refine Reg.val (.slice a 0 0) rfl rfl hN (fun a' ha w' _=>?_) (h _ ⟨a,rfl⟩)
 have hr:=run_slice_hm (P:=P) w' t a l c ht' k k' 0 0 (by omega) (by omega) (by omega)
 have h0:a'.eval (.const (.int k 0))=.int k 0:=rfl
 have h1:a'.eval (.const (.int k' 0))=.int k' 0:=rfl
 simp[execOp,ha.eval hx,h0,h1,run_sliceAt_slice w' t _ _ _ _ ht',hr,he,hs,sliced]
open Classical in
def AI4{α β:Type}(xs:List α)(f:Bool->Option β):Option β:=if xs=[] then(if f true=f false then f true else none) else f false
section
variable{α:Type}{β:Type}{xs:List α}{f:Bool->Option β}{b:Bool}{t:TypeId}{t':TypeId}{x:Operand}{y:Operand}{k:IntKind}{k':IntKind}{i:Int}{j:Int}{n:Int}{c:Bool}
theorem AKx{r:β}(h:AI4 xs f=some r)(hb:b=true->xs=[]):f b=some r:=by
 unfold AI4 at h;split at h
 . split at h
   . rename_i he;cases b with
     |true=>exact h
     |false=>rw[<-he];exact h
   . cases h
 . rename_i hx;cases b with
   |true=>exact absurd (hb rfl) hx
   |false=>exact h
theorem AJm{r:Option β}(h1:xs=[]->f true=r)(h2:f false=r):AI4 xs f=r:=by
 unfold AI4;split
 . rename_i hx;rw[h1 hx,h2];simp
 . exact h2
def AHI(x y:Int)(b:Nat):Option Int:=if 0<=y then some (x.fdiv (2 ^ min y.toNat b)) else none
def AHJ(k:IntKind)(x y:Int):Option Int:=if 0<=y then some (k.wrap (x*2 ^ min y.toNat k.bits)) else none
def AKy(k:IntKind)(x y:Int):Int:=k.wrap ((BitVec.ofInt k.bits x &&& BitVec.ofInt k.bits y).toNat:Int)
theorem AWd(hx:ev L x=some (.int k i))(hy:ev L y=some (.int k' j))(hN:blt d N=true)(hn:AHI i j k.bits=some n)(h:Reg P N ops q rest ds ((d,.int k n)::L) w A B X Z):Reg P N ops q (⟨some d,.binOp .shr t x y t',ty,pos,af,none⟩::rest) ds L w A B X Z:=by
 unfold AHI at hn;split at hn
 . rename_i hj;cases hn
   have hj':¬j<0:=by omega
   exact Reg.val _ rfl rfl hN (fun a ha w' _=>by simp[execOp,ha.eval hx,ha.eval hy,eqGuard_shr,binOp_shr,Op.shift,hj']) h
 . cases hn
theorem AWe(hx:ev L x=some (.int k i))(hy:ev L y=some (.int k' j))(hN:blt d N=true)(hn:AHJ k i j=some n)(h:Reg P N ops q rest ds ((d,.int k n)::L) w A B X Z):Reg P N ops q (⟨some d,.binOp .shl t x y t',ty,pos,af,none⟩::rest) ds L w A B X Z:=by
 unfold AHJ at hn;split at hn
 . rename_i hj;cases hn
   have hj':¬j<0:=by omega
   exact Reg.val _ rfl rfl hN (fun a ha w' _=>by simp[execOp,ha.eval hx,ha.eval hy,eqGuard_shl,binOp_shl,Op.shift,hj']) h
 . cases hn
theorem AWf(hx:ev L x=some (.int k i))(hy:ev L y=some (.int k j))(hN:blt d N=true)(h:Reg P N ops q rest ds ((d,.int k (AKy k i j))::L) w A B X Z):Reg P N ops q (⟨some d,.binOp .and t x y t',ty,pos,af,none⟩::rest) ds L w A B X Z:=
 Reg.val _ rfl rfl hN (fun a ha w' _=>by simp[execOp,ha.eval hx,ha.eval hy,eqGuard_and,binOp_and,Op.intBits,AKy]) h
theorem AKz(k:IntKind)(x:Int):InK k (k.wrap x):=by
 cases k<;>simp[InK,IntKind.min,IntKind.max,IntKind.signed,IntKind.bits,IntKind.wrap]<;>(try split)<;>omega
theorem andI_in{x y:Int}:InK k (AKy k x y):=AKz _ _
theorem ASv{x y n:Int}(h:AHJ k x y=some n):InK k n:=by
 unfold AHJ at h;split at h
 . cases h;exact AKz _ _
 . cases h
theorem ASw{x y n:Int}{b:Nat}(h:AHI x y b=some n)(hx:InK k x):InK k n:=by
 unfold AHI at h;split at h
 . cases h
   have hp:(0:Int)<2 ^ min y.toNat b:=Int.pow_pos (by omega);rw[Int.fdiv_eq_ediv_of_nonneg _ (by omega)];have hmin:k.min<=0:=by cases k<;>simp[IntKind.min,IntKind.signed,IntKind.bits]
   have hmax:0<=k.max:=by cases k<;>simp[IntKind.max,IntKind.signed,IntKind.bits]
   have h1:=hx.1;have h2:=hx.2;rcases Int.lt_or_le x 0 with hneg|hpos
   . have a1:x<=x / 2 ^ min y.toNat b:=by
      have:=Int.ediv_mul_le x (show(2:Int) ^ min y.toNat b≠0 by omega);have h3:x / 2 ^ min y.toNat b<0:=Int.ediv_neg_of_neg_of_pos hneg hp;have h4:=Int.lt_ediv_add_one_mul_self x hp;rcases Int.lt_or_le (x / 2 ^ min y.toNat b) x with hh|hh
      . exfalso;have h5:x / 2 ^ min y.toNat b+1<=x:=by omega
        have h6:(x / 2 ^ min y.toNat b+1)*2 ^ min y.toNat b<=x*2 ^ min y.toNat b:=Int.mul_le_mul_of_nonneg_right h5 (by omega);have h7:x*2 ^ min y.toNat b<=x*1:=Int.mul_le_mul_of_nonpos_left (by omega) (by omega);omega
      . exact hh
     have a2:x / 2 ^ min y.toNat b<0:=Int.ediv_neg_of_neg_of_pos hneg hp;exact⟨by omega,by omega⟩
   . have a1:=Int.ediv_le_self (2 ^ min y.toNat b) hpos;have a2:0<=x / 2 ^ min y.toNat b:=Int.ediv_nonneg hpos (by omega);exact⟨by omega,by omega⟩
 . cases h
theorem AWg(hx:ev L x=some (.bool b))(hy:ev L y=some (.bool c))(hN:blt d N=true)(ht:P.underlying t=some .bool)(h:Reg P N ops q rest ds ((d,.bool (b==c))::L) w A B X Z):Reg P N ops q (⟨some d,.binOp .eql t x y t',ty,pos,af,none⟩::rest) ds L w A B X Z:=by
 refine Reg.val (.bool (b==c)) rfl rfl hN (fun a ha w' _=>?_) h;have he:(Op.equal t (.bool b) (.bool c)).run P w'=.ok (b==c) w':=by
  have key:∀n,(Op.equalIn (n+1) t (.bool b) (.bool c)).run P w'=.ok (b==c) w':=fun n=>by simp[Op.equalIn,run_underlying ht]
  exact key 9999
 have hg:eqGuard .eql t x y (.bool b) (.bool c)=pure ():=by rfl
 simp[execOp,ha.eval hx,ha.eval hy,hg,binOp,he]
theorem AWh(hx:ev L x=some (.bool b))(hy:ev L y=some (.bool c))(hN:blt d N=true)(ht:P.underlying t=some .bool)(h:Reg P N ops q rest ds ((d,.bool (!(b==c)))::L) w A B X Z):Reg P N ops q (⟨some d,.binOp .neq t x y t',ty,pos,af,none⟩::rest) ds L w A B X Z:=by
 refine Reg.val (.bool (!(b==c))) rfl rfl hN (fun a ha w' _=>?_) h;have he:(Op.equal t (.bool b) (.bool c)).run P w'=.ok (b==c) w':=by
  have key:∀n,(Op.equalIn (n+1) t (.bool b) (.bool c)).run P w'=.ok (b==c) w':=fun n=>by simp[Op.equalIn,run_underlying ht]
  exact key 9999
 have hg:eqGuard .neq t x y (.bool b) (.bool c)=pure ():=by rfl
 simp[execOp,ha.eval hx,ha.eval hy,hg,binOp,he]
def fillL(pl:List (Nat×Nat)):List Value->List (Nat×List Value)->Option (List Value)
 |cs,[]=>some cs
 |cs,(i,vs)::r=>match pl[i]? with
  |none=>none
  |some (off,size)=>if vs.length=size/\off+vs.length<=cs.length then fillL pl (B6 cs off vs) r else none
theorem AJn(pl:List (Nat×Nat))(f:Nat->Option (Nat×Nat))(hf:∀i,f i=pl[i]?):∀(parts:List (Nat×Value)) (ps:List (Nat×List Value)) (cs out:List Value),
  parts.map (·.1)=ps.map (·.1)->Cls (parts.map (·.2)) (ps.map (·.2))->fillL pl cs ps=some out->Instr.fill f cs.toArray parts=some out.toArray
 |[],[],cs,out,_,_,h=>by simp[fillL]at h;subst h;rfl
 |(i,v)::parts,(j,vs)::ps,cs,out,hi,⟨hv,hc⟩,h=>by
  simp only[List.map_cons,List.cons.injEq]at hi;obtain⟨rfl,hi⟩:=hi;simp only[fillL]at h;have hv:v.cells=vs.toArray:=hv;rw[Instr.fill,hf];cases hp:pl[i]? with
  |none=>simp[hp]at h
  |some p=>
   obtain⟨off,size⟩:=p
   simp only[hp]at h
   split at h
   . rename_i hh
     have h1:¬(v.cells.size≠size\/off+v.cells.size > cs.toArray.size):=by rw[hv];simp;exact hh
     simp only[]
     rw[if_neg (by simpa using h1)]
     have hfold:=AFm off vs 0 (cs.take off) (cs.drop off) (by simp;omega) (by simp;omega)
     rw[hv,<-Array.foldl_toList]
     simp only[Array.toList_zipIdx]
     rw[Aby]at hfold
     rw[hfold]
     refine AJn pl f hf parts ps _ out hi hc ?_
     rw[<-h]
     congr 1
     rw[V2 _ _ _ (by omega)]
     simp[List.drop_drop]
   . cases h
 |[],_::_,_,_,h,_,_=>by simp at h
 |_::_,[],_,_,h,_,_=>by simp at h
theorem AEy{fields:Array Field}{z:Value}{zc out:List Value}{parts:List (Nat×Operand)}{vs:List Value}{css:List (List Value)}(pl:List (Nat×Nat))(hz:∀w,(zeroValue t).run P w=.ok z w)(hzc:z.cells=zc.toArray)(ht:P.underlying t=some (.struct fields))(hpl:∀w,(fields.mapM (fun f=>Prod.mk f.offset <$> sizeOf f.type):Sem (Array (Nat×Nat))).run P w=.ok pl.toArray w)(hvs:evs L (parts.map (·.2))=some vs)(hc:Cls vs css)(hf:fillL pl zc ((parts.map (·.1)).zip css)=some out)(hN:blt d N=true)(h:Reg P N ops q rest ds ((d,.agg out.toArray)::L) w A B X Z):Reg P N ops q (⟨some d,.build t parts.toArray,ty,pos,af,none⟩::rest) ds L w A B X Z:=by
 refine Reg.val _ rfl rfl hN (fun a ha w' _=>?_) h;have hmap:=ABN ha _ _ hvs;have hlen:∀(vs:List Value) (css:List (List Value)),Cls vs css->vs.length=css.length:=by
  intro vs;induction vs with
  |nil=>intro css h;cases css with|nil=>rfl|cons _ _=>exact h.elim
  |cons v vs ih=>intro css h;cases css with|nil=>exact h.elim|cons c css=>simp[ih css h.2]
 have hvl:=hlen vs css hc;have hpv:parts.length=vs.length:=by rw[<-hmap];simp
 have hparts:(parts.map fun (p:Nat×Operand)=>(p.1,a.eval p.2))=(parts.map (·.1)).zip vs:=by
  rw[<-hmap,Aau,List.zip_map'];rfl
 have hr:=AJn pl (fun i=>pl[i]?) (fun i=>rfl) ((parts.map (·.1)).zip vs) ((parts.map (·.1)).zip css) zc out
  (by rw[List.map_fst_zip (by simp;omega),List.map_fst_zip (by simp;omega)]) (by rw[List.map_snd_zip (by simp;omega),List.map_snd_zip (by simp;omega)];exact hc) hf
 simp only[execOp,Instr.build];simp[hz,hzc,run_underlying ht,hpl,hparts,hr]
theorem Own.cellsAt{E:Enc α}{e Bb:Nat}{M:List Nat}{w:World}{v:Value}{g j:Nat}{z:α}(h:Own E e Bb M w v xs)(hg:ob v=[g])(hj:xs[j]?=some z):∃cs,E.R M w cs z/\Cells w g (j*E.n) cs:=by
 have hl:j<xs.length:=by
  rcases Aag j xs.length with h|h
  . exact h
  . rw[Aaa h]at hj;cases hj
 obtain⟨g',cap,cur,rfl,hob,_,hheap,hle,_,hsize,hch⟩:=h.at_ (by omega);rw[hob]at hg;have hgg:g'=g:=by simpa using hg
 subst hgg;rw[AaV hl]at hj;cases hj
 refine⟨_,E.mon (fun b hb=>.inl (AaQ _ hb)) (hch.get j hl),fun k u hk=>?_⟩;rw[Aa6]at hk;split at hk
 . rw[AbK,Aa6]at hk;split at hk
   . exact AC9 hheap (j:=j*E.n+k) (u:=u) (by simpa using hk)
   . cases hk
 . cases hk
end
variable{Mu M:List Nat}{σ:List Res}
section
variable{α:Type}{E:Enc α}{mu:List Nat}{t:TypeId}{e:TypeId}{x:Operand}{y:Operand}{v:Value}{xs:List α}{j:Int}{z:α}
theorem AK0[Fx](i:Nat){e' t e:TypeId}{k:IntKind}(hI:Hp w0 Mu M σ w)(hi:σ[i]?=some (ownR mu E e' v xs))(hx:ev L x=some v)(hy:ev L y=some (.int k j))(hz:ixo xs j=some z)(ht:P.underlying t=some (.slice e))(hs:∀w,(sizeOf e).run P w=.ok E.n w)(hN:blt d N=true)(h:∀g cs,ob v=[g]->E.R (mm σ M) w cs z->Cells w g (j.toNat*E.n) cs->Reg P N ops q rest ds ((d,.pointer (some ⟨g,j.toNat*E.n,none⟩))::L) w A B X Z):
  Reg P N ops q (⟨some d,.indexAddr t x y,ty,pos,af,none⟩::rest) ds L w A B X Z:=by
 obtain⟨h0,h1,h2⟩:=AAd hz
 refine AWX hx hy (hI.ownAt i hi) ⟨h0,h1⟩ ht hs hN fun g hg=>?_
 obtain⟨cs,hR,hC⟩:=(hI.ownAt i hi).cellsAt hg h2
 exact h g cs hg hR hC
theorem ASH[Fx](i:Nat){v u:Value}{xs l:List α}{g o n:Nat}{cs vs:List Value}{z z':α}(hI:Hp w0 Mu M σ w)(hi:σ[i]?=some (ownR mu E e v xs))(hx:ev L x=some (.pointer (some ⟨g,j.toNat*E.n+o,none⟩)))(hy:ev L y=some u)(hu:u.cells=vs.toArray)(hg:ob v=[g])(hset:seto xs j z'=some l)(hR:E.R (mm σ M) w cs z)(hC:Cells w g (j.toNat*E.n) cs)(hR':E.R (mm σ M) w (B6 cs o vs) z')(hl:Nat.ble (o+vs.length) cs.length=true)(hsz:∀w,(sizeOf t).run P w=.ok n w)(hn:vs.length=n)(h1:∀u∈vs,u.oneCell'=true)(h:∀w',Hp w0 Mu M (σ.set i (ownR mu E e v l)) w'->Adv (mm σ M) (mm (σ.set i (ownR mu E e v l)) M) w w'->Reg P N ops .seq rest ds L w' A B X Z):
  Reg P N ops .seq (⟨none,.store t x y,ty,pos,af,none⟩::rest) ds L w A B X Z:=by
 subst hn
 obtain⟨hj0,hj1,rfl⟩:=AHF hset
 have hjn:j.toNat<xs.length:=by omega
 have ho:=hI.ownAt i hi
 obtain⟨g',cap,cur,rfl,hob,hB,hheap,hle,hmax,hsize,hch⟩:=ho.at_ (by omega)
 have hg':=hg
 rw[hob]at hg'
 have hgg:g'=g:=by simpa using hg'
 subst hgg
 have hlen:=E.len hR
 have hl':=Aat hl
 have hroom:j.toNat*E.n+E.n<=xs.length*E.n:=by
  have:=AbF E.n (show j.toNat+1<=xs.length from hjn);rw[AbB,Ab3]at this;exact this
 have hroom2:xs.length*E.n<=(cap+1)*E.n:=AbF _ hle
 have hcl:cur.toList.length=(cap+1)*E.n:=by rw[<-hsize];exact AbX
 have hrow:Row e w g' cur.toList:=hheap
 have hcs:cs=(cur.toList.drop (j.toNat*E.n)).take E.n:=by
  apply Aa9;intro k;rcases Aag k E.n with hk|hk
  . have h5:k<cs.length:=by omega
    have h6:=hC k _ (AaV h5);have h7:w.cell? ⟨g',j.toNat*E.n+k,none⟩=cur.toList[j.toNat*E.n+k]?:=by
     show(match w.heap[g']? with|some (.cells c _ _)=>if Option.isSome (none:Option Nat) then none else c[j.toNat*E.n+k]?|_=>none)=_
     rw[hheap];simp
    rw[Aa6,Aac hk,AbK,<-h7,h6,AaV h5]
  . rw[Aaa (by omega),Aaa (by simp;omega)]
 obtain⟨w',hrun,hw',hk⟩:=AB7 (P:=P) g' e vs 0 cur.toList w (j.toNat*E.n+o) hrow (by rw[hcl];omega) h1
 have hk':Kp (ob (Value.slice (some ⟨g',0,none⟩) xs.length (cap+1))) w w':=by
  rw[hob];exact hk
 have hsub:=hI.ownSub i hi
 rw[hob]at hsub
 have hgm:g'∈mm σ M:=hsub g' (by simp)
 have hadv:Adv (g'::mm σ M) (g'::mm σ M) w w':=⟨hk.mono fun x hx=>.inl (by simp at hx;subst hx;exact AaT ..),fun _ h=>.inl h⟩
 have hown:Own E e 0 (mm σ M) w' (Value.slice (some ⟨g',0,none⟩) xs.length (cap+1)) (xs.set j.toNat z'):=by
  refine .inr ⟨g',cap,(B6 cur.toList (j.toNat*E.n+o) vs).toArray,by simp,Nat.zero_le _,by simpa[Row] using hw',by simpa using hle,hmax,by simp[ADl,hcl],?_⟩;have he:((B6 cur.toList (j.toNat*E.n+o) vs).toArray.toList.take ((xs.set j.toNat z').length*E.n))=(cur.toList.take (xs.length*E.n)).take (j.toNat*E.n)++B6 cs o vs++(cur.toList.take (xs.length*E.n)).drop (j.toNat*E.n+E.n):=by
   rw[show(B6 cur.toList (j.toNat*E.n+o) vs).toArray.toList=B6 cur.toList (j.toNat*E.n+o) vs from rfl,V2 _ _ _ (by rw[hcl];omega),V2 cs _ _ hl',Ab4,hcs];apply Aa9;intro i;simp only[List.getElem?_take,List.getElem?_append,List.length_append,List.length_take,List.getElem?_drop,List.length_drop,hcl];grind
  rw[he];refine Chunks.adv hadv (AG3 (E.mon (fun b hb=>?_) hR') hch j.toNat hjn);rcases mem_cons.1 hb with rfl|hb
  . exact .inl hgm
  . exact .inl hb
 refine Reg.sto w' rfl rfl (fun a ha=>?_) (h w' (hI.upd i hi hk' (fun b hb=>.inl hb) rfl fun M' hM'=>hown.mon hM') (hI.updA (r':=ownR mu E e _ (xs.set j.toNat z')) i hi hk' fun b hb=>.inl hb))
 simp[execOp,ha.eval hx,ha.eval hy,Instr.storeAt,Instr.sureAddr,storeVar,hu,hsz,hrun]
end
end
end Go.Sx
end
