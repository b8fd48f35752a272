/-
  Part DisputeAnyOrder 2 of the texts that the statement's proof stands on: what memory holds, how code is walked, what the functions reckon. In the order in which they build.
-/
import Derived.Laws.MakeOwn
import Derived.Maps.Own
import Derived.Maps.RangeRun
import Derived.DeepKeys4
import Derived.WideKeyEntry
import Derived.Shelf.SlGeneric
import Derived.Shelf.SlLaysF0
import Derived.Ground.SlsfProg
import Derived.Test.YtgioiejbphljoaaGreatDoorProg
import Derived.ProofKit
import Derived.Deep.Slices
import Derived.Shelf.Lays8
import Derived.Ground.Names8Prog
import Derived.Test.YtgioiejbphljoaaGreatDoorEbDisputeAnyOrder1
open List (mem_append mem_cons mem_map replicate toArray)
open Nat (beq blt)
open Go.Proofs.Tryz
set_option linter.unusedVariables false
set_option linter.unusedSectionVars false
noncomputable section
namespace Go.Sx
open Go Go.RowKit
variable[Trk]{w0 w w':World}{Mu M:List Nat}{σ:List Res}{α:Type}{E:Enc α}{e:TypeId}{v:Value}{xs:List α}{mu:List Nat}
theorem AA4(V:MLt M w)(hd:∀b∈ob v,b∉M)(h:Own E e 0 M w v xs):@Hp _ fx0 w (ob v) M [ownR (ob v) E e v xs] w:=by
 refine⟨Kp.refl _ _,fun b H=>?_,Adv.refl _ _,fun b H=>.inl (V b H),fun r J b H=>?_,fun r J=>?_,fun i j r r' hi W U=>?_,fun r J=>?_,fun _ _ h=>by cases h⟩
 . rcases mem_append.1 H with I|I
   . exact(h.ge b I).2
   . exact V b I
 . have:r=ownR (ob v) E e v xs:=by simpa using J
   subst this;exact hd b H
 . have:r=ownR (ob v) E e v xs:=by simpa using J
   subst this;exact⟨fun b H=>H,fun b H=>.inl H⟩
 . cases i with
   |zero=>cases j with
    |zero=>exact absurd rfl U
    |succ j=>simp at W
   |succ i=>simp at hi
 . have:r=ownR (ob v) E e v xs:=by simpa using J
   subst this;exact h.mon fun b H=>by
    rcases mem_append.1 H with I|I
    . exact .inl I
    . exact .inr I
theorem Hp.ownBack[Fx]{u:Value}(h:Hp w0 (ob u) M σ w)(i:Nat)(hi:σ[i]?=some (ownR mu E e v xs)):
  Own E e 0 M w v xs/\(∀b∈ob v,b∈ob u\/w0.heap.size<=b)/\Kp (ob u) w0 w:=
 ⟨(h.ownAt i hi).mon fun _ H=>.inr (mem_mm.2 (.inr H)),fun b H=>((h.own _ (AbB hi)).2 b H).elim (fun I=>.inl ((h.own _ (AbB hi)).1 b I)) .inr,h.kp⟩
theorem ADJ(i:Nat)(hi:σ[i]?=some (ownR mu E e v xs)):Adv (mm σ M) (ob v++mm (σ.eraseIdx i) M) w w:=
 Adv.drop fun b H=>(mem_append.1 H).elim (fun h=>mem_mm.2 (.inl ⟨_,AbB hi,h⟩)) (AAZ (AbW σ i))
theorem Hp.lendH[Fx](_:Hp w0 Mu M σ w)(i:Nat)(hi:σ[i]?=some (ownR mu E e v xs)):Adv (mm σ M) (ob v++mm (σ.eraseIdx i) M) w w:=ADJ i hi
theorem Hp.lendOwn[Fx](h:Hp w0 Mu M σ w)(i:Nat)(hi:σ[i]?=some (ownR mu E e v xs)):Own E e 0 (mm (σ.eraseIdx i) M) w v xs:=(h.ownAt i hi).mon fun b H=>.inr (AAZ (AbW σ i) H)
theorem Hp.lendM[Fx](h:Hp w0 Mu M σ w)(i:Nat)(hi:σ[i]?=some (ownR mu E e v xs)):MLt (ob v++mm (σ.eraseIdx i) M) w:=fun b I=>
 (mem_append.1 I).elim (fun H=>h.mlt b (h.ownSub i hi b H)) (fun H=>h.mlt b (AAZ (AbW σ i) H))
theorem Adv.lent{L M:List Nat}{w w':World}(e:Kp L w w'):Adv (L++M) (L++M) w w':=⟨e.mono fun b H=>.inl (AbD _ H),fun _ H=>.inl H⟩
theorem Hp.took[Fx]{v v':Value}{xs ys:List α}(h:Hp w0 Mu M σ w)(i:Nat)(hi:σ[i]?=some (ownR mu E e v xs))(H:Own E e 0 (mm (σ.eraseIdx i) M) w' v' ys/\(∀b∈ob v',b∈ob v\/w.heap.size<=b)/\Kp (ob v) w w'):
 Hp w0 Mu M (σ.set i (ownR mu E e v' ys)) w':=h.upd2 i hi H.2.2 H.2.1 rfl fun M' I=>H.1.mon I
variable{α:Type}{E:Enc α}
theorem Chunks.take:∀{cs:List Value} {ys:List α},Chunks E M w cs ys->∀k,k<=ys.length->Chunks E M w (cs.take (k*E.n)) (ys.take k)
 |cs,[],H,k,_=>by have H:cs=[]:=H;subst H;simp;rfl
 |cs,y::ys,⟨c,rest,e,I,J⟩,0,_=>by simp;rfl
 |cs,y::ys,⟨c,rest,e,I,J⟩,k+1,hk=>by
  have hl:=E.len I;refine⟨c,rest.take (k*E.n),?_,I,Chunks.take J k (by simpa using hk)⟩;rw[e,Abz,Acu,Nat.add_comm,<-hl];simp[List.take_append];exact Abv (Nat.le_add_right _ _)
theorem Own.take{e:TypeId}{Bb:Nat}{a:Option Addr}{n c:Nat}{xs:List α}(h:Own E e Bb M w (.slice a n c) xs)(k:Nat)(hk:k<=xs.length):Own E e Bb M w (.slice a k c) (xs.take k):=by
 rcases h with⟨a',H,rfl⟩|⟨g,cap,cur,H,W,V,C,U,J,I⟩
 . cases H
   have:k=0:=by simpa using hk
   subst this;exact .inl ⟨_,rfl,rfl⟩
 . cases H
   refine .inr ⟨g,cap,cur,by rw[Abq,AcS hk],W,V,by rw[Abq];omega,U,J,?_⟩;have:=I.take k hk;rw[List.take_take]at this;rw[Abq,AcS hk];rwa [AcS (Ab2 _ hk)]at this
theorem AHg{P:Program}{N:Nat}{ops:Array Oper}{rest:List Oper}{ds:List Deferred}{L:A8}{A B:A5}{X:Nat->A5}{Z:List PanicEntry->A5}{o:Oper}(v:Value)(w':World)(J:o.guard=none)(hd:o.dst=none)(I:∀a,Knows N ds L a->(execOp a.eval o).run P w=.ok (.value v) w')(h:Reg P N ops .seq rest ds L w' A B X Z):Reg P N ops .seq (o::rest) ds L w A B X Z:=by
 intro a H;refine wpList_plain J fun K hK=>?_;simp only[Oper.wp,I a H,Oper.upon_value,hd];exact hK _ _ (h _ H)
def View{α:Type}(E:Enc α)(v v':Value)(k:Nat):Prop:=∃a n c,v=.slice a n c/\v'=.slice (if c=k then a else a.map (·.add (k*E.n))) (n-k) (c-k)
variable{P:Program}{N:Nat}{ops:Array Oper}{q:Md}{rest:List Oper}{ds:List Deferred}{L:A8}{A B:A5}{X:Nat->A5}{Z:List PanicEntry->A5}{d:Nat}{ty:TypeId}{pos:String}{af:Array Edge}{mu:List Nat}{e':TypeId}{t:TypeId}{e:TypeId}{x:Operand}{y:Operand}{v:Value}{k:IntKind}{j:Int}
theorem AZP[Fx](i:Nat){xs l:List α}(C:Hp w0 Mu M σ w)(hi:σ[i]?=some (ownR mu E e' v xs))(hx:ev L x=some v)(hy:ev L y=some (.int k j))(hl:ACp xs j=some l)(I:P.underlying t=some (.slice e))(U:∀w,(sizeOf e).run P w=.ok E.n w)(hN:blt d N=true)(h:∀v',View E v v' j.toNat->Reg P N ops q rest ds ((d,v')::L) w A B X Z):
  Reg P N ops q (⟨some d,.slice t x (some y) none none,ty,pos,af,none⟩::rest) ds L w A B X Z:=by
 obtain⟨⟨D,O⟩,_⟩:=AFy hl
 obtain⟨a,c,rfl,K,F⟩:=(C.ownAt i hi).shape
 have H:P.underlying t=some (.slice (P.elem t)):=by simp[Program.elem,I]
 have W:P.elem t=e:=by simp[Program.elem,I]
 refine Reg.val _ rfl rfl hN (fun a' J w' _=>?_) (h _ ⟨a,_,c,rfl,rfl⟩)
 have V:=run_slice_l (P:=P) w' t a xs.length c H k j D (by omega)
 simp[execOp,J.eval hx,J.eval hy,run_sliceAt_slice w' t _ _ _ _ H,V,W,U,sliced]
theorem AJP(zc:Array Value)(m:Nat):(Builtin.zeroCells zc m).toList=(replicate m zc.toList).flatten:=by
 have key:(List.range (m*zc.size)).map (fun i=>zc[i % zc.size]!)=(replicate m zc.toList).flatten:=by
  induction m with
  |zero=>simp
  |succ m ih=>
   rw[Abz,Acu,List.range_add,AbT,ih,Abl,List.replicate_succ',List.flatten_append]
   congr 1
   simp only[List.flatten_cons,List.flatten_nil,List.append_nil]
   apply List.ext_getElem
   . simp
   . intro i H I
     simp at H
     simp[Nat.add_mod,Nat.mod_eq_of_lt H,H]
 rw[<-key];simp[Builtin.zeroCells]
theorem ATQ[Fx](i:Nat){v v' z:Value}{zc:List Value}{z0:α}{xs l:List α}(D:Hp w0 Mu M σ w)(hi:σ[i]?=some (ownR mu E e v xs))(hv:View E v v' j.toNat)(hl:ACp xs j=some l)(hx:ev L x=some v')(ht:P.underlying t=some (.slice e))(hz:∀w,(zeroValue e).run P w=.ok z w)(n:z.cells=zc.toArray)(U:∀M w,E.R M w zc z0)(h:∀w',Hp w0 Mu M (σ.set i (ownR mu E e v (xs.take j.toNat++replicate l.length z0))) w'->Adv (mm σ M) (mm (σ.set i (ownR mu E e v (xs.take j.toNat++replicate l.length z0))) M) w w'->Reg P N ops .seq rest ds L w' A B X Z):
  Reg P N ops .seq (⟨none,.call ⟨.builtin .clear,#[x],#[t]⟩,ty,pos,af,none⟩::rest) ds L w A B X Z:=by
 obtain⟨⟨h0,h1⟩,rfl⟩:=AFy hl
 have q:=D.ownAt i hi
 have H:(xs.take j.toNat++replicate (xs.drop j.toNat).length z0).length=xs.length:=by simp;omega
 rcases AbR j.toNat xs.length with hlt|y
 . obtain⟨g,cap,cur,rfl,Y,hB,hheap,R,G,hsize,hch⟩:=q.at_ (by omega)
   obtain⟨a',n',c',he,rfl⟩:=hv
   cases he
   have hck:¬cap+1=j.toNat:=by omega
   have I:cur.toList.length=(cap+1)*E.n:=by rw[<-hsize];exact AcK
   have k:zc.length=E.n:=E.len (U [] w)
   have V:((replicate (xs.length-j.toNat) zc).flatten).length=(xs.length-j.toNat)*E.n:=by
    simp[List.length_flatten,k]
   have hroom:j.toNat*E.n+(xs.length-j.toNat)*E.n=xs.length*E.n:=by rw[<-Abz];congr 1;omega
   have hroom2:xs.length*E.n<=(cap+1)*E.n:=Ab2 _ R
   have O:Row e w g cur.toList:=hheap
   obtain⟨w',J,p,hk⟩:=ACB (P:=P) g e ((replicate (xs.length-j.toNat) zc).flatten) 0 cur.toList w (j.toNat*E.n) O (by rw[I,V];omega) (fun u f=>by
    obtain⟨c,hc,f⟩:=List.mem_flatten.1 f;rw[List.eq_of_mem_replicate hc]at f;exact E.one (U [] w) u f)
   have S:Kp (ob (Value.slice (some ⟨g,0,none⟩) xs.length (cap+1))) w w':=by rw[Y];exact hk
   have K:=D.ownSub i hi
   rw[Y]at K
   have d:Adv (g::mm σ M) (g::mm σ M) w w':=⟨hk.mono fun x hx=>.inl (by simp at hx;subst hx;exact AbF ..),fun _ h=>.inl h⟩
   have T:Own E e 0 (mm σ M) w' (Value.slice (some ⟨g,0,none⟩) xs.length (cap+1)) (xs.take j.toNat++replicate (xs.drop j.toNat).length z0):=by
    refine .inr ⟨g,cap,(B7 cur.toList (j.toNat*E.n) ((replicate (xs.length-j.toNat) zc).flatten)).toArray,by rw[H],Abe _,by simpa[Row] using p,by rw[H];exact R,G,by simp[ADp,I],?_⟩;have he:((B7 cur.toList (j.toNat*E.n) ((replicate (xs.length-j.toNat) zc).flatten)).toArray.toList.take ((xs.take j.toNat++replicate (xs.drop j.toNat).length z0).length*E.n))=(cur.toList.take (j.toNat*E.n))++(replicate (xs.length-j.toNat) zc).flatten:=by
     rw[H,show(B7 cur.toList (j.toNat*E.n) ((replicate (xs.length-j.toNat) zc).flatten)).toArray.toList=B7 cur.toList (j.toNat*E.n) ((replicate (xs.length-j.toNat) zc).flatten) from rfl,W5 _ _ _ (by rw[I,V];omega),<-hroom,<-V];have s:(cur.toList.take (j.toNat*E.n)++(replicate (xs.length-j.toNat) zc).flatten).length=j.toNat*E.n+((replicate (xs.length-j.toNat) zc).flatten).length:=by
      rw[AbU,Abq,I,AcS (by omega)]
     rw[<-s];exact List.take_left
    rw[he];have Q:∀m,Chunks E (g::mm σ M) w' ((replicate m zc).flatten) (replicate m z0):=by
     intro m;induction m with
     |zero=>exact rfl
     |succ m ih=>exact⟨zc,_,by rw[List.replicate_succ];rfl,U _ _,by simpa using ih⟩
    rw[Acq];refine Chunks.append (Q _) (Chunks.adv d ?_);have h5:=hch.take j.toNat (by omega);rwa [List.take_take,AcS (Ab2 _ (by omega))]at h5
   refine AHg (.tuple #[]) w' rfl rfl (fun a ha=>?_) (h w' (D.upd i hi S (fun b W=>.inl W) rfl fun M' C=>T.mon C) (D.updA (r':=ownR mu E e _ _) i hi S fun b W=>.inl W))
   obtain⟨m,hm⟩:∃m,xs.length-j.toNat=m+1:=⟨xs.length-j.toNat-1,by omega⟩
   rw[hm]at J
   have F:=AJP zc.toArray (m+1)
   have hn:∀a',(if cap+1=j.toNat then a' else Option.map (fun x:Addr=>x.add (j.toNat*E.n)) (some ⟨g,0,none⟩))=some ⟨g,j.toNat*E.n,none⟩:=fun a'=>by rw[if_neg hck];simp[add_none]
   rw[hn,hm]at hx
   have hrun2:(storeCells ⟨g,j.toNat*E.n,none⟩ (Builtin.zeroCells z.cells (m+1)).toList).run P w=.ok () w':=by
    rw[n,F];exact J
   simp[execOp,resolve,invoke,builtin,ha.eval hx,Builtin.clear_,run_underlying ht,hz,hrun2]
 . have r:(xs.drop j.toNat).length=0:=by rw[Acq];omega
   have o:xs.take j.toNat++replicate (xs.drop j.toNat).length z0=xs:=by rw[r,Abv y];simp
   rw[o]at h
   refine AHg (.tuple #[]) w rfl rfl (fun a ha=>?_) (h w (D.upd i hi (Kp.refl _ _) (fun b W=>.inl W) rfl fun M' C=>q.mon C) (D.updA (r':=ownR mu E e v xs) i hi (Kp.refl _ _) fun b W=>.inl W))
   obtain⟨a',n',c',rfl,rfl⟩:=hv
   obtain⟨a2,c2,he2,_⟩:=q.shape
   cases he2
   have h00:xs.length-j.toNat=0:=by omega
   simp only[h00]at hx
   generalize (if c'=j.toNat then a' else Option.map (fun x:Addr=>x.add (j.toNat*E.n)) a')=a3 at hx
   cases a3<;>simp[execOp,resolve,invoke,builtin,ha.eval hx,Builtin.clear_,run_underlying ht]
theorem AZQ[Fx](i:Nat){xs l:List α}(C:Hp w0 Mu M σ w)(hi:σ[i]?=some (ownR mu E e' v xs))(hx:ev L x=some v)(hy:ev L y=some (.int k j))(hl:ADq xs j=some l)(D:P.underlying t=some (.slice e))(O:∀w,(sizeOf e).run P w=.ok E.n w)(hN:blt d N=true)(h:∀v',Hp w0 Mu M (σ.set i (ownR mu E e' v' l)) w->Adv (mm σ M) (mm (σ.set i (ownR mu E e' v' l)) M) w w->Reg P N ops .seq rest ds ((d,v')::L) w A B X Z):
  Reg P N ops .seq (⟨some d,.slice t x none (some y) none,ty,pos,af,none⟩::rest) ds L w A B X Z:=by
 obtain⟨⟨Y,S⟩,rfl⟩:=AJ9 hl
 have F:=C.ownAt i hi
 obtain⟨a,c,rfl,R,G⟩:=F.shape
 have J:P.underlying t=some (.slice (P.elem t)):=by simp[Program.elem,D]
 have T:P.elem t=e:=by simp[Program.elem,D]
 have I:sliced a 0 j.toNat c E.n=.slice a j.toNat c:=by
  simp only[sliced,Nat.zero_mul,Nat.sub_zero];congr 1;split
  . rfl
  . cases a<;>simp[Addr.add]
 have U:=F.take j.toNat (by omega)
 have V:∀b∈ob (Value.slice a j.toNat c),b∈ob (Value.slice a xs.length c):=fun b H=>by cases a<;>cases c<;>first|exact H|simpa[ob] using H
 refine Reg.val (.slice a j.toNat c) rfl rfl hN (fun a' K w' _=>?_) (h _ (C.upd i hi (Kp.refl _ _) (fun b H=>.inl (V b H)) rfl fun M' W=>U.mon W) (C.updA (r':=ownR mu E e' (.slice a j.toNat c) _) i hi (Kp.refl _ _) fun b H=>.inl (V b H)))
 have Q:=run_slice_h (P:=P) w' t a xs.length c J k j Y (by omega)
 simp[execOp,K.eval hx,K.eval hy,run_sliceAt_slice w' t _ _ _ _ J,Q,T,O,I]
def mko{α:Type}(b:Nat)(z:α)(n:Int):Option (List α):=if 0<=n/\(b:Int)*n<=140737488355328/\n<=140737488355328 then some (replicate n.toNat z) else none
theorem ATR{α:Type}{b:Nat}{z:α}{n:Int}{l:List α}(h:mko b z n=some l):(0<=n/\(b:Int)*n<=140737488355328/\n<=140737488355328)/\l=replicate n.toNat z:=by
 unfold mko at h;split at h
 . cases h;exact⟨by assumption,rfl⟩
 . cases h
theorem Chunks.same{α:Type}{E:Enc α}{M:List Nat}{w:World}{v:Value}{z:α}(h:E.R M w [v] z):∀n,Chunks E M w (replicate n v) (replicate n z)
 |0=>rfl
 |n+1=>⟨[v],replicate n v,rfl,h,Chunks.same h n⟩
theorem AZR[Fx]{α:Type}{E:Enc α}{t e bytes:Nat}(T:SlT P t e E.n bytes){z:Value}{z0:α}(S:(P.info? e).bind (·.zero)=some z)(I:z.cells=#[z])(g:∀M w,E.R M w [z] z0){x y:Operand}{k k':IntKind}{m:Int}{xs:List α}(R:Hp w0 Mu M σ w)(hx:ev L x=some (.int k m))(hy:ev L y=some (.int k' m))(hm:mko bytes z0 m=some xs)(hN:blt d N=true)(h:∀v' w',Hp w0 Mu M (ownR [] E e v' xs::σ) w'->Adv (mm σ M) (mm (ownR [] E e v' xs::σ) M) w w'->Reg P N ops .seq rest ds ((d,v')::L) w' A B X Z):
  Reg P N ops .seq (⟨some d,.makeSlice t x y,ty,pos,af,none⟩::rest) ds L w A B X Z:=by
 obtain⟨⟨p,J,f⟩,rfl⟩:=ATR hm
 obtain⟨i,z',F,V,c,Q,O⟩:=T.info
 have K:z'=z:=by
  have:(P.info? e).bind (·.zero)=some z':=by rw[F];exact V
  rw[S]at this;exact(AbA this).symm
 subst K
 have U:E.n=1:=by rw[<-O,I];rfl
 have hcells:madeCells z'.cells (m.toNat*i.size)=(replicate m.toNat z').toArray:=by
  rw[c,U,I,Nat.mul_one];apply Array.ext
  . simp[madeCells]
  . intro j o l;simp[madeCells,Nat.mod_one]
 obtain⟨n,rfl⟩:∃n:Nat,m=n:=⟨m.toNat,by omega⟩
 rw[Int.toNat_natCast]at hcells h
 let w1:=w.alloc (.cells (replicate n z').toArray e)
 have W:Ext w w1:=Kp.alloc _ _ _
 have H:Own E e 0 (mm σ M) w1 (.slice (some ⟨w.heap.size,0,none⟩) n n) (replicate n z0):=by
  cases n with
  |zero=>exact .inl ⟨_,rfl,rfl⟩
  |succ j=>
   refine .inr ⟨w.heap.size,j,(replicate (j+1) z').toArray,by simp,Nat.zero_le _,heap_alloc_new w _,by simp,by simp only[maxLen];omega,by simp[U],?_⟩
   rw[U,Nat.mul_one,List.length_replicate]
   rw[Abv (by simp)]
   exact Chunks.same (g _ _) _
 have C:∀b∈ob (.slice (some ⟨w.heap.size,0,none⟩) n n),w.heap.size<=b:=fun b J=>by
  cases n with
  |zero=>cases J
  |succ m=>
   have:b=w.heap.size:=by simpa[ob] using J
   omega
 have D:∀b∈(ownR [] E e (.slice (some ⟨w.heap.size,0,none⟩) n n) (replicate n z0)).fp,w.heap.size<=b/\b<w1.heap.size:=fun b J=>⟨C b J,(H.ge b J).2⟩
 refine N1 (.slice (some ⟨w.heap.size,0,none⟩) n n) w1 rfl rfl hN (fun a G=>?_) (h _ _ (R.add W D rfl (H.mon fun b J=>(mem_append.1 J).elim .inl .inr)) (R.addA W D))
 have Y:=run_make (P:=P) w t e i z' T.und F V k k' (n:Int) (n:Int) (by omega) (Int.le_refl _) (by rw[Q];omega) (by omega)
 rw[Int.toNat_natCast,hcells]at Y
 simp[execOp,G.eval hx,G.eval hy,Y,w1]
end Go.Sx
namespace Go.Sx
open Go Go.RowKit Go.ChangeMaps
variable[Trk]
def Vl{α:Type}(E:Enc α)(ag:Bool)(M:List Nat)(w:World)(v:Value)(x:α):Prop:=∃cs,E.R M w cs x/\((ag=true/\v=.agg cs.toArray)\/(ag=false/\cs=[v]))
variable{α:Type}{E:Enc α}{ag:Bool}{M:List Nat}{M':List Nat}{w:World}{v:Value}{x:α}
theorem Vl.adv{w w':World}(H:Adv M M' w w')(h:Vl E ag M w v x):Vl E ag M' w' v x:=by
 obtain⟨cs,J,I⟩:=h;exact⟨cs,E.adv J H,I⟩
theorem Vl.mon(H:∀b∈M',b∈M\/w.heap.size<=b)(h:Vl E ag M w v x):Vl E ag M' w v x:=by
 obtain⟨cs,J,I⟩:=h;exact⟨cs,E.mon H J,I⟩
abbrev A4(κ α:Type):=κ->Option α
variable{κ:Type}
def fnone:A4 κ α:=fun _=>none
def B4[DecidableEq κ](f:A4 κ α)(a:κ)(z:α):A4 κ α:=fun k=>if k=a then some z else f k
def AAK[DecidableEq κ](f:A4 κ α)(a:κ):A4 κ α:=fun k=>if k=a then none else f k
def Lists(f:A4 κ α)(l:List (κ×α)):Prop:=(l.map (·.1)).Nodup/\∀a y,(a,y)∈l↔f a=some y
variable{f:A4 κ α}{a:κ}{j:Nat}{y:α}
theorem Lists.perm{l l':List (κ×α)}(h:Lists f l)(H:l'.Perm l):Lists f l':=
 ⟨(H.map _).nodup_iff.2 h.1,fun a y=>H.mem_iff.trans (h.2 a y)⟩
theorem Lists.nil:Lists (fnone:A4 κ α) []:=⟨AcW,fun a y=>by simp[fnone]⟩
theorem Lists.none{f:A4 κ α}{l:List (κ×α)}(h:Lists f l){a:κ}(I:∀x∈l,x.1≠a):f a=none:=by
 cases H:f a with
 |none=>rfl
 |some y=>exact absurd rfl (I _ ((h.2 a y).2 H))
theorem Lists.push[DecidableEq κ]{l:List (κ×α)}(h:Lists f l)(z:α)(H:∀x∈l,x.1≠a):Lists (B4 f a z) (l++[(a,z)]):=by
 refine⟨?_,fun k y=>?_⟩
 . rw[AbT,AdH];refine⟨h.1,by simp,fun x hx y hy=>?_⟩;obtain⟨p,I,rfl⟩:=mem_map.1 hx;have:y=a:=by simpa using hy
   rw[this];exact H p I
 . rw[Abh,h.2];by_cases e:k=a
   . subst e;have J:f k=Option.none:=h.none H;simp[B4,J,eq_comm]
   . simp[B4,e]
theorem ALO{l:List (κ×α)}(J:(l.map (·.1)).Nodup){i j:Nat}{x y:κ×α}(hi:l[i]?=some x)(U:l[j]?=some y)(V:x.1=y.1):i=j:=by
 have H:(l.map (·.1))[i]?=some x.1:=by simp[hi]
 have I:(l.map (·.1))[j]?=some x.1:=by simp[U,V]
 have li:i<(l.map (·.1)).length:=by
  rcases AbR i (l.map (·.1)).length with h|h
  . exact h
  . rw[AbN h]at H;cases H
 exact(List.getElem?_inj li J).1 (H.trans I.symm)
theorem Lists.set[DecidableEq κ]{l:List (κ×α)}(h:Lists f l)(I:l[j]?=some (a,y))(z:α):Lists (B4 f a z) (l.set j (a,z)):=by
 have H:j<l.length:=by
  rcases AbR j l.length with h|h
  . exact h
  . rw[AbN h]at I;cases I
 refine⟨?_,fun k w=>?_⟩
 . have:(l.set j (a,z)).map (·.1)=l.map (·.1):=by
    rw[List.map_set];refine Abx fun i=>?_;rw[Acm];split
    . rename_i e;subst e;simp[H];have:=AbI H;rw[I]at this;exact(AbJ Prod.fst (AbA this))
    . rfl
   rw[this];exact h.1
 . constructor
   . intro hm;obtain⟨i,hi⟩:=Abj hm;rw[Acm]at hi;split at hi
     . simp at hi;obtain⟨rfl,rfl⟩:=hi;simp[B4]
     . rename_i U;have hk:k≠a:=fun e=>U (ALO h.1 I hi (by simp[e]));have:=(h.2 k w).1 (AbB hi);simpa[B4,hk] using this
   . intro J;by_cases e:k=a
     . subst e;simp[B4]at J;subst J;exact AbB (i:=j) (by simp[H])
     . simp[B4,e]at J;obtain⟨i,hi⟩:=Abj ((h.2 k w).2 J);refine AbB (i:=i) ?_;rw[Acm,if_neg,hi];intro e2;subst e2;rw[I]at hi;cases hi;exact e rfl
theorem Lists.del[DecidableEq κ]{l:List (κ×α)}(h:Lists f l)(J:l[j]?=some (a,y)):Lists (AAK f a) (l.eraseIdx j):=by
 refine⟨(AcN _ (AbW l j)).nodup h.1,fun k w=>?_⟩;rw[List.mem_eraseIdx_iff_getElem?];constructor
 . rintro⟨i,H,hi⟩;have hk:k≠a:=fun e=>H (ALO h.1 hi J (by simp[e]));have:=(h.2 k w).1 (AbB hi);simpa[AAK,hk] using this
 . intro I;by_cases e:k=a
   . simp[AAK,e]at I
   . simp[AAK,e]at I;obtain⟨i,hi⟩:=Abj ((h.2 k w).2 I);refine⟨i,fun e2=>?_,hi⟩;subst e2;rw[J]at hi;cases hi;exact e rfl
theorem Lists.del0[DecidableEq κ]{l:List (κ×α)}(h:Lists f l)(H:∀x∈l,x.1≠a):Lists (AAK f a) l:=by
 have:AAK f a=f:=by
  funext k;by_cases e:k=a
  . subst e;simp[AAK,h.none H]
  . simp[AAK,e]
 rw[this];exact h
def AnyR{S β:Type}(f:S->β->Option S)(l:List β)(s:S)(r:S):Prop:=∀l':List β,l'.Perm l->l'.foldlM f s=some r
theorem AnyR.nil{S β:Type}{f:S->β->Option S}{s r:S}(h:AnyR f [] s r):s=r:=by
 have:=h [] (Ab6 _);simpa using this
theorem AnyR.step{S β:Type}{f:S->β->Option S}{l l':List β}{x:β}{s r:S}(h:AnyR f l s r)(V:l.Perm (x::l')):∃s',f s x=some s'/\AnyR f l' s' r:=by
 have U:∀l'':List β,l''.Perm l'->(x::l'').foldlM f s=some r:=fun l'' hl=>h _ ((hl.cons x).trans V.symm);have H:=U l' (Ab6 _);rw[Ab9]at H;cases I:f s x with
 |none=>rw[I]at H;cases H
 |some s'=>
  refine⟨s',rfl,fun l'' hl=>?_⟩
  have J:=U l'' hl
  rw[Ab9,I]at J
  exact J
open Classical in
def ALP{S κ α:Type}(f:S->κ×α->Option S)(m:A4 κ α)(s:S):Option S:=if h:∃r,∀l,Lists m l->l.foldlM f s=some r then some h.choose else none
theorem ARB{S κ α:Type}{f:S->κ×α->Option S}{m:A4 κ α}{s r:S}(h:ALP f m s=some r){l:List (κ×α)}(hl:Lists m l):AnyR f l s r:=by
 unfold ALP at h;split at h
 . rename_i I;rw[<-AbA h];exact fun l' H=>I.choose_spec l' (hl.perm H)
 . cases h
theorem ATS{S κ α:Type}{f:S->κ×α->Option S}{m:A4 κ α}{s r:S}{l0:List (κ×α)}(I:Lists m l0)(h:∀l,Lists m l->l.foldlM f s=some r):ALP f m s=some r:=by
 unfold ALP;rw[dif_pos ⟨r,h⟩];have H:=(⟨r,h⟩:∃r,∀l,Lists m l->l.foldlM f s=some r).choose_spec l0 I;rw[h l0 I]at H;exact H.symm
structure Ky(P:Program)(kt:TypeId)(κ:Type)where
 val:κ->Value
 ok:κ->Prop
 inj:∀{a b:κ},ok a->ok b->val a=val b->a=b
 check:∀{a:κ},ok a->∀(w:World) (em:Bool),(Instr.checkKey em 10000 kt (val a)).run P w=.ok () w
 find:∀{a:κ},ok a->∀(es:List MapEntry),(∀e∈es,∃b,ok b/\e.key=val b)->((∀w,(Instr.findKey kt (val a) es).run P w=.ok none w)/\∀e∈es,e.key≠val a)\/∃j e,(∀w,(Instr.findKey kt (val a) es).run P w=.ok (some (j,e.val)) w)/\es[j]?=some e/\e.key=val a
 stays:∀{a:κ},ok a->∀w,(Instr.keyThatStays (val a) (val a)).run P w=.ok (val a) w
def X0{P:Program}{kt:TypeId}(q:IntKind)(hk:P.underlying kt=some (.int q)):Ky P kt Int where
 val:=fun a=>.int q a
 ok:=InK q
 inj:=fun _ _ h=>by cases h;rfl
 check:=fun {a} _ w em=>MapKept.run_checkKey (d:=.int q) (k:=.int q a) hk rfl em 9999
 find:=fun {a} _ es hes=>by
  have hks:∀x∈es,MapKept.IsKey (.int q) x.key:=fun x hx=>by
   obtain⟨b,_,hb⟩:=hes x hx;rw[hb];exact rfl
  rcases MapKept.findNow_spec (d:=.int q) (k:=.int q a) rfl es 0 hks with⟨h1,h2⟩|⟨j,e,h1,h2,h3⟩
  . exact .inl ⟨fun w=>MapKept.run_findKey hk h1,h2⟩
  . exact .inr ⟨j,e,fun w=>by simpa using MapKept.run_findKey (w:=w) hk h1,h2,h3⟩
 stays:=fun {a} _ w=>MapKept.run_keyThatStays (d:=.int q) (k:=.int q a) rfl
def Stp(es:Array MapEntry)(c:Nat):Prop:=(es.toList.map (·.born)).Nodup/\∀x∈es.toList,x.born<c
variable{P:Program}{kt:TypeId}{K:Ky P kt κ}
def EntK(K:Ky P kt κ)(E:Enc α)(ag:Bool)(M:List Nat)(w:World):List MapEntry->List (κ×α)->Prop
 |[],[]=>True
 |e::es,x::xs=>(e.key=K.val x.1/\K.ok x.1)/\Vl E ag M w e.val x.2/\EntK K E ag M w es xs
 |_,_=>False
variable{w':World}{a:κ}{z:α}{f:A4 κ α}
theorem EntK.adv(H:Adv M M' w w'):∀{es:List MapEntry} {xs:List (κ×α)},EntK K E ag M w es xs->EntK K E ag M' w' es xs
 |[],[],h=>h
 |_::_,_::_,⟨U,J,I⟩=>⟨U,J.adv H,EntK.adv H I⟩
 |[],_::_,h=>h.elim
 |_::_,[],h=>h.elim
theorem EntK.mon(H:∀b∈M',b∈M\/w.heap.size<=b):∀{es:List MapEntry} {xs:List (κ×α)},EntK K E ag M w es xs->EntK K E ag M' w es xs
 |[],[],h=>h
 |_::_,_::_,⟨U,J,I⟩=>⟨U,J.mon H,EntK.mon H I⟩
 |[],_::_,h=>h.elim
 |_::_,[],h=>h.elim
theorem EntK.len:∀{es:List MapEntry} {xs:List (κ×α)},EntK K E ag M w es xs->es.length=xs.length
 |[],[],_=>rfl
 |_::_,_::_,⟨_,_,h⟩=>by simp[EntK.len h]
 |[],_::_,h=>h.elim
 |_::_,[],h=>h.elim
theorem EntK.at{M:List Nat}{w:World}:∀{es:List MapEntry} {xs:List (κ×α)},EntK K E ag M w es xs->∀{j:Nat} {e:MapEntry},es[j]?=some e->∃x,xs[j]?=some x/\e.key=K.val x.1/\K.ok x.1/\Vl E ag M w e.val x.2
 |[],_,_,j,e,H=>by simp at H
 |e::es,x::xs,⟨I,U,J⟩,0,e',H=>by simp at H;subst H;exact⟨x,rfl,I.1,I.2,U⟩
 |e::es,x::xs,⟨I,U,J⟩,j+1,e',H=>by simpa using EntK.at J (j:=j) (e:=e') (by simpa using H)
 |_::_,[],h,_,_,_=>h.elim
theorem EntK.back:∀{es:List MapEntry} {xs:List (κ×α)},EntK K E ag M w es xs->∀x∈xs,∃e∈es,e.key=K.val x.1
 |[],[],_,x,hx=>by cases hx
 |e::es,x::xs,⟨U,V,J⟩,y,hy=>by
  rcases mem_cons.1 hy with rfl|hy
  . exact⟨e,by simp,U.1⟩
  . obtain⟨e',I,H⟩:=EntK.back J y hy;exact⟨e',AbC _ I,H⟩
 |[],_::_,h,_,_=>h.elim
 |_::_,[],h,_,_=>h.elim
theorem EntK.keys{es:List MapEntry}{xs:List (κ×α)}(h:EntK K E ag M w es xs):∀e∈es,∃b,K.ok b/\e.key=K.val b:=fun e I=>by
 obtain⟨j,H⟩:=Abj I;obtain⟨x,_,U,J,_⟩:=h.at H;exact⟨x.1,J,U⟩
theorem EntK.push{c:Nat}(H:K.ok a)(hv:Vl E ag M w v z):∀{es:List MapEntry} {xs:List (κ×α)},EntK K E ag M w es xs->EntK K E ag M w (es++[⟨K.val a,v,c⟩]) (xs++[(a,z)])
 |[],[],_=>⟨⟨rfl,H⟩,hv,trivial⟩
 |_::_,_::_,⟨U,J,I⟩=>⟨U,J,EntK.push H hv I⟩
 |[],_::_,h=>h.elim
 |_::_,[],h=>h.elim
theorem EntK.set(I:K.ok a)(hv:Vl E ag M w v z):∀{es:List MapEntry} {xs:List (κ×α)} (j:Nat),EntK K E ag M w es xs->EntK K E ag M w (es.modify j fun e=>{ e with key:=K.val a,val:=v }) (xs.set j (a,z))
 |[],[],_,_=>by simp[EntK]
 |_::_,_::_,0,⟨U,J,H⟩=>⟨⟨rfl,I⟩,hv,H⟩
 |_::_,_::_,j+1,⟨U,J,H⟩=>⟨U,J,EntK.set I hv j H⟩
 |[],_::_,_,h=>h.elim
 |_::_,[],_,h=>h.elim
theorem EntK.erase:∀{es:List MapEntry} {xs:List (κ×α)} (j:Nat),EntK K E ag M w es xs->EntK K E ag M w (es.eraseIdx j) (xs.eraseIdx j)
 |[],[],_,_=>by simp[EntK]
 |_::_,_::_,0,⟨_,_,H⟩=>H
 |_::_,_::_,j+1,⟨J,I,H⟩=>⟨J,I,EntK.erase j H⟩
 |[],_::_,_,h=>h.elim
 |_::_,[],_,h=>h.elim
def MapH(K:Ky P kt κ)(E:Enc α)(ag:Bool)(M:List Nat)(w:World)(b:Nat)(f:A4 κ α):Prop:=
 ∃es c xs,w.heap[b]?=some (.map es c)/\Stp es c/\EntK K E ag M w es.toList xs/\Lists f xs
def mapO(K:Ky P kt κ)(E:Enc α)(ag:Bool)(b:Nat)(f:A4 κ α):Res where
 fp:=[b]
 mu:=[]
 holds:=fun M w=>MapH K E ag M w b f
 adv:=fun ha hb h=>by
  obtain⟨es,c,xs,h1,h2,h3,h4⟩:=h;exact⟨es,c,xs,(hb b (by simp)).trans h1,h2,h3.adv ha,h4⟩
 lt:=fun h x hx=>by
  obtain⟨es,c,xs,h1,_⟩:=h;have:x=b:=by simpa using hx
  subst this;exact G6 h1
def RdF(K:Ky P kt κ)(E:Enc α)(ag:Bool)(M:List Nat)(w:World)(v:Value)(f:A4 κ α):Prop:=∃b,v=.map (some b)/\b∉M/\MapH K E ag M w b f
theorem RdF.adv(h:RdF K E ag M w v f)(J:Adv M M' w w'):RdF K E ag M' w' v f:=by
 obtain⟨b,rfl,U,es,c,xs,V,D,C,W⟩:=h;have H:=G6 V;exact⟨b,rfl,fun I=>(J.new b I).elim U (fun h=>absurd H (by omega)),es,c,xs,(J.kp.block b H U).trans V,D,C.adv J,W⟩
theorem RdF.oneC(h:RdF K E ag M w v f):v.oneCell'=true:=by
 obtain⟨b,rfl,_⟩:=h;rfl
variable{N:Nat}{ops:Array Oper}{q:Md}{rest:List Oper}{ds:List Deferred}{L:A8}{w w0:World}{A B:A5}{X:Nat->A5}{Z:List PanicEntry->A5}{d:Nat}{ty:TypeId}{pos:String}{af:Array Edge}{Mu M:List Nat}{σ:List Res}{b:Nat}{t:TypeId}{e:TypeId}{z0:α}{y:Operand}
section
variable{x:Operand}
theorem Hp.mapAt'[Fx](h:Hp w0 Mu M σ w)(i:Nat)(hi:σ[i]?=some (mapO K E ag b f)):MapH K E ag (mm σ M) w b f:=h.get i hi
theorem Hp.freezeM[Fx](h:Hp w0 Mu M σ w)(i:Nat)(hi:σ[i]?=some (mapO K E ag b f)):RdF K E ag (mm (σ.eraseIdx i) M) w (.map (some b)) f:=by
 obtain⟨es,c,xs,U,J,I,H⟩:=h.mapAt' i hi;exact⟨b,rfl,h.apart i hi b (by simp[mapO]),es,c,xs,U,J,I.mon fun x hx=>.inl (AAZ (AbW σ i) hx),H⟩
theorem MapH.lookup{zv:Value}(h:MapH K E ag M w b f)(J:K.ok a)(F:P.underlying t=some (.map kt e))(Q:∀w,(zeroValue e).run P w=.ok zv w)(U:Vl E ag M w zv z0):
  ∃v,(∀cm w',w'.heap[b]?=w.heap[b]?->(Instr.lookup t (.map (some b)) (K.val a) cm).run P w'=.ok (if cm then .tuple #[v,.bool (f a).isSome] else v) w')/\Vl E ag M w v ((f a).getD z0):=by
 obtain⟨es,c,xs,H,B,D,O⟩:=h
 rcases K.find J es.toList D.keys with⟨g1,g2⟩|⟨j,e',g1,g2,g3⟩
 . have I:f a=none:=O.none fun x hx T=>by
    obtain⟨e',A,Y⟩:=D.back x hx;exact g2 e' A (by rw[Y,T])
   refine⟨zv,fun cm w' W=>?_,by rw[I];exact U⟩
   have H:=W.trans H
   cases cm<;>simp[Instr.lookup,run_underlying F,MapKept.run_getObj_map H,K.check J,g1,Q,I]
 . obtain⟨x,hx,hk,C,hv⟩:=D.at g2
   have V:x.1=a:=K.inj C J (by rw[<-hk,g3])
   have I:f a=some x.2:=(O.2 a x.2).1 (by rw[<-V];exact AbB hx)
   refine⟨e'.val,fun cm w' W=>?_,by rw[I];exact hv⟩
   have H:=W.trans H
   cases cm<;>simp[Instr.lookup,run_underlying F,MapKept.run_getObj_map H,K.check J,g1,I]
theorem AKo[Fx](K:Ky P kt κ)(E:Enc α)(ag:Bool)(I:Hp w0 Mu M σ w)(hN:blt d N=true)(h:∀b w',Hp w0 Mu M (mapO K E ag b fnone::σ) w'->Adv (mm σ M) (mm (mapO K E ag b fnone::σ) M) w w'->Reg P N ops .seq rest ds ((d,.map (some b))::L) w' A B X Z):
  Reg P N ops .seq (⟨some d,.makeMap t none,ty,pos,af,none⟩::rest) ds L w A B X Z:=by
 have hx:Ext w (w.alloc (.map #[] 0)):=Kp.alloc _ _ _
 have H:∀b∈(mapO K E ag w.heap.size fnone).fp,w.heap.size<=b/\b<(w.alloc (.map #[] 0)).heap.size:=fun b U=>by
  have:b=w.heap.size:=by simpa[mapO] using U
  subst this;exact⟨AbQ _,by show w.heap.size<(w.heap.push _).size;simp⟩
 refine N1 (.map (some w.heap.size)) (w.alloc (.map #[] 0)) rfl rfl hN (fun a V=>?_) (h _ _ (I.add hx H rfl ⟨#[],0,[],heap_alloc_new w _,⟨by simp,fun x hx=>by simp at hx⟩,trivial,Lists.nil⟩) (I.addA hx H))
 have J:(Instr.makeMap t none).run P w=.ok (.map (some w.heap.size)) (w.alloc (.map #[] 0)):=rfl
 simp[execOp,J]
theorem AXQ[Fx](i:Nat){zv:Value}(V:Hp w0 Mu M σ w)(hi:σ[i]?=some (mapO K E ag b f))(hx:ev L x=some (.map (some b)))(hy:ev L y=some (K.val a))(U:K.ok a)(J:P.underlying t=some (.map kt e))(I:∀w,(zeroValue e).run P w=.ok zv w)(H:Vl E ag (mm σ M) w zv z0)(hN:blt d N=true)(h:∀v,Vl E ag (mm σ M) w v ((f a).getD z0)->Reg P N ops .seq rest ds ((d,.tuple #[v,.bool (f a).isSome])::L) w A B X Z):
  Reg P N ops .seq (⟨some d,.lookup t x y true,ty,pos,af,none⟩::rest) ds L w A B X Z:=by
 obtain⟨v,C,W⟩:=(V.mapAt' i hi).lookup U J I H
 refine N1 _ w rfl rfl hN (fun A hA=>?_) (h v W)
 simp[execOp,hA.eval hx,hA.eval hy,C _ w rfl]
theorem APm[Fx](i:Nat){zv:Value}(V:Hp w0 Mu M σ w)(hi:σ[i]?=some (mapO K E ag b f))(hx:ev L x=some (.map (some b)))(hy:ev L y=some (K.val a))(U:K.ok a)(J:P.underlying t=some (.map kt e))(I:∀w,(zeroValue e).run P w=.ok zv w)(H:Vl E ag (mm σ M) w zv z0)(hN:blt d N=true)(h:∀v,Vl E ag (mm σ M) w v ((f a).getD z0)->Reg P N ops .seq rest ds ((d,v)::L) w A B X Z):
  Reg P N ops .seq (⟨some d,.lookup t x y false,ty,pos,af,none⟩::rest) ds L w A B X Z:=by
 obtain⟨v,C,W⟩:=(V.mapAt' i hi).lookup U J I H
 refine N1 _ w rfl rfl hN (fun A hA=>?_) (h v W)
 simp[execOp,hA.eval hx,hA.eval hy,C _ w rfl]
theorem ASj{t e n:Nat}{k k2:IntKind}{i z:Int}{xs:List Int}{M:List Nat}(I:RdC M w b 0 (xs.map (Value.int k2)))(hx:ev L x=some (.pointer (some ⟨b,0,none⟩)))(hy:ev L y=some (.int k i))(hi:ixo xs i=some z)(V:P.underlying t=some (.array n e))(C:n=xs.length)(W:∀w,(sizeOf e).run P w=.ok 1 w)(hN:blt d N=true)(h:RdC M w b i.toNat [.int k2 z]->Reg P N ops q rest ds ((d,.pointer (some ⟨b,i.toNat,none⟩))::L) w A B X Z):Reg P N ops q (⟨some d,.indexAddr t x y,ty,pos,af,none⟩::rest) ds L w A B X Z:=by
 obtain⟨F,E,U⟩:=AAl hi;have D:i.toNat<xs.length:=by omega
 subst C;have hcell:RdC M w b i.toNat [.int k2 z]:=⟨I.out,I.lt,fun j v H=>by
  cases j with
  |zero=>
   simp at H;subst H
   have:=I.cells i.toNat (.int k2 z) (by simp[U])
   simpa using this
  |succ j=>simp at H⟩
 refine Reg.val (.pointer (some ⟨b,i.toNat,none⟩)) rfl rfl hN (fun a J w' _=>?_) (h hcell);simp[execOp,J.eval hx,J.eval hy,Instr.indexAt,asIntOf,run_underlying V,Instr.sureAddr,F,E,W,add_none]
theorem AEb{o o':Obj}(H:w.heap[b]?=some o):Kp [b] w (setBlock w b o'):=
 ⟨rfl,rfl,rfl,by simp[setBlock],fun j I hm=>(MapKept.heap_set (o':=o') H).2 j (by simpa using hm),fun _=>AbQ _⟩
end
variable[DecidableEq κ]
theorem AKp[Fx](i:Nat){b:Nat}{f:A4 κ α}{z:α}{v:Value}{x y u:Operand}{t e:TypeId}{a:κ}(T:Hp w0 Mu M σ w)(hi:σ[i]?=some (mapO K E ag b f))(hx:ev L x=some (.map (some b)))(hy:ev L y=some (K.val a))(I:K.ok a)(g:ev L u=some v)(hv:Vl E ag (mm σ M) w v z)(G:P.underlying t=some (.map kt e))(h:∀w',Hp w0 Mu M (σ.set i (mapO K E ag b (B4 f a z))) w'->Adv (mm σ M) (mm (σ.set i (mapO K E ag b (B4 f a z))) M) w w'->Reg P N ops .seq rest ds L w' A B X Z):
  Reg P N ops .seq (⟨none,.mapUpdate t x y u,ty,pos,af,none⟩::rest) ds L w A B X Z:=by
 obtain⟨es,c,xs,J,V,U,S⟩:=T.mapAt' i hi
 have key':∃es' c' xs',(Instr.mapUpdate t (.map (some b)) (K.val a) v).run P w=.ok () (setBlock w b (.map es' c'))/\Stp es' c'/\EntK K E ag (mm σ M) w es'.toList xs'/\Lists (B4 f a z) xs':=by
  rcases K.find I es.toList U.keys with⟨g1,g2⟩|⟨j,e',g1,g2,g3⟩
  . refine⟨es.push ⟨K.val a,v,c⟩,c+1,xs++[(a,z)],?_,⟨?_,fun x hx=>?_⟩,?_,S.push z fun x hx n=>?_⟩
    . simp[Instr.mapUpdate,run_underlying G,MapKept.run_getObj_map J,K.check I,g1,MapKept.run_setObj_map _ J,Result.andThen,setBlock]
    . rw[AcZ,AbT,AdH];refine⟨V.1,by simp,fun x hx y hy=>?_⟩;obtain⟨p,l,rfl⟩:=mem_map.1 hx;have:=V.2 p l;have:y=c:=by simpa using hy
      omega
    . rw[AcZ,Abh]at hx;rcases hx with hx|hx
      . have:=V.2 x hx;omega
      . have:x=⟨K.val a,v,c⟩:=by simpa using hx
        subst this;exact Acb c
    . rw[AcZ];exact U.push I hv
    . obtain⟨e',h5,s⟩:=U.back x hx;exact g2 e' h5 (by rw[s,n])
  . obtain⟨x',D,hk,O,d⟩:=U.at g2;have C:x'.1=a:=K.inj O I (by rw[<-hk,g3]);have g4:es[j]?=some e':=by simpa using g2
    refine⟨es.modify j fun e=>{ e with key:=K.val a,val:=v },c,xs.set j (a,z),?_,⟨?_,fun x hx=>?_⟩,?_,S.set (y:=x'.2) (by rw[D,<-C]) z⟩
    . simp[Instr.mapUpdate,run_underlying G,MapKept.run_getObj_map J,K.check I,g1,g4,g3,K.stays I,MapKept.run_setObj_map _ J,Result.andThen,setBlock]
    . have:((es.modify j fun e=>{ e with key:=K.val a,val:=v }).toList.map (·.born))=es.toList.map (·.born):=by
       rw[Ab5];refine Abx fun i=>?_;simp only[List.getElem?_map,List.getElem?_modify];by_cases e:j=i
       . subst e;cases es.toList[j]? <;> simp
       . simp[e]
      rw[this];exact V.1
    . rw[Ab5]at hx;obtain⟨m,hm⟩:=Abj hx;rw[AcH]at hm;cases F:es.toList[m]? with
      |none=>rw[F]at hm;cases hm
      |some e0=>
       rw[F]at hm
       have:=V.2 e0 (AbB F)
       by_cases e:j=m
       . simp[e]at hm;subst hm;exact this
       . simp[e]at hm;subst hm;exact this
    . rw[Ab5];exact U.set I hv j
 obtain⟨es',c',xs',k,o,r,q⟩:=key'
 have H:Kp [b] w (setBlock w b (.map es' c')):=AEb J
 have R:∀b'∈(mapO K E ag b (B4 f a z)).fp,b'∈(mapO K E ag b f).fp\/w.heap.size<=b':=fun b' W=>.inl W
 refine Reg.sto (setBlock w b (.map es' c')) rfl rfl (fun A hA=>?_) (h _ (T.upd i hi H R rfl fun M' Q=>⟨es',c',xs',(MapKept.heap_set J).1,o,?_,q⟩) (T.updA (r':=mapO K E ag b (B4 f a z)) i hi H R))
 . simp[execOp,hA.eval hx,hA.eval hy,hA.eval g,k]
 . have W:b∈mm σ M:=mem_mm.2 (.inl ⟨_,AbB hi,by simp[mapO]⟩)
   refine(r.adv ⟨H.mono fun x hx=>.inl ?_,fun x hx=>.inl hx⟩).mon fun x hx=>.inl ?_
   . have:x=b:=by simpa using hx
     subst this;exact W
   . rcases Q x hx with Y|Y
     . have:x=b:=by simpa[mapO] using Y
       subst this;exact W
     . exact Y
theorem AXR[Fx](i:Nat){b:Nat}{f:A4 κ α}{x y:Operand}{t kt' e:TypeId}{a:κ}(T:Hp w0 Mu M σ w)(hi:σ[i]?=some (mapO K E ag b f))(hx:ev L x=some (.map (some b)))(hy:ev L y=some (K.val a))(W:K.ok a)(R:P.underlying t=some (.map kt e))(h:∀w',Hp w0 Mu M (σ.set i (mapO K E ag b (AAK f a))) w'->Adv (mm σ M) (mm (σ.set i (mapO K E ag b (AAK f a))) M) w w'->Reg P N ops .seq rest ds L w' A B X Z):
  Reg P N ops .seq (⟨none,.call ⟨.builtin .delete,#[x,y],#[t,kt']⟩,ty,pos,af,none⟩::rest) ds L w A B X Z:=by
 obtain⟨es,c,xs,J,G,U,d⟩:=T.mapAt' i hi
 have key':∃es' xs',(∀ty,(Builtin.delete_ #[t,kt'] ty #[.map (some b),K.val a]).run P w=.ok (.tuple #[]) (setBlock w b (.map es' c)))/\Stp es' c/\EntK K E ag (mm σ M) w es'.toList xs'/\Lists (AAK f a) xs':=by
  rcases K.find W es.toList U.keys with⟨g1,g2⟩|⟨j,e',g1,g2,g3⟩
  . refine⟨es,xs,fun ty=>?_,G,U,d.del0 fun x hx l=>?_⟩
    . simp[Builtin.delete_,run_underlying R,MapKept.run_getObj_map J,K.check W,g1,MapKept.run_setObj_map _ J,Result.andThen,setBlock]
    . obtain⟨e',q,p⟩:=U.back x hx;exact g2 e' q (by rw[p,l])
  . obtain⟨x',D,hk,F,g⟩:=U.at g2;have C:x'.1=a:=K.inj F W (by rw[<-hk,g3]);have O:j<es.size:=by
     rcases AbR j es.toList.length with h|h
     . simpa using h
     . rw[AbN h]at g2;cases g2
    have I:(es.eraseIdxIfInBounds j).toList=es.toList.eraseIdx j:=by simp[Array.eraseIdxIfInBounds,O]
    refine⟨es.eraseIdxIfInBounds j,xs.eraseIdx j,fun ty=>?_,⟨?_,fun x hx=>?_⟩,?_,d.del (y:=x'.2) (by rw[D,<-C])⟩
    . simp[Builtin.delete_,run_underlying R,MapKept.run_getObj_map J,K.check W,g1,MapKept.run_setObj_map _ J,Result.andThen,setBlock]
    . rw[I];exact(AcN _ (AbW _ j)).nodup G.1
    . rw[I]at hx;exact G.2 x ((AbW _ j).subset hx)
    . rw[I];exact U.erase j
 obtain⟨es',xs',k,m,o,n⟩:=key'
 have H:Kp [b] w (setBlock w b (.map es' c)):=AEb J
 have S:∀b'∈(mapO K E ag b (AAK f a)).fp,b'∈(mapO K E ag b f).fp\/w.heap.size<=b':=fun b' V=>.inl V
 refine AHg (.tuple #[]) (setBlock w b (.map es' c)) rfl rfl (fun A hA=>?_) (h _ (T.upd i hi H S rfl fun M' Q=>⟨es',c,xs',(MapKept.heap_set J).1,m,?_,n⟩) (T.updA (r':=mapO K E ag b (AAK f a)) i hi H S))
 . simp[execOp,resolve,invoke,builtin,hA.eval hx,hA.eval hy,k]
 . have V:b∈mm σ M:=mem_mm.2 (.inl ⟨_,AbB hi,by simp[mapO]⟩)
   refine(o.adv ⟨H.mono fun x hx=>.inl ?_,fun x hx=>.inl hx⟩).mon fun x hx=>.inl ?_
   . have:x=b:=by simpa using hx
     subst this;exact V
   . rcases Q x hx with Y|Y
     . have:x=b:=by simpa[mapO] using Y
       subst this;exact V
     . exact Y
end Go.Sx
namespace Go.Sx
open Go Go.RowKit
variable[Trk]{α:Type}{E:Enc α}{M:List Nat}{w:World}{v:Value}{x:α}
theorem Vl.agg(h:Vl E true M w v x):∃cs,E.R M w cs x/\v=.agg cs.toArray:=by
 obtain⟨cs,I,H⟩:=h;rcases H with⟨_,H⟩|⟨H,_⟩
 . exact⟨cs,I,H⟩
 . cases H
theorem Vl.one1(h:Vl E false M w v x):E.R M w [v] x:=by
 obtain⟨cs,I,H⟩:=h;rcases H with⟨H,_⟩|⟨_,H⟩
 . cases H
 . exact H▸I
theorem ANL{v u:Value}(h:[v]=[u]):v=u:=List.singleton_inj.1 h
structure Tb where
 st:List (Nat×List (Nat×Nat))
 ag:List (Nat×Nat)
def lk{α:Type}:List (Nat×α)->Nat->Option α
 |[],_=>none
 |(k,v)::r,t=>bif beq k t then some v else lk r t
def nth{α:Type}:List α->Nat->Option α
 |[],_=>none
 |x::_,0=>some x
 |_::r,n+1=>nth r n
theorem AAB{α:Type}:∀(l:List α) (i:Nat),nth l i=l[i]?
 |[],_=>rfl
 |_::_,0=>rfl
 |_::l,n+1=>AAB l n
def FlOk(P:Program)(fields:Array Field):Nat->List (Nat×Nat)->Prop
 |_,[]=>True
 |i,(o,t)::r=>(∃fl m,fields[i]?=some fl/\fl.offset=o/\fl.type=t/\∀w,(sizeOf t).run P w=.ok (m+1) w)/\FlOk P fields (i+1) r
def StOk(P:Program):List (Nat×List (Nat×Nat))->Prop
 |[]=>True
 |(s,l)::r=>(∃fields:Array Field,P.underlying s=some (.struct fields)/\FlOk P fields 0 l)/\StOk P r
def AgOk(P:Program):List (Nat×Nat)->Prop
 |[]=>True
 |(t,0)::r=>(∀w,(isAgg t).run P w=.ok false w)/\AgOk P r
 |(t,n+1)::r=>((∀w,(isAgg t).run P w=.ok true w)/\∀w,(sizeOf t).run P w=.ok n w)/\AgOk P r
class TbOk(P:Program)(tb:outParam Tb):Prop where
 st:StOk P tb.st
 ag:AgOk P tb.ag
theorem FlOk.at{P:Program}{fields:Array Field}:∀{l:List (Nat×Nat)} {i f o t:Nat},FlOk P fields i l->nth l f=some (o,t)->∃fl m,fields[i+f]?=some fl/\fl.offset=o/\fl.type=t/\∀w,(sizeOf t).run P w=.ok (m+1) w
 |[],_,_,_,_,_,h=>by cases h
 |(_,_)::_,_,0,_,_,h,e=>by cases e;exact h.1
 |(_,_)::r,i,f+1,_,_,h,e=>by
  have:=FlOk.at (f:=f) h.2 e;rwa [show i+1+f=i+(f+1) by omega]at this
theorem StOk.at{P:Program}:∀{l:List (Nat×List (Nat×Nat))} {s:Nat} {fl:List (Nat×Nat)},StOk P l->lk l s=some fl->∃fields:Array Field,P.underlying s=some (.struct fields)/\FlOk P fields 0 fl
 |[],_,_,_,h=>by cases h
 |(k,_)::r,s,_,h,e=>by
  simp only[lk]at e;cases H:beq k s with
  |true=>rw[H]at e;cases e;cases AbG H;exact h.1
  |false=>rw[H]at e;exact StOk.at h.2 e
theorem AgOk.at0{P:Program}:∀{l:List (Nat×Nat)} {t:Nat},AgOk P l->lk l t=some 0->∀w,(isAgg t).run P w=.ok false w
 |[],_,_,h=>by cases h
 |(k,z)::r,t,h,e=>by
  simp only[lk]at e;have I:AgOk P r:=by cases z<;>exact h.2
  cases H:beq k t with
  |true=>rw[H]at e;cases e;cases AbG H;exact h.1
  |false=>rw[H]at e;exact AgOk.at0 I e
theorem AgOk.at1{P:Program}:∀{l:List (Nat×Nat)} {t n:Nat},AgOk P l->lk l t=some (n+1)->(∀w,(isAgg t).run P w=.ok true w)/\∀w,(sizeOf t).run P w=.ok n w
 |[],_,_,_,h=>by cases h
 |(k,z)::r,t,n,h,e=>by
  simp only[lk]at e;have I:AgOk P r:=by cases z<;>exact h.2
  cases H:beq k t with
  |true=>rw[H]at e;cases e;cases AbG H;exact h.1
  |false=>rw[H]at e;exact AgOk.at1 I e
def kEq:IntKind->IntKind->Bool
 |.i8,.i8|.i16,.i16|.i32,.i32|.i64,.i64|.u8,.u8|.u16,.u16|.u32,.u32|.u64,.u64=>true
 |_,_=>false
theorem ADK{a b:IntKind}(h:kEq a b=true):a=b:=by cases a<;>cases b<;>first|rfl|cases h
def pu1(tb:Tb)(L:A8):Op->Option Value
 |.move x=>ev L x
 |.assign x=>ev L x
 |.nilCheck x=>match ev L x with
  |some (.pointer (some p))=>some (.pointer (some p))
  |_=>none
 |.fieldAddr s x f=>match ev L x with
  |some (.pointer (some ⟨b,o,none⟩))=>match lk tb.st s with
   |some l=>match nth l f with
    |some (k,_)=>some (.pointer (some ⟨b,o+k,none⟩))
    |none=>none
   |none=>none
  |_=>none
 |.field s x f=>match ev L x with
  |some (.agg cs)=>match lk tb.st s with
   |some l=>match nth l f with
    |some (k,t)=>match lk tb.ag t with
     |some 0=>nth cs.toList k
     |_=>none
    |none=>none
   |none=>none
  |_=>none
 |.extract x i=>match ev L x with
  |some (.tuple vs)=>nth vs.toList i
  |_=>none
 |.pick c x y=>match ev L c with
  |some (.bool true)=>ev L x
  |some (.bool false)=>ev L y
  |_=>none
 |.unOp .not _ x=>match ev L x with
  |some (.bool b)=>some (.bool (!b))
  |_=>none
 |.binOp b _ x y _=>match ev L x with
  |some (.int k i)=>match ev L y with
   |some (.int k' j)=>match kEq k k' with
    |true=>match b with
     |.lss=>some (.bool (decide (i<j)))
     |.leq=>some (.bool (decide (i<=j)))
     |.gtr=>some (.bool (decide (j<i)))
     |.geq=>some (.bool (decide (j<=i)))
     |.eql=>some (.bool (decide (i=j)))
     |.neq=>some (.bool (!decide (i=j)))
     |_=>none
    |false=>none
   |_=>none
  |_=>none
 |_=>none
abbrev Vw:=List (Nat×Nat×List Value)
def VwOk(w:World):Vw->Prop
 |[]=>True
 |(b,o,cs)::r=>Cells w b o cs/\VwOk w r
theorem v0{w:World}:VwOk w []:=trivial
theorem vc{w:World}{b o:Nat}{cs:List Value}{V:Vw}(h:Cells w b o cs)(H:VwOk w V):VwOk w ((b,o,cs)::V):=⟨h,H⟩
theorem VwOk.at{w:World}:∀{V:Vw} {i b o:Nat} {cs:List Value},VwOk w V->nth V i=some (b,o,cs)->Cells w b o cs
 |[],_,_,_,_,_,h=>by cases h
 |_::_,0,_,_,_,h,e=>by cases e;exact h.1
 |_::_,_+1,_,_,_,h,e=>VwOk.at (V:=_) h.2 e
def pu2(tb:Tb)(V:Vw)(L:A8)(i j:Nat):Op->Option (Value×List Nat×List Nat)
 |.load e x=>match ev L x with
  |some (.pointer (some ⟨b,o,none⟩))=>match nth V i with
   |some (b',o',cs)=>match lk tb.ag e with
    |some 0=>match nth cs j with
     |some v=>some (v,[b,o],[b',o'+j])
     |none=>none
    |some (n+1)=>some (.agg cs.toArray,[b,o,n],[b',o',cs.length])
    |none=>none
   |none=>none
  |_=>none
 |_=>none
def puG(ops:Array Oper)(L:A8):Option (Nat×Bool)->Option Nat
 |none=>some 0
 |some (j,b)=>match (ops[j]?).bind (·.dst) with
  |none=>none
  |some t=>match A6 L t with
   |some (.bool c)=>match c,b with
    |true,true=>some 0
    |false,false=>some 0
    |true,false=>some 1
    |false,true=>some 1
   |some (.tuple ⟨[]⟩)=>some 2
   |_=>none
def puC(tb:Tb)(V:Vw)(L:A8)(op:Op):Nat->Option (Value×List Nat×List Nat)
 |0=>match pu1 tb L op with
  |some v=>some (v,[],[])
  |none=>none
 |c+1=>pu2 tb V L (((c+1) / 100)-1) ((c+1) % 100) op
def puN(tb:Tb)(N:Nat)(ops:Array Oper)(V:Vw):List Nat->List Oper->A8->Option (List Oper×A8×List Nat×List Nat)
 |[],l,L=>some (l,L,[],[])
 |_::_,[],_=>none
 |c::r,⟨d,op,_,_,_,g⟩::l,L=>match d with
  |none=>none
  |some d=>match blt d N with
   |false=>none
   |true=>match puG ops L g with
    |some 0=>match puC tb V L op c with
     |some (v,as_,bs)=>match puN tb N ops V r l ((d,v)::L) with
      |some (l',L',as',bs')=>some (l',L',as_++as',bs++bs')
      |none=>none
     |none=>none
    |some (_+1)=>puN tb N ops V r l ((d,undef)::L)
    |none=>none
variable{P:Program}{N:Nat}{ops:Array Oper}{q:Md}{rest:List Oper}{ds:List Deferred}{L:A8}{A B:A5}{X:Nat->A5}{Z:List PanicEntry->A5}{tb:Tb}{d:Nat}{op:Op}{af:Array Edge}{as_:List Nat}{bs:List Nat}
theorem AU1(I:StOk P tb.st)(D:AgOk P tb.ag){ty:TypeId}{pos:String}(hN:blt d N=true)(h:pu1 tb L op=some v)(k:Reg P N ops q rest ds ((d,v)::L) w A B X Z):
  Reg P N ops q (⟨some d,op,ty,pos,af,none⟩::rest) ds L w A B X Z:=by
 cases op<;>simp only[pu1]at h
 case move x=>exact E9 h hN k
 case assign x=>exact C9 h hN k
 case nilCheck x=>
  split at h
  . rename_i p H;cases h;exact ADI H hN k
  . cases h
 case fieldAddr s x f=>
  split at h
  . rename_i b o H
    split at h
    . rename_i l hl
      split at h
      . rename_i o' t' V
        cases h
        obtain⟨fields,U,W⟩:=I.at hl
        obtain⟨fl,m,J,F,E,K⟩:=W.at V
        rw[Aba]at J
        subst F;subst E
        exact M7 H U J K hN k
      . cases h
    . cases h
  . cases h
 case field s x f=>
  split at h
  . rename_i cs H
    split at h
    . rename_i l hl
      split at h
      . rename_i o' t' V
        split at h
        . rename_i Q
          obtain⟨fields,U,W⟩:=I.at hl
          obtain⟨fl,m,J,F,E,K⟩:=W.at V
          rw[Aba]at J
          subst F;subst E
          rw[AAB]at h
          exact AQ5 (cs:=cs.toList) (by simpa using H) U J (D.at0 Q) h hN k
        . cases h
      . cases h
    . cases h
  . cases h
 case extract x i=>
  split at h
  . rename_i vs H
    rw[AAB]at h
    exact AE5 (vs:=vs.toList) (by simpa using H) h hN k
  . cases h
 case pick c x y=>
  split at h
  . rename_i C;exact AOK C h hN k
  . rename_i C;exact AOL C h hN k
  . cases h
 case unOp u t x=>
  cases u<;>simp only at h
  case not=>
   split at h
   . rename_i b O;cases h;exact ASb O hN k
   . cases h
  all_goals cases h
 case binOp b t x y t'=>
  split at h
  . rename_i kk i hx
    split at h
    . rename_i kk' j hy
      split at h
      . rename_i hk
        cases ADK hk
        cases b<;>simp only at h
        case lss=>cases h;exact AE4 hx hy hN k
        case leq=>cases h;exact AOM hx hy hN k
        case gtr=>cases h;exact ASa hx hy hN k
        case geq=>cases h;exact AON hx hy hN k
        case eql=>cases h;exact AOO hx hy hN k
        case neq=>cases h;exact AOP hx hy hN k
        all_goals cases h
      . cases h
    . cases h
  . cases h
 all_goals cases h
theorem AU2(H:AgOk P tb.ag){V:Vw}(D:VwOk w V){d i j:Nat}{ty:TypeId}{pos:String}(hN:blt d N=true)(h:pu2 tb V L i j op=some (v,as_,bs))(C:as_=bs)(k:Reg P N ops q rest ds ((d,v)::L) w A B X Z):
  Reg P N ops q (⟨some d,op,ty,pos,af,none⟩::rest) ds L w A B X Z:=by
 cases op<;>simp only[pu2]at h
 case load e x=>
  split at h
  . rename_i b o U
    split at h
    . rename_i b' o' cs W
      split at h
      . rename_i I
        split at h
        . rename_i u J
          cases h
          cases C
          rw[AAB]at J
          exact K4 U (D.at W j _ J) (H.at0 I) hN k
        . cases h
      . rename_i n I
        cases h
        cases C
        exact Z1 U (D.at W) (H.at1 I).1 rfl (H.at1 I).2 hN k
      . cases h
    . cases h
  . cases h
 all_goals cases h
theorem AU3(I:StOk P tb.st)(H:AgOk P tb.ag){V:Vw}(W:VwOk w V){d c:Nat}{ty:TypeId}{pos:String}(hN:blt d N=true)(h:puC tb V L op c=some (v,as_,bs)):
  as_.length=bs.length/\(as_=bs->Reg P N ops q rest ds ((d,v)::L) w A B X Z->Reg P N ops q (⟨some d,op,ty,pos,af,none⟩::rest) ds L w A B X Z):=by
 cases c with
 |zero=>
  simp only[puC]at h
  split at h
  . rename_i u J
    cases h
    exact⟨rfl,fun _ k=>AU1 I H hN J k⟩
  . cases h
 |succ c=>
  simp only[puC]at h
  refine⟨?_,fun U k=>AU2 H W hN h U k⟩
  cases op<;>simp only[pu2]at h
  case load e x=>
   split at h
   . split at h
     . split at h
       . split at h
         . cases h;rfl
         . cases h
       . cases h;rfl
       . cases h
     . cases h
   . cases h
  all_goals cases h
theorem APn{ty:TypeId}{pos:String}{g:Option (Nat×Bool)}{z:Nat}(hN:blt d N=true)(H:puG ops L g=some z)(V:z=0->Reg P N ops q (⟨some d,op,ty,pos,af,none⟩::rest) ds L w A B X Z)(U:z≠0->Reg P N ops q rest ds ((d,undef)::L) w A B X Z):
  Reg P N ops q (⟨some d,op,ty,pos,af,g⟩::rest) ds L w A B X Z:=by
 cases g with
 |none=>simp only[puG]at H;cases H;exact V rfl
 |some jb=>
  obtain⟨j,b⟩:=jb
  simp only[puG]at H
  split at H
  . cases H
  . rename_i t J
    split at H
    . rename_i c' I
      cases c' <;> cases b<;>simp only at H<;>cases H
      . exact Reg.take J I (V rfl)
      . exact Reg.pass hN J I rfl (U (by decide))
      . exact Reg.pass hN J I rfl (U (by decide))
      . exact Reg.take J I (V rfl)
    . rename_i I
      cases H
      exact APj hN J I (U (by decide))
    . cases H
theorem AKq{tb:Tb}(H:StOk P tb.st)(I:AgOk P tb.ag){V:Vw}(C:VwOk w V):∀(cs:List Nat) (l:List Oper) (L:A8) {l':List Oper} {L':A8} {as_ bs:List Nat},puN tb N ops V cs l L=some (l',L',as_,bs)->as_=bs->Reg P N ops q l' ds L' w A B X Z->Reg P N ops q l ds L w A B X Z
 |[],l,L,_,_,_,_,h,_,k=>by cases h;exact k
 |_::_,[],_,_,_,_,_,h,_,_=>by cases h
 |c::r,⟨d,op,ty,pos,af,g⟩::l,L,l',L',as_,bs,h,D,k=>by
  simp only[puN]at h;split at h
  . cases h
  . rename_i d;split at h
    . cases h
    . rename_i hN;split at h
      . rename_i W;split at h
        . rename_i v as1 bs1 hv;split at h
          . rename_i l2 L2 as2 bs2 E;cases h
            obtain⟨J,hk⟩:=AU3 (P:=P) (q:=q) (ops:=ops) (rest:=l) (ds:=ds) (A:=A) (B:=B) (X:=X) (Z:=Z) (ty:=ty) (pos:=pos) (af:=af) H I C hN hv;obtain⟨e1,e2⟩:=List.append_inj D J;exact APn hN W (fun _=>hk e1 (AKq H I C r l _ E e2 k)) fun U=>absurd rfl U
          . cases h
        . cases h
      . rename_i n W;exact APn hN W (fun U=>by cases U) fun _=>AKq H I C r l _ h D k
      . cases h
theorem Reg.pu[H:TbOk P tb]{V:Vw}(J:VwOk w V)(cs:List Nat){l l':List Oper}{L':A8}(h:puN tb N ops V cs l L=some (l',L',as_,bs))(I:as_=bs)(k:Reg P N ops q l' ds L' w A B X Z):Reg P N ops q l ds L w A B X Z:=
 AKq H.st H.ag J cs l L h I k
def zs:Nat->List Nat
 |0=>[]
 |n+1=>0::zs n
def puA(tb:Tb)(N:Nat)(ops:Array Oper)(l:List Oper)(L:A8):Option A8:=match puN tb N ops [] (l.map fun _=>0) l L with
 |some ([],L',[],[])=>some L'
 |_=>none
theorem ATT{tb:Tb}{N:Nat}{ops:Array Oper}{l:List Oper}{L L':A8}(h:puA tb N ops l L=some L'):puN tb N ops [] (l.map fun _=>0) l L=some ([],L',[],[]):=by
 unfold puA at h;split at h
 . rename_i L2 H;cases h;exact H
 . cases h
variable{l:List Oper}{tb:Tb}{id:Nat}{L':A8}{c:Code}{Xp:Option α}{Yp:Option α}
theorem AXS(H:TbOk P tb)(h:puA tb N l.toArray l L=some L')(k:A ds L' w):CW P N (.region id l.toArray false) ds L w A B X Z:=
 A7 (AKq H.st H.ag v0 _ l L (ATT h) rfl (Reg.nil k))
theorem AXT(H:TbOk P tb)(h:puA tb N l.toArray l L=some L')(k:CW P N c ds L' w A B X Z):CW P N (.seq (.region id l.toArray false) c) ds L w A B X Z:=
 A3 (AXS H h k)
theorem cr(h:Reg P N l.toArray .seq l ds L w (fun ds' L' w'=>CW P N c ds' L' w' A B X Z) B X Z):CW P N (.seq (.region id l.toArray false) c) ds L w A B X Z:=A3 (A7 h)
theorem cc{r:α}{c:Operand}{x y:Code}{b:Bool}(h:cond b Xp Yp=some r)(J:ev L c=some (.bool b))(H:b=true->Xp=some r->CW P N x ds L w A B X Z)(I:b=false->Yp=some r->CW P N y ds L w A B X Z):CW P N (.cond c x y) ds L w A B X Z:=
 U2 J (fun e=>H e (cdT e h)) fun e=>I e (cdF e h)
theorem gs{r:α}{t:Nat}{x:Bool}(h:cond x Xp Yp=some r)(H:A6 L t=some (.bool x))(I:x=true->Xp=some r->Reg P N ops q l ds ((t,.bool true)::L) w A B X Z)(J:x=false->Yp=some r->Reg P N ops q l ds ((t,.bool false)::L) w A B X Z):Reg P N ops q l ds L w A B X Z:=
 AIS H (fun e=>I e (cdT e h)) fun e=>J e (cdF e h)
theorem so{α:Type}{a b:α}(h:some a=some b):a=b:=AbA h
def AOX(L:A8):List Nat->Option (List Value)
 |[]=>some []
 |t::r=>match A6 L t with
  |some v=>match AOX L r with
   |some vs=>some (v::vs)
   |none=>none
  |none=>none
theorem sb{L:A8}:∀{L0:A8},AOX L (L0.map (·.1))=some (L0.map (·.2))->Sub L0 L
 |[],_=>Sub.nil _
 |(t,v)::r,h=>by
  simp only[List.map_cons,AOX]at h;split at h
  . rename_i u I;split at h
    . rename_i us H;simp only[Option.some.injEq,List.cons.injEq]at h;obtain⟨rfl,rfl⟩:=h;exact Sub.cons I (sb H)
    . cases h
  . cases h
variable{w0:World}{Mu:List Nat}{σ:List Res}
abbrev Hp.J(_:Hp w0 Mu M σ w)(σ':List Res)(w':World)(p:Prop):Prop:=Hp w0 Mu M σ' w'/\Adv (mm σ M) (mm σ' M) w w'/\p
abbrev Hp.K(_:Hp w0 Mu M σ w)(σ':List Res)(w':World):Prop:=Hp w0 Mu M σ' w'/\Adv (mm σ M) (mm σ' M) w w'
theorem Hp.fz(h:Hp w0 Mu M σ w)(i:Nat){e:TypeId}{b:Nat}{cs:List Value}(hi:σ[i]?=some (rowR e b cs)):RdC (mm (σ.eraseIdx i) M) w b 0 cs/\Hp w0 Mu M (σ.eraseIdx i) w:=⟨h.freezeRow i hi,h.erase i⟩
theorem Hp.fs(h:Hp w0 Mu M σ w)(i:Nat){α:Type}{mu:List Nat}{E:Enc α}{e:TypeId}{v:Value}{xs:List α}(hi:σ[i]?=some (ownR mu E e v xs)):RdS E (mm (σ.eraseIdx i) M) w v xs/\Hp w0 Mu M (σ.eraseIdx i) w:=⟨h.freeze i hi,h.erase i⟩
end Go.Sx
namespace Go.Rx
open Go Go.Sx Go.RowKit
inductive Ty where
 |int (k:IntKind)
 |bool
 |sl (t:Ty)
 |st (n:Nat)
 |arr (k:IntKind) (n:Nat)
 |mp (m:Nat) (k v:Ty)
 |fno (i:Nat)
 deriving DecidableEq
class Sg where
 S:Nat->Type
section
variable[Sg]
def den:Ty->Type
 |.int _=>Int
 |.bool=>Bool
 |.sl t=>List (den t)
 |.st n=>Sg.S n
 |.arr _ _=>List Int
 |.mp _ k v=>A4 (den k) (den v)
 |.fno _=>Nat
def Q1:List Ty->Type
 |[]=>Unit
 |[t]=>den t
 |t::u::l=>den t×Q1 (u::l)
end
section
variable[Sg]
def R3:List Ty->Ty->Type
 |[],r=>Option (den r)
 |t::l,r=>den t->R3 l r
inductive SV where
 |int (k:IntKind) (x:Int)
 |bool (b:Bool)
 |dat (t:Ty) (x:den t)
 |str (n:Nat) (x:Sg.S n)
 |ary (k:IntKind) (n:Nat) (x:List Int)
 |agg (l:List SV)
 |own (i:Nat)
 |ptr (i o:Nat)
 |ep (i:Nat) (t:Ty) (x:Int) (z:Option (den t)) (o:Nat)
 |rp (s:SV) (o:Nat)
 |fv (a:List Ty) (r:Ty) (f:R3 a r)
 |fn (g:Nat) (caps:List SV)
 |nilS
 |raw (v:Value)
 |it (ts:List Ty) (xs:List (Q1 ts))
 |np (t:Ty) (x:Option (den t))
 |ap (s:SV) (n:Nat) (x:Int) (k:Nat)
 |undef
 |dead
 |tup (l:List SV)
end
def Ty.leaf:Ty->Bool
 |.st _=>false
 |_=>true
def AFz:List Ty->Bool
 |[]=>true
 |t::l=>t.leaf&&AFz l
class Sf[Sg]where
 ft:Nat->List Ty
 un:(n:Nat)->Sg.S n->Q1 (ft n)
 mkS:(n:Nat)->Q1 (ft n)->Sg.S n
 un_mk:∀n x,un n (mkS n x)=x
 eq:(n:Nat)->Sg.S n->Sg.S n->Bool
 dec:(n:Nat)->DecidableEq (Sg.S n)
 leaf:∀n,AFz (ft n)=true
 nm:Nat->Bool
 gv:Nat->Option SV:=fun _=>none
variable[Sg][Sf]
open Classical in
def AEc:(t:Ty)->DecidableEq (den t)
 |.int _=>inferInstanceAs (DecidableEq Int)
 |.bool=>inferInstanceAs (DecidableEq Bool)
 |.st n=>Sf.dec n
 |.arr _ _=>inferInstanceAs (DecidableEq (List Int))
 |.sl t=>fun _ _=>propDecidable _
 |.mp _ _ _=>fun _ _=>propDecidable _
 |.fno _=>inferInstanceAs (DecidableEq Nat)
def I7(t t':Ty)(x:den t):Option (den t'):=if h:t=t' then some (h▸x) else none
def AKr(n n':Nat)(x:Sg.S n):Option (Sg.S n'):=if h:n=n' then some (h▸x) else none
def G2:(t:Ty)->den t->SV
 |.int k,x=>.int k x
 |.bool,x=>.bool x
 |.sl t,x=>.dat (.sl t) x
 |.st n,x=>.str n x
 |.arr k n,x=>.ary k n x
 |.mp m k v,x=>.dat (.mp m k v) x
 |.fno i,x=>.dat (.fno i) x
def ofL:(l:List Ty)->Q1 l->List SV
 |[],_=>[]
 |[t],x=>[G2 t x]
 |t::u::l,x=>G2 t x.1::ofL (u::l) x.2
def AU4(n:Nat)(x:Sg.S n):List SV:=ofL (Sf.ft n) (Sf.un n x)
inductive Oc where
 |sl (e:Nat) (t:Ty)
 |mp (m:Nat) (k v:Ty)
 deriving DecidableEq
def Oc.ty:Oc->Ty
 |.sl _ t=>.sl t
 |.mp m k v=>.mp m k v
def castO(c c':Oc)(x:den c.ty):Option (den c'.ty):=if h:c=c' then some (h▸x) else none
inductive AR where
 |own (p:Bool) (c:Oc) (x:den c.ty)
 |row (e:Nat) (l:List SV)
def A1{α:Type}:List (Nat×α)->Nat->Option α
 |[],_=>none
 |(k,v)::r,t=>bif beq k t then some v else A1 r t
def AA0(R:Nat->Option AR):(t:Ty)->SV->Option (den t)
 |.int k,s=>match s with
  |.int k' x=>match kEq k' k with
   |true=>some x
   |false=>none
  |_=>none
 |.bool,s=>match s with
  |.bool b=>some b
  |_=>none
 |.sl t,s=>match s with
  |.dat t' x=>I7 t' (.sl t) x
  |.nilS=>some []
  |.own i=>match R i with
   |some (.own _ c xs)=>I7 c.ty (.sl t) xs
   |_=>none
  |_=>none
 |.st _,_=>none
 |.arr k n,s=>match s with
  |.ary k' n' x=>match kEq k' k with
   |true=>match beq n' n with
    |true=>some x
    |false=>none
   |false=>none
  |_=>none
 |.mp m k v,s=>match s with
  |.dat t' x=>I7 t' (.mp m k v) x
  |.own i=>match R i with
   |some (.own _ c xs)=>I7 c.ty (.mp m k v) xs
   |_=>none
  |_=>none
 |.fno i,s=>match s with
  |.dat t' x=>I7 t' (.fno i) x
  |.fn g l=>match l with
   |[]=>some g
   |_=>none
  |_=>none
def toL(R:Nat->Option AR):(l:List Ty)->List SV->Option (Q1 l)
 |[],_=>none
 |[t],ss=>match ss with
  |[s]=>AA0 R t s
  |_=>none
 |t::u::l,ss=>match ss with
  |s::r=>match AA0 R t s with
   |some x=>match toL R (u::l) r with
    |some y=>some (x,y)
    |none=>none
   |none=>none
  |[]=>none
def C5(R:Nat->Option AR):(t:Ty)->SV->Option (den t)
 |.st n,s=>match s with
  |.str n' x=>AKr n' n x
  |.agg l=>match toL R (Sf.ft n) l with
   |some y=>some (Sf.mkS n y)
   |none=>none
  |_=>none
 |t,s=>AA0 R t s
inductive Rp where
 |dead
 |dat (t:Ty) (x:den t)
 |rp (l:List SV)
mutual
def subS(i:Nat)(p:Rp):SV->SV
 |.own j=>match beq i j with
  |true=>match p with
   |.dat t x=>.dat t x
   |_=>.dead
  |false=>.own j
 |.ptr j o=>match beq i j with
  |true=>match p with
   |.rp l=>.rp (.agg l) o
   |_=>.dead
  |false=>.ptr j o
 |.ep j t x z o=>match beq i j with
  |true=>.dead
  |false=>.ep j t x z o
 |.agg l=>.agg (subL i p l)
 |.tup l=>.tup (subL i p l)
 |.rp s o=>.rp (subS i p s) o
 |.ap s n x k=>.ap (subS i p s) n x k
 |.fn g l=>.fn g (subL i p l)
 |.int k x=>.int k x
 |.bool b=>.bool b
 |.dat t x=>.dat t x
 |.str n x=>.str n x
 |.ary k n x=>.ary k n x
 |.fv a r f=>.fv a r f
 |.nilS=>.nilS
 |.raw v=>.raw v
 |.it ts xs=>.it ts xs
 |.np t x=>.np t x
 |.undef=>.undef
 |.dead=>.dead
def subL(i:Nat)(p:Rp):List SV->List SV
 |[]=>[]
 |s::l=>subS i p s::subL i p l
end
mutual
def oldS(i:Nat):SV->SV
 |.ep j t x z o=>match beq i j with
  |true=>.ep j t x none o
  |false=>.ep j t x z o
 |.agg l=>.agg (oldL i l)
 |.tup l=>.tup (oldL i l)
 |.rp s o=>.rp (oldS i s) o
 |.ap s n x k=>.ap (oldS i s) n x k
 |.fn g l=>.fn g (oldL i l)
 |.int k x=>.int k x
 |.bool b=>.bool b
 |.dat t x=>.dat t x
 |.str n x=>.str n x
 |.ary k n x=>.ary k n x
 |.own j=>.own j
 |.ptr j o=>.ptr j o
 |.fv a r f=>.fv a r f
 |.nilS=>.nilS
 |.raw v=>.raw v
 |.it ts xs=>.it ts xs
 |.np t x=>.np t x
 |.undef=>.undef
 |.dead=>.dead
def oldL(i:Nat):List SV->List SV
 |[]=>[]
 |s::l=>oldS i s::oldL i l
end
def AF0(i:Nat):List (Nat×SV)->List (Nat×SV)
 |[]=>[]
 |(t,s)::r=>(t,oldS i s)::AF0 i r
def ABi(i:Nat)(p:Rp):List (Nat×SV)->List (Nat×SV)
 |[]=>[]
 |(t,s)::r=>(t,subS i p s)::ABi i p r
def AR.sub(i:Nat)(p:Rp):AR->AR
 |.row e l=>.row e (subL i p l)
 |.own p c xs=>.own p c xs
def T6(i:Nat)(p:Rp):List (Nat×AR)->List (Nat×AR)
 |[]=>[]
 |(t,a)::r=>(t,a.sub i p)::T6 i p r
structure AS where
 env:List (Nat×SV)
 res:List (Nat×AR)
 kl:List Nat
 ch:List (Nat×Nat)
inductive Ac where
 |put (s:SV)
 |new (i:Nat) (r:AR)
 |sto (i o:Nat) (ns:List SV)
 |cnt (i:Nat) (c:Oc) (x:den c.ty)
 |hnd (i:Nat) (r:AR)
 |del (i:Nat) (p:Rp)
def AR.old(i:Nat):AR->AR
 |.row e l=>.row e (oldL i l)
 |.own p c xs=>.own p c xs
def AEK(i:Nat)(a:AR):List (Nat×AR)->List (Nat×AR)
 |[]=>[]
 |(t,b)::r=>bif beq t i then(t,a)::AEK i a r else(t,b)::AEK i a r
def X5(i:Nat):List (Nat×AR)->List (Nat×AR)
 |[]=>[]
 |(t,b)::r=>bif beq t i then X5 i r else(t,b)::X5 i r
def ALR(i:Nat):List Nat->List (Nat×Nat)->List (Nat×Nat)
 |[],l=>l
 |c::r,l=>(i,c)::ALR i r l
inductive Ck where
 |d (t:Ty)
 |own (c:Oc)
 |undef
 |it (ts:List Ty)
 |np (t:Ty)
 deriving DecidableEq
def Ck.den:Ck->Type
 |.d t=>Rx.den t
 |.own c=>Rx.den c.ty
 |.undef=>Unit
 |.it ts=>List (Q1 ts)
 |.np t=>Option (Rx.den t)
def E4:List Ck->Type
 |[]=>Unit
 |[c]=>c.den
 |c::d::l=>c.den×E4 (d::l)
inductive Pt where
 |d (t:Ty)
 |pt (t:Ty)
 |fn (a:List Ty) (r:Ty)
 |pp (t:Ty)
 |cl (g:Nat) (cs:List (Bool×Ty))
 |nl
 deriving DecidableEq
def AF1:Bool->Ty->Type
 |false,t=>Rx.den t
 |true,t=>Option (Rx.den t)
def ABB:List (Bool×Ty)->Type
 |[]=>Unit
 |(b,t)::l=>AF1 b t×ABB l
def Pt.den:Pt->Type
 |.d t=>Rx.den t
 |.pt t=>Rx.den t
 |.fn a r=>R3 a r
 |.pp t=>Option (Rx.den t)
 |.cl _ cs=>ABB cs
 |.nl=>Unit
def E2:List Pt->Type
 |[]=>Unit
 |p::l=>p.den×E2 l
structure Ctr where
 ps:List Pt
 rs:List Ck
 F:E2 ps->Option (E4 rs)
structure CtrP where
 ps:List Pt
 t:Ty
 T:TypeId
 F:E2 ps->Option (den t)
structure CtrA where
 ps:List Pt
 rs:List Ck
 F:E2 ps->Option (E4 rs)
structure CtrM where
 ps:List Pt
 i:Nat
 c:Oc
 rs:List Ck
 F:E2 ps->den c.ty->Option (E4 rs×den c.ty)
 self:Bool:=false
 ag:Option CtrA:=none
structure Fd where
 a:List Ty
 r:Ty
 D:Nat->R3 a r
structure Gx where
 tb:Tb
 sl:List (Nat×Nat×Ty×Nat)
 sz:List (Nat×Nat)
 ty:List (Nat×Ty)
 fs:List (Nat×Ctr)
 bd:List (Nat×List (Nat×Nat))
 eq:List (Nat×Nat)
 mp:List (Nat×Nat×Nat×Ty×Ty)
 ar:List (Nat×Nat×Nat)
 pz:List (Nat×Nat)
 pf:List (Nat×CtrP)
 fm:List (Nat×CtrM)
 fd:List (Nat×Fd)
def AOY:Nat->Value
 |0=>.pointer none
 |_=>.nilFunc
variable(G:Gx)
def ALS:IntKind->Int->Bool
 |.i64,x=>decide (-9223372036854775808<=x)&&decide (x<=9223372036854775807)
 |.u8,x=>decide (0<=x)&&decide (x<=255)
 |.u16,x=>decide (0<=x)&&decide (x<=65535)
 |.u32,x=>decide (0<=x)&&decide (x<=4294967295)
 |_,_=>false
def ALT:Value->Option SV
 |.int k x=>bif ALS k x then some (.int k x) else none
 |.bool b=>some (.bool b)
 |.slice a n c=>match a,n,c with
  |none,0,0=>some .nilS
  |_,_,_=>none
 |.map a=>match a with
  |none=>some (.raw (.map none))
  |some _=>none
 |.pointer a=>match a with
  |none=>some (.raw (.pointer none))
  |some _=>none
 |_=>none
def B5(env:List (Nat×SV)):Operand->Option SV
 |.tmp t=>A1 env t
 |.const v=>ALT v
 |.func g=>some (.fn g [])
 |.global g=>Sf.gv g
def evL(E:Operand->Option SV):List Operand->Option (List SV)
 |[]=>some []
 |x::l=>match E x with
  |some s=>match evL E l with
   |some r=>some (s::r)
   |none=>none
  |none=>none
def wd:SV->Nat
 |.ary _ n _=>n
 |.str _ _=>0
 |.agg _=>0
 |.tup _=>0
 |.undef=>0
 |_=>1
def cellsOf:SV->List SV
 |.str n x=>AU4 n x
 |.agg l=>l
 |s=>[s]
def R4:List SV->Nat->Option SV
 |[],_=>none
 |s::l,o=>match o with
  |0=>some s
  |o+1=>match wd s with
   |0=>none
   |n+1=>bif Nat.ble n o then R4 l (o-n) else none
def R5:List SV->Option Nat
 |[]=>some 0
 |s::l=>match wd s with
  |0=>none
  |n+1=>match R5 l with
   |some m=>some (n+1+m)
   |none=>none
def AGp:List SV->Nat->Option (List SV)
 |l,0=>some l
 |[],_+1=>none
 |s::l,o+1=>match wd s with
  |0=>none
  |n+1=>bif Nat.ble n o then AGp l (o-n) else none
def AE8:List SV->Nat->Option (List SV)
 |_,0=>some []
 |[],_+1=>none
 |s::l,o+1=>match wd s with
  |0=>none
  |n+1=>match Nat.ble n o with
   |true=>match AE8 l (o-n) with
    |some r=>some (s::r)
    |none=>none
   |false=>none
def overL:List SV->List SV->Option (List SV)
 |l,[]=>some l
 |[],_::_=>none
 |s::l,n::r=>match beq (wd s) (wd n) with
  |true=>match wd n with
   |0=>none
   |_+1=>match overL l r with
    |some x=>some (n::x)
    |none=>none
  |false=>none
def setW:List SV->Nat->List SV->Option (List SV)
 |l,0,ns=>overL l ns
 |[],_+1,_=>none
 |s::l,o+1,ns=>match wd s with
  |0=>none
  |n+1=>match Nat.ble n o with
   |true=>match setW l (o-n) ns with
    |some r=>some (s::r)
    |none=>none
   |false=>none
def entry:List SV->Nat->Nat
 |_,0=>0
 |[],_+1=>0
 |s::l,o+1=>match wd s with
  |0=>0
  |n+1=>bif Nat.ble n o then entry l (o-n)+1 else 0
def AA1(o:Nat)(ns:List SV):AR->AR
 |.row e l=>match setW l o ns with
  |some l'=>.row e l'
  |none=>.row e l
 |a=>a
def ARC(o:Nat)(ns:List SV):Option AR->List Nat
 |some (.row _ l)=>List.range' (entry l o+1) ns.length
 |_=>[]
def AAL(c:Oc)(x:den c.ty):AR->AR
 |.own p c' y=>match castO c c' x with
  |some z=>.own p c' z
  |none=>.own p c' y
 |a=>a
def AE9(i:Nat)(g:AR->AR):List (Nat×AR)->List (Nat×AR)
 |[]=>[]
 |(t,b)::r=>(t,bif beq t i then g b else b.old i)::AE9 i g r
def AS.upd(σ:AS)(i:Nat)(g:AR->AR)(c:List Nat):AS:={ σ with env:=AF0 i σ.env,res:=AE9 i g σ.res,ch:=ALR i c σ.ch }
def Ac.app(d:Option Nat)(σ:AS):Ac->AS
 |.put s=>match d with
  |some d=>{ σ with env:=(d,s)::σ.env }
  |none=>σ
 |.new i r=>{ σ with env:=ABi i .dead σ.env,res:=(i,r)::X5 i (T6 i .dead σ.res),kl:=i::σ.kl }
 |.sto i o ns=>σ.upd i (AA1 o ns) (ARC o ns (A1 σ.res i))
 |.cnt i c x=>σ.upd i (AAL c x) [0]
 |.hnd i r=>{ σ with env:=ABi i .dead σ.env,res:=AEK i r (T6 i .dead σ.res),kl:=i::σ.kl }
 |.del i p=>{ σ with env:=ABi i p σ.env,res:=X5 i (T6 i p σ.res),kl:=i::σ.kl }
def apps(d:Option Nat):List Ac->AS->AS
 |[],σ=>σ
 |a::l,σ=>apps d l (a.app d σ)
def one:SV->Bool
 |.ary _ _ _=>false
 |.str _ _=>false
 |.agg _=>false
 |.tup _=>false
 |.undef=>false
 |_=>true
def AEL:SV->Bool
 |.ary _ _ _=>true
 |.str _ _=>true
 |.agg _=>true
 |_=>false
def AU5:SV->Bool
 |.tup _=>false
 |.undef=>false
 |.dead=>false
 |.agg _=>false
 |.str _ _=>false
 |_=>true
def AGq:List SV->Bool
 |[]=>true
 |s::l=>AU5 s&&AGq l
mutual
def B3:SV->List Nat
 |.own i=>[i]
 |.ptr i _=>[i]
 |.ep i _ _ _ _=>[i]
 |.agg l=>ownsLL l
 |.tup l=>ownsLL l
 |.fn _ l=>ownsLL l
 |.rp s _=>B3 s
 |.ap s _ _ _=>B3 s
 |_=>[]
def ownsLL:List SV->List Nat
 |[]=>[]
 |s::l=>B3 s++ownsLL l
end
def ABj:Rp->List Nat
 |.rp l=>ownsLL l
 |_=>[]
def AGr:AR->List Nat
 |.row _ l=>ownsLL l
 |_=>[]
def ADL(R:Nat->Option AR)(i:Nat):Option (List Ac):=match R i with
 |some (.own false c xs)=>some [.del i (.dat c.ty xs)]
 |some (.own true _ _)=>none
 |some (.row _ l)=>match ownsLL l with
  |[]=>some [.del i (.rp l)]
  |_=>none
 |none=>none
def has(l:List Nat)(n:Nat):Bool:=match l with
 |[]=>false
 |x::r=>bif beq x n then true else has r n
def frz(R:Nat->Option AR):List Nat->Option (List Ac)
 |[]=>some []
 |i::l=>bif has l i then frz R l else match ADL R i with
  |some a=>match frz R l with
   |some r=>some (a++r)
   |none=>none
  |none=>none
def toP(R:Nat->Option AR)(t:Ty)(l:List SV):Option (den t):=match t with
 |.st n=>C5 R (.st n) (.agg l)
 |t=>match l with
  |[s]=>C5 R t s
  |_=>none
def AAa(R:Nat->Option AR)(t:Ty):SV->Option (den t)
 |.rp v o=>match o with
  |0=>toP R t (cellsOf v)
  |_=>none
 |.ptr i o=>match o with
  |0=>match R i with
   |some (.row _ c)=>toP R t c
   |_=>none
  |_=>none
 |.np t' x=>match x with
  |some y=>I7 t' t y
  |none=>none
 |_=>none
def AHi(R:Nat->Option AR)(t:Ty):SV->Option (Option (den t))
 |.np t' x=>if h:t'=t then some (h▸x) else none
 |.rp v o=>match AAa R t (.rp v o) with
  |some x=>some (some x)
  |none=>none
 |.ptr i o=>match AAa R t (.ptr i o) with
  |some x=>some (some x)
  |none=>none
 |_=>none
def ACT(R:Nat->Option AR):SV->Option SV
 |.rp v o=>match o,cellsOf v with
  |0,[s]=>some s
  |_,_=>none
 |.ptr i o=>match o,R i with
  |0,some (.row _ [s])=>some s
  |_,_=>none
 |_=>none
def toB(R:Nat->Option AR):(b:Bool)->(t:Ty)->SV->Option (AF1 b t)
 |false,t,s=>AAa R t s
 |true,t,s=>match ACT R s with
  |some s'=>AHi R t s'
  |none=>none
def ACU(R:Nat->Option AR):(cs:List (Bool×Ty))->List SV->Option (ABB cs)
 |[],ss=>match ss with
  |[]=>some ()
  |_=>none
 |(b,t)::cs,ss=>match ss with
  |s::l=>match toB R b t s with
   |some x=>match ACU R cs l with
    |some r=>some (x,r)
    |none=>none
   |none=>none
  |[]=>none
def AHj(R:Nat->Option AR)(g:Nat)(cs:List (Bool×Ty))(s:SV):Option (ABB cs):=match ACT R s with
 |some (.fn g' l)=>match beq g' g with
  |true=>ACU R cs l
  |false=>none
 |_=>none
def AFA(R:Nat->Option AR):(p:Pt)->SV->Option p.den
 |.pt t,s=>AAa R t s
 |.pp t,s=>toB R true t s
 |.cl g cs,s=>AHj R g cs s
 |.d _,_=>none
 |.fn _ _,_=>none
 |.nl,_=>none
def ACV(R:Nat->Option AR):(ps:List Pt)->List SV->Option (E2 ps)
 |[],ss=>match ss with
  |[]=>some ()
  |_=>none
 |p::ps,ss=>match ss with
  |s::l=>match AFA R p s with
   |some x=>match ACV R ps l with
    |some r=>some (x,r)
    |none=>none
   |none=>none
  |[]=>none
def AOZ(r:Ty):(a:List Ty)->(ps:List Pt)->E2 ps->(E2 (a.map Pt.d++ps)->Option (den r))->R3 a r
 |[],_,y,f=>f y
 |_::a,ps,y,f=>fun x=>AOZ r a ps y (fun z=>f (x,z))
def APp(ps cps:List Pt)(rs:List Ck)(F:E2 ps->Option (E4 rs))(y:E2 cps)(a:List Ty)(r:Ty):Option (R3 a r):=
 if h:ps=a.map Pt.d++cps/\rs=[.d r] then some (AOZ r a cps y (fun z=>(show Option (E4 [.d r]) from h.2▸F (h.1▸z)))) else none
def AJQ(R:Nat->Option AR)(ps cps:List Pt)(rs:List Ck)(F:E2 ps->Option (E4 rs))(caps:List SV)(a:List Ty)(r:Ty):Option (R3 a r):=match ACV R cps caps with
 |some y=>APp ps cps rs F y a r
 |none=>none
def ADu(R:Nat->Option AR)(g:Nat)(caps:List SV)(a:List Ty)(r:Ty):Option (R3 a r):=match A1 G.fs g with
 |some c=>AJQ R c.ps (c.ps.drop a.length) c.rs c.F caps a r
 |none=>none
def AKs(a a':List Ty)(r r':Ty)(f:R3 a r):Option (R3 a' r'):=if h:a=a'/\r=r' then some (h.1▸h.2▸f) else none
def AFB(R:Nat->Option AR):(p:Pt)->SV->Option p.den
 |.d t,s=>C5 R t s
 |.pt t,s=>AAa R t s
 |.fn a r,s=>match s with
  |.fv a' r' f=>AKs a' a r' r f
  |.fn g caps=>ADu G R g caps a r
  |_=>none
 |.pp t,s=>toB R true t s
 |.cl g cs,s=>AHj R g cs s
 |.nl,s=>match s with
  |.nilS=>some ()
  |_=>none
def I8(R:Nat->Option AR):(ps:List Pt)->List SV->Option (E2 ps)
 |[],ss=>match ss with
  |[]=>some ()
  |_=>none
 |p::ps,ss=>match ss with
  |s::l=>match AFB G R p s with
   |some x=>match I8 R ps l with
    |some r=>some (x,r)
    |none=>none
   |none=>none
  |[]=>none
def AJR(id:Nat):(c:Ck)->c.den->SV×List Ac
 |.d t,x=>(G2 t x,[])
 |.own c,x=>(.own id,[.new id (.own false c x)])
 |.undef,_=>(.undef,[])
 |.it ts,x=>(.it ts x,[])
 |.np t,x=>(.np t x,[])
def H3(id:Nat):(rs:List Ck)->E4 rs->List SV×List Ac
 |[],_=>([],[])
 |[c],x=>match AJR id c x with
  |(s,a)=>([s],a)
 |c::d::l,x=>match AJR id c x.1 with
  |(s,a)=>match H3 (id+100000) (d::l) x.2 with
   |(ss,as_)=>(s::ss,a++as_)
def AF3:List SV->SV
 |[s]=>s
 |l=>.tup l
def AA5:List Ck->Bool
 |[]=>true
 |.d (.int _)::l=>AA5 l
 |.d .bool::l=>AA5 l
 |_=>false
def cmp(b:BinOp)(i j:Int):Option Bool:=match b with
 |.lss=>some (decide (i<j))
 |.leq=>some (decide (i<=j))
 |.gtr=>some (decide (j<i))
 |.geq=>some (decide (j<=i))
 |.eql=>some (decide (i=j))
 |.neq=>some (!decide (i=j))
 |_=>none
def ABC(u:Ty)(R:Nat->Option AR):List SV->Option (List (den u))
 |[]=>some []
 |s::l=>match C5 R u s with
  |some x=>match ABC u R l with
   |some r=>some (x::r)
   |none=>none
  |none=>none
def fvN:Option SV->Option SV
 |some (.dat t n)=>match t,n with
  |.fno i,n=>match A1 G.fd i with
   |some q=>some (.fv q.a q.r (q.D n))
   |none=>none
  |_,_=>none
 |o=>o
def AIY(id:Nat)(R:Nat->Option AR){Z:Type}(K:List Ac->Option Z)(g:Nat)(ss:List SV):Option Z:=match A1 G.fs g with
 |some c=>match I8 G R c.ps ss with
  |some a=>match (bif AA5 c.rs then some [] else frz R (ownsLL ss)) with
   |some fz=>(c.F a).bind fun r=>match H3 id c.rs r with
    |(ss',as_)=>K (fz++as_++[.put (AF3 ss')])
   |none=>none
  |none=>none
 |none=>none
def AAR(r:Ty):(a:List Ty)->R3 a r->(R:Nat->Option AR)->List SV->Option (Option (den r))
 |[],f,_,ss=>match ss with
  |[]=>some f
  |_=>none
 |t::a,f,R,ss=>match ss with
  |s::l=>match C5 R t s with
   |some x=>AAR r a (f x) R l
   |none=>none
  |[]=>none
end Go.Rx
namespace Go.Sx
open Go Go.RowKit Go.ChangeMaps
variable[Trk]
def J6{β:Type}(l:List (MapEntry×β))(seen:Array Nat):List β:=(l.filter fun p=>!seen.contains p.1.born).map (·.2)
variable{seen:Array Nat}{β:Type}{xs:List β}
theorem APq{n m:Nat}:(seen.push m).contains n=(seen.contains n||(n==m)):=by
 rw[Bool.eq_iff_iff];simp
theorem ALU{β:Type}{p:MapEntry×β}{seen:Array Nat}:∀{l:List (MapEntry×β)},(l.map (·.1.born)).Nodup->p∈l->seen.contains p.1.born=false->(J6 l seen).Perm (p.2::J6 l (seen.push p.1.born))
 |[],_,h,_=>by cases h
 |q::l,U,h,C=>by
  rw[AbV,List.nodup_cons]at U;have V:∀n:Nat,(seen.push p.1.born).contains n=(seen.contains n||(n==p.1.born)):=fun n=>APq;by_cases e:q=p
  . subst e;have hrest:J6 l (seen.push q.1.born)=J6 l seen:=by
     unfold J6;congr 1;refine List.filter_congr fun x hx=>?_;have:x.1.born≠q.1.born:=fun e=>U.1 (e▸Ab0 (f:=fun p:MapEntry×β=>p.1.born) hx);rw[V,beq_false_of_ne this,Bool.or_false]
    have J:J6 (q::l) seen=q.2::J6 l seen:=by simp only[J6,List.filter_cons,C,Bool.not_false,if_true,List.map_cons]
    have I:J6 (q::l) (seen.push q.1.born)=J6 l (seen.push q.1.born):=by
     simp only[J6,List.filter_cons,V,beq_self_eq_true,Bool.or_true,Bool.not_true,Bool.false_eq_true,if_false]
    rw[J,I,hrest]
  . have D:p∈l:=(mem_cons.1 h).resolve_left fun e'=>e e'.symm;have ih:=ALU U.2 D C;have W:q.1.born≠p.1.born:=fun e=>U.1 (e▸Ab0 (f:=fun p:MapEntry×β=>p.1.born) D);by_cases H:seen.contains q.1.born=true
    . have J:J6 (q::l) seen=J6 l seen:=by simp only[J6,List.filter_cons,H,Bool.not_true,Bool.false_eq_true,if_false]
      have I:J6 (q::l) (seen.push p.1.born)=J6 l (seen.push p.1.born):=by simp only[J6,List.filter_cons,V,H,Bool.true_or,Bool.not_true,Bool.false_eq_true,if_false]
      rw[J,I];exact ih
    . have H:seen.contains q.1.born=false:=by simpa using H
      have E:(q.1.born==p.1.born)=false:=beq_false_of_ne W;have J:J6 (q::l) seen=q.2::J6 l seen:=by simp only[J6,List.filter_cons,H,Bool.not_false,if_true,List.map_cons]
      have I:J6 (q::l) (seen.push p.1.born)=q.2::J6 l (seen.push p.1.born):=by simp only[J6,List.filter_cons,V,H,E,Bool.or_false,Bool.not_false,if_true,List.map_cons]
      rw[J,I];exact(ih.cons q.2).trans (List.Perm.swap ..)
theorem ALV{β:Type}:∀{es:List MapEntry} {xs:List β},es.length=xs.length->(es.zip xs).map (·.1.born)=es.map (·.born)
 |[],[],_=>rfl
 |_::_,_::_,h=>by simp[ALV (Nat.succ.inj h)]
 |[],_::_,h=>by simp at h
 |_::_,[],h=>by simp at h
theorem ANM{β:Type}:∀{es:List MapEntry} {xs:List β},es.length=xs.length->(es.zip xs).map (·.2)=xs
 |[],[],_=>rfl
 |_::_,_::_,h=>by simp[ANM (Nat.succ.inj h)]
 |[],_::_,h=>by simp at h
 |_::_,[],h=>by simp at h
theorem ATU{es:List MapEntry}(h:es.length=xs.length):J6 (es.zip xs) #[]=xs:=by
 unfold J6;rw[List.filter_eq_self.2 (fun p _=>by simp)];exact ANM h
theorem ATV{es:Array MapEntry}(h:(leftOf es seen).size=0):J6 (es.toList.zip xs) seen=[]:=by
 unfold J6;rw[List.map_eq_nil_iff,List.filter_eq_nil_iff];intro p I;have J:p.1∈es.toList:=(List.of_mem_zip (a:=p.1) (b:=p.2) I).1;have H:leftOf es seen=#[]:=Array.eq_empty_of_size_eq_zero h;unfold leftOf at H;rw[Array.filter_eq_empty_iff]at H;have:=H p.1 (by simpa using J);simpa using this
variable{P:Program}{kt:TypeId}{κ α:Type}{K:Ky P kt κ}{E:Enc α}{ag:Bool}
def RdX(K:Ky P kt κ)(E:Enc α)(ag:Bool)(M:List Nat)(w:World)(b:Nat)(es:Array MapEntry)(c:Nat)(xs:List (κ×α)):Prop:=
 b∉M/\w.heap[b]?=some (.map es c)/\Stp es c/\EntK K E ag M w es.toList xs
theorem RdX.adv{M M':List Nat}{w w':World}{b c:Nat}{es:Array MapEntry}{xs:List (κ×α)}(h:RdX K E ag M w b es c xs)(J:Adv M M' w w'):RdX K E ag M' w' b es c xs:=by
 obtain⟨U,V,C,W⟩:=h;have H:=G6 V;exact⟨fun I=>(J.new b I).elim U (fun h=>absurd H (by omega)),(J.kp.block b H U).trans V,C,W.adv J⟩
theorem EntK.zip{M:List Nat}{w:World}:∀{es:List MapEntry} {xs:List (κ×α)},EntK K E ag M w es xs->∀{e:MapEntry} {x:κ×α},(e,x)∈es.zip xs->e.key=K.val x.1/\K.ok x.1/\Vl E ag M w e.val x.2
 |[],_,_,_,_,h=>by simp at h
 |_::_,[],h,_,_,_=>h.elim
 |e::es,x::xs,⟨H,J,I⟩,e',x',h=>by
  rw[AdC,Abc]at h;rcases h with h|h
  . cases h;exact⟨H.1,H.2,J⟩
  . exact EntK.zip I h
theorem AF4{β:Type}:∀{es:List MapEntry} {xs:List β},es.length=xs.length->∀e∈es,∃x,(e,x)∈es.zip xs
 |[],_,_,_,h=>by cases h
 |e::es,x::xs,hl,e',h=>by
  rcases mem_cons.1 h with rfl|h
  . exact⟨x,by simp⟩
  . obtain⟨y,hy⟩:=AF4 (Nat.succ.inj hl) e' h;exact⟨y,by simp[hy]⟩
 |_::_,[],h,_,_=>by simp at h
def N8(r b c:Nat)(es:Array MapEntry)(xs:List (κ×α))(o:Option (κ×α))(l:List (κ×α)):Res where
 fp:=[r]
 mu:=[]
 holds:=fun _ w=>∃seen,w.heap[r]?=some (.mapIter (some b) c seen c)/\l.Perm (J6 (es.toList.zip xs) seen)/\∀y,o=some y->∃(s0:Array Nat) (e:MapEntry),seen=s0.push e.born/\(e,y)∈es.toList.zip xs
 adv:=fun _ hb h=>by
  obtain⟨seen,h1,h2⟩:=h;exact⟨seen,(hb r (by simp)).trans h1,h2⟩
 lt:=fun h x hx=>by
  obtain⟨seen,h1,h2⟩:=h;have:x=r:=by simpa using hx
  subst this;exact G6 h1
variable{N:Nat}{ops:Array Oper}{q:Md}{rest:List Oper}{ds:List Deferred}{L:A8}{w w0:World}{A B:A5}{X:Nat->A5}{Z:List PanicEntry->A5}{d:Nat}{ty:TypeId}{pos:String}{af:Array Edge}{Mu M:List Nat}{σ:List Res}{es:Array MapEntry}{o:Option (κ×α)}{x:Operand}
theorem Hp.weak[Fx]{r r':Res}(h:Hp w0 Mu M σ w)(i:Nat)(hi:σ[i]?=some r)(I:r'.fp=r.fp)(hm:r'.mu=r.mu)(H:∀M',(∀b∈M',b∈r'.fp\/b∈mm σ M)->r'.holds M' w):Hp w0 Mu M (σ.set i r') w:=
 h.upd i hi (Kp.refl _ _) (fun b J=>.inl (I▸J)) hm H
theorem ARD{r r':Res}(i:Nat)(hi:σ[i]?=some r)(H:r'.fp=r.fp):Adv (mm σ M) (mm (σ.set i r') M) w w:=
 Adv.drop fun b I=>(ALE I).elim (fun h=>mem_mm.2 (.inl ⟨r,AbB hi,H▸h⟩)) id
theorem Hp.itOff[Fx]{r b c:Nat}{xs l:List (κ×α)}(h:Hp w0 Mu M σ w)(i:Nat)(hi:σ[i]?=some (N8 r b c es xs o l)):Hp w0 Mu M (σ.set i (N8 r b c es xs none l)) w:=
 h.weak i hi rfl rfl fun _ _=>by
  obtain⟨seen,I,H,_⟩:=h.get i hi;exact⟨seen,I,H,fun _ h=>by cases h⟩
theorem APr{r b c:Nat}{xs l:List (κ×α)}(i:Nat)(hi:σ[i]?=some (N8 r b c es xs o l)):Adv (mm σ M) (mm (σ.set i (N8 r b c es xs none l)) M) w w:=ARD i hi rfl
theorem ARE[Fx]{f:A4 κ α}{mv:Value}{t kt' e:TypeId}(J:Hp w0 Mu M σ w)(hm:RdF K E ag (mm σ M) w mv f)(hx:ev L x=some mv)(W:P.underlying t=some (.map kt' e))(hN:blt d N=true)(h:∀r b c es xs w',RdX K E ag (mm σ M) w b es c xs->Lists f xs->Hp w0 Mu M (N8 r b c es xs none xs::σ) w'->Adv (mm σ M) (mm (N8 r b c es xs none xs::σ) M) w w'->Reg P N ops .seq rest ds ((d,.pointer (some ⟨r,0,none⟩))::L) w' A B X Z):
  Reg P N ops .seq (⟨some d,.range t x,ty,pos,af,none⟩::rest) ds L w A B X Z:=by
 obtain⟨b,rfl,D,es,c,xs,V,Q,U,O⟩:=hm
 have H:Ext w (w.alloc (.mapIter (some b) c #[] c)):=Kp.alloc _ _ _
 have I:∀y∈(N8 w.heap.size b c es xs none xs).fp,w.heap.size<=y/\y<(w.alloc (.mapIter (some b) c #[] c)).heap.size:=fun y hy=>by
  have:y=w.heap.size:=by simpa[N8] using hy
  subst this;exact⟨AbQ _,by show w.heap.size<(w.heap.push _).size;simp⟩
 refine N1 (.pointer (some ⟨w.heap.size,0,none⟩)) (w.alloc (.mapIter (some b) c #[] c)) rfl rfl hN (fun a F=>?_) (h _ b c es xs _ ⟨D,V,Q,U⟩ O (J.add H I rfl ⟨#[],heap_alloc_new w _,by rw[ATU U.len],fun _ h=>by cases h⟩) (J.addA H I))
 have C:=run_range_map w t kt' e b es c W V
 simp[execOp,F.eval hx,C]
theorem ARF[Fx](j:Nat){b r c:Nat}{xs l:List (κ×α)}(O:Hp w0 Mu M σ w)(hm:RdX K E ag (mm σ M) w b es c xs)(C:σ[j]?=some (N8 r b c es xs o l))(hx:ev L x=some (.pointer (some ⟨r,0,none⟩)))(hN:blt d N=true)(m:l=[]->Reg P N ops .seq rest ds ((d,.tuple #[.bool false])::L) w A B X Z)(i:∀(y:κ×α) (l':List (κ×α)) k v w',l.Perm (y::l')->Hp w0 Mu M (σ.set j (N8 r b c es xs (some y) l')) w'->Adv (mm σ M) (mm (σ.set j (N8 r b c es xs (some y) l')) M) w w' ->
   Reg P N ops .seq rest ds ((d,.tuple #[.bool true,k,v])::L) w' A B X Z):
  Reg P N ops .seq (⟨some d,.next x false,ty,pos,af,none⟩::rest) ds L w A B X Z:=by
 obtain⟨_,g,T,S⟩:=hm
 obtain⟨seen,Y,hl,_⟩:=O.get j C
 rcases run_next_at (P:=P) w ty r b c c seen es c Y g T.2 (AbQ _) with⟨g1,g2⟩|⟨e,R,w1,H,g2⟩
 . refine N1 (.tuple #[.bool false]) w rfl rfl hN (fun a F=>?_) (m ?_)
   . simp[execOp,F.eval hx,g2]
   . rw[ATV g1]at hl;exact List.perm_nil.1 hl
 . have U:e∈es.toList/\seen.contains e.born=false:=by
    unfold leftOf at R;have D:e∈es.filter fun e=>!seen.contains e.born:=by simpa using R
    have:=Array.mem_filter.1 D;exact⟨by simpa using this.1,by simpa using this.2⟩
   obtain⟨y,V⟩:=AF4 S.len e U.1
   have f:=ALU (p:=(e,y)) (seen:=seen) (l:=es.toList.zip xs) (by rw[ALV S.len];exact T.1) V U.2
   have I:w1.heap[r]?=some (.mapIter (some b) c seen c):=by rcases H with rfl|rfl<;>exact Y
   have Q:Kp [r] w w1:=by
    rcases H with rfl|rfl
    . exact Kp.refl _ _
    . exact Kp.drew _ _
   have J:Kp [r] w (setBlock w1 r (.mapIter (some b) c (seen.push e.born) c)):=Q.trans (AEb I)
   have G:∀z∈(N8 r b c es xs (some y) (J6 (es.toList.zip xs) (seen.push e.born))).fp,z∈(N8 r b c es xs o l).fp\/w.heap.size<=z:=fun z V=>.inl V
   refine N1 (.tuple #[.bool true,e.key,e.val]) _ rfl rfl hN (fun a F=>?_) (i y (J6 (es.toList.zip xs) (seen.push e.born)) e.key e.val _ (hl.trans f) (O.upd j C J G rfl fun M' _=>⟨_,(MapKept.heap_set I).1,Ab6 _,fun y' W=>⟨seen,e,rfl,by cases W;exact V⟩⟩) (O.updA (r':=N8 r b c es xs (some y) (J6 (es.toList.zip xs) (seen.push e.born))) j C J G))
   simp[execOp,F.eval hx,g2]
theorem ARG[Fx](j:Nat){b r c:Nat}{xs l:List (κ×α)}{y:κ×α}(O:Hp w0 Mu M σ w)(hm:RdX K E ag (mm σ M) w b es c xs)(C:σ[j]?=some (N8 r b c es xs (some y) l))(hx:ev L x=some (.pointer (some ⟨r,0,none⟩)))(hN:blt d N=true)(h:∀v,K.ok y.1->Vl E ag (mm σ M) w v y.2->Reg P N ops .seq rest ds ((d,.tuple #[K.val y.1,v])::L) w A B X Z):
  Reg P N ops .seq (⟨some d,.entry x,ty,pos,af,none⟩::rest) ds L w A B X Z:=by
 obtain⟨_,D,U,Q⟩:=hm
 obtain⟨seen,V,_,W⟩:=O.get j C
 obtain⟨s0,e,rfl,I⟩:=W y rfl
 obtain⟨hk,H,hv⟩:=Q.zip I
 have J:=h e.val H hv
 rw[<-hk]at J
 refine N1 (.tuple #[e.key,e.val]) w rfl rfl hN (fun a F=>?_) J
 have:=run_entry_at (P:=P) w r b c s0 es c e V D (List.of_mem_zip I).1 U.1
 simp[execOp,F.eval hx,this]
variable{N:Nat}{ops:Array Oper}{ds:List Deferred}{L:A8}{w:World}{A B:A5}{X:Nat->A5}{Z:List PanicEntry->A5}
theorem ARH(m:Nat){S β:Type}{ι:Type}{c:Code}(body:S->β->Option S)(E:ι->A8)(st:ι->S)(I:ι->List β->World->Prop)(i0:ι)(l0:List β){x:S}(hx:AnyR body l0 (st i0) x)(T:I i0 l0 w)(F:Sub (E i0++L.drop m) L)(round:∀i l w,I i l w->(l=[]->st i=x)->(∀y l',l.Perm (y::l')->∃s',body (st i) y=some s')->CW P N c ds (E i++L.drop m) w (fun ds' L' w'=>ds'=ds/\∃i' y l',(l.Perm (y::l')/\body (st i) y=some (st i')/\I i' l' w')/\Sub (E i'++L.drop m) L') B X Z):CW P N (.loop c) ds L w A B X Z:=by
 refine AAj (ι:=ι×List β) (fun p=>E p.1++L.drop m) (fun p w=>I p.1 p.2 w/\AnyR body p.2 (st p.1) x) (fun p=>p.2.length) (i0,l0) ⟨T,hx⟩ F fun p w H=>?_;obtain⟨i,l⟩:=p;obtain⟨Q,W⟩:=H;refine AEY (round i l w Q (fun h=>by subst h;exact W.nil) fun y l' H=>(W.step H).imp fun _ h=>h.1) fun e a w' D=>?_;cases e with
 |normal=>
  obtain⟨ds',L',O,rfl,i',y,l',⟨H,K,C⟩,J⟩:=D
  obtain⟨s',U,V⟩:=W.step H
  rw[K]at U
  cases U
  exact⟨_,L',O,rfl,(i',l'),⟨C,V⟩,J,by have:=H.length_eq;simp at this;show l'.length<l.length;omega⟩
 |_=>exact D
end Go.Sx
namespace Go.Sx
open Go Go.RowKit
variable[Trk]
open Classical in
def X6{κ α R:Type}(m:A4 κ α)(K:List (κ×α)->Option R):Option R:=if h:∃r,∀l,Lists m l->K l=some r then some h.choose else none
theorem AJS{κ α R:Type}{m:A4 κ α}{K:List (κ×α)->Option R}{r:R}{l0:List (κ×α)}(I:Lists m l0)(h:∀l,Lists m l->K l=some r):X6 m K=some r:=by
 unfold X6;rw[dif_pos ⟨r,h⟩];have H:=(⟨r,h⟩:∃r,∀l,Lists m l->K l=some r).choose_spec l0 I;rw[h l0 I]at H;exact H.symm
theorem ALW{κ α R S:Type}{m:A4 κ α}{body:S->κ×α->Option S}{s0:S}{rest:S->Option R}{r:R}(h:X6 m (fun l=>(List.foldlM body s0 l).bind rest)=some r){xs:List (κ×α)}(J:Lists m xs):
  ∃B:S->κ×α->Option S,B=body/\∀l:List (κ×α),l.Perm xs->∃s,List.foldlM B s0 l=some s/\rest s=some r:=by
 refine⟨body,rfl,fun l hl=>?_⟩
 unfold X6 at h
 split at h
 . rename_i U
   have H:=U.choose_spec l (J.perm hl)
   rw[AbA h]at H
   have H:(List.foldlM body s0 l).bind rest=some r:=H
   cases I:List.foldlM body s0 l with
   |none=>rw[I]at H;cases H
   |some s=>rw[I]at H;exact⟨s,rfl,H⟩
 . cases h
end Go.Sx
namespace Go.Sx
open Go Go.RowKit Go.ChangeMaps
variable[Trk]
theorem AEd{P:Program}{k:TypeId}(J:∀(w:World) {x y:Value} {lx ly:Lit},keyOf P k x=some lx->keyOf P k y=some ly->∃r:Bool,(Op.equal k x y).run P w=.ok r w/\(r=true↔lx=ly)){x:Value}{lx:Lit}(hx:keyOf P k x=some lx):
  ∀(es:List MapEntry) (i:Nat),(∀e∈es,∃l,keyOf P k e.key=some l) ->
   ((∀w,(Instr.findAsking k x es i).run P w=.ok none w)/\∀e∈es,keyOf P k e.key≠some lx) \/
   ∃j e,(∀w,(Instr.findAsking k x es i).run P w=.ok (some (i+j,e.val)) w)/\es[j]?=some e/\keyOf P k e.key=some lx
 |[],i,_=>Or.inl ⟨fun w=>by simp[Instr.findAsking],by simp⟩
 |e::es,i,I=>by
  obtain⟨l,hl⟩:=I e (by simp);by_cases c:lx=l
  . refine .inr ⟨0,e,fun w=>?_,rfl,by rw[hl,c]⟩;obtain⟨r,U,H⟩:=J w hx hl;have:r=true:=H.2 c;subst this;simp[Instr.findAsking,U]
  . have U:∀w,(Op.equal k x e.key).run P w=.ok false w:=fun w=>by
     obtain⟨r,U,H⟩:=J w hx hl;have:r=false:=by
      cases r with
      |false=>rfl
      |true=>exact absurd (H.1 rfl) c
     subst this;exact U
    rcases AEd J hx es (i+1) (fun y hy=>I y (by simp[hy])) with⟨W,V⟩|⟨j,e',W,V,C⟩
    . refine .inl ⟨fun w=>by simp[Instr.findAsking,U,W],fun y hy=>?_⟩;rcases mem_cons.1 hy with rfl|hy
      . rw[hl];exact fun h=>c (AbA h).symm
      . exact V y hy
    . exact .inr ⟨j+1,e',fun w=>by simp[Instr.findAsking,U,W,Nat.add_assoc,Nat.add_comm 1 j],by simpa using V,C⟩
theorem AZS{P:Program}{t u:TypeId}{q:IntKind}{f0 f1:Field}(hu:P.underlying t=some (.struct #[f0,f1]))(h0:f0.type=u)(h1:f1.type=u)(o0:f0.offset=0)(o1:f1.offset=1)(n0:(f0.name != "_")=true)(n1:(f1.name != "_")=true)(hk:P.underlying u=some (.int q))(hc:P.cellsOf t=2)(hcu:P.cellsOf u=1)(hty:P.keyType t=true)(hsz:0<P.types.size){x y:Int}(hx:InK q x)(hy:InK q y):∃l,keyOf P t (.agg (toArray [.int q x,.int q y]))=some l:=by
 have w1:∀{z:Int},InK q z->(Lit.int q z).wf=true:=fun {z} h=>by simp only[Lit.wf,decide_eq_true_eq,Bool.and_eq_true];exact h
 have hl:∀(n:Nat) {z:Int},InK q z->P.keyLits (n+1) u [.int q z]=some [.int q z]:=fun n {z} h=>by
  unfold Program.keyLits;rw[hk];simp[w1 h]
 have hs:∀n:Nat,P.keyLits (n+1+1) t [.int q x,.int q y]=some [.int q x,.int q y]:=fun n=>by
  unfold Program.keyLits;rw[hu];have e0:((List.drop 0 [Value.int q x,Value.int q y]).take 1)=[Value.int q x]:=rfl;have e1:((List.drop 1 [Value.int q x,Value.int q y]).take 1)=[Value.int q y]:=rfl;simp[hc,n0,n1,h0,h1,o0,o1,hcu,hl n hx,hl n hy]
 obtain⟨n,hn⟩:∃n,P.types.size+1=n+1+1:=by
  refine⟨P.types.size-1,?_⟩;omega
 refine⟨.string (keyBytes [.int q x,.int q y]),?_⟩;unfold keyOf;rw[hu];have hf:(Value.agg (toArray [Value.int q x,Value.int q y])).formed P t=true:=by simp[Value.formed,hu,hc]
 simp only[hty,hf,Bool.and_self,if_true];rw[hn];show(P.keyLits (n+1+1) t [.int q x,.int q y]).map _=_;rw[hs n];rfl
def APs{P:Program}{kt:TypeId}{κ:Type}(hl:laidOutB P=true){m:Nat}(hm:m+1<=10000)(hrow:kt<P.types.size)(hk:P.keyTypeAt m kt=true)(hwide:(match P.underlying kt with|some (.array _ _)|some (.struct _)=>true|_=>false)=true)(val:κ->Value)(ok:κ->Prop)(hv:∀{a},ok a->∃l,keyOf P kt (val a)=some l)(hi:∀{a b:κ},ok a->ok b->val a=val b->a=b):Ky P kt κ where
 val:=val
 ok:=ok
 inj:=hi
 check:=fun ha w em=>by
  obtain⟨l,hl'⟩:=hv ha;exact(deep_law_laid hl hm hrow hk hwide).check w em hl'
 find:=fun {a} ha es hes=>by
  obtain⟨l,hl'⟩:=hv ha;have hall:∀e∈es,∃l,keyOf P kt e.key=some l:=fun e he=>by
   obtain⟨b,hb,h⟩:=hes e he;rw[h];exact hv hb
  have hwf:∀w,(Instr.findKey kt (val a) es).run P w=(Instr.findAsking kt (val a) es 0).run P w:=fun w=>run_findKey_eq w hwide _ _;rcases AEd (fun w {_ _ _ _} h1 h2=>run_equal_deep w (by omega) hk hwide h1 h2) hl' es 0 hall with⟨h1,h2⟩|⟨j,e0,h1,h2,h3⟩
  . exact .inl ⟨fun w=>by rw[hwf];exact h1 w,fun y hy e1=>h2 y hy (by rw[e1];exact hl')⟩
  . exact .inr ⟨j,e0,fun w=>by rw[hwf];simpa using h1 w,h2,(deep_law_laid hl hm hrow hk hwide).inj h3 hl'⟩
 stays:=fun ha w=>by
  obtain⟨l,hl'⟩:=hv ha;exact(deep_law_laid hl hm hrow hk hwide).stays w hl'
variable{P:Program}{kt:TypeId}{κ α:Type}{K:Ky P kt κ}{E:Enc α}{ag:Bool}
def ATW(K:Ky P kt κ)(w:World)(b st:Nat)(a:κ):Prop:=∃es c,w.heap[b]?=some (.map es c)/\∃(j:Nat) (e:MapEntry),es.toList[j]?=some e/\e.born=st/\e.key=K.val a
variable[DecidableEq κ]
def AEM(K:Ky P kt κ)(E:Enc α)(ag:Bool)(b:Nat)(f:A4 κ α)(a:κ)(y:α)(st:Nat):Res where
 fp:=[b]
 mu:=[]
 holds:=fun M w=>MapH K E ag M w b (B4 f a y)/\ATW K w b st a
 adv:=fun ha hb h=>by
  obtain⟨⟨es,c,xs,h1,h2,h3,h4⟩,es',c',g1,g2⟩:=h;exact⟨⟨es,c,xs,(hb b (by simp)).trans h1,h2,h3.adv ha,h4⟩,es',c',(hb b (by simp)).trans g1,g2⟩
 lt:=fun h x hx=>by
  obtain⟨⟨es,c,xs,h1,_⟩,_⟩:=h;have:x=b:=by simpa using hx
  subst this;exact G6 h1
theorem APt{f:A4 κ α}{a:κ}{y z:α}:B4 (B4 f a y) a z=B4 f a z:=by
 funext k;unfold B4;by_cases e:k=a<;>simp[e]
theorem APu{f:A4 κ α}{a:κ}{y:α}(h:f a=some y):B4 f a y=f:=by
 funext k;unfold B4;by_cases e:k=a
 . subst e;simp[h]
 . simp[e]
variable{N:Nat}{ops:Array Oper}{q:Md}{rest:List Oper}{ds:List Deferred}{L:A8}{w w0:World}{A B:A5}{X:Nat->A5}{Z:List PanicEntry->A5}{d:Nat}{ty:TypeId}{pos:String}{af:Array Edge}{Mu M:List Nat}{σ:List Res}{v:Value}{b:Nat}{f:A4 κ α}{z0:α}{x:Operand}{y:Operand}{t:TypeId}{e:TypeId}{a:κ}{st:Nat}{y0:α}
theorem APv{es:Array MapEntry}{j:Nat}{e:MapEntry}(h:es.toList[j]?=some e)(hk:e.key=v):(es.modify j fun e=>{ e with key:=v })=es:=by
 apply Array.ext';rw[Ab5];refine Abx fun i=>?_;rw[AcH];by_cases c:j=i
 . subst c;rw[h];simp[<-hk]
 . simp[c]
theorem AXU[Fx](i:Nat){zv:Value}(g:Hp w0 Mu M σ w)(hi:σ[i]?=some (mapO K E ag b f))(hx:ev L x=some (.map (some b)))(hy:ev L y=some (K.val a))(I:K.ok a)(l:P.underlying t=some (.map kt e))(n:∀w,(zeroValue e).run P w=.ok zv w)(Q:Vl E ag (mm σ M) w zv z0)(hN:blt d N=true)(h:∀v st w',Hp w0 Mu M (σ.set i (AEM K E ag b f a ((f a).getD z0) st)) w'->Adv (mm σ M) (mm (σ.set i (AEM K E ag b f a ((f a).getD z0) st)) M) w w'->Reg P N ops .seq rest ds ((d,.tuple #[v,.int .i64 (st:Int)])::L) w' A B X Z):
  Reg P N ops .seq (⟨some d,.mapEntry t x y,ty,pos,af,none⟩::rest) ds L w A B X Z:=by
 obtain⟨es,c,xs,J,O,W,F⟩:=g.mapAt' i hi
 have key':∃(es':Array MapEntry) (c':Nat) (xs':List (κ×α)) (v:Value) (st:Nat),(Instr.mapEntry t (.map (some b)) (K.val a)).run P w=.ok (.tuple #[v,.int .i64 (st:Int)]) (setBlock w b (.map es' c'))/\Stp es' c'/\EntK K E ag (mm σ M) w es'.toList xs'/\Lists (B4 f a ((f a).getD z0)) xs'/\∃(j:Nat) (e:MapEntry),es'.toList[j]?=some e/\e.born=st/\e.key=K.val a:=by
  rcases K.find I es.toList W.keys with⟨g1,g2⟩|⟨j,e',g1,g2,g3⟩
  . have U:∀x∈xs,x.1≠a:=fun x hx s=>by
     obtain⟨e',h5,h6⟩:=W.back x hx;exact g2 e' h5 (by rw[h6,s])
    have C:f a=none:=F.none U;refine⟨es.push ⟨K.val a,zv,c⟩,c+1,xs++[(a,z0)],zv,c,?_,⟨?_,fun x hx=>?_⟩,?_,by rw[C];exact F.push z0 U,es.size,⟨K.val a,zv,c⟩,by simp,rfl,rfl⟩
    . simp[Instr.mapEntry,run_underlying l,MapKept.run_getObj_map J,K.check I,g1,n,MapKept.run_setObj_map _ J,Result.andThen,setBlock,goInt]
    . rw[AcZ,AbT,AdH];refine⟨O.1,by simp,fun x hx y hy=>?_⟩;obtain⟨p,r,rfl⟩:=mem_map.1 hx;have:=O.2 p r;have:y=c:=by simpa using hy
      omega
    . rw[AcZ,Abh]at hx;rcases hx with hx|hx
      . have:=O.2 x hx;omega
      . have:x=⟨K.val a,zv,c⟩:=by simpa using hx
        subst this;exact Acb c
    . rw[AcZ];exact W.push I Q
  . obtain⟨x',Y,hk,G,o⟩:=W.at g2;have T:x'.1=a:=K.inj G I (by rw[<-hk,g3]);have C:f a=some x'.2:=(F.2 a x'.2).1 (by rw[<-T];exact AbB Y);have g4:es[j]?=some e':=by simpa using g2
    refine⟨es,c,xs,e'.val,e'.born,?_,O,W,?_,j,e',g2,rfl,g3⟩
    . simp[Instr.mapEntry,run_underlying l,MapKept.run_getObj_map J,K.check I,g1,g4,g3,K.stays I,APv g2 g3,MapKept.run_setObj_map _ J,Result.andThen,setBlock,goInt]
    . rw[C];show Lists (B4 f a x'.2) xs;rw[APu C];exact F
 obtain⟨es',c',xs',v,st,q,u,hE,z,R⟩:=key'
 have H:Kp [b] w (setBlock w b (.map es' c')):=AEb J
 have m:∀b'∈(AEM K E ag b f a ((f a).getD z0) st).fp,b'∈(mapO K E ag b f).fp\/w.heap.size<=b':=fun b' D=>.inl D
 have V:=(MapKept.heap_set (o':=.map es' c') J).1
 refine N1 _ (setBlock w b (.map es' c')) rfl rfl hN (fun A hA=>?_) (h v st _ (g.upd i hi H m rfl fun M' S=>⟨⟨es',c',xs',V,u,?_,z⟩,es',c',V,R⟩) (g.updA (r':=AEM K E ag b f a ((f a).getD z0) st) i hi H m))
 . simp[execOp,hA.eval hx,hA.eval hy,q]
 . have D:b∈mm σ M:=mem_mm.2 (.inl ⟨_,AbB hi,by simp[mapO]⟩)
   refine(hE.adv ⟨H.mono fun x hx=>.inl ?_,fun x hx=>.inl hx⟩).mon fun x hx=>.inl ?_
   . have:x=b:=by simpa using hx
     subst this;exact D
   . rcases S x hx with k|k
     . have:x=b:=by simpa[AEM] using k
       subst this;exact D
     . exact k
theorem AXV[Fx](i:Nat){zv:Value}(W:Hp w0 Mu M σ w)(hi:σ[i]?=some (AEM K E ag b f a y0 st))(hx:ev L x=some (.map (some b)))(hy:ev L y=some (K.val a))(V:K.ok a)(U:P.underlying t=some (.map kt e))(J:∀w,(zeroValue e).run P w=.ok zv w)(H:Vl E ag (mm σ M) w zv z0)(hN:blt d N=true)(h:∀v,Vl E ag (mm σ M) w v y0->Reg P N ops .seq rest ds ((d,v)::L) w A B X Z):
  Reg P N ops .seq (⟨some d,.lookup t x y false,ty,pos,af,none⟩::rest) ds L w A B X Z:=by
 obtain⟨v,D,I⟩:=(W.get i hi).1.lookup V U J H
 have C:(B4 f a y0 a).getD z0=y0:=by simp[B4]
 rw[C]at I
 refine N1 _ w rfl rfl hN (fun A hA=>?_) (h v I)
 simp[execOp,hA.eval hx,hA.eval hy,D _ w rfl]
theorem AXW[Fx](i:Nat){y0 z:α}{x y u:Operand}(Q:Hp w0 Mu M σ w)(hi:σ[i]?=some (AEM K E ag b f a y0 st))(hx:ev L x=some (.map (some b)))(hy:ev L y=some (.int .i64 (st:Int)))(R:K.ok a)(g:ev L u=some v)(hv:Vl E ag (mm σ M) w v z)(h:∀w',Hp w0 Mu M (σ.set i (mapO K E ag b (B4 f a z))) w'->Adv (mm σ M) (mm (σ.set i (mapO K E ag b (B4 f a z))) M) w w'->Reg P N ops .seq rest ds L w' A B X Z):
  Reg P N ops .seq (⟨none,.entryStore t x y u,ty,pos,af,none⟩::rest) ds L w A B X Z:=by
 obtain⟨⟨es,c,xs,U,Y,S,p⟩,es2,c2,g1,j,e,g2,g3,g4⟩:=Q.get i hi
 have:es2=es:=by rw[U]at g1;injection g1 with g1;injection g1 with g1;exact g1.symm
 subst this
 obtain⟨x',C,hk,F,d⟩:=S.at g2
 have W:x'.1=a:=K.inj F R (by rw[<-hk,g4])
 have I:(es2.modify j fun e=>{ e with val:=v })=es2.modify j fun e=>{ e with key:=K.val a,val:=v }:=by
  apply Array.ext';rw[Ab5,Ab5];refine Abx fun i=>?_;rw[AcH,AcH];by_cases c:j=i
  . subst c;rw[g2];simp[<-g4]
  . simp[c]
 have k:(Instr.entryStore t (.map (some b)) (.int .i64 (st:Int)) v).run P w=.ok () (setBlock w b (.map (es2.modify j fun e=>{ e with key:=K.val a,val:=v }) c)):=by
  have J:es2.findIdx? (fun e=>((e.born:Nat):Int)==((st:Nat):Int))=some j:=by
   rw[WideElems.findIdx_arr,<-g3];exact WideElems.findIdx_born Y.1 g2
  simp[Instr.entryStore,MapKept.run_getObj_map U,asInt,asIntOf,J,I,MapKept.run_setObj_map _ U,Result.andThen,setBlock]
 have n:Lists (B4 f a z) (xs.set j (a,z)):=by
  have:=p.set (j:=j) (a:=a) (y:=x'.2) (by rw[C,<-W]) z;rwa [APt]at this
 have l:Stp (es2.modify j fun e=>{ e with key:=K.val a,val:=v }) c:=by
  refine⟨?_,fun x hx=>?_⟩
  . have:((es2.modify j fun e=>{ e with key:=K.val a,val:=v }).toList.map (·.born))=es2.toList.map (·.born):=by
     rw[Ab5];refine Abx fun i=>?_;simp only[List.getElem?_map,List.getElem?_modify];by_cases e:j=i
     . subst e;cases es2.toList[j]? <;> simp
     . simp[e]
    rw[this];exact Y.1
  . rw[Ab5]at hx;obtain⟨m,hm⟩:=Abj hx;rw[AcH]at hm;cases D:es2.toList[m]? with
    |none=>rw[D]at hm;cases hm
    |some e0=>
     rw[D]at hm
     have:=Y.2 e0 (AbB D)
     by_cases e:j=m
     . simp[e]at hm;subst hm;exact this
     . simp[e]at hm;subst hm;exact this
 have o:EntK K E ag (mm σ M) w (es2.modify j fun e=>{ e with key:=K.val a,val:=v }).toList (xs.set j (a,z)):=by rw[Ab5];exact S.set R hv j
 have H:Kp [b] w (setBlock w b (.map (es2.modify j fun e=>{ e with key:=K.val a,val:=v }) c)):=AEb U
 have G:∀b'∈(mapO K E ag b (B4 f a z)).fp,b'∈(AEM K E ag b f a y0 st).fp\/w.heap.size<=b':=fun b' V=>.inl V
 refine Reg.sto _ rfl rfl (fun A hA=>?_) (h _ (Q.upd i hi H G rfl fun M' O=>⟨_,c,xs.set j (a,z),(MapKept.heap_set U).1,l,?_,n⟩) (Q.updA (r':=mapO K E ag b (B4 f a z)) i hi H G))
 . simp[execOp,hA.eval hx,hA.eval hy,hA.eval g,k]
 . have V:b∈mm σ M:=mem_mm.2 (.inl ⟨_,AbB hi,by simp[AEM]⟩)
   refine(o.adv ⟨H.mono fun x hx=>.inl ?_,fun x hx=>.inl hx⟩).mon fun x hx=>.inl ?_
   . have:x=b:=by simpa using hx
     subst this;exact V
   . rcases O x hx with T|T
     . have:x=b:=by simpa[mapO] using T
       subst this;exact V
     . exact T
end Go.Sx
namespace Go.Sx
open Go Go.RowKit
section
variable[Trk]{P:Program}{N:Nat}{ops:Array Oper}{q:Md}{rest:List Oper}{ds:List Deferred}{L:A8}{w:World}{A B:A5}{X:Nat->A5}{Z:List PanicEntry->A5}{d:Nat}{ty:TypeId}{pos:String}{af:Array Edge}
theorem AU6{t e:TypeId}{x y:Operand}{z v0 v1 z0 z1:Value}(J:∀w,(zeroValue t).run P w=.ok z w)(H:z.cells=#[z0,z1])(U:P.underlying t=some (.array 2 e))(V:∀w,(sizeOf e).run P w=.ok 1 w)(hx:ev L x=some v0)(hy:ev L y=some v1)(C:v0.cells=#[v0])(W:v1.cells=#[v1])(hN:blt d N=true)(h:Reg P N ops q rest ds ((d,.agg [v0,v1].toArray)::L) w A B X Z):Reg P N ops q (⟨some d,.build t #[(0,x),(1,y)],ty,pos,af,none⟩::rest) ds L w A B X Z:=by
 refine Reg.val (.agg [v0,v1].toArray) rfl rfl hN (fun a I w' _=>?_) h;simp[execOp,Instr.build,J,H,run_underlying U,V,I.eval hx,I.eval hy,Instr.fill,C,W]
end
end Go.Sx
namespace Go.Sx
open Go Go.RowKit Go.ChangeMaps
open Classical in
def ALX{κ α:Type}(f:A4 κ α):Int:=if h:∃l,Lists f l then(h.choose.length:Int) else 0
theorem Lists.one{κ α:Type}{f:A4 κ α}{l l':List (κ×α)}(h:Lists f l)(H:Lists f l'):l.Perm l':=
 (Abw ((List.pairwise_map.1 h.1).imp fun h e=>h (AbJ _ e)) ((List.pairwise_map.1 H.1).imp fun h e=>h (AbJ _ e))).2 fun⟨a,y⟩=>(h.2 a y).trans (H.2 a y).symm
theorem ATX{κ α:Type}{f:A4 κ α}{l:List (κ×α)}(h:Lists f l):ALX f=l.length:=by
 unfold ALX;have hx:∃l,Lists f l:=⟨l,h⟩;rw[dif_pos hx];exact AbJ _ (hx.choose_spec.one h).length_eq
theorem AXX{P:Program}{t u:TypeId}{q:IntKind}(H:P.underlying t=some (.array 2 u))(hk:P.underlying u=some (.int q))(U:P.cellsOf t=2)(J:P.cellsOf u=1)(I:P.keyType t=true)(V:0<P.types.size){x y:Int}(hx:InK q x)(hy:InK q y):∃l,keyOf P t (.agg (toArray [.int q x,.int q y]))=some l:=by
 have w1:∀{z:Int},InK q z->(Lit.int q z).wf=true:=fun {z} h=>by simp only[Lit.wf,decide_eq_true_eq,Bool.and_eq_true];exact h
 have hl:∀(n:Nat) {z:Int},InK q z->P.keyLits (n+1) u [.int q z]=some [.int q z]:=fun n {z} h=>by
  unfold Program.keyLits;rw[hk];simp[w1 h]
 have W:∀n:Nat,P.keyLits (n+1+1) t [.int q x,.int q y]=some [.int q x,.int q y]:=fun n=>by
  unfold Program.keyLits;rw[H];have e0:((List.drop 0 [Value.int q x,Value.int q y]).take 1)=[Value.int q x]:=rfl;have e1:((List.drop 1 [Value.int q x,Value.int q y]).take 1)=[Value.int q y]:=rfl;have e2:List.range 2=[0,1]:=rfl;simp[U,J,e2,hl n hx,hl n hy]
 obtain⟨n,C⟩:∃n,P.types.size+1=n+1+1:=by
  refine⟨P.types.size-1,?_⟩;omega
 refine⟨.string (keyBytes [.int q x,.int q y]),?_⟩;unfold keyOf;rw[H];have D:(Value.agg (toArray [Value.int q x,Value.int q y])).formed P t=true:=by simp[Value.formed,H,U]
 simp only[I,D,Bool.and_self,if_true];rw[C];show(P.keyLits (n+1+1) t [.int q x,.int q y]).map _=_;rw[W n];rfl
end Go.Sx
namespace Go.Sx
open Go Go.RowKit
variable[Trk]
theorem condF{α:Type}(a b:α):cond false a b=b:=(fun (h:cond false a b=b)=>h) (by cases a_eq:(0:Nat)<;>rfl)
theorem condT{α:Type}(a b:α):cond true a b=a:=(fun (h:cond true a b=a)=>h) (by cases a_eq:(0:Nat)<;>rfl)
theorem AIZ{α:Type}{l:List α}{i:Nat}{y:α}(h:l[i]?=some y):ixo l (i:Int)=some y:=by rw[ATK];exact h
theorem AAH{α:Type}{b:Nat}{xs ys:List α}(h:(xs.length+ys.length)*b<=140737488355328)(H:xs.length+ys.length<=140737488355328):appo b xs ys=some (xs++ys):=AbO ⟨h,H⟩
def Ret{α:Type}(o:Option α)(Q:α->Prop):Prop:=∃a,o=some a/\Q a
variable{α β S R:Type}{o:Option α}{a:α}{Q:α->Prop}{b:Bool}{x:Option α}{y:Option α}{A:S->Prop}{γ:Type}{f:α->Option γ}{g:β->Option γ}
theorem Ret.val(h:o=some a)(q:Q a):Ret o Q:=⟨a,h,q⟩
theorem Ret.ok(q:Q a):Ret (some a) Q:=⟨a,rfl,q⟩
theorem Ret.bind{K:α->Option β}{Q:β->Prop}(h:Ret o fun a=>Ret (K a) Q):Ret (Option.bind o K) Q:=by
 obtain⟨a,I,H⟩:=h;subst I;exact H
theorem Ret.mono{Q Q':α->Prop}(h:Ret o Q)(H:∀a,Q a->Q' a):Ret o Q':=by
 obtain⟨a,J,I⟩:=h;exact⟨a,J,H a I⟩
theorem Ret.cond{b:Bool}{x y:Option α}{Q:α->Prop}(I:b=true->Ret x Q)(H:b=false->Ret y Q):Ret (cond b x y) Q:=by
 cases b with
 |true=>exact I rfl
 |false=>exact H rfl
theorem Ret.condT(h:b=true)(H:Ret x Q):Ret (_root_.cond b x y) Q:=by subst h;exact H
theorem Ret.condF(h:b=false)(H:Ret y Q):Ret (_root_.cond b x y) Q:=by subst h;exact H
theorem Ret.chk{x:Int}{Q:Int->Prop}(h:-9223372036854775808<=x/\x<=9223372036854775807)(q:Q x):Ret (chk .i64 x) Q:=⟨x,AJL h,q⟩
theorem Ret.ixo{l:List α}{i:Nat}{y:α}{Q:α->Prop}(h:l[i]?=some y)(q:Q y):Ret (ixo l (i:Int)) Q:=⟨y,AIZ h,q⟩
theorem ARI{l:List α}{i:Int}(I:0<=i)(J:i<l.length)(q:∀y,l[i.toNat]?=some y->Q y):Ret (Sx.ixo l i) Q:=by
 have H:i.toNat<l.length:=by omega
 have hy:l[i.toNat]?=some l[i.toNat]:=AbI H;exact⟨_,AQ9 I hy,q _ hy⟩
theorem Ret.appo{b:Nat}{xs ys:List α}{Q:List α->Prop}(h:(xs.length+ys.length)*b<=140737488355328)(H:xs.length+ys.length<=140737488355328)(q:Q (xs++ys)):Ret (appo b xs ys) Q:=⟨_,AAH h H,q⟩
theorem Ret.seto{l:List α}{i:Nat}{x:α}{Q:List α->Prop}(h:i<l.length)(q:Q (l.set i x)):Ret (seto l (i:Int) x) Q:=
 ⟨_,by unfold Sx.seto;rw[AbO ⟨by omega,by omega⟩,Int.toNat_natCast],q⟩
theorem Ret.remO{x y:Int}{Q:Int->Prop}(I:0<=x)(H:0<y)(q:Q (x % y)):Ret (remO x y) Q:=⟨_,by unfold Sx.remO;rw[AbO ⟨I,H⟩],q⟩
def Nxt(A:S->Prop)(Q:R->Prop):S⊕R->Prop
 |.inl s=>A s
 |.inr r=>Q r
theorem Ret.next{s:S}{Q:R->Prop}(h:A s):Ret (some (.inl s)) (Nxt A Q):=⟨_,rfl,h⟩
theorem Ret.done{r:R}{Q:R->Prop}(h:Q r):Ret (some (.inr r)) (Nxt A Q):=⟨_,rfl,h⟩
theorem Ret.elimL{Q:γ->Prop}(h:Ret (f a) Q):Ret (Sum.elim f g (.inl a)) Q:=h
theorem Ret.elimR{b:β}{Q:γ->Prop}(h:Ret (g b) Q):Ret (Sum.elim f g (.inr b)) Q:=h
theorem Ret.loop{body:S->Option (S⊕R)}{s0:S}{Q:R->Prop}(I:S->Prop)(μ:S->Nat)(W:I s0)(step:∀s,I s->Ret (body s) (Nxt (fun s'=>I s'/\μ s'<μ s) Q)):Ret (B6 body s0) Q:=by
 have key:∀(n:Nat) (s:S),μ s<=n->I s->Ret (B6 body s) Q:=by
  intro n;induction n with
  |zero=>
   intro s V U
   obtain⟨r,J,H⟩:=step s U
   cases r with
   |inl s'=>have:=H.2;omega
   |inr r=>exact⟨r,ADr J,H⟩
  |succ n ih=>
   intro s V U
   obtain⟨r,J,H⟩:=step s U
   cases r with
   |inl s'=>rw[ALD J];exact ih s' (by have:=H.2;omega) H.1
   |inr r=>exact⟨r,ADr J,H⟩
 exact key _ s0 (AbQ _) W
def rawE(n:Nat)(h:0<n):Enc (List Value) where
 n:=n
 pos:=h
 R:=fun _ _ cs x=>cs=x/\x.length=n/\∀u∈x,u.oneCell'=true
 len:=fun h=>by rw[h.1];exact h.2.1
 kp:=fun _ h=>h
 mon:=fun _ h=>h
 one:=fun h u hu=>h.2.2 u (by rw[<-h.1];exact hu)
theorem CallsV.go{P:Program}{w:World}{g:Nat}{caps args all:List Value}{R R':Ending->World->Prop}(U:∀args w,(callFunc g args).run P w=.ok (.enter g args) w)(I:args++caps=all)(J:Calls P g all.toArray w R)(H:∀e w',R e w'->R' e w'):CallsV P (.func (.func g) #[] caps.toArray) args w R':=(CallsV.ofL U I J).mono H
variable{P:Program}{N:Nat}{ops:Array Oper}{q:Md}{rest:List Oper}{ds:List Deferred}{L:A8}{w:World}{A B:A5}{X:Nat->A5}{Z:List PanicEntry->A5}{w0:World}{Mu M:List Nat}{σ:List Res}
theorem Hp.lendC[Fx](h:Hp w0 Mu M σ w)(l:List Nat)(i:Nat){e b:Nat}{cs:List Value}(hl:l.contains i=false)(hi:σ[i]?=some (rowR e b cs)):RdC (mm (Sx.sel σ l) M) w b 0 cs:=by
 refine G9 (fun H=>?_) (h.row i hi);have I:b∈(rowR e b cs).fp:=by simp[rowR]
 rcases mem_mm.1 H with⟨s,J,H⟩|H
 . obtain⟨j,U,J⟩:=AAG J;refine h.dis i j _ s hi J (fun e=>?_) b I H;subst e;simp at hl;exact hl U
 . exact h.sepM _ (AbB hi) b I H
end Go.Sx
namespace Go.Proofs
open Go.Shelf
def AF5:Go.Shelf.Ren:=⟨fun|6=>93|15=>123|14=>127|28=>144|29=>145|20=>148|21=>149|22=>150|23=>151|24=>152|25=>153|26=>154|27=>155|46=>174|47=>167|48=>168|49=>175|50=>176|57=>183|n=>n,fun|22=>25|24=>53|25=>177|3=>3|39=>199|0=>0|53=>82|55=>217|4=>4|46=>210|45=>209|50=>75|5=>5|9=>9|66=>230|70=>234|76=>241|77=>242|n=>n,fun|n=>n⟩
theorem AJT:Go.Proofs.SlLaysF0.n6 prog AF5:={
 mixed:=by kernel_rfl
 f6:=⟨f93.name,by decide,func93.trans (AbJ some (by kernel_rfl))⟩
 f14:=⟨f127.name,by decide,func127.trans (AbJ some (by kernel_rfl))⟩
 f15:=func123.trans (AbJ some (by kernel_rfl))
 f20:=⟨f148.name,by decide,func148.trans (AbJ some (by kernel_rfl))⟩
 f21:=⟨f149.name,by decide,func149.trans (AbJ some (by kernel_rfl))⟩
 f22:=⟨f150.name,by decide,func150.trans (AbJ some (by kernel_rfl))⟩
 f23:=⟨f151.name,by decide,func151.trans (AbJ some (by kernel_rfl))⟩
 f24:=⟨f152.name,by decide,func152.trans (AbJ some (by kernel_rfl))⟩
 f25:=⟨f153.name,by decide,func153.trans (AbJ some (by kernel_rfl))⟩
 f26:=⟨f154.name,by decide,func154.trans (AbJ some (by kernel_rfl))⟩
 f27:=⟨f155.name,by decide,func155.trans (AbJ some (by kernel_rfl))⟩
 f28:=func144.trans (AbJ some (by kernel_rfl))
 f29:=func145.trans (AbJ some (by kernel_rfl))
 f46:=⟨f174.name,by decide,func174.trans (AbJ some (by kernel_rfl))⟩
 f47:=func167.trans (AbJ some (by kernel_rfl))
 f48:=func168.trans (AbJ some (by kernel_rfl))
 f49:=⟨f175.name,by decide,func175.trans (AbJ some (by kernel_rfl))⟩
 f50:=⟨f176.name,by decide,func176.trans (AbJ some (by kernel_rfl))⟩
 f57:=⟨f183.name,by decide,func183.trans (AbJ some (by kernel_rfl))⟩
 t0:=underlying0
 a0:=isAgg0
 z0:=sizeOf0
 v0:=zeroValue0
 t3:=underlying3
 a3:=isAgg3
 z3:=sizeOf3
 v3:=zeroValue3
 t4:=underlying4
 a4:=isAgg4
 z4:=sizeOf4
 v4:=zeroValue4
 t5:=underlying5
 a5:=isAgg5
 z5:=sizeOf5
 v5:=zeroValue5
 t9:=underlying9
 a9:=isAgg9
 z9:=sizeOf9
 v9:=zeroValue9
 t22:=underlying25
 a22:=isAgg25
 z22:=sizeOf25
 v22:=zeroValue25
 t25:=underlying177
 a25:=isAgg177
 z25:=sizeOf177
 v25:=zeroValue177
 t39:=underlying199
 a39:=isAgg199
 z39:=sizeOf199
 v39:=zeroValue199
 t45:=underlying209
 a45:=isAgg209
 z45:=sizeOf209
 v45:=zeroValue209
 t46:=underlying210
 a46:=isAgg210
 z46:=sizeOf210
 v46:=zeroValue210
 t50:=underlying75
 a50:=isAgg75
 z50:=sizeOf75
 v50:=zeroValue75
 t53:=underlying82
 a53:=isAgg82
 z53:=sizeOf82
 v53:=zeroValue82
 t55:=underlying217
 a55:=isAgg217
 z55:=sizeOf217
 v55:=zeroValue217
 t66:=underlying230
 a66:=isAgg230
 z66:=sizeOf230
 v66:=zeroValue230
 t70:=underlying234
 a70:=isAgg234
 z70:=sizeOf234
 v70:=zeroValue234
 t76:=underlying241
 a76:=isAgg241
 z76:=sizeOf241
 v76:=zeroValue241
 t77:=underlying242
 a77:=isAgg242
 z77:=sizeOf242
 v77:=zeroValue242 }
def AFs:Go.Shelf.Ren:=⟨fun|6=>118|15=>123|14=>135|28=>144|29=>145|20=>158|21=>159|22=>160|23=>161|24=>162|25=>163|26=>164|27=>165|46=>178|47=>167|48=>168|49=>179|50=>180|57=>184|n=>n,fun|22=>24|24=>45|25=>193|3=>3|39=>199|0=>0|53=>82|55=>217|4=>4|46=>210|45=>209|50=>75|5=>5|9=>9|66=>230|70=>234|76=>241|77=>242|n=>n,fun|n=>n⟩
theorem ADv:Go.Proofs.SlLaysF0.n6 prog AFs:={
 mixed:=by kernel_rfl
 f6:=⟨f118.name,by decide,func118.trans (AbJ some (by kernel_rfl))⟩
 f14:=⟨f135.name,by decide,func135.trans (AbJ some (by kernel_rfl))⟩
 f15:=func123.trans (AbJ some (by kernel_rfl))
 f20:=⟨f158.name,by decide,func158.trans (AbJ some (by kernel_rfl))⟩
 f21:=⟨f159.name,by decide,func159.trans (AbJ some (by kernel_rfl))⟩
 f22:=⟨f160.name,by decide,func160.trans (AbJ some (by kernel_rfl))⟩
 f23:=⟨f161.name,by decide,func161.trans (AbJ some (by kernel_rfl))⟩
 f24:=⟨f162.name,by decide,func162.trans (AbJ some (by kernel_rfl))⟩
 f25:=⟨f163.name,by decide,func163.trans (AbJ some (by kernel_rfl))⟩
 f26:=⟨f164.name,by decide,func164.trans (AbJ some (by kernel_rfl))⟩
 f27:=⟨f165.name,by decide,func165.trans (AbJ some (by kernel_rfl))⟩
 f28:=func144.trans (AbJ some (by kernel_rfl))
 f29:=func145.trans (AbJ some (by kernel_rfl))
 f46:=⟨f178.name,by decide,func178.trans (AbJ some (by kernel_rfl))⟩
 f47:=func167.trans (AbJ some (by kernel_rfl))
 f48:=func168.trans (AbJ some (by kernel_rfl))
 f49:=⟨f179.name,by decide,func179.trans (AbJ some (by kernel_rfl))⟩
 f50:=⟨f180.name,by decide,func180.trans (AbJ some (by kernel_rfl))⟩
 f57:=⟨f184.name,by decide,func184.trans (AbJ some (by kernel_rfl))⟩
 t0:=underlying0
 a0:=isAgg0
 z0:=sizeOf0
 v0:=zeroValue0
 t3:=underlying3
 a3:=isAgg3
 z3:=sizeOf3
 v3:=zeroValue3
 t4:=underlying4
 a4:=isAgg4
 z4:=sizeOf4
 v4:=zeroValue4
 t5:=underlying5
 a5:=isAgg5
 z5:=sizeOf5
 v5:=zeroValue5
 t9:=underlying9
 a9:=isAgg9
 z9:=sizeOf9
 v9:=zeroValue9
 t22:=underlying24
 a22:=isAgg24
 z22:=sizeOf24
 v22:=zeroValue24
 t25:=underlying193
 a25:=isAgg193
 z25:=sizeOf193
 v25:=zeroValue193
 t39:=underlying199
 a39:=isAgg199
 z39:=sizeOf199
 v39:=zeroValue199
 t45:=underlying209
 a45:=isAgg209
 z45:=sizeOf209
 v45:=zeroValue209
 t46:=underlying210
 a46:=isAgg210
 z46:=sizeOf210
 v46:=zeroValue210
 t50:=underlying75
 a50:=isAgg75
 z50:=sizeOf75
 v50:=zeroValue75
 t53:=underlying82
 a53:=isAgg82
 z53:=sizeOf82
 v53:=zeroValue82
 t55:=underlying217
 a55:=isAgg217
 z55:=sizeOf217
 v55:=zeroValue217
 t66:=underlying230
 a66:=isAgg230
 z66:=sizeOf230
 v66:=zeroValue230
 t70:=underlying234
 a70:=isAgg234
 z70:=sizeOf234
 v70:=zeroValue234
 t76:=underlying241
 a76:=isAgg241
 z76:=sizeOf241
 v76:=zeroValue241
 t77:=underlying242
 a77:=isAgg242
 z77:=sizeOf242
 v77:=zeroValue242 }
def AF6:Go.Shelf.Ren:=⟨fun|6=>86|15=>123|14=>122|28=>144|29=>145|20=>136|21=>137|22=>138|23=>139|24=>140|25=>141|26=>142|27=>143|46=>166|47=>167|48=>168|49=>169|50=>170|57=>181|n=>n,fun|22=>37|24=>70|25=>170|3=>3|39=>199|0=>0|53=>82|55=>217|4=>4|46=>210|45=>209|50=>75|5=>5|9=>9|66=>230|70=>234|76=>241|77=>242|n=>n,fun|n=>n⟩
theorem AJU:Go.Proofs.SlLaysF0.n6 prog AF6:={
 mixed:=by kernel_rfl
 f6:=⟨f86.name,by decide,func86.trans (AbJ some (by kernel_rfl))⟩
 f14:=⟨f122.name,by decide,func122.trans (AbJ some (by kernel_rfl))⟩
 f15:=func123.trans (AbJ some (by kernel_rfl))
 f20:=⟨f136.name,by decide,func136.trans (AbJ some (by kernel_rfl))⟩
 f21:=⟨f137.name,by decide,func137.trans (AbJ some (by kernel_rfl))⟩
 f22:=⟨f138.name,by decide,func138.trans (AbJ some (by kernel_rfl))⟩
 f23:=⟨f139.name,by decide,func139.trans (AbJ some (by kernel_rfl))⟩
 f24:=⟨f140.name,by decide,func140.trans (AbJ some (by kernel_rfl))⟩
 f25:=⟨f141.name,by decide,func141.trans (AbJ some (by kernel_rfl))⟩
 f26:=⟨f142.name,by decide,func142.trans (AbJ some (by kernel_rfl))⟩
 f27:=⟨f143.name,by decide,func143.trans (AbJ some (by kernel_rfl))⟩
 f28:=func144.trans (AbJ some (by kernel_rfl))
 f29:=func145.trans (AbJ some (by kernel_rfl))
 f46:=⟨f166.name,by decide,func166.trans (AbJ some (by kernel_rfl))⟩
 f47:=func167.trans (AbJ some (by kernel_rfl))
 f48:=func168.trans (AbJ some (by kernel_rfl))
 f49:=⟨f169.name,by decide,func169.trans (AbJ some (by kernel_rfl))⟩
 f50:=⟨f170.name,by decide,func170.trans (AbJ some (by kernel_rfl))⟩
 f57:=⟨f181.name,by decide,func181.trans (AbJ some (by kernel_rfl))⟩
 t0:=underlying0
 a0:=isAgg0
 z0:=sizeOf0
 v0:=zeroValue0
 t3:=underlying3
 a3:=isAgg3
 z3:=sizeOf3
 v3:=zeroValue3
 t4:=underlying4
 a4:=isAgg4
 z4:=sizeOf4
 v4:=zeroValue4
 t5:=underlying5
 a5:=isAgg5
 z5:=sizeOf5
 v5:=zeroValue5
 t9:=underlying9
 a9:=isAgg9
 z9:=sizeOf9
 v9:=zeroValue9
 t22:=underlying37
 a22:=isAgg37
 z22:=sizeOf37
 v22:=zeroValue37
 t25:=underlying170
 a25:=isAgg170
 z25:=sizeOf170
 v25:=zeroValue170
 t39:=underlying199
 a39:=isAgg199
 z39:=sizeOf199
 v39:=zeroValue199
 t45:=underlying209
 a45:=isAgg209
 z45:=sizeOf209
 v45:=zeroValue209
 t46:=underlying210
 a46:=isAgg210
 z46:=sizeOf210
 v46:=zeroValue210
 t50:=underlying75
 a50:=isAgg75
 z50:=sizeOf75
 v50:=zeroValue75
 t53:=underlying82
 a53:=isAgg82
 z53:=sizeOf82
 v53:=zeroValue82
 t55:=underlying217
 a55:=isAgg217
 z55:=sizeOf217
 v55:=zeroValue217
 t66:=underlying230
 a66:=isAgg230
 z66:=sizeOf230
 v66:=zeroValue230
 t70:=underlying234
 a70:=isAgg234
 z70:=sizeOf234
 v70:=zeroValue234
 t76:=underlying241
 a76:=isAgg241
 z76:=sizeOf241
 v76:=zeroValue241
 t77:=underlying242
 a77:=isAgg242
 z77:=sizeOf242
 v77:=zeroValue242 }
end Go.Proofs
namespace Go.Sx
open Go Go.RowKit Go.WideShapes
variable[Trk]
def H7(P:Program)(t:TypeId){α:Type}(E:Enc α):Prop:=
 ∀(H:Type) (enc:TypeId×Value->H) (w:World) (n:Nat) (cs:List Value) (x:DataW H×List MemPlace),DataW.trod enc P w 0 (fun _=>true) true n t cs=some x->∃a,E.R [] w cs a
variable{k:IntKind}{P:Program}{t:TypeId}{α:Type}{β:Type}{E:Enc α}{N:Nat}{f:Field}
theorem ALY{n:Int}(h:(Lit.int k n).wf=true):InK k n:=by
 simpa[Lit.wf,InK] using h
theorem AFC(J:P.underlying t=some (.int k)):H7 P t (A9 k):=fun H enc w n cs x h=>by
 obtain⟨r,e1,_,I⟩:=DataW.trod_int J h;exact⟨r,e1,ALY I⟩
theorem AAm{f:β->α}(g:α->β)(I:∀a,f (g a)=a)(B:H7 P t E):H7 P t (T4 f E):=fun H enc w n cs x h=>by
 obtain⟨a,J⟩:=B H enc w n cs x h;exact⟨g a,by show E.R [] w cs (f (g a));rw[I];exact J⟩
theorem AAb{t e:TypeId}(R:P.underlying t=some (.slice e))(L:P.cellsOf e=E.n)(B:H7 P e E):H7 P t (D9 E):=fun H enc w n cs x h=>by
 rcases Go.Deep.open_slice R h with⟨rfl,_⟩|⟨a,len,cap,m,k,D,Pl,rfl,d,hl,hm,W,_,C⟩
 . exact⟨[],.slice none 0 0,rfl,RdS.nil _ _ _⟩
 . simp only[if_true]at W;rw[W]at C;have hx:∀i,∃y:Option α,i<len->∃cs' a',y=some a'/\E.R [] w cs' a'/\w.cells? 0 (a.add (i*P.cellsOf e)) (P.cellsOf e)=some cs':=fun i=>by
    by_cases hi:i<len
    . obtain⟨cs',K,G⟩:=C i (by omega);obtain⟨a',A⟩:=B H enc w k cs' _ G;exact⟨some a',fun _=>⟨cs',a',rfl,A,K⟩⟩
    . exact⟨none,fun h=>absurd h hi⟩
   by_cases c:len=0
   . subst c;exact⟨[],.slice (some a) 0 cap,rfl,some a,cap,rfl,Abe _,hm,.inl rfl⟩
   have hlist:∃xs:List α,xs.length=len/\∀i (hi:i<xs.length),∃cs',E.R [] w cs' xs[i]/\w.cells? 0 (a.add (i*P.cellsOf e)) (P.cellsOf e)=some cs':=by
    have K:∀i (hi:i<len),∃a',∃cs',E.R [] w cs' a'/\w.cells? 0 (a.add (i*P.cellsOf e)) (P.cellsOf e)=some cs':=fun i hi=>by
     obtain⟨y,hy⟩:=hx i;obtain⟨cs',a',_,G,M⟩:=hy hi;exact⟨a',cs',G,M⟩
    refine⟨List.ofFn fun i:Fin len=>(K i.1 i.2).choose,by simp,fun i hi=>?_⟩;have Y:i<len:=by simpa using hi
    simpa using (K i Y).choose_spec
   obtain⟨xs,O,V⟩:=hlist;have X:=E.pos;have hspot:∃b o,a=⟨b,o,none⟩:=by
    obtain⟨cs',F,J⟩:=V 0 (by omega);obtain⟨_,U,hcell⟩:=World.cells?_some J;have S:=E.len F;have I:=hcell 0 (by omega);rw[Nat.zero_mul]at I;have A:(a.add 0).add 0=a:=by simp[Addr.add]
    rw[A,AbI (by omega)]at I;obtain⟨b,o,s⟩:=a;have N:s=none:=World.cell?_spot I;exact⟨b,o,by rw[N]⟩
   obtain⟨b,o,rfl⟩:=hspot;have Q:b<w.heap.size:=by
    obtain⟨cs',F,J⟩:=V 0 (by omega);obtain⟨_,U,hcell⟩:=World.cells?_some J;have S:=E.len F;have I:=hcell 0 (by omega);rw[AbI (by omega)]at I;have:=AGo I;simpa[add_none] using this
   refine⟨xs,.slice (some ⟨b,o,none⟩) len cap,rfl,some ⟨b,o,none⟩,cap,by rw[O],by omega,hm,.inr ⟨b,o,rfl,by simp,Q,fun i hi=>?_⟩⟩;obtain⟨cs',F,J⟩:=V i hi;obtain⟨_,U,hcell⟩:=World.cells?_some J;refine⟨cs',F,fun j u Z=>?_⟩;have T:j<P.cellsOf e:=by
    rcases AbR j cs'.length with h|h
    . omega
    . simp[List.getElem?_eq_none h]at Z
   have:=hcell j T;rw[add_none,add_none,Z,L]at this;exact this
def AGs(P:Program)(N:Nat)(fs:List Field){α:Type}(E:Enc α):Prop:=
 ∀(H:Type) (enc:TypeId×Value->H) (w:World) (cs:List Value),cs.length=N ->
  (∀f∈fs,∃(n:Nat) (x:DataW H×List MemPlace),DataW.trod enc P w 0 (fun _=>true) true n f.type ((cs.drop f.offset).take (P.cellsOf f.type))=some x) ->
  ∃a,E.R [] w (cs.drop ((fs.head?.map (·.offset)).getD 0)) a
theorem AC7(B:H7 P f.type E)(hN:f.offset+P.cellsOf f.type=N):AGs P N [f] E:=fun H enc w cs hl h=>by
 obtain⟨n,x,hx⟩:=h f (by simp);have:(cs.drop f.offset).take (P.cellsOf f.type)=cs.drop f.offset:=Abv (by rw[Acq];omega);rw[this]at hx;exact B H enc w n _ x hx
theorem F6{f g:Field}{r:List Field}{F:Enc β}(B:H7 P f.type E)(hN:f.offset+P.cellsOf f.type=g.offset)(R:AGs P N (g::r) F):AGs P N (f::g::r) (B2 E F):=
 fun H enc w cs hl h=>by
  obtain⟨n,x,hx⟩:=h f (by simp);obtain⟨a,U⟩:=B H enc w n _ x hx;obtain⟨b,J⟩:=R H enc w cs hl fun f' I=>h f' (AbC _ I);refine⟨(a,b),(cs.drop f.offset).take (P.cellsOf f.type),cs.drop g.offset,?_,U,J⟩;show cs.drop f.offset=_;rw[<-hN,<-AdA,Aco]
theorem U3{r:List Field}(U:P.underlying t=some (.struct (f::r).toArray))(D:f.offset=0)(F:AGs P (P.cellsOf t) (f::r) E):H7 P t E:=fun H enc w n cs x h=>by
 obtain⟨xs,m,_,_,hl,I,W⟩:=DataW.trod_struct U h;obtain⟨a,C⟩:=F H enc w cs hl fun g V=>by
  obtain⟨i,hi,rfl⟩:=AcJ V;have J:i<xs.length:=by rw[I];simpa using hi
  have:=W i (f::r)[i] (by simp[List.getElem?_eq_getElem hi]);rw[AbI J]at this;exact⟨m,_,this⟩
 exact⟨a,by simpa[D] using C⟩
theorem ABy(B:H7 P t E){H:Type}{enc:TypeId×Value->H}{w:World}{v:Value}{d:DataW H}{p:List MemPlace}(h:DataW.Trod enc P w 0 (fun _=>true) true t v d p):∃a,E.R [] w v.cells.toList a:=by
 obtain⟨n,I⟩:=h;exact B H enc w n _ _ I
end Go.Sx
namespace Go.Proofs
open Go.Shelf
def AHk:Go.Shelf.Ren:=⟨fun|4=>120|n=>n,fun|22=>24|25=>45|3=>3|4=>4|9=>9|20=>20|0=>0|n=>n,fun|n=>n⟩
theorem AF7:Go.Proofs.Lays8.n4 prog AHk:={
 mixed:=by kernel_rfl
 f4:=⟨f120.name,by decide,func120.trans (AbJ some (by kernel_rfl))⟩
 t0:=underlying0
 a0:=isAgg0
 z0:=sizeOf0
 v0:=zeroValue0
 t3:=underlying3
 a3:=isAgg3
 z3:=sizeOf3
 v3:=zeroValue3
 t4:=underlying4
 a4:=isAgg4
 z4:=sizeOf4
 v4:=zeroValue4
 t9:=underlying9
 a9:=isAgg9
 z9:=sizeOf9
 v9:=zeroValue9
 t20:=underlying20
 a20:=isAgg20
 z20:=sizeOf20
 v20:=zeroValue20
 t22:=underlying24
 a22:=isAgg24
 z22:=sizeOf24
 v22:=zeroValue24 }
end Go.Proofs
namespace Go.Sx
open Go Go.RowKit
abbrev vi(x:Int):Value:=.int .i64 x
abbrev vu(x:Int):Value:=.int .u8 x
abbrev vp(b n:Nat):Value:=.pointer (some ⟨b,n,none⟩)
section
variable[Trk]
theorem sb1{t0:Nat}{v0:Value}{L:A8}(H:A6 L t0=some v0):Sub [(t0,v0)] L:=Sub.cons H (Sub.nil _)
theorem sb2{t0 t1:Nat}{v0 v1:Value}{L:A8}(I:A6 L t0=some v0)(H:A6 L t1=some v1):Sub [(t0,v0),(t1,v1)] L:=Sub.cons I (Sub.cons H (Sub.nil _))
theorem on27{v0 v1 v2 v3 v4 v5 v6 v7 v8 v9 v10 v11 v12 v13 v14 v15 v16 v17 v18 v19 v20 v21 v22 v23 v24 v25 v26:Value}(a:v0.oneCell'=true)(M:v1.oneCell'=true)(L:v2.oneCell'=true)(S:v3.oneCell'=true)(P:v4.oneCell'=true)(N:v5.oneCell'=true)(R:v6.oneCell'=true)(Z:v7.oneCell'=true)(X:v8.oneCell'=true)(G:v9.oneCell'=true)(B:v10.oneCell'=true)(A:v11.oneCell'=true)(Y:v12.oneCell'=true)(T:v13.oneCell'=true)(Q:v14.oneCell'=true)(O:v15.oneCell'=true)(K:v16.oneCell'=true)(F:v17.oneCell'=true)(E:v18.oneCell'=true)(D:v19.oneCell'=true)(C:v20.oneCell'=true)(W:v21.oneCell'=true)(V:v22.oneCell'=true)(U:v23.oneCell'=true)(J:v24.oneCell'=true)(I:v25.oneCell'=true)(H:v26.oneCell'=true):∀u∈[v0,v1,v2,v3,v4,v5,v6,v7,v8,v9,v10,v11,v12,v13,v14,v15,v16,v17,v18,v19,v20,v21,v22,v23,v24,v25,v26],u.oneCell'=true:=one1 a (one1 M (one1 L (one1 S (one1 P (one1 N (one1 R (one1 Z (one1 X (one1 G (one1 B (one1 A (one1 Y (one1 T (one1 Q (one1 O (one1 K (one1 F (one1 E (one1 D (one1 C (one1 W (one1 V (one1 U (one1 J (one1 I (one1 H (one0)))))))))))))))))))))))))))
def pick:List Nat->A8->Option A8
 |[],_=>some []
 |k::ks,L=>match A6 L k,pick ks L with
  |some v,some r=>some ((k,v)::r)
  |_,_=>none
theorem ALZ:∀{ks:List Nat} {L L':A8},pick ks L'=some L->Sub L L'
 |[],_,_,h=>by cases h;exact Sub.nil _
 |k::ks,L,L',h=>by
  unfold pick at h;split at h
  . rename_i v r I H;cases h
    exact Sub.cons I (ALZ H)
  . cases h
theorem Q4{P:Program}{N:Nat}{ds:List Deferred}{L L':A8}{w:World}{A B:A5}{X:Nat->A5}{Z:List PanicEntry->A5}{c:Code}(ks:List Nat)(H:pick ks L'=some L)(h:CW P N c ds L w A B X Z):CW P N c ds L' w A B X Z:=ADF (ALZ H) h
end
end Go.Sx
end
